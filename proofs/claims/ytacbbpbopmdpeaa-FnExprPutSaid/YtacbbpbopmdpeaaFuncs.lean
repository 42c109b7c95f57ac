/- slices.ContainsFunc over whole numbers, with readMem's own function. -/
import Derived.Test.YtacbbpbopmdpeaaMemory
namespace Go.Proofs.Ytacbbpbopmdpeaa.B
open Go.RowKit Go.Proofs.YtacbbpbopmdpeaaW.PrintWords Go.Proofs.YtacbbpbopmdpeaaW.PrintLast Go.Proofs.YtacbbpbopmdpeaaW.PrintMore
set_option linter.unusedVariables false
set_option maxRecDepth 100000 in
theorem notNum_any (n : Int) (w : World) : Calls Try.prog 36 #[.int .i64 n] w fun e w' => e = .returned (.bool (!isNumL n)) ∧ Below w.heap.size w w' := by
 have HB := Aside0.mk (Below.refl w.heap.size w)
 go_enter Try.func36, Try.ntmps36
 go_wp2_with fail
 refine (isNum_any _ _).mono ?_
 rintro e w1 ⟨rfl, n1, rfl⟩
 go_wp2
 go_ret
 exact ⟨rfl, by repeat (first | (with_reducible first | exact HB.out | apply below_alloc | apply pw_below_drewN | apply below_drew1) | exact HB.out)⟩

theorem int_at {w : World} {A : Option Addr} {l : List Int} (h : Kd.C (Kd.int .i64) w A l.length l) (j : Nat) (hj : j < l.length) : ∃ ad, A = some ad ∧ w.cell? (ad.add j) = some (.int .i64 l[j]) := by
 obtain ⟨ad, cs, e, hg, hK, hc⟩ := Kd.C_get h 0 (j : Int) (by omega) (by omega)
 have hcs : cs = [.int .i64 (l.getD (j : Int).toNat 0)] := by
  first | exact hK | (obtain ⟨n, rfl⟩ := hK; rfl) | (obtain rfl := hK; rfl)
 refine ⟨ad, e, ?_⟩
 have := hc 0 _ (by rw [hcs]; rfl)
 simpa [hj, show (Kd.int .i64).sz = 1 from rfl] using this
def Pr (f : Nat) (p : Int → Bool) : Prop := ∀ (n : Int) (w : World), Calls Try.prog f #[.int .i64 n] w fun e w' => e = .returned (.bool (p n)) ∧ Below w.heap.size w w'
set_option maxRecDepth 100000 in
set_option maxHeartbeats 2000000 in
theorem indexFunc_any (f : Nat) (p : Int → Bool) (hf : Pr f p) (he : ∀ args w, (callFunc f args).run Try.prog w = .ok (.enter f args) w) (l : List Int) (A : Option Addr) (c : Nat) (w : World) (hC : Kd.C (Kd.int .i64) w A l.length l) (hc : l.length ≤ c) :
  Calls Try.prog 51 #[.slice A l.length c, .func (.func f) #[] #[]] w fun e w' => (∃ r : Int, decide (0 ≤ r) = l.any p ∧ e = .returned (.int .i64 r)) ∧ Below w.heap.size w w' := by
 have hmax : l.length ≤ 9223372036854775807 := hC.2.1
 go_enter Try.func51, Try.ntmps51
 go_wp2
 go_loopw [5, 8] (fun _ i wr => ∃ (j : Nat), i = .int .i64 j ∧ Aside0 (j ≤ l.length ∧ (l.take j).any p = false ∧ Below w.heap.size w wr)) (fun _ i _ => l.length - (intOf i).toNat)
 case atStart => exact ⟨0, rfl, ⟨Nat.zero_le _, by simp, Below.refl _ _⟩⟩
 case round =>
  obtain ⟨j, rfl, HR⟩ := hrel
  by_cases hj : j < l.length
  ·obtain ⟨ad, hA, e0⟩ := int_at hC j hj
   cases hA
   have hb := HR.out.2.2
   replace e0 := (hb.cell (World.block_lt_of_cell? w _ e0)).trans e0
   obtain ⟨x, hx⟩ : ∃ x, x = l[j] := ⟨_, rfl⟩
   rw [← hx] at e0
   have HX := Aside0.mk (And.intro hx hmax)
   have HJ := Aside0.mk hj
   have HC := Aside0.mk (hf x wr)
   clear hb hx hf
   go_wp2_with fail
   refine HC.out.mono ?_
   clear HC
   rintro e w1 ⟨rfl, hb1⟩
   have HB := Aside0.mk (HR.out.2.2.trans (hb1.mono HR.out.2.2.size))
   clear hb1
   cases hp : p x with
   | true =>
    have HP := Aside0.mk hp; clear hp
    go_wp2
    go_ret
    refine ⟨⟨j, ?_, rfl⟩, HB.out⟩
    have : l.any p = true := List.any_eq_true.2 ⟨l[j], List.getElem_mem HJ.out, by rw [← HX.out.1]; exact HP.out⟩
    rw [this]; simp
   | false =>
    have HP := Aside0.mk hp; clear hp
    go_wp2
    go_roundw
    case rel => exact ⟨j + 1, by go_num, ⟨HJ.out, by rw [List.take_succ_eq_append_getElem HJ.out, List.any_append, HR.out.2.1]; simp [← HX.out.1, HP.out], HB.out⟩⟩
    case measure => have := HJ.out; simp [intOf]; omega
  ·have hjl : j = l.length := by have := HR.out.1; omega
   have hn := HR.out.2.1
   rw [hjl, List.take_of_length_le (Nat.le_refl _)] at hn
   have HN := Aside0.mk hn; clear hn hjl
   go_wp2
   go_ret
   exact ⟨⟨-1, by rw [HN.out]; rfl, rfl⟩, HR.out.2.2⟩
set_option maxRecDepth 100000 in
theorem containsFunc_any (f : Nat) (p : Int → Bool) (hf : Pr f p) (he : ∀ args w, (callFunc f args).run Try.prog w = .ok (.enter f args) w) (l : List Int) (A : Option Addr) (c : Nat) (w : World) (hC : Kd.C (Kd.int .i64) w A l.length l) (hc : l.length ≤ c) :
  Calls Try.prog 35 #[.slice A l.length c, .func (.func f) #[] #[]] w fun e w' => e = .returned (.bool (l.any p)) ∧ Below w.heap.size w w' := by
 have HC := Aside0.mk (indexFunc_any f p hf he l A c w hC hc)
 clear hC hc hf
 go_enter Try.func35, Try.ntmps35
 go_wp2_with fail
 refine HC.out.mono ?_
 clear HC
 rintro e w1 ⟨⟨r, hr, rfl⟩, hb1⟩
 have HB := Aside0.mk (And.intro hr hb1)
 clear hr hb1
 go_wp2
 go_ret
 exact ⟨by rw [← HB.out.1]; rfl, HB.out.2⟩
end Go.Proofs.Ytacbbpbopmdpeaa.B
