/- slices.EqualFunc over rows of impl.Expr, at any function value. -/
import Derived.Test.YtlmchfcfkfegaaaB0
import Derived.Outline
import Derived.Shelf.Abstract
namespace Go.Proofs.Ytlmchfcfkfegaaa.B
open Go.RowKit Go.Shelf Go.Proofs.YtlmchfcfkfegaaaW.PrintWords Go.Proofs.YtlmchfcfkfegaaaW.PrintLast Go.Proofs.YtlmchfcfkfegaaaW.PrintMore
set_option linter.unusedVariables false



/-- What a function value says of two elements, in every world behind w0. -/
def PqEx (f : Nat) (cap : Array Value) (p : S50 → S50 → Bool) (w0 : World) (l m : List S50) : Prop := ∀ (x y : S50) (A4 : Option Addr) (c4 : Nat) (B4 : Option Addr) (d4 : Nat) (w : World), x ∈ l → y ∈ m → Below w0.heap.size w0 w → Kd.C k50 w A4 x.f3.length x.f3 → x.f3.length ≤ c4 → Kd.C k50 w B4 y.f3.length y.f3 → y.f3.length ≤ d4 → Calls Try.prog f (#[.agg #[.int .i64 x.f0, .int .i64 x.f1, .int .i64 x.f2.f0, .int .i64 x.f2.f1, .slice A4 x.f3.length c4], .agg #[.int .i64 y.f0, .int .i64 y.f1, .int .i64 y.f2.f0, .int .i64 y.f2.f1, .slice B4 y.f3.length d4]] ++ cap) w fun e w' => e = .returned (.bool (p x y)) ∧ Below w.heap.size w w'
def eqLEx (p : S50 → S50 → Bool) (l m : List S50) : Bool := l.length == m.length && (l.zip m).all fun x => p x.1 x.2
set_option maxRecDepth 100000 in
set_option maxHeartbeats 4000000 in
theorem equalFuncEx_any (f : Nat) (cap : Array Value) (p : S50 → S50 → Bool) (he : ∀ args w, (callFunc f args).run Try.prog w = .ok (.enter f args) w) (l m : List S50) (A B : Option Addr) (c d : Nat) (w : World) (hf : PqEx f cap p w l m) (hC : Kd.C k50 w A l.length l) (hD : Kd.C k50 w B m.length m) (hc : l.length ≤ c) (hd : m.length ≤ d) :
  Calls Try.prog 89 #[.slice A l.length c, .slice B m.length d, .func (.func f) #[] cap] w fun e w' => e = .returned (.bool (eqLEx p l m)) ∧ Below w.heap.size w w' := by
 have hmax : l.length ≤ 9223372036854775807 := hC.2.1
 have hmax2 : m.length ≤ 9223372036854775807 := hD.2.1
 have HFC := Aside0.mk (And.intro hf (And.intro hC hD))
 clear hf hC hD
 by_cases hlm : l.length = m.length
 rotate_left
 ·have b1 : ((l.length : Int) != (m.length : Int)) = true := by rw [bne_iff_ne]; omega
  have HN := Aside0.mk hlm; clear hlm
  go_enter Try.func89, Try.ntmps89
  go_wp2
  go_ret
  exact ⟨by rw [eqLEx, show (l.length == m.length) = false from beq_false_of_ne HN.out]; rfl, Below.refl _ _⟩
 have b1 : ((l.length : Int) != (m.length : Int)) = false := by rw [hlm]; simp
 have HLM := Aside0.mk hlm; clear hlm
 go_enter Try.func89, Try.ntmps89
 go_wp2
 go_loopw [7, 8, 9, 17] (fun _ _ _ i wr => ∃ (j : Nat), i = .int .i64 j ∧ Aside0 (j ≤ l.length ∧ ((l.take j).zip (m.take j)).all (fun x => p x.1 x.2) = true ∧ Below w.heap.size w wr)) (fun _ _ _ i _ => l.length - (intOf i).toNat)
 case atStart => exact ⟨0, rfl, ⟨Nat.zero_le _, by simp, Below.refl _ _⟩⟩
 case round =>
  obtain ⟨j, rfl, HR⟩ := hrel
  by_cases hj : j < l.length
  ·have hj2 : j < m.length := by have := HLM.out; omega
   obtain ⟨ad, A4, c4, hA, e0, e1, e2, e3, e4, hl4, hi4⟩ := at_T50 HFC.out.2.1 (j : Int) (by omega) (by omega)
   obtain ⟨bd, B4, d4, hB, g0, g1, g2, g3, g4, ml4, mi4⟩ := at_T50 HFC.out.2.2 (j : Int) (by omega) (by omega)
   cases hA
   cases hB
   have hkid : rd_T50 l (j : Int) = l[j] := by simp [rd_T50, hj]
   have hkid2 : rd_T50 m (j : Int) = m[j] := by simp [rd_T50, hj2]
   have hb := HR.out.2.2
   replace e0 := (hb.cell (World.block_lt_of_cell? w _ e0)).trans e0
   replace g0 := (hb.cell (World.block_lt_of_cell? w _ g0)).trans g0
   replace e1 := (hb.cell (World.block_lt_of_cell? w _ e1)).trans e1
   replace g1 := (hb.cell (World.block_lt_of_cell? w _ g1)).trans g1
   replace e2 := (hb.cell (World.block_lt_of_cell? w _ e2)).trans e2
   replace g2 := (hb.cell (World.block_lt_of_cell? w _ g2)).trans g2
   replace e3 := (hb.cell (World.block_lt_of_cell? w _ e3)).trans e3
   replace g3 := (hb.cell (World.block_lt_of_cell? w _ g3)).trans g3
   replace e4 := (hb.cell (World.block_lt_of_cell? w _ e4)).trans e4
   replace g4 := (hb.cell (World.block_lt_of_cell? w _ g4)).trans g4
   rw [hkid] at e0 e1 e2 e3 e4 hl4 hi4
   rw [hkid2] at g0 g1 g2 g3 g4 ml4 mi4
   simp only [Int.toNat_natCast] at e0 e1 e2 e3 e4 g0 g1 g2 g3 g4
   obtain ⟨x, hx⟩ : ∃ x, x = l[j] := ⟨_, rfl⟩
   obtain ⟨y, hy⟩ : ∃ y, y = m[j] := ⟨_, rfl⟩
   rw [← hx] at e0 e1 e2 e3 e4 hl4 hi4
   rw [← hy] at g0 g1 g2 g3 g4 ml4 mi4
   have HC := Aside0.mk (fun (W : World) (hW : Below wr.heap.size wr W) => HFC.out.1 x y A4 c4 B4 d4 W (by rw [hx]; exact List.getElem_mem hj) (by rw [hy]; exact List.getElem_mem hj2) (hb.trans (hW.mono hb.size)) (Kd.C_below (Kd.C_below hi4 hb) hW) hl4 (Kd.C_below (Kd.C_below mi4 hb) hW) ml4)
   have HX := Aside0.mk (And.intro hx (And.intro hy (And.intro hmax hmax2)))
   have HJ := Aside0.mk (And.intro hj hj2)
   clear hb hx hy hkid hkid2 hl4 hi4 ml4 mi4
   go_upto_region 6 with (fail)
   have j1 := heap_alloc_new wr (.cells #[.int .i64 x.f0, .int .i64 x.f1, .int .i64 x.f2.f0, .int .i64 x.f2.f1, .slice A4 x.f3.length c4] 50)
   have hb1 : Below wr.heap.size wr (wr.alloc (.cells #[.int .i64 x.f0, .int .i64 x.f1, .int .i64 x.f2.f0, .int .i64 x.f2.f1, .slice A4 x.f3.length c4] 50)) := (Below.refl _ _).alloc (Nat.le_refl _) _
   generalize wr.alloc (.cells #[.int .i64 x.f0, .int .i64 x.f1, .int .i64 x.f2.f0, .int .i64 x.f2.f1, .slice A4 x.f3.length c4] 50) = W1 at j1 hb1 ⊢
   replace g0 := (hb1.cell (World.block_lt_of_cell? wr _ g0)).trans g0
   replace g1 := (hb1.cell (World.block_lt_of_cell? wr _ g1)).trans g1
   replace g2 := (hb1.cell (World.block_lt_of_cell? wr _ g2)).trans g2
   replace g3 := (hb1.cell (World.block_lt_of_cell? wr _ g3)).trans g3
   replace g4 := (hb1.cell (World.block_lt_of_cell? wr _ g4)).trans g4
   clear e0 e1 e2 e3 e4
   go_upto_region 7 with (fail)
   have j2 := heap_alloc_new W1 (.cells #[.int .i64 y.f0, .int .i64 y.f1, .int .i64 y.f2.f0, .int .i64 y.f2.f1, .slice B4 y.f3.length d4] 50)
   have hb2 : Below W1.heap.size W1 (W1.alloc (.cells #[.int .i64 y.f0, .int .i64 y.f1, .int .i64 y.f2.f0, .int .i64 y.f2.f1, .slice B4 y.f3.length d4] 50)) := (Below.refl _ _).alloc (Nat.le_refl _) _
   generalize W1.alloc (.cells #[.int .i64 y.f0, .int .i64 y.f1, .int .i64 y.f2.f0, .int .i64 y.f2.f1, .slice B4 y.f3.length d4] 50) = W2 at j2 hb2 ⊢
   replace j1 := (hb2.block _ (blk_lt j1)).trans j1
   clear g0 g1 g2 g3 g4
   have e0 : W2.cell? ⟨wr.heap.size, 0, none⟩ = some (.int .i64 x.f0) := by rw [blk_cell j1]; rfl
   have g0 : W2.cell? ⟨W1.heap.size, 0, none⟩ = some (.int .i64 y.f0) := by rw [blk_cell j2]; rfl
   have e1 : W2.cell? ⟨wr.heap.size, 1, none⟩ = some (.int .i64 x.f1) := by rw [blk_cell j1]; rfl
   have g1 : W2.cell? ⟨W1.heap.size, 1, none⟩ = some (.int .i64 y.f1) := by rw [blk_cell j2]; rfl
   have e2 : W2.cell? ⟨wr.heap.size, 2, none⟩ = some (.int .i64 x.f2.f0) := by rw [blk_cell j1]; rfl
   have g2 : W2.cell? ⟨W1.heap.size, 2, none⟩ = some (.int .i64 y.f2.f0) := by rw [blk_cell j2]; rfl
   have e3 : W2.cell? ⟨wr.heap.size, 3, none⟩ = some (.int .i64 x.f2.f1) := by rw [blk_cell j1]; rfl
   have g3 : W2.cell? ⟨W1.heap.size, 3, none⟩ = some (.int .i64 y.f2.f1) := by rw [blk_cell j2]; rfl
   have e4 : W2.cell? ⟨wr.heap.size, 4, none⟩ = some (.slice A4 x.f3.length c4) := by rw [blk_cell j1]; rfl
   have g4 : W2.cell? ⟨W1.heap.size, 4, none⟩ = some (.slice B4 y.f3.length d4) := by rw [blk_cell j2]; rfl
   have hbb : Below wr.heap.size wr W2 := hb1.trans (hb2.mono hb1.size)
   have HCC := Aside0.mk (HC.out W2 hbb)
   have HBB := Aside0.mk hbb
   clear j1 j2 hb1 hb2 hbb HC
   go_wp2_with fail
   refine HCC.out.mono ?_
   clear HCC e0 e1 e2 e3 e4 g0 g1 g2 g3 g4
   rintro e w1 ⟨rfl, hb1⟩
   have HB := Aside0.mk (HR.out.2.2.trans ((HBB.out.trans (hb1.mono HBB.out.size)).mono HR.out.2.2.size))
   clear hb1
   cases hp : p x y with
   | false =>
    have HP := Aside0.mk hp; clear hp
    go_wp2
    go_ret
    refine ⟨?_, HB.out⟩
    have : ((l.zip m).all fun x => p x.1 x.2) = false := by
     rw [List.all_eq_false]
     refine ⟨(l[j]'HJ.out.1, m[j]'HJ.out.2), ?_, by simp [← HX.out.1, ← HX.out.2.1, HP.out]⟩
     rw [← List.getElem_zip (h := by simp; have := HJ.out; omega)]
     exact List.getElem_mem _
    rw [eqLEx, this, Bool.and_false]; rfl
   | true =>
    have HP := Aside0.mk hp; clear hp
    go_wp2
    go_roundw
    case rel => exact ⟨j + 1, by go_num, ⟨HJ.out.1, by rw [List.take_succ_eq_append_getElem HJ.out.1, List.take_succ_eq_append_getElem HJ.out.2, List.zip_append (by simp; have := HJ.out; omega), List.all_append, HR.out.2.1]; simp [← HX.out.1, ← HX.out.2.1, HP.out], HB.out⟩⟩
    case measure => have := HJ.out; simp [intOf]; omega
  ·have hjl : j = l.length := by have := HR.out.1; omega
   have hn := HR.out.2.1
   rw [hjl, List.take_of_length_le (Nat.le_refl _), List.take_of_length_le (by have := HLM.out; omega)] at hn
   have HN := Aside0.mk hn; clear hn hjl
   go_wp2
   go_ret
   exact ⟨by rw [eqLEx, HN.out, HLM.out, beq_self_eq_true]; rfl, HR.out.2.2⟩
end Go.Proofs.Ytlmchfcfkfegaaa.B
