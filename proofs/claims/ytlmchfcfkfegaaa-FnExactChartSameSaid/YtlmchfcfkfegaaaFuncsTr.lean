/- slices.EqualFunc over rows of impl.Trans, at any function value. -/
import Derived.Test.YtlmchfcfkfegaaaB0
import Derived.Outline
import Derived.Shelf.Abstract
namespace Go.Proofs.Ytlmchfcfkfegaaa.B
open Go.RowKit Go.Shelf Go.Proofs.YtlmchfcfkfegaaaW.PrintWords Go.Proofs.YtlmchfcfkfegaaaW.PrintLast Go.Proofs.YtlmchfcfkfegaaaW.PrintMore
set_option linter.unusedVariables false



/-- What a function value says of two elements, in every world behind w0. -/
def PqTr (f : Nat) (cap : Array Value) (p : S52 → S52 → Bool) (w0 : World) (l m : List S52) : Prop := ∀ (x y : S52) (A0 : Option Addr) (c0 : Nat) (A1 : Option Addr) (c1 : Nat) (A6 : Option Addr) (c6 : Nat) (B0 : Option Addr) (d0 : Nat) (B1 : Option Addr) (d1 : Nat) (B6 : Option Addr) (d6 : Nat) (w : World), x ∈ l → y ∈ m → Below w0.heap.size w0 w → Kd.C (Kd.int .i64) w A0 x.f0.length x.f0 → x.f0.length ≤ c0 → Kd.C (Kd.int .i64) w A1 x.f1.length x.f1 → x.f1.length ≤ c1 → Kd.C k50 w A6 x.f2.f3.length x.f2.f3 → x.f2.f3.length ≤ c6 → Kd.C (Kd.int .i64) w B0 y.f0.length y.f0 → y.f0.length ≤ d0 → Kd.C (Kd.int .i64) w B1 y.f1.length y.f1 → y.f1.length ≤ d1 → Kd.C k50 w B6 y.f2.f3.length y.f2.f3 → y.f2.f3.length ≤ d6 → Calls Try.prog f (#[.agg #[.slice A0 x.f0.length c0, .slice A1 x.f1.length c1, .int .i64 x.f2.f0, .int .i64 x.f2.f1, .int .i64 x.f2.f2.f0, .int .i64 x.f2.f2.f1, .slice A6 x.f2.f3.length c6], .agg #[.slice B0 y.f0.length d0, .slice B1 y.f1.length d1, .int .i64 y.f2.f0, .int .i64 y.f2.f1, .int .i64 y.f2.f2.f0, .int .i64 y.f2.f2.f1, .slice B6 y.f2.f3.length d6]] ++ cap) w fun e w' => e = .returned (.bool (p x y)) ∧ Below w.heap.size w w'
def eqLTr (p : S52 → S52 → Bool) (l m : List S52) : Bool := l.length == m.length && (l.zip m).all fun x => p x.1 x.2
set_option maxRecDepth 100000 in
set_option maxHeartbeats 4000000 in
theorem equalFuncTr_any (f : Nat) (cap : Array Value) (p : S52 → S52 → Bool) (he : ∀ args w, (callFunc f args).run Try.prog w = .ok (.enter f args) w) (l m : List S52) (A B : Option Addr) (c d : Nat) (w : World) (hf : PqTr f cap p w l m) (hC : Kd.C k52 w A l.length l) (hD : Kd.C k52 w B m.length m) (hc : l.length ≤ c) (hd : m.length ≤ d) :
  Calls Try.prog 40 #[.slice A l.length c, .slice B m.length d, .func (.func f) #[] cap] w fun e w' => e = .returned (.bool (eqLTr p l m)) ∧ Below w.heap.size w w' := by
 have hmax : l.length ≤ 9223372036854775807 := hC.2.1
 have hmax2 : m.length ≤ 9223372036854775807 := hD.2.1
 have HFC := Aside0.mk (And.intro hf (And.intro hC hD))
 clear hf hC hD
 by_cases hlm : l.length = m.length
 rotate_left
 ·have b1 : ((l.length : Int) != (m.length : Int)) = true := by rw [bne_iff_ne]; omega
  have HN := Aside0.mk hlm; clear hlm
  go_enter Try.func40, Try.ntmps40
  go_wp2
  go_ret
  exact ⟨by rw [eqLTr, show (l.length == m.length) = false from beq_false_of_ne HN.out]; rfl, Below.refl _ _⟩
 have b1 : ((l.length : Int) != (m.length : Int)) = false := by rw [hlm]; simp
 have HLM := Aside0.mk hlm; clear hlm
 go_enter Try.func40, Try.ntmps40
 go_wp2
 go_loopw [7, 8, 9, 17] (fun _ _ _ i wr => ∃ (j : Nat), i = .int .i64 j ∧ Aside0 (j ≤ l.length ∧ ((l.take j).zip (m.take j)).all (fun x => p x.1 x.2) = true ∧ Below w.heap.size w wr)) (fun _ _ _ i _ => l.length - (intOf i).toNat)
 case atStart => exact ⟨0, rfl, ⟨Nat.zero_le _, by simp, Below.refl _ _⟩⟩
 case round =>
  obtain ⟨j, rfl, HR⟩ := hrel
  by_cases hj : j < l.length
  ·have hj2 : j < m.length := by have := HLM.out; omega
   obtain ⟨ad, A0, c0, A1, c1, A6, c6, hA, e0, e1, e2, e3, e4, e5, e6, hl0, hi0, hl1, hi1, hl6, hi6⟩ := at_T52 HFC.out.2.1 (j : Int) (by omega) (by omega)
   obtain ⟨bd, B0, d0, B1, d1, B6, d6, hB, g0, g1, g2, g3, g4, g5, g6, ml0, mi0, ml1, mi1, ml6, mi6⟩ := at_T52 HFC.out.2.2 (j : Int) (by omega) (by omega)
   cases hA
   cases hB
   have hkid : rd_T52 l (j : Int) = l[j] := by simp [rd_T52, hj]
   have hkid2 : rd_T52 m (j : Int) = m[j] := by simp [rd_T52, hj2]
   have hb := HR.out.2.2
   replace e0 := (hb.cell (World.block_lt_of_cell? w _ e0)).trans e0
   replace g0 := (hb.cell (World.block_lt_of_cell? w _ g0)).trans g0
   replace e1 := (hb.cell (World.block_lt_of_cell? w _ e1)).trans e1
   replace g1 := (hb.cell (World.block_lt_of_cell? w _ g1)).trans g1
   replace e2 := (hb.cell (World.block_lt_of_cell? w _ e2)).trans e2
   replace g2 := (hb.cell (World.block_lt_of_cell? w _ g2)).trans g2
   replace e3 := (hb.cell (World.block_lt_of_cell? w _ e3)).trans e3
   replace g3 := (hb.cell (World.block_lt_of_cell? w _ g3)).trans g3
   replace e4 := (hb.cell (World.block_lt_of_cell? w _ e4)).trans e4
   replace g4 := (hb.cell (World.block_lt_of_cell? w _ g4)).trans g4
   replace e5 := (hb.cell (World.block_lt_of_cell? w _ e5)).trans e5
   replace g5 := (hb.cell (World.block_lt_of_cell? w _ g5)).trans g5
   replace e6 := (hb.cell (World.block_lt_of_cell? w _ e6)).trans e6
   replace g6 := (hb.cell (World.block_lt_of_cell? w _ g6)).trans g6
   rw [hkid] at e0 e1 e2 e3 e4 e5 e6 hl0 hi0 hl1 hi1 hl6 hi6
   rw [hkid2] at g0 g1 g2 g3 g4 g5 g6 ml0 mi0 ml1 mi1 ml6 mi6
   simp only [Int.toNat_natCast] at e0 e1 e2 e3 e4 e5 e6 g0 g1 g2 g3 g4 g5 g6
   obtain ⟨x, hx⟩ : ∃ x, x = l[j] := ⟨_, rfl⟩
   obtain ⟨y, hy⟩ : ∃ y, y = m[j] := ⟨_, rfl⟩
   rw [← hx] at e0 e1 e2 e3 e4 e5 e6 hl0 hi0 hl1 hi1 hl6 hi6
   rw [← hy] at g0 g1 g2 g3 g4 g5 g6 ml0 mi0 ml1 mi1 ml6 mi6
   have HC := Aside0.mk (fun (W : World) (hW : Below wr.heap.size wr W) => HFC.out.1 x y A0 c0 A1 c1 A6 c6 B0 d0 B1 d1 B6 d6 W (by rw [hx]; exact List.getElem_mem hj) (by rw [hy]; exact List.getElem_mem hj2) (hb.trans (hW.mono hb.size)) (Kd.C_below (Kd.C_below hi0 hb) hW) hl0 (Kd.C_below (Kd.C_below hi1 hb) hW) hl1 (Kd.C_below (Kd.C_below hi6 hb) hW) hl6 (Kd.C_below (Kd.C_below mi0 hb) hW) ml0 (Kd.C_below (Kd.C_below mi1 hb) hW) ml1 (Kd.C_below (Kd.C_below mi6 hb) hW) ml6)
   have HX := Aside0.mk (And.intro hx (And.intro hy (And.intro hmax hmax2)))
   have HJ := Aside0.mk (And.intro hj hj2)
   clear hb hx hy hkid hkid2 hl0 hi0 hl1 hi1 hl6 hi6 ml0 mi0 ml1 mi1 ml6 mi6
   go_upto_region 6 with (fail)
   have j1 := heap_alloc_new wr (.cells #[.slice A0 x.f0.length c0, .slice A1 x.f1.length c1, .int .i64 x.f2.f0, .int .i64 x.f2.f1, .int .i64 x.f2.f2.f0, .int .i64 x.f2.f2.f1, .slice A6 x.f2.f3.length c6] 52)
   have hb1 : Below wr.heap.size wr (wr.alloc (.cells #[.slice A0 x.f0.length c0, .slice A1 x.f1.length c1, .int .i64 x.f2.f0, .int .i64 x.f2.f1, .int .i64 x.f2.f2.f0, .int .i64 x.f2.f2.f1, .slice A6 x.f2.f3.length c6] 52)) := (Below.refl _ _).alloc (Nat.le_refl _) _
   generalize wr.alloc (.cells #[.slice A0 x.f0.length c0, .slice A1 x.f1.length c1, .int .i64 x.f2.f0, .int .i64 x.f2.f1, .int .i64 x.f2.f2.f0, .int .i64 x.f2.f2.f1, .slice A6 x.f2.f3.length c6] 52) = W1 at j1 hb1 ⊢
   replace g0 := (hb1.cell (World.block_lt_of_cell? wr _ g0)).trans g0
   replace g1 := (hb1.cell (World.block_lt_of_cell? wr _ g1)).trans g1
   replace g2 := (hb1.cell (World.block_lt_of_cell? wr _ g2)).trans g2
   replace g3 := (hb1.cell (World.block_lt_of_cell? wr _ g3)).trans g3
   replace g4 := (hb1.cell (World.block_lt_of_cell? wr _ g4)).trans g4
   replace g5 := (hb1.cell (World.block_lt_of_cell? wr _ g5)).trans g5
   replace g6 := (hb1.cell (World.block_lt_of_cell? wr _ g6)).trans g6
   clear e0 e1 e2 e3 e4 e5 e6
   go_upto_region 7 with (fail)
   have j2 := heap_alloc_new W1 (.cells #[.slice B0 y.f0.length d0, .slice B1 y.f1.length d1, .int .i64 y.f2.f0, .int .i64 y.f2.f1, .int .i64 y.f2.f2.f0, .int .i64 y.f2.f2.f1, .slice B6 y.f2.f3.length d6] 52)
   have hb2 : Below W1.heap.size W1 (W1.alloc (.cells #[.slice B0 y.f0.length d0, .slice B1 y.f1.length d1, .int .i64 y.f2.f0, .int .i64 y.f2.f1, .int .i64 y.f2.f2.f0, .int .i64 y.f2.f2.f1, .slice B6 y.f2.f3.length d6] 52)) := (Below.refl _ _).alloc (Nat.le_refl _) _
   generalize W1.alloc (.cells #[.slice B0 y.f0.length d0, .slice B1 y.f1.length d1, .int .i64 y.f2.f0, .int .i64 y.f2.f1, .int .i64 y.f2.f2.f0, .int .i64 y.f2.f2.f1, .slice B6 y.f2.f3.length d6] 52) = W2 at j2 hb2 ⊢
   replace j1 := (hb2.block _ (blk_lt j1)).trans j1
   clear g0 g1 g2 g3 g4 g5 g6
   have e0 : W2.cell? ⟨wr.heap.size, 0, none⟩ = some (.slice A0 x.f0.length c0) := by rw [blk_cell j1]; rfl
   have g0 : W2.cell? ⟨W1.heap.size, 0, none⟩ = some (.slice B0 y.f0.length d0) := by rw [blk_cell j2]; rfl
   have e1 : W2.cell? ⟨wr.heap.size, 1, none⟩ = some (.slice A1 x.f1.length c1) := by rw [blk_cell j1]; rfl
   have g1 : W2.cell? ⟨W1.heap.size, 1, none⟩ = some (.slice B1 y.f1.length d1) := by rw [blk_cell j2]; rfl
   have e2 : W2.cell? ⟨wr.heap.size, 2, none⟩ = some (.int .i64 x.f2.f0) := by rw [blk_cell j1]; rfl
   have g2 : W2.cell? ⟨W1.heap.size, 2, none⟩ = some (.int .i64 y.f2.f0) := by rw [blk_cell j2]; rfl
   have e3 : W2.cell? ⟨wr.heap.size, 3, none⟩ = some (.int .i64 x.f2.f1) := by rw [blk_cell j1]; rfl
   have g3 : W2.cell? ⟨W1.heap.size, 3, none⟩ = some (.int .i64 y.f2.f1) := by rw [blk_cell j2]; rfl
   have e4 : W2.cell? ⟨wr.heap.size, 4, none⟩ = some (.int .i64 x.f2.f2.f0) := by rw [blk_cell j1]; rfl
   have g4 : W2.cell? ⟨W1.heap.size, 4, none⟩ = some (.int .i64 y.f2.f2.f0) := by rw [blk_cell j2]; rfl
   have e5 : W2.cell? ⟨wr.heap.size, 5, none⟩ = some (.int .i64 x.f2.f2.f1) := by rw [blk_cell j1]; rfl
   have g5 : W2.cell? ⟨W1.heap.size, 5, none⟩ = some (.int .i64 y.f2.f2.f1) := by rw [blk_cell j2]; rfl
   have e6 : W2.cell? ⟨wr.heap.size, 6, none⟩ = some (.slice A6 x.f2.f3.length c6) := by rw [blk_cell j1]; rfl
   have g6 : W2.cell? ⟨W1.heap.size, 6, none⟩ = some (.slice B6 y.f2.f3.length d6) := by rw [blk_cell j2]; rfl
   have hbb : Below wr.heap.size wr W2 := hb1.trans (hb2.mono hb1.size)
   have HCC := Aside0.mk (HC.out W2 hbb)
   have HBB := Aside0.mk hbb
   clear j1 j2 hb1 hb2 hbb HC
   go_wp2_with fail
   refine HCC.out.mono ?_
   clear HCC e0 e1 e2 e3 e4 e5 e6 g0 g1 g2 g3 g4 g5 g6
   rintro e w1 ⟨rfl, hb1⟩
   have HB := Aside0.mk (HR.out.2.2.trans ((HBB.out.trans (hb1.mono HBB.out.size)).mono HR.out.2.2.size))
   clear hb1
   cases hp : p x y with
   | false =>
    have HP := Aside0.mk hp; clear hp
    go_wp2
    go_ret
    refine ⟨?_, HB.out⟩
    have : ((l.zip m).all fun x => p x.1 x.2) = false := by
     rw [List.all_eq_false]
     refine ⟨(l[j]'HJ.out.1, m[j]'HJ.out.2), ?_, by simp [← HX.out.1, ← HX.out.2.1, HP.out]⟩
     rw [← List.getElem_zip (h := by simp; have := HJ.out; omega)]
     exact List.getElem_mem _
    rw [eqLTr, this, Bool.and_false]; rfl
   | true =>
    have HP := Aside0.mk hp; clear hp
    go_wp2
    go_roundw
    case rel => exact ⟨j + 1, by go_num, ⟨HJ.out.1, by rw [List.take_succ_eq_append_getElem HJ.out.1, List.take_succ_eq_append_getElem HJ.out.2, List.zip_append (by simp; have := HJ.out; omega), List.all_append, HR.out.2.1]; simp [← HX.out.1, ← HX.out.2.1, HP.out], HB.out⟩⟩
    case measure => have := HJ.out; simp [intOf]; omega
  ·have hjl : j = l.length := by have := HR.out.1; omega
   have hn := HR.out.2.1
   rw [hjl, List.take_of_length_le (Nat.le_refl _), List.take_of_length_le (by have := HLM.out; omega)] at hn
   have HN := Aside0.mk hn; clear hn hjl
   go_wp2
   go_ret
   exact ⟨by rw [eqLTr, HN.out, HLM.out, beq_self_eq_true]; rfl, HR.out.2.2⟩
end Go.Proofs.Ytlmchfcfkfegaaa.B
