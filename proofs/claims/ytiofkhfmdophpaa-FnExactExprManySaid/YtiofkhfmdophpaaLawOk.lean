/- The law FnExactExprOk, over impl.ExprOk's contract. -/
import Derived.Test.YtiofkhfmdophpaaOkSpec
import Derived.Test.YtiofkhfmdophpaaEq
import Derived.Test.YtiofkhfmdophpaaOkCon
namespace Go.Proofs.Ytiofkhfmdophpaa.B
open Go.RowKit Go.Proofs.YtiofkhfmdophpaaW.PrintWords Go.Proofs.YtiofkhfmdophpaaW.PrintLast Go.Proofs.YtiofkhfmdophpaaW.PrintMore
set_option linter.unusedVariables false

theorem short_toE (x : LEx) : cnt x ≤ 1048576 → Short (toE x) := by
 induction x using LEx.ind with
 | h x ih =>
  intro h
  rw [cnt_eq, cntS] at h
  rw [toE_eq]
  refine .mk _ (by simp; omega) ?_
  intro y hy
  obtain ⟨z, hz, rfl⟩ := List.mem_map.1 hy
  have := le_sum_cnt x.f3 z hz
  exact ih z hz (by omega)
theorem eqExpr_toE (x : LEx) (A B : Option Addr) (w : World) (hC : Kd.C iexK w A x.f3.length (x.f3.map toE)) (hC' : Kd.C iexK w B x.f3.length (x.f3.map toE)) :
   Calls Try.prog 19 #[.agg #[.int .i64 x.f0, .int .i64 x.f1, .int .i64 x.f2.f0, .int .i64 x.f2.f1, .slice A x.f3.length x.f3.length], .agg #[.int .i64 x.f0, .int .i64 x.f1, .int .i64 x.f2.f0, .int .i64 x.f2.f1, .slice B x.f3.length x.f3.length]] w (TruePost w) := by
 have h := eqExpr_any (⟨x.f0, x.f1, ⟨x.f2.f0, x.f2.f1⟩, x.f3.map toE⟩ : IEx) A B x.f3.length x.f3.length w (by simpa using hC) (by simpa using hC') (by simp) (by simp)
 simp only [List.length_map] at h
 exact h
set_option maxRecDepth 100000 in
set_option maxHeartbeats 2000000 in
theorem fnExactExprOk_law (hok : OkCon) (x : LEx) (A : Option Addr) (c : Nat) (w : World) (hC : Kd.C lexK w A x.f3.length x.f3) (hc : x.f3.length ≤ c) :
  Calls Try.prog 3 #[.agg #[.int .i64 x.f0, .int .i64 x.f1, .int .i64 x.f2.f0, .int .i64 x.f2.f1, .slice A x.f3.length c]] w (TruePost w) := by
 have HX := Aside0.mk (And.intro hC hc)
 clear hC hc
 go_enter Try.func3, Try.ntmps3
 go_wp2_with fail
 have k0 := heap_alloc_new w (.cells #[.int .i64 x.f0, .int .i64 x.f1, .int .i64 x.f2.f0, .int .i64 x.f2.f1, .slice A x.f3.length c] 26)
 have hB0 : Below w.heap.size w (w.alloc (.cells #[.int .i64 x.f0, .int .i64 x.f1, .int .i64 x.f2.f0, .int .i64 x.f2.f1, .slice A x.f3.length c] 26)) := (Below.refl _ _).alloc (Nat.le_refl _) _
 generalize w.alloc (.cells #[.int .i64 x.f0, .int .i64 x.f1, .int .i64 x.f2.f0, .int .i64 x.f2.f1, .slice A x.f3.length c] 26) = w0 at k0 hB0 ⊢
 refine (szExpr_any x A c 1048576 w0 (Kd.C_below HX.out.1 hB0) HX.out.2 (by omega) (by omega)).mono ?_
 rintro e w1 ⟨r, hr, rfl, hb1⟩
 have hB1 : Below w.heap.size w w1 := hB0.trans (hb1.mono hB0.size)
 have k1 := (hb1.block _ (blk_lt k0)).trans k0
 clear hb1 k0 hB0 w0
 rcases hr with ⟨hn, rfl⟩ | ⟨hn, rfl⟩
 rotate_left
 ·have HB := Aside0.mk hB1
  clear hB1 k1
  go_wp2
  go_ret
  exact ⟨rfl, HB.out⟩
 have hcnt : cnt x ≤ 1048576 := by omega
 have b1 : decide ((1048576 : Int) - (cnt x : Int) < 0) = false := decide_eq_false (by omega)
 have b2 : decide ((1048576 : Int) < (cnt x : Int)) = false := decide_eq_false (by omega)
 have c0 : w1.cell? ⟨w.heap.size, 0, none⟩ = some (.int .i64 x.f0) := by rw [blk_cell k1]; rfl
 have c1 : w1.cell? ⟨w.heap.size, 1, none⟩ = some (.int .i64 x.f1) := by rw [blk_cell k1]; rfl
 have c2 : w1.cell? ⟨w.heap.size, 2, none⟩ = some (.int .i64 x.f2.f0) := by rw [blk_cell k1]; rfl
 have c3 : w1.cell? ⟨w.heap.size, 3, none⟩ = some (.int .i64 x.f2.f1) := by rw [blk_cell k1]; rfl
 have c4 : w1.cell? ⟨w.heap.size, 4, none⟩ = some (.slice A x.f3.length c) := by rw [blk_cell k1]; rfl
 have HB1 := Aside0.mk (And.intro hB1 (And.intro k1 hcnt))
 clear hB1 k1 hcnt hn
 go_wp2_with fail
 refine (toExpr_any x A c w1 (Kd.C_below HX.out.1 HB1.out.1) HX.out.2 HB1.out.2.2).mono ?_
 rintro e w2 ⟨A2, rfl, hF2, hb2⟩
 have hB2 : Below w.heap.size w w2 := HB1.out.1.trans (hb2.mono HB1.out.1.size)
 have k2 := (hb2.block _ (blk_lt HB1.out.2.1)).trans HB1.out.2.1
 have HB2 := Aside0.mk (And.intro hB2 (And.intro k2 (And.intro (Kd.F_now hF2) HB1.out.2.2)))
 clear hB2 k2 hb2 hF2 HB1 c0 c1 c2 c3 c4
 go_wp2_with fail
 obtain ⟨k, hk⟩ := exprOk_spec (toE x) (short_toE x HB2.out.2.2.2)
 rw [← okL_eq, toE_eq] at hk
 have hspec := spec_ExprOk.calls k x.f0 x.f1 x.f2.f0 x.f2.f1 A2 x.f3.length (x.f3.map toE) _ w2 (by simpa using HB2.out.2.2.1) (by simp) hk
 rw [List.length_map] at hspec
 refine hspec.mono ?_
 clear hspec hk
 rintro e w3 ⟨rfl, hb3⟩
 have hB3 : Below w.heap.size w w3 := HB2.out.1.trans (hb3.mono HB2.out.1.size)
 have k3 := (hb3.block _ (blk_lt HB2.out.2.1)).trans HB2.out.2.1
 have c0 : w3.cell? ⟨w.heap.size, 0, none⟩ = some (.int .i64 x.f0) := by rw [blk_cell k3]; rfl
 have c1 : w3.cell? ⟨w.heap.size, 1, none⟩ = some (.int .i64 x.f1) := by rw [blk_cell k3]; rfl
 have c2 : w3.cell? ⟨w.heap.size, 2, none⟩ = some (.int .i64 x.f2.f0) := by rw [blk_cell k3]; rfl
 have c3 : w3.cell? ⟨w.heap.size, 3, none⟩ = some (.int .i64 x.f2.f1) := by rw [blk_cell k3]; rfl
 have c4 : w3.cell? ⟨w.heap.size, 4, none⟩ = some (.slice A x.f3.length c) := by rw [blk_cell k3]; rfl
 have HB3 := Aside0.mk (And.intro hB3 (And.intro k3 HB2.out.2.2.2))
 obtain ⟨ok, hok'⟩ : ∃ ok, ok = okL 0 (partsL (⟨x.f0, x.f1, ⟨x.f2.f0, x.f2.f1⟩, x.f3.map toE⟩ : IEx)) := ⟨_, rfl⟩
 rw [← hok']
 have HO := Aside0.mk hok'
 clear hok' hB3 k3 hb3 HB2
 go_wp2_with fail
 refine (toExpr_any x A c w3 (Kd.C_below HX.out.1 HB3.out.1) HX.out.2 HB3.out.2.2).mono ?_
 rintro e w4 ⟨A4, rfl, hF4, hb4⟩
 have hB4 : Below w.heap.size w w4 := HB3.out.1.trans (hb4.mono HB3.out.1.size)
 have k4 := (hb4.block _ (blk_lt HB3.out.2.1)).trans HB3.out.2.1
 have hC4 := Kd.F_now hF4
 have HB4 := Aside0.mk (And.intro hB4 (And.intro k4 (And.intro hC4 HB3.out.2.2)))
 clear hB4 k4 hb4 hF4 hC4 HB3 c0 c1 c2 c3 c4
 go_wp2_with fail
 have hs5 : (w4.alloc (.cells #[.int .i64 x.f0, .int .i64 x.f1, .int .i64 x.f2.f0, .int .i64 x.f2.f1, .slice A4 x.f3.length x.f3.length] 32)).heap.size = w4.heap.size + 1 := by simp
 have j5 := heap_alloc_new w4 (.cells #[.int .i64 x.f0, .int .i64 x.f1, .int .i64 x.f2.f0, .int .i64 x.f2.f1, .slice A4 x.f3.length x.f3.length] 32)
 have hbb : Below w4.heap.size w4 (w4.alloc (.cells #[.int .i64 x.f0, .int .i64 x.f1, .int .i64 x.f2.f0, .int .i64 x.f2.f1, .slice A4 x.f3.length x.f3.length] 32)) := (Below.refl _ _).alloc (Nat.le_refl _) _
 generalize w4.alloc (.cells #[.int .i64 x.f0, .int .i64 x.f1, .int .i64 x.f2.f0, .int .i64 x.f2.f1, .slice A4 x.f3.length x.f3.length] 32) = w5 at hs5 j5 hbb ⊢
 have hcall := hok (⟨x.f0, x.f1, ⟨x.f2.f0, x.f2.f1⟩, x.f3.map toE⟩ : IEx) A4 x.f3.length w5 (by simpa using Kd.C_below HB4.out.2.2.1 hbb) (by simp)
 simp only [List.length_map] at hcall
 refine hcall.mono ?_
 clear hcall
 rintro e w6 ⟨rfl, hb6⟩
 rw [← HO.out]
 have hb46 : Below w4.heap.size w4 w6 := hbb.trans (hb6.mono hbb.size)
 have j6 := (hb6.block _ (blk_lt j5)).trans j5
 have hB6 : Below w.heap.size w w6 := HB4.out.1.trans (hb46.mono HB4.out.1.size)
 have k6 := (hb46.block _ (blk_lt HB4.out.2.1)).trans HB4.out.2.1
 have HB6 := Aside0.mk (And.intro hB6 (And.intro k6 (And.intro j6 (And.intro (Kd.C_below HB4.out.2.2.1 hb46) HB4.out.2.2.2))))
 have c0 : w6.cell? ⟨w.heap.size, 0, none⟩ = some (.int .i64 x.f0) := by rw [blk_cell k6]; rfl
 have c1 : w6.cell? ⟨w.heap.size, 1, none⟩ = some (.int .i64 x.f1) := by rw [blk_cell k6]; rfl
 have c2 : w6.cell? ⟨w.heap.size, 2, none⟩ = some (.int .i64 x.f2.f0) := by rw [blk_cell k6]; rfl
 have c3 : w6.cell? ⟨w.heap.size, 3, none⟩ = some (.int .i64 x.f2.f1) := by rw [blk_cell k6]; rfl
 have c4 : w6.cell? ⟨w.heap.size, 4, none⟩ = some (.slice A x.f3.length c) := by rw [blk_cell k6]; rfl
 have d0 : w6.cell? ⟨w4.heap.size, 0, none⟩ = some (.int .i64 x.f0) := by rw [blk_cell j6]; rfl
 have d1 : w6.cell? ⟨w4.heap.size, 1, none⟩ = some (.int .i64 x.f1) := by rw [blk_cell j6]; rfl
 have d2 : w6.cell? ⟨w4.heap.size, 2, none⟩ = some (.int .i64 x.f2.f0) := by rw [blk_cell j6]; rfl
 have d3 : w6.cell? ⟨w4.heap.size, 3, none⟩ = some (.int .i64 x.f2.f1) := by rw [blk_cell j6]; rfl
 have d4 : w6.cell? ⟨w4.heap.size, 4, none⟩ = some (.slice A4 x.f3.length x.f3.length) := by rw [blk_cell j6]; rfl
 clear hb6 hb46 hs5 hbb j5 j6 hB6 k6 HB4 HO
 have hne : (ok != ok) = false := by cases ok <;> rfl
 go_wp2
 have hold : ∀ W, Below w6.heap.size w6 W → W.cell? ⟨w.heap.size, 0, none⟩ = some (.int .i64 x.f0) ∧ W.cell? ⟨w.heap.size, 1, none⟩ = some (.int .i64 x.f1) ∧ W.cell? ⟨w.heap.size, 2, none⟩ = some (.int .i64 x.f2.f0) ∧ W.cell? ⟨w.heap.size, 3, none⟩ = some (.int .i64 x.f2.f1) ∧ W.cell? ⟨w.heap.size, 4, none⟩ = some (.slice A x.f3.length c) ∧ W.cell? ⟨w4.heap.size, 0, none⟩ = some (.int .i64 x.f0) ∧ W.cell? ⟨w4.heap.size, 1, none⟩ = some (.int .i64 x.f1) ∧ W.cell? ⟨w4.heap.size, 2, none⟩ = some (.int .i64 x.f2.f0) ∧ W.cell? ⟨w4.heap.size, 3, none⟩ = some (.int .i64 x.f2.f1) ∧ W.cell? ⟨w4.heap.size, 4, none⟩ = some (.slice A4 x.f3.length x.f3.length) ∧ Below w6.heap.size w6 W := fun W h =>
  ⟨(h.cell (World.block_lt_of_cell? w6 _ c0)).trans c0, (h.cell (World.block_lt_of_cell? w6 _ c1)).trans c1, (h.cell (World.block_lt_of_cell? w6 _ c2)).trans c2, (h.cell (World.block_lt_of_cell? w6 _ c3)).trans c3, (h.cell (World.block_lt_of_cell? w6 _ c4)).trans c4, (h.cell (World.block_lt_of_cell? w6 _ d0)).trans d0, (h.cell (World.block_lt_of_cell? w6 _ d1)).trans d1, (h.cell (World.block_lt_of_cell? w6 _ d2)).trans d2, (h.cell (World.block_lt_of_cell? w6 _ d3)).trans d3, (h.cell (World.block_lt_of_cell? w6 _ d4)).trans d4, h⟩
 have HH := Aside0.mk hold
 clear hold c0 c1 c2 c3 c4 d0 d1 d2 d3 d4
 go_region_held3 (fun W => W.cell? ⟨w.heap.size, 0, none⟩ = some (.int .i64 x.f0) ∧ W.cell? ⟨w.heap.size, 1, none⟩ = some (.int .i64 x.f1) ∧ W.cell? ⟨w.heap.size, 2, none⟩ = some (.int .i64 x.f2.f0) ∧ W.cell? ⟨w.heap.size, 3, none⟩ = some (.int .i64 x.f2.f1) ∧ W.cell? ⟨w.heap.size, 4, none⟩ = some (.slice A x.f3.length c) ∧ W.cell? ⟨w4.heap.size, 0, none⟩ = some (.int .i64 x.f0) ∧ W.cell? ⟨w4.heap.size, 1, none⟩ = some (.int .i64 x.f1) ∧ W.cell? ⟨w4.heap.size, 2, none⟩ = some (.int .i64 x.f2.f0) ∧ W.cell? ⟨w4.heap.size, 3, none⟩ = some (.int .i64 x.f2.f1) ∧ W.cell? ⟨w4.heap.size, 4, none⟩ = some (.slice A4 x.f3.length x.f3.length) ∧ Below w6.heap.size w6 W) (first | exact HH.out _ (below_drew (Below.refl _ _)) | exact HH.out _ HB7.out.2 | exact HH.out _ HB8.out.2)
  (first
  | (go_at_call 17; refine (toExpr_any x A c _ (Kd.C_below HX.out.1 (below_drew HB6.out.1)) HX.out.2 HB6.out.2.2.2.2).mono ?_; rintro e w7 ⟨A7, rfl, hF7, hb7⟩; have HB7 := Aside0.mk (And.intro (Kd.F_now hF7) ((below_drew (Below.refl _ w6)).trans hb7)); clear hF7 hb7)
  | (go_at_call 19; refine (eqExpr_toE x A4 A7 w7 (Kd.C_below HB6.out.2.2.2.1 HB7.out.2) HB7.out.1).mono ?_; rintro e w8 ⟨rfl, hb8⟩; have HB8 := Aside0.mk (And.intro trivial (HB7.out.2.trans (hb8.mono HB7.out.2.size))); clear hb8))
 all_goals (go_wp2; go_ret; exact ⟨rfl, HB6.out.1.trans (HB8.out.2.mono HB6.out.1.size)⟩)
end Go.Proofs.Ytiofkhfmdophpaa.B
