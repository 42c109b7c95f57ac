/- The law FnExactExprOf, over impl.ExprOk's contract. -/
import Derived.Test.YtiofkhfmdophpaaOfSpec
import Derived.Test.YtiofkhfmdophpaaMemLaw
import Derived.Test.YtiofkhfmdophpaaOpensMem
import Derived.Deep.RegionHeld3
namespace Go.Proofs.Ytiofkhfmdophpaa.B
open Go.RowKit Go.Proofs.YtiofkhfmdophpaaW.PrintWords Go.Proofs.YtiofkhfmdophpaaW.PrintLast Go.Proofs.YtiofkhfmdophpaaW.PrintMore
set_option linter.unusedVariables false
theorem specOf_toE (x : LEx) (hn : cnt x ≤ 1048576) {B0 B1 B2 : Option Addr} {d0 d1 d2 : Nat} {l0 l1 l2 : List Int} (hs : small l0 l1 l2) (A : Option Addr) (w : World) (hC : Kd.C iexK w A x.f3.length (x.f3.map toE)) (hm : Mr w B0 B1 B2 d0 d1 d2 l0 l1 l2) :
    Calls Try.prog 24 #[.agg #[.int .i64 x.f0, .int .i64 x.f1, .int .i64 x.f2.f0, .int .i64 x.f2.f1, .slice A x.f3.length x.f3.length], .agg #[.slice B0 l0.length d0, .slice B1 l1.length d1, .slice B2 l2.length d2]] w fun e w' => e = .returned (.int .i64 (ofV (toE x) l0 l1 l2)) ∧ Below w.heap.size w w' := by
  unfold small at hs
  obtain ⟨k, hk⟩ := exprOf_spec (toE x) (short_toE x hn) l0 l1 l2 (by omega) (by omega) (by omega)
  obtain ⟨v, hv⟩ : ∃ v, v = ofV (toE x) l0 l1 l2 := ⟨_, rfl⟩
  rw [← hv] at hk ⊢
  rw [toE_eq] at hk
  have h := spec_ExprOf.calls k x.f0 x.f1 x.f2.f0 x.f2.f1 A x.f3.length (x.f3.map toE) B0 d0 l0 B1 d1 l1 B2 d2 l2 v w (by simpa using hC) (by simp) hm.r0 hm.m0 hm.r1 hm.m1 hm.r2 hm.m2 hk
  simp only [List.length_map] at h
  exact h
theorem implOf_toE (hok : OkCon) (x : LEx) {B0 B1 B2 : Option Addr} {d0 d1 d2 : Nat} {l0 l1 l2 : List Int} (A : Option Addr) (w : World) (hC : Kd.C iexK w A x.f3.length (x.f3.map toE)) (hm : Mr w B0 B1 B2 d0 d1 d2 l0 l1 l2) :
    Calls Try.prog 26 #[.agg #[.int .i64 x.f0, .int .i64 x.f1, .int .i64 x.f2.f0, .int .i64 x.f2.f1, .slice A x.f3.length x.f3.length], .agg #[.slice B0 l0.length d0, .slice B1 l1.length d1, .slice B2 l2.length d2]] w fun e w' => e = .returned (.int .i64 (ofV (toE x) l0 l1 l2)) ∧ Below w.heap.size w w' := by
  have h := exprOf_any hok (⟨x.f0, x.f1, ⟨x.f2.f0, x.f2.f1⟩, x.f3.map toE⟩ : IEx) A x.f3.length l0 l1 l2 B0 B1 B2 d0 d1 d2 w (by simpa using hC) (by simp) hm.r0 hm.r1 hm.r2 hm.m0 hm.m1 hm.m2
  rw [show (⟨x.f0, x.f1, ⟨x.f2.f0, x.f2.f1⟩, x.f3.map toE⟩ : IEx) = toE x from (toE_eq x).symm] at h
  have e3 : (toE x).f3.length = x.f3.length := by rw [toE_eq]; simp
  have e0 : (toE x).f0 = x.f0 := by rw [toE_eq]
  have e1 : (toE x).f1 = x.f1 := by rw [toE_eq]
  have e2 : (toE x).f2.f0 = x.f2.f0 := by rw [toE_eq]
  have e4 : (toE x).f2.f1 = x.f2.f1 := by rw [toE_eq]
  rw [e0, e1, e2, e4, e3] at h
  exact h
set_option maxRecDepth 100000 in
set_option maxHeartbeats 4000000 in
theorem fnExactExprOf_law (hok : OkCon) (x : LEx) (A : Option Addr) (c : Nat) (y : S41) (A0 : Option Addr) (c0 : Nat) (A1 : Option Addr) (c1 : Nat) (A2 : Option Addr) (c2 : Nat) (w : World) (hC : Kd.C lexK w A x.f3.length x.f3) (hc : x.f3.length ≤ c)
    (r0 : Kd.C (Kd.int .i64) w A0 y.f0.length y.f0) (m0 : y.f0.length ≤ c0) (r1 : Kd.C (Kd.int .i64) w A1 y.f1.length y.f1) (m1 : y.f1.length ≤ c1) (r2 : Kd.C (Kd.int .i64) w A2 y.f2.length y.f2) (m2 : y.f2.length ≤ c2) :
    Calls Try.prog 5 #[.agg #[.int .i64 x.f0, .int .i64 x.f1, .int .i64 x.f2.f0, .int .i64 x.f2.f1, .slice A x.f3.length c], .agg #[.slice A0 y.f0.length c0, .slice A1 y.f1.length c1, .slice A2 y.f2.length c2]] w (TruePost w) := by
  obtain ⟨l0, e0⟩ : ∃ l0, l0 = y.f0 := ⟨_, rfl⟩
  obtain ⟨l1, e1⟩ : ∃ l1, l1 = y.f1 := ⟨_, rfl⟩
  obtain ⟨l2, e2⟩ : ∃ l2, l2 = y.f2 := ⟨_, rfl⟩
  rw [← e0] at r0 m0 ⊢
  rw [← e1] at r1 m1 ⊢
  rw [← e2] at r2 m2 ⊢
  clear e0 e1 e2
  have hM : Mr w A0 A1 A2 c0 c1 c2 l0 l1 l2 := ⟨r0, r1, r2, m0, m1, m2⟩
  have HX := Aside0.mk (And.intro hC (And.intro hc hM))
  clear hC hc r0 r1 r2 m0 m1 m2 hM
  go_enter Try.func5, Try.ntmps5
  go_wp2_with fail
  obtain ⟨hs, k1, k2, hB0⟩ := two_blocks w (.cells #[.int .i64 x.f0, .int .i64 x.f1, .int .i64 x.f2.f0, .int .i64 x.f2.f1, .slice A x.f3.length c] 26 (0, 0)) (.cells #[.slice A0 l0.length c0, .slice A1 l1.length c1, .slice A2 l2.length c2] 41 (0, 0))
  generalize (w.alloc (.cells #[.int .i64 x.f0, .int .i64 x.f1, .int .i64 x.f2.f0, .int .i64 x.f2.f1, .slice A x.f3.length c] 26)).alloc (.cells #[.slice A0 l0.length c0, .slice A1 l1.length c1, .slice A2 l2.length c2] 41) = w0 at hs k1 k2 hB0 ⊢
  refine (szExpr_any x A c 1048576 w0 (Kd.C_below HX.out.1 hB0) HX.out.2.1 (by omega) (by omega)).mono ?_
  rintro e w1 ⟨r, hr, rfl, hb1⟩
  have hB1 : Below w.heap.size w w1 := hB0.trans (hb1.mono hB0.size)
  replace k1 := (hb1.block _ (blk_lt k1)).trans k1
  replace k2 := (hb1.block _ (blk_lt k2)).trans k2
  clear hb1 hB0 hs w0
  rcases hr with ⟨hn, rfl⟩ | ⟨hn, rfl⟩
  rotate_left
  · have HB := Aside0.mk hB1
    clear hB1 k1 k2
    go_wp2
    go_ret
    exact ⟨rfl, HB.out⟩
  have hcnt : cnt x ≤ 1048576 := by omega
  have b1 : decide ((1048576 : Int) - (cnt x : Int) < 0) = false := decide_eq_false (by omega)
  have b2 : decide ((1048576 : Int) < (cnt x : Int)) = false := decide_eq_false (by omega)
  have q0 : w1.cell? ⟨w.heap.size, 0, none⟩ = some (.int .i64 x.f0) := by rw [blk_cell k1]; rfl
  have q1 : w1.cell? ⟨w.heap.size, 1, none⟩ = some (.int .i64 x.f1) := by rw [blk_cell k1]; rfl
  have q2 : w1.cell? ⟨w.heap.size, 2, none⟩ = some (.int .i64 x.f2.f0) := by rw [blk_cell k1]; rfl
  have q3 : w1.cell? ⟨w.heap.size, 3, none⟩ = some (.int .i64 x.f2.f1) := by rw [blk_cell k1]; rfl
  have q4 : w1.cell? ⟨w.heap.size, 4, none⟩ = some (.slice A x.f3.length c) := by rw [blk_cell k1]; rfl
  have q5 : w1.cell? ⟨w.heap.size + 1, 0, none⟩ = some (.slice A0 l0.length c0) := by rw [blk_cell k2]; rfl
  have q6 : w1.cell? ⟨w.heap.size + 1, 1, none⟩ = some (.slice A1 l1.length c1) := by rw [blk_cell k2]; rfl
  have q7 : w1.cell? ⟨w.heap.size + 1, 2, none⟩ = some (.slice A2 l2.length c2) := by rw [blk_cell k2]; rfl
  have HB1 := Aside0.mk (And.intro hB1 (And.intro k1 (And.intro k2 hcnt)))
  clear hB1 k1 k2 hcnt hn
  go_wp2_with fail
  refine (szMem_any (HX.out.2.2.below HB1.out.1) _ (by have := HB1.out.2.2.2; omega) (by have := HB1.out.2.2.2; omega)).mono ?_
  rintro e w2 ⟨r, hr, rfl, hb2⟩
  clear q0 q1 q2 q3 q4 q5 q6 q7
  have hB2 : Below w.heap.size w w2 := HB1.out.1.trans (hb2.mono HB1.out.1.size)
  have k1 := (hb2.block _ (blk_lt HB1.out.2.1)).trans HB1.out.2.1
  have k2 := (hb2.block _ (blk_lt HB1.out.2.2.1)).trans HB1.out.2.2.1
  rcases hr with ⟨hn, rfl⟩ | ⟨hn, rfl⟩
  rotate_left
  · have HB := Aside0.mk hB2
    clear hB2 k1 k2 hb2
    go_wp2
    go_ret
    exact ⟨rfl, HB.out⟩
  have hsm : small l0 l1 l2 := by unfold small; have := HB1.out.2.2.2; omega
  obtain ⟨left, hleft⟩ : ∃ left : Int, left = 1048576 - (cnt x : Int) - ((l0.length + l1.length + l2.length : Nat) : Int) := ⟨_, rfl⟩
  rw [← hleft]
  have b3 : decide (left < 0) = false := decide_eq_false (by rw [hleft]; omega)
  have hold : ∀ W, Below w2.heap.size w2 W → W.cell? ⟨w.heap.size, 0, none⟩ = some (.int .i64 x.f0) ∧ W.cell? ⟨w.heap.size, 1, none⟩ = some (.int .i64 x.f1) ∧ W.cell? ⟨w.heap.size, 2, none⟩ = some (.int .i64 x.f2.f0) ∧ W.cell? ⟨w.heap.size, 3, none⟩ = some (.int .i64 x.f2.f1) ∧ W.cell? ⟨w.heap.size, 4, none⟩ = some (.slice A x.f3.length c) ∧ W.cell? ⟨(w.heap.size + 1), 0, none⟩ = some (.slice A0 l0.length c0) ∧ W.cell? ⟨(w.heap.size + 1), 1, none⟩ = some (.slice A1 l1.length c1) ∧ W.cell? ⟨(w.heap.size + 1), 2, none⟩ = some (.slice A2 l2.length c2) ∧ Below w2.heap.size w2 W := fun W h =>
    ⟨(h.cell (World.block_lt_of_cell? w2 _ ((blk_cell k1 0).trans rfl))).trans ((blk_cell k1 0).trans rfl), (h.cell (World.block_lt_of_cell? w2 _ ((blk_cell k1 1).trans rfl))).trans ((blk_cell k1 1).trans rfl), (h.cell (World.block_lt_of_cell? w2 _ ((blk_cell k1 2).trans rfl))).trans ((blk_cell k1 2).trans rfl), (h.cell (World.block_lt_of_cell? w2 _ ((blk_cell k1 3).trans rfl))).trans ((blk_cell k1 3).trans rfl), (h.cell (World.block_lt_of_cell? w2 _ ((blk_cell k1 4).trans rfl))).trans ((blk_cell k1 4).trans rfl), (h.cell (World.block_lt_of_cell? w2 _ ((blk_cell k2 0).trans rfl))).trans ((blk_cell k2 0).trans rfl), (h.cell (World.block_lt_of_cell? w2 _ ((blk_cell k2 1).trans rfl))).trans ((blk_cell k2 1).trans rfl), (h.cell (World.block_lt_of_cell? w2 _ ((blk_cell k2 2).trans rfl))).trans ((blk_cell k2 2).trans rfl), h⟩
  have HH1 := Aside0.mk hold
  have HB2 := Aside0.mk (And.intro hB2 (And.intro k1 (And.intro k2 (And.intro HB1.out.2.2.2 hsm))))
  clear hB2 k1 k2 hb2 hn hold hsm HB1 hleft b1 b2
  go_wp2
  go_region_held3 (fun W => W.cell? ⟨w.heap.size, 0, none⟩ = some (.int .i64 x.f0) ∧ W.cell? ⟨w.heap.size, 1, none⟩ = some (.int .i64 x.f1) ∧ W.cell? ⟨w.heap.size, 2, none⟩ = some (.int .i64 x.f2.f0) ∧ W.cell? ⟨w.heap.size, 3, none⟩ = some (.int .i64 x.f2.f1) ∧ W.cell? ⟨w.heap.size, 4, none⟩ = some (.slice A x.f3.length c) ∧ W.cell? ⟨(w.heap.size + 1), 0, none⟩ = some (.slice A0 l0.length c0) ∧ W.cell? ⟨(w.heap.size + 1), 1, none⟩ = some (.slice A1 l1.length c1) ∧ W.cell? ⟨(w.heap.size + 1), 2, none⟩ = some (.slice A2 l2.length c2) ∧ Below w2.heap.size w2 W) (first | exact HH1.out _ (below_drew (Below.refl _ _)) | exact HH1.out _ HB3.out.2 | exact HH1.out _ HB4.out.2 | exact HH1.out _ HB5.out)
    (first
    | (go_at_call 17; refine (toExpr_any x A c _ (Kd.C_below HX.out.1 (below_drew HB2.out.1)) HX.out.2.1 HB2.out.2.2.2.1).mono ?_; rintro e w3 ⟨A3, rfl, hF3, hb3⟩; have HB3 : Aside0 (Kd.C iexK w3 A3 x.f3.length (x.f3.map toE) ∧ Below w2.heap.size w2 w3) := Aside0.mk (And.intro (Kd.F_now hF3) ((below_drew (Below.refl _ w2)).trans hb3)); clear hF3 hb3)
    | (go_at_call 25; refine (toMem_any (HX.out.2.2.below (HB2.out.1.trans (HB3.out.2.mono HB2.out.1.size))) HB2.out.2.2.2.2).mono ?_; rintro e w4 ⟨⟨B0, d0, B1, d1, B2, d2, rfl, hm4⟩, hb4⟩; have HB4 : Aside0 (Mr w4 B0 B1 B2 d0 d1 d2 l0 l1 l2 ∧ Below w2.heap.size w2 w4) := Aside0.mk (And.intro hm4 (HB3.out.2.trans (hb4.mono HB3.out.2.size))); have HC4 := Aside0.mk (Kd.C_below HB3.out.1 hb4); clear hm4 hb4)
    | (go_at_call 24; refine (specOf_toE x HB2.out.2.2.2.1 HB2.out.2.2.2.2 A3 w4 HC4.out HB4.out.1).mono ?_; rintro e w5 ⟨rfl, hb5⟩; have HB5 : Aside0 (Below w2.heap.size w2 w5) := Aside0.mk (HB4.out.2.trans (hb5.mono HB4.out.2.size)); clear hb5))
  rename_i hHeld
  clear hHeld
  obtain ⟨v, hv⟩ : ∃ v, v = ofV (toE x) l0 l1 l2 := ⟨_, rfl⟩
  rw [← hv]
  have HO := Aside0.mk hv
  clear hv
  have hB6 : Below w.heap.size w w5 := HB2.out.1.trans (HB5.out.mono HB2.out.1.size)
  have k1 := (HB5.out.block _ (blk_lt HB2.out.2.1)).trans HB2.out.2.1
  have k2 := (HB5.out.block _ (blk_lt HB2.out.2.2.1)).trans HB2.out.2.2.1
  have q0 : w5.cell? ⟨w.heap.size, 0, none⟩ = some (.int .i64 x.f0) := by rw [blk_cell k1]; rfl
  have q1 : w5.cell? ⟨w.heap.size, 1, none⟩ = some (.int .i64 x.f1) := by rw [blk_cell k1]; rfl
  have q2 : w5.cell? ⟨w.heap.size, 2, none⟩ = some (.int .i64 x.f2.f0) := by rw [blk_cell k1]; rfl
  have q3 : w5.cell? ⟨w.heap.size, 3, none⟩ = some (.int .i64 x.f2.f1) := by rw [blk_cell k1]; rfl
  have q4 : w5.cell? ⟨w.heap.size, 4, none⟩ = some (.slice A x.f3.length c) := by rw [blk_cell k1]; rfl
  have q5 : w5.cell? ⟨w.heap.size + 1, 0, none⟩ = some (.slice A0 l0.length c0) := by rw [blk_cell k2]; rfl
  have q6 : w5.cell? ⟨w.heap.size + 1, 1, none⟩ = some (.slice A1 l1.length c1) := by rw [blk_cell k2]; rfl
  have q7 : w5.cell? ⟨w.heap.size + 1, 2, none⟩ = some (.slice A2 l2.length c2) := by rw [blk_cell k2]; rfl
  have HB6 := Aside0.mk (And.intro hB6 (And.intro k1 (And.intro k2 HB2.out.2.2.2)))
  clear hB6 k1 k2 HH1 HB2 HB3 HB4 HC4 HB5
  go_wp2_with fail
  refine (toExpr_any x A c w5 (Kd.C_below HX.out.1 HB6.out.1) HX.out.2.1 HB6.out.2.2.2.1).mono ?_
  rintro e w6 ⟨A6, rfl, hF6, hb6⟩
  have hB7 : Below w.heap.size w w6 := HB6.out.1.trans (hb6.mono HB6.out.1.size)
  have k1 := (hb6.block _ (blk_lt HB6.out.2.1)).trans HB6.out.2.1
  have k2 := (hb6.block _ (blk_lt HB6.out.2.2.1)).trans HB6.out.2.2.1
  clear q0 q1 q2 q3 q4 q5 q6 q7
  have q0 : w6.cell? ⟨w.heap.size, 0, none⟩ = some (.int .i64 x.f0) := by rw [blk_cell k1]; rfl
  have q1 : w6.cell? ⟨w.heap.size, 1, none⟩ = some (.int .i64 x.f1) := by rw [blk_cell k1]; rfl
  have q2 : w6.cell? ⟨w.heap.size, 2, none⟩ = some (.int .i64 x.f2.f0) := by rw [blk_cell k1]; rfl
  have q3 : w6.cell? ⟨w.heap.size, 3, none⟩ = some (.int .i64 x.f2.f1) := by rw [blk_cell k1]; rfl
  have q4 : w6.cell? ⟨w.heap.size, 4, none⟩ = some (.slice A x.f3.length c) := by rw [blk_cell k1]; rfl
  have q5 : w6.cell? ⟨w.heap.size + 1, 0, none⟩ = some (.slice A0 l0.length c0) := by rw [blk_cell k2]; rfl
  have q6 : w6.cell? ⟨w.heap.size + 1, 1, none⟩ = some (.slice A1 l1.length c1) := by rw [blk_cell k2]; rfl
  have q7 : w6.cell? ⟨w.heap.size + 1, 2, none⟩ = some (.slice A2 l2.length c2) := by rw [blk_cell k2]; rfl
  have HB7 := Aside0.mk (And.intro hB7 (And.intro k1 (And.intro k2 (And.intro (Kd.F_now hF6) HB6.out.2.2.2))))
  clear hB7 k1 k2 hb6 hF6 HB6
  go_upto_region 10 with (fail)
  clear q0 q1 q2 q3 q4 q5 q6 q7
  have j3 := heap_alloc_new w6 (.cells #[.int .i64 x.f0, .int .i64 x.f1, .int .i64 x.f2.f0, .int .i64 x.f2.f1, .slice A6 x.f3.length x.f3.length] 32)
  have hbb : Below w6.heap.size w6 (w6.alloc (.cells #[.int .i64 x.f0, .int .i64 x.f1, .int .i64 x.f2.f0, .int .i64 x.f2.f1, .slice A6 x.f3.length x.f3.length] 32)) := (Below.refl _ _).alloc (Nat.le_refl _) _
  generalize w6.alloc (.cells #[.int .i64 x.f0, .int .i64 x.f1, .int .i64 x.f2.f0, .int .i64 x.f2.f1, .slice A6 x.f3.length x.f3.length] 32) = w7 at j3 hbb ⊢
  have hB7' : Below w.heap.size w w7 := HB7.out.1.trans (hbb.mono HB7.out.1.size)
  have k1 := (hbb.block _ (blk_lt HB7.out.2.1)).trans HB7.out.2.1
  have k2 := (hbb.block _ (blk_lt HB7.out.2.2.1)).trans HB7.out.2.2.1
  have q0 : w7.cell? ⟨w.heap.size, 0, none⟩ = some (.int .i64 x.f0) := by rw [blk_cell k1]; rfl
  have q1 : w7.cell? ⟨w.heap.size, 1, none⟩ = some (.int .i64 x.f1) := by rw [blk_cell k1]; rfl
  have q2 : w7.cell? ⟨w.heap.size, 2, none⟩ = some (.int .i64 x.f2.f0) := by rw [blk_cell k1]; rfl
  have q3 : w7.cell? ⟨w.heap.size, 3, none⟩ = some (.int .i64 x.f2.f1) := by rw [blk_cell k1]; rfl
  have q4 : w7.cell? ⟨w.heap.size, 4, none⟩ = some (.slice A x.f3.length c) := by rw [blk_cell k1]; rfl
  have q5 : w7.cell? ⟨w.heap.size + 1, 0, none⟩ = some (.slice A0 l0.length c0) := by rw [blk_cell k2]; rfl
  have q6 : w7.cell? ⟨w.heap.size + 1, 1, none⟩ = some (.slice A1 l1.length c1) := by rw [blk_cell k2]; rfl
  have q7 : w7.cell? ⟨w.heap.size + 1, 2, none⟩ = some (.slice A2 l2.length c2) := by rw [blk_cell k2]; rfl
  clear k1 k2
  have HBB := Aside0.mk (And.intro hbb (And.intro hB7' j3))
  clear hbb hB7' j3
  go_wp2_with fail
  refine (toMem_any (HX.out.2.2.below HBB.out.2.1) HB7.out.2.2.2.2.2).mono ?_
  rintro e w8 ⟨⟨E0, f0, E1, f1, E2, f2, rfl, hm8⟩, hb8⟩
  obtain ⟨hbb, hB7', j3⟩ := HBB.out
  have hB8 : Below w.heap.size w w8 := hB7'.trans (hb8.mono hB7'.size)
  have k1 := (hb8.block _ (blk_lt ((hbb.block _ (blk_lt HB7.out.2.1)).trans HB7.out.2.1))).trans ((hbb.block _ (blk_lt HB7.out.2.1)).trans HB7.out.2.1)
  have k2 := (hb8.block _ (blk_lt ((hbb.block _ (blk_lt HB7.out.2.2.1)).trans HB7.out.2.2.1))).trans ((hbb.block _ (blk_lt HB7.out.2.2.1)).trans HB7.out.2.2.1)
  replace j3 := (hb8.block _ (blk_lt j3)).trans j3
  have hC8 := Kd.C_below (Kd.C_below HB7.out.2.2.2.1 hbb) hb8
  have HB8 := Aside0.mk (And.intro hB8 (And.intro k1 (And.intro k2 (And.intro j3 (And.intro hC8 (And.intro hm8 HB7.out.2.2.2.2))))))
  clear hbb hb8 hB7' hB8 k1 k2 j3 hC8 hm8 HB7 HBB q0 q1 q2 q3 q4 q5 q6 q7
  go_upto_region 11 with (fail)
  have j4 := heap_alloc_new w8 (.cells #[.slice E0 l0.length f0, .slice E1 l1.length f1, .slice E2 l2.length f2] 44)
  have hbb : Below w8.heap.size w8 (w8.alloc (.cells #[.slice E0 l0.length f0, .slice E1 l1.length f1, .slice E2 l2.length f2] 44)) := (Below.refl _ _).alloc (Nat.le_refl _) _
  generalize w8.alloc (.cells #[.slice E0 l0.length f0, .slice E1 l1.length f1, .slice E2 l2.length f2] 44) = w9 at j4 hbb ⊢
  have hB9 : Below w.heap.size w w9 := HB8.out.1.trans (hbb.mono HB8.out.1.size)
  have k1 := (hbb.block _ (blk_lt HB8.out.2.1)).trans HB8.out.2.1
  have k2 := (hbb.block _ (blk_lt HB8.out.2.2.1)).trans HB8.out.2.2.1
  have j3 := (hbb.block _ (blk_lt HB8.out.2.2.2.1)).trans HB8.out.2.2.2.1
  have q0 : w9.cell? ⟨w.heap.size, 0, none⟩ = some (.int .i64 x.f0) := by rw [blk_cell k1]; rfl
  have q1 : w9.cell? ⟨w.heap.size, 1, none⟩ = some (.int .i64 x.f1) := by rw [blk_cell k1]; rfl
  have q2 : w9.cell? ⟨w.heap.size, 2, none⟩ = some (.int .i64 x.f2.f0) := by rw [blk_cell k1]; rfl
  have q3 : w9.cell? ⟨w.heap.size, 3, none⟩ = some (.int .i64 x.f2.f1) := by rw [blk_cell k1]; rfl
  have q4 : w9.cell? ⟨w.heap.size, 4, none⟩ = some (.slice A x.f3.length c) := by rw [blk_cell k1]; rfl
  have q5 : w9.cell? ⟨w.heap.size + 1, 0, none⟩ = some (.slice A0 l0.length c0) := by rw [blk_cell k2]; rfl
  have q6 : w9.cell? ⟨w.heap.size + 1, 1, none⟩ = some (.slice A1 l1.length c1) := by rw [blk_cell k2]; rfl
  have q7 : w9.cell? ⟨w.heap.size + 1, 2, none⟩ = some (.slice A2 l2.length c2) := by rw [blk_cell k2]; rfl
  have q8 : w9.cell? ⟨w6.heap.size, 0, none⟩ = some (.int .i64 x.f0) := by rw [blk_cell j3]; rfl
  have q9 : w9.cell? ⟨w6.heap.size, 1, none⟩ = some (.int .i64 x.f1) := by rw [blk_cell j3]; rfl
  have q10 : w9.cell? ⟨w6.heap.size, 2, none⟩ = some (.int .i64 x.f2.f0) := by rw [blk_cell j3]; rfl
  have q11 : w9.cell? ⟨w6.heap.size, 3, none⟩ = some (.int .i64 x.f2.f1) := by rw [blk_cell j3]; rfl
  have q12 : w9.cell? ⟨w6.heap.size, 4, none⟩ = some (.slice A6 x.f3.length x.f3.length) := by rw [blk_cell j3]; rfl
  have q13 : w9.cell? ⟨w8.heap.size, 0, none⟩ = some (.slice E0 l0.length f0) := by rw [blk_cell j4]; rfl
  have q14 : w9.cell? ⟨w8.heap.size, 1, none⟩ = some (.slice E1 l1.length f1) := by rw [blk_cell j4]; rfl
  have q15 : w9.cell? ⟨w8.heap.size, 2, none⟩ = some (.slice E2 l2.length f2) := by rw [blk_cell j4]; rfl
  have HB9 := Aside0.mk (And.intro hB9 (And.intro k1 (And.intro k2 (And.intro j3 (And.intro j4 (And.intro (Kd.C_below HB8.out.2.2.2.2.1 hbb) (And.intro (HB8.out.2.2.2.2.2.1.below hbb) HB8.out.2.2.2.2.2.2)))))))
  clear hB9 k1 k2 j3 j4 hbb HB8
  go_wp2_with fail
  refine (implOf_toE hok x A6 w9 HB9.out.2.2.2.2.2.1 HB9.out.2.2.2.2.2.2.1).mono ?_
  rintro e w10 ⟨rfl, hb10⟩
  rw [← HO.out]
  have hB10 : Below w.heap.size w w10 := HB9.out.1.trans (hb10.mono HB9.out.1.size)
  have k1 := (hb10.block _ (blk_lt HB9.out.2.1)).trans HB9.out.2.1
  have k2 := (hb10.block _ (blk_lt HB9.out.2.2.1)).trans HB9.out.2.2.1
  have j3 := (hb10.block _ (blk_lt HB9.out.2.2.2.1)).trans HB9.out.2.2.2.1
  have j4 := (hb10.block _ (blk_lt HB9.out.2.2.2.2.1)).trans HB9.out.2.2.2.2.1
  have hold : ∀ W, Below w10.heap.size w10 W → W.cell? ⟨w.heap.size, 0, none⟩ = some (.int .i64 x.f0) ∧ W.cell? ⟨w.heap.size, 1, none⟩ = some (.int .i64 x.f1) ∧ W.cell? ⟨w.heap.size, 2, none⟩ = some (.int .i64 x.f2.f0) ∧ W.cell? ⟨w.heap.size, 3, none⟩ = some (.int .i64 x.f2.f1) ∧ W.cell? ⟨w.heap.size, 4, none⟩ = some (.slice A x.f3.length c) ∧ W.cell? ⟨(w.heap.size + 1), 0, none⟩ = some (.slice A0 l0.length c0) ∧ W.cell? ⟨(w.heap.size + 1), 1, none⟩ = some (.slice A1 l1.length c1) ∧ W.cell? ⟨(w.heap.size + 1), 2, none⟩ = some (.slice A2 l2.length c2) ∧ W.cell? ⟨w6.heap.size, 0, none⟩ = some (.int .i64 x.f0) ∧ W.cell? ⟨w6.heap.size, 1, none⟩ = some (.int .i64 x.f1) ∧ W.cell? ⟨w6.heap.size, 2, none⟩ = some (.int .i64 x.f2.f0) ∧ W.cell? ⟨w6.heap.size, 3, none⟩ = some (.int .i64 x.f2.f1) ∧ W.cell? ⟨w6.heap.size, 4, none⟩ = some (.slice A6 x.f3.length x.f3.length) ∧ W.cell? ⟨w8.heap.size, 0, none⟩ = some (.slice E0 l0.length f0) ∧ W.cell? ⟨w8.heap.size, 1, none⟩ = some (.slice E1 l1.length f1) ∧ W.cell? ⟨w8.heap.size, 2, none⟩ = some (.slice E2 l2.length f2) ∧ Below w10.heap.size w10 W := fun W h =>
    ⟨(h.cell (World.block_lt_of_cell? w10 _ ((blk_cell k1 0).trans rfl))).trans ((blk_cell k1 0).trans rfl), (h.cell (World.block_lt_of_cell? w10 _ ((blk_cell k1 1).trans rfl))).trans ((blk_cell k1 1).trans rfl), (h.cell (World.block_lt_of_cell? w10 _ ((blk_cell k1 2).trans rfl))).trans ((blk_cell k1 2).trans rfl), (h.cell (World.block_lt_of_cell? w10 _ ((blk_cell k1 3).trans rfl))).trans ((blk_cell k1 3).trans rfl), (h.cell (World.block_lt_of_cell? w10 _ ((blk_cell k1 4).trans rfl))).trans ((blk_cell k1 4).trans rfl), (h.cell (World.block_lt_of_cell? w10 _ ((blk_cell k2 0).trans rfl))).trans ((blk_cell k2 0).trans rfl), (h.cell (World.block_lt_of_cell? w10 _ ((blk_cell k2 1).trans rfl))).trans ((blk_cell k2 1).trans rfl), (h.cell (World.block_lt_of_cell? w10 _ ((blk_cell k2 2).trans rfl))).trans ((blk_cell k2 2).trans rfl), (h.cell (World.block_lt_of_cell? w10 _ ((blk_cell j3 0).trans rfl))).trans ((blk_cell j3 0).trans rfl), (h.cell (World.block_lt_of_cell? w10 _ ((blk_cell j3 1).trans rfl))).trans ((blk_cell j3 1).trans rfl), (h.cell (World.block_lt_of_cell? w10 _ ((blk_cell j3 2).trans rfl))).trans ((blk_cell j3 2).trans rfl), (h.cell (World.block_lt_of_cell? w10 _ ((blk_cell j3 3).trans rfl))).trans ((blk_cell j3 3).trans rfl), (h.cell (World.block_lt_of_cell? w10 _ ((blk_cell j3 4).trans rfl))).trans ((blk_cell j3 4).trans rfl), (h.cell (World.block_lt_of_cell? w10 _ ((blk_cell j4 0).trans rfl))).trans ((blk_cell j4 0).trans rfl), (h.cell (World.block_lt_of_cell? w10 _ ((blk_cell j4 1).trans rfl))).trans ((blk_cell j4 1).trans rfl), (h.cell (World.block_lt_of_cell? w10 _ ((blk_cell j4 2).trans rfl))).trans ((blk_cell j4 2).trans rfl), h⟩
  have HH2 := Aside0.mk hold
  have HB10 := Aside0.mk (And.intro hB10 (And.intro k1 (And.intro k2 (And.intro j3 (And.intro j4 (And.intro (Kd.C_below HB9.out.2.2.2.2.2.1 hb10) (And.intro (HB9.out.2.2.2.2.2.2.1.below hb10) HB9.out.2.2.2.2.2.2.2)))))))
  have hne : (v != v) = false := by simp
  clear hB10 k1 k2 j3 j4 hb10 HB9 hold q0 q1 q2 q3 q4 q5 q6 q7 q8 q9 q10 q11 q12 q13 q14 q15 HO
  go_wp2
  go_region_held3 (fun W => W.cell? ⟨w.heap.size, 0, none⟩ = some (.int .i64 x.f0) ∧ W.cell? ⟨w.heap.size, 1, none⟩ = some (.int .i64 x.f1) ∧ W.cell? ⟨w.heap.size, 2, none⟩ = some (.int .i64 x.f2.f0) ∧ W.cell? ⟨w.heap.size, 3, none⟩ = some (.int .i64 x.f2.f1) ∧ W.cell? ⟨w.heap.size, 4, none⟩ = some (.slice A x.f3.length c) ∧ W.cell? ⟨(w.heap.size + 1), 0, none⟩ = some (.slice A0 l0.length c0) ∧ W.cell? ⟨(w.heap.size + 1), 1, none⟩ = some (.slice A1 l1.length c1) ∧ W.cell? ⟨(w.heap.size + 1), 2, none⟩ = some (.slice A2 l2.length c2) ∧ W.cell? ⟨w6.heap.size, 0, none⟩ = some (.int .i64 x.f0) ∧ W.cell? ⟨w6.heap.size, 1, none⟩ = some (.int .i64 x.f1) ∧ W.cell? ⟨w6.heap.size, 2, none⟩ = some (.int .i64 x.f2.f0) ∧ W.cell? ⟨w6.heap.size, 3, none⟩ = some (.int .i64 x.f2.f1) ∧ W.cell? ⟨w6.heap.size, 4, none⟩ = some (.slice A6 x.f3.length x.f3.length) ∧ W.cell? ⟨w8.heap.size, 0, none⟩ = some (.slice E0 l0.length f0) ∧ W.cell? ⟨w8.heap.size, 1, none⟩ = some (.slice E1 l1.length f1) ∧ W.cell? ⟨w8.heap.size, 2, none⟩ = some (.slice E2 l2.length f2) ∧ Below w10.heap.size w10 W) (first | exact HH2.out _ (below_drew (Below.refl _ _)) | exact HH2.out _ HB11.out.2 | exact HH2.out _ HB12.out)
    (first
    | (go_at_call 17; refine (toExpr_any x A c _ (Kd.C_below HX.out.1 (below_drew HB10.out.1)) HX.out.2.1 HB10.out.2.2.2.2.2.2.2.1).mono ?_; rintro e w11 ⟨A11, rfl, hF11, hb11⟩; have HB11 : Aside0 (Kd.C iexK w11 A11 x.f3.length (x.f3.map toE) ∧ Below w10.heap.size w10 w11) := Aside0.mk (And.intro (Kd.F_now hF11) ((below_drew (Below.refl _ w10)).trans hb11)); clear hF11 hb11)
    | (go_at_call 19; refine (eqExpr_toE x A6 A11 w11 (Kd.C_below HB10.out.2.2.2.2.2.1 HB11.out.2) HB11.out.1).mono ?_; rintro e w12 ⟨rfl, hb12⟩; have HB12 : Aside0 (Below w10.heap.size w10 w12) := Aside0.mk (HB11.out.2.trans (hb12.mono HB11.out.2.size)); clear hb12))
  rename_i hHeld
  clear hHeld
  have hB12 : Below w.heap.size w w12 := HB10.out.1.trans (HB12.out.mono HB10.out.1.size)
  have k1 := (HB12.out.block _ (blk_lt HB10.out.2.1)).trans HB10.out.2.1
  have k2 := (HB12.out.block _ (blk_lt HB10.out.2.2.1)).trans HB10.out.2.2.1
  have j3 := (HB12.out.block _ (blk_lt HB10.out.2.2.2.1)).trans HB10.out.2.2.2.1
  have j4 := (HB12.out.block _ (blk_lt HB10.out.2.2.2.2.1)).trans HB10.out.2.2.2.2.1
  have hold : ∀ W, Below w12.heap.size w12 W → W.cell? ⟨w.heap.size, 0, none⟩ = some (.int .i64 x.f0) ∧ W.cell? ⟨w.heap.size, 1, none⟩ = some (.int .i64 x.f1) ∧ W.cell? ⟨w.heap.size, 2, none⟩ = some (.int .i64 x.f2.f0) ∧ W.cell? ⟨w.heap.size, 3, none⟩ = some (.int .i64 x.f2.f1) ∧ W.cell? ⟨w.heap.size, 4, none⟩ = some (.slice A x.f3.length c) ∧ W.cell? ⟨(w.heap.size + 1), 0, none⟩ = some (.slice A0 l0.length c0) ∧ W.cell? ⟨(w.heap.size + 1), 1, none⟩ = some (.slice A1 l1.length c1) ∧ W.cell? ⟨(w.heap.size + 1), 2, none⟩ = some (.slice A2 l2.length c2) ∧ W.cell? ⟨w6.heap.size, 0, none⟩ = some (.int .i64 x.f0) ∧ W.cell? ⟨w6.heap.size, 1, none⟩ = some (.int .i64 x.f1) ∧ W.cell? ⟨w6.heap.size, 2, none⟩ = some (.int .i64 x.f2.f0) ∧ W.cell? ⟨w6.heap.size, 3, none⟩ = some (.int .i64 x.f2.f1) ∧ W.cell? ⟨w6.heap.size, 4, none⟩ = some (.slice A6 x.f3.length x.f3.length) ∧ W.cell? ⟨w8.heap.size, 0, none⟩ = some (.slice E0 l0.length f0) ∧ W.cell? ⟨w8.heap.size, 1, none⟩ = some (.slice E1 l1.length f1) ∧ W.cell? ⟨w8.heap.size, 2, none⟩ = some (.slice E2 l2.length f2) ∧ Below w12.heap.size w12 W := fun W h =>
    ⟨(h.cell (World.block_lt_of_cell? w12 _ ((blk_cell k1 0).trans rfl))).trans ((blk_cell k1 0).trans rfl), (h.cell (World.block_lt_of_cell? w12 _ ((blk_cell k1 1).trans rfl))).trans ((blk_cell k1 1).trans rfl), (h.cell (World.block_lt_of_cell? w12 _ ((blk_cell k1 2).trans rfl))).trans ((blk_cell k1 2).trans rfl), (h.cell (World.block_lt_of_cell? w12 _ ((blk_cell k1 3).trans rfl))).trans ((blk_cell k1 3).trans rfl), (h.cell (World.block_lt_of_cell? w12 _ ((blk_cell k1 4).trans rfl))).trans ((blk_cell k1 4).trans rfl), (h.cell (World.block_lt_of_cell? w12 _ ((blk_cell k2 0).trans rfl))).trans ((blk_cell k2 0).trans rfl), (h.cell (World.block_lt_of_cell? w12 _ ((blk_cell k2 1).trans rfl))).trans ((blk_cell k2 1).trans rfl), (h.cell (World.block_lt_of_cell? w12 _ ((blk_cell k2 2).trans rfl))).trans ((blk_cell k2 2).trans rfl), (h.cell (World.block_lt_of_cell? w12 _ ((blk_cell j3 0).trans rfl))).trans ((blk_cell j3 0).trans rfl), (h.cell (World.block_lt_of_cell? w12 _ ((blk_cell j3 1).trans rfl))).trans ((blk_cell j3 1).trans rfl), (h.cell (World.block_lt_of_cell? w12 _ ((blk_cell j3 2).trans rfl))).trans ((blk_cell j3 2).trans rfl), (h.cell (World.block_lt_of_cell? w12 _ ((blk_cell j3 3).trans rfl))).trans ((blk_cell j3 3).trans rfl), (h.cell (World.block_lt_of_cell? w12 _ ((blk_cell j3 4).trans rfl))).trans ((blk_cell j3 4).trans rfl), (h.cell (World.block_lt_of_cell? w12 _ ((blk_cell j4 0).trans rfl))).trans ((blk_cell j4 0).trans rfl), (h.cell (World.block_lt_of_cell? w12 _ ((blk_cell j4 1).trans rfl))).trans ((blk_cell j4 1).trans rfl), (h.cell (World.block_lt_of_cell? w12 _ ((blk_cell j4 2).trans rfl))).trans ((blk_cell j4 2).trans rfl), h⟩
  have HH3 := Aside0.mk hold
  have HB13 := Aside0.mk (And.intro hB12 (And.intro (HB10.out.2.2.2.2.2.2.1.below HB12.out) HB10.out.2.2.2.2.2.2.2.2))
  clear hB12 k1 k2 j3 j4 HB11 HB12 hold HH2 HB10
  go_wp2
  go_region_held3 (fun W => W.cell? ⟨w.heap.size, 0, none⟩ = some (.int .i64 x.f0) ∧ W.cell? ⟨w.heap.size, 1, none⟩ = some (.int .i64 x.f1) ∧ W.cell? ⟨w.heap.size, 2, none⟩ = some (.int .i64 x.f2.f0) ∧ W.cell? ⟨w.heap.size, 3, none⟩ = some (.int .i64 x.f2.f1) ∧ W.cell? ⟨w.heap.size, 4, none⟩ = some (.slice A x.f3.length c) ∧ W.cell? ⟨(w.heap.size + 1), 0, none⟩ = some (.slice A0 l0.length c0) ∧ W.cell? ⟨(w.heap.size + 1), 1, none⟩ = some (.slice A1 l1.length c1) ∧ W.cell? ⟨(w.heap.size + 1), 2, none⟩ = some (.slice A2 l2.length c2) ∧ W.cell? ⟨w6.heap.size, 0, none⟩ = some (.int .i64 x.f0) ∧ W.cell? ⟨w6.heap.size, 1, none⟩ = some (.int .i64 x.f1) ∧ W.cell? ⟨w6.heap.size, 2, none⟩ = some (.int .i64 x.f2.f0) ∧ W.cell? ⟨w6.heap.size, 3, none⟩ = some (.int .i64 x.f2.f1) ∧ W.cell? ⟨w6.heap.size, 4, none⟩ = some (.slice A6 x.f3.length x.f3.length) ∧ W.cell? ⟨w8.heap.size, 0, none⟩ = some (.slice E0 l0.length f0) ∧ W.cell? ⟨w8.heap.size, 1, none⟩ = some (.slice E1 l1.length f1) ∧ W.cell? ⟨w8.heap.size, 2, none⟩ = some (.slice E2 l2.length f2) ∧ Below w12.heap.size w12 W) (first | exact HH3.out _ (below_drew (Below.refl _ _)) | exact HH3.out _ HB14.out.2 | exact HH3.out _ HB15.out)
    (first
    | (go_at_call 25; refine (toMem_any (HX.out.2.2.below (below_drew HB13.out.1)) HB13.out.2.2).mono ?_; rintro e w13 ⟨⟨G0, g0, G1, g1, G2, g2, rfl, hm13⟩, hb13⟩; have HB14 : Aside0 (Mr w13 G0 G1 G2 g0 g1 g2 l0 l1 l2 ∧ Below w12.heap.size w12 w13) := Aside0.mk (And.intro hm13 ((below_drew (Below.refl _ w12)).trans hb13)); clear hm13 hb13)
    | (go_at_call 27; refine (eqMem_any (HB13.out.2.1.below HB14.out.2) HB14.out.1 HB13.out.2.2).mono ?_; rintro e w14 ⟨rfl, hb14⟩; have HB15 : Aside0 (Below w12.heap.size w12 w14) := Aside0.mk (HB14.out.2.trans (hb14.mono HB14.out.2.size)); clear hb14))
  go_wp2
  go_ret
  exact ⟨rfl, HB13.out.1.trans (HB15.out.mono HB13.out.1.size)⟩
end Go.Proofs.Ytiofkhfmdophpaa.B
