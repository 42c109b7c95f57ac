/- The law FnExactSlimReads, over impl.ExprOk's contract. -/
import Derived.Test.YtiofkhfmdophpaaSlimLaw
import Derived.Deep.RegionHeld3
namespace Go.Proofs.Ytiofkhfmdophpaa.B
open Go.RowKit Go.Proofs.YtiofkhfmdophpaaW.PrintWords Go.Proofs.YtiofkhfmdophpaaW.PrintLast Go.Proofs.YtiofkhfmdophpaaW.PrintMore
set_option linter.unusedVariables false
theorem toAddr_any (a b : Int) (w : World) : Calls Try.prog 21 #[.agg #[.int .i64 a, .int .i64 b]] w fun e w' => e = .returned (.agg #[.int .i64 a, .int .i64 b]) ∧ Below w.heap.size w w' := laws_toAddr.calls a b a b w rfl
def slV (x : LEx) (a b : Int) : Bool := okL 0 (partsL (toE x)) && (partsL (toE x)).any (readsP a b)
theorem specSlim_toE (x : LEx) (a b : Int) (hn : cnt x ≤ 1048576) (A : Option Addr) (w : World) (hC : Kd.C iexK w A x.f3.length (x.f3.map toE)) :
    Calls Try.prog 20 #[.agg #[.int .i64 x.f0, .int .i64 x.f1, .int .i64 x.f2.f0, .int .i64 x.f2.f1, .slice A x.f3.length x.f3.length], .agg #[.int .i64 a, .int .i64 b]] w fun e w' => e = .returned (.bool (slV x a b)) ∧ Below w.heap.size w w' := by
  obtain ⟨k, hk⟩ := slimReads_spec (toE x) (short_toE x hn) a b
  rw [show (okL 0 (partsL (toE x)) && (partsL (toE x)).any (readsP a b)) = slV x a b from rfl, toE_eq] at hk
  have h := spec_SlimReads.calls k x.f0 x.f1 x.f2.f0 x.f2.f1 A x.f3.length (x.f3.map toE) a b _ w (by simpa using hC) (by simp) hk
  simp only [List.length_map] at h
  exact h
theorem implSlim_toE (hok : OkCon) (x : LEx) (a b : Int) (A : Option Addr) (w : World) (hC : Kd.C iexK w A x.f3.length (x.f3.map toE)) :
    Calls Try.prog 22 #[.agg #[.int .i64 x.f0, .int .i64 x.f1, .int .i64 x.f2.f0, .int .i64 x.f2.f1, .slice A x.f3.length x.f3.length], .agg #[.int .i64 a, .int .i64 b]] w fun e w' => e = .returned (.bool (slV x a b)) ∧ Below w.heap.size w w' := by
  have h := slimReads_any hok (⟨x.f0, x.f1, ⟨x.f2.f0, x.f2.f1⟩, x.f3.map toE⟩ : IEx) a b A x.f3.length w (by simpa using hC) (by simp)
  rw [show (⟨x.f0, x.f1, ⟨x.f2.f0, x.f2.f1⟩, x.f3.map toE⟩ : IEx) = toE x from (toE_eq x).symm] at h
  have e3 : (toE x).f3.length = x.f3.length := by rw [toE_eq]; simp
  have e0 : (toE x).f0 = x.f0 := by rw [toE_eq]
  have e1 : (toE x).f1 = x.f1 := by rw [toE_eq]
  have e2 : (toE x).f2.f0 = x.f2.f0 := by rw [toE_eq]
  have e4 : (toE x).f2.f1 = x.f2.f1 := by rw [toE_eq]
  rw [e0, e1, e2, e4, e3] at h
  exact h
set_option maxRecDepth 100000 in
set_option maxHeartbeats 4000000 in
theorem fnExactSlimReads_law (hok : OkCon) (x : LEx) (A : Option Addr) (c : Nat) (y : S23) (w : World) (hC : Kd.C lexK w A x.f3.length x.f3) (hc : x.f3.length ≤ c) :
    Calls Try.prog 4 #[.agg #[.int .i64 x.f0, .int .i64 x.f1, .int .i64 x.f2.f0, .int .i64 x.f2.f1, .slice A x.f3.length c], .agg #[.int .i64 y.f0, .int .i64 y.f1]] w (TruePost w) := by
  have HX := Aside0.mk (And.intro hC hc)
  clear hC hc
  go_enter Try.func4, Try.ntmps4
  go_wp2_with fail
  obtain ⟨hs, k1, k2, hB0⟩ := two_blocks w (.cells #[.int .i64 x.f0, .int .i64 x.f1, .int .i64 x.f2.f0, .int .i64 x.f2.f1, .slice A x.f3.length c] 26 (0, 0)) (.cells #[.int .i64 y.f0, .int .i64 y.f1] 23 (0, 0))
  generalize (w.alloc (.cells #[.int .i64 x.f0, .int .i64 x.f1, .int .i64 x.f2.f0, .int .i64 x.f2.f1, .slice A x.f3.length c] 26)).alloc (.cells #[.int .i64 y.f0, .int .i64 y.f1] 23) = w0 at hs k1 k2 hB0 ⊢
  refine (szExpr_any x A c 1048576 w0 (Kd.C_below HX.out.1 hB0) HX.out.2 (by omega) (by omega)).mono ?_
  rintro e w1 ⟨r, hr, rfl, hb1⟩
  have hB1 : Below w.heap.size w w1 := hB0.trans (hb1.mono hB0.size)
  replace k1 := (hb1.block _ (blk_lt k1)).trans k1
  replace k2 := (hb1.block _ (blk_lt k2)).trans k2
  clear hb1 hB0 hs w0
  rcases hr with ⟨hn, rfl⟩ | ⟨hn, rfl⟩
  rotate_left
  · have HB := Aside0.mk hB1
    clear hB1 k1 k2
    go_wp2
    go_ret
    exact ⟨rfl, HB.out⟩
  have hcnt : cnt x ≤ 1048576 := by omega
  have b1 : decide ((1048576 : Int) - (cnt x : Int) < 0) = false := decide_eq_false (by omega)
  have b2 : decide ((1048576 : Int) < (cnt x : Int)) = false := decide_eq_false (by omega)
  have hold : ∀ W, Below w1.heap.size w1 W → W.cell? ⟨w.heap.size, 0, none⟩ = some (.int .i64 x.f0) ∧ W.cell? ⟨w.heap.size, 1, none⟩ = some (.int .i64 x.f1) ∧ W.cell? ⟨w.heap.size, 2, none⟩ = some (.int .i64 x.f2.f0) ∧ W.cell? ⟨w.heap.size, 3, none⟩ = some (.int .i64 x.f2.f1) ∧ W.cell? ⟨w.heap.size, 4, none⟩ = some (.slice A x.f3.length c) ∧ W.cell? ⟨(w.heap.size + 1), 0, none⟩ = some (.int .i64 y.f0) ∧ W.cell? ⟨(w.heap.size + 1), 1, none⟩ = some (.int .i64 y.f1) ∧ Below w1.heap.size w1 W := fun W h =>
    ⟨(h.cell (World.block_lt_of_cell? w1 _ ((blk_cell k1 0).trans rfl))).trans ((blk_cell k1 0).trans rfl), (h.cell (World.block_lt_of_cell? w1 _ ((blk_cell k1 1).trans rfl))).trans ((blk_cell k1 1).trans rfl), (h.cell (World.block_lt_of_cell? w1 _ ((blk_cell k1 2).trans rfl))).trans ((blk_cell k1 2).trans rfl), (h.cell (World.block_lt_of_cell? w1 _ ((blk_cell k1 3).trans rfl))).trans ((blk_cell k1 3).trans rfl), (h.cell (World.block_lt_of_cell? w1 _ ((blk_cell k1 4).trans rfl))).trans ((blk_cell k1 4).trans rfl), (h.cell (World.block_lt_of_cell? w1 _ ((blk_cell k2 0).trans rfl))).trans ((blk_cell k2 0).trans rfl), (h.cell (World.block_lt_of_cell? w1 _ ((blk_cell k2 1).trans rfl))).trans ((blk_cell k2 1).trans rfl), h⟩
  have HH1 := Aside0.mk hold
  have HB1 := Aside0.mk (And.intro hB1 (And.intro k1 (And.intro k2 hcnt)))
  clear hB1 k1 k2 hcnt hn hold
  go_wp2
  go_region_held3 (fun W => W.cell? ⟨w.heap.size, 0, none⟩ = some (.int .i64 x.f0) ∧ W.cell? ⟨w.heap.size, 1, none⟩ = some (.int .i64 x.f1) ∧ W.cell? ⟨w.heap.size, 2, none⟩ = some (.int .i64 x.f2.f0) ∧ W.cell? ⟨w.heap.size, 3, none⟩ = some (.int .i64 x.f2.f1) ∧ W.cell? ⟨w.heap.size, 4, none⟩ = some (.slice A x.f3.length c) ∧ W.cell? ⟨(w.heap.size + 1), 0, none⟩ = some (.int .i64 y.f0) ∧ W.cell? ⟨(w.heap.size + 1), 1, none⟩ = some (.int .i64 y.f1) ∧ Below w1.heap.size w1 W) (first | exact HH1.out _ (below_drew (Below.refl _ _)) | exact HH1.out _ HB2.out.2 | exact HH1.out _ HB3.out | exact HH1.out _ HB4.out)
    (first
    | (go_at_call 17; refine (toExpr_any x A c _ (Kd.C_below HX.out.1 (below_drew HB1.out.1)) HX.out.2 HB1.out.2.2.2).mono ?_; rintro e w2 ⟨A2, rfl, hF2, hb2⟩; have HB2 := Aside0.mk (And.intro (Kd.F_now hF2) ((below_drew (Below.refl _ w1)).trans hb2)); clear hF2 hb2)
    | (go_at_call 21; refine (toAddr_any y.f0 y.f1 w2).mono ?_; rintro e w3 ⟨rfl, hb3⟩; have HC3 := Aside0.mk (Kd.C_below HB2.out.1 hb3); have HB3 := Aside0.mk (HB2.out.2.trans (hb3.mono HB2.out.2.size)); clear hb3)
    | (go_at_call 20; refine (specSlim_toE x y.f0 y.f1 HB1.out.2.2.2 A2 w3 HC3.out).mono ?_; rintro e w4 ⟨rfl, hb4⟩; have HB4 := Aside0.mk (HB3.out.trans (hb4.mono HB3.out.size)); clear hb4))
  rename_i hHeld
  clear hHeld
  obtain ⟨ok, hok'⟩ : ∃ ok, ok = slV x y.f0 y.f1 := ⟨_, rfl⟩
  rw [← hok']
  have HO := Aside0.mk hok'
  clear hok'
  have hB5 : Below w.heap.size w w4 := HB1.out.1.trans (HB4.out.mono HB1.out.1.size)
  have k1 := (HB4.out.block _ (blk_lt HB1.out.2.1)).trans HB1.out.2.1
  have k2 := (HB4.out.block _ (blk_lt HB1.out.2.2.1)).trans HB1.out.2.2.1
  have c0 : w4.cell? ⟨w.heap.size, 0, none⟩ = some (.int .i64 x.f0) := by rw [blk_cell k1]; rfl
  have c1 : w4.cell? ⟨w.heap.size, 1, none⟩ = some (.int .i64 x.f1) := by rw [blk_cell k1]; rfl
  have c2 : w4.cell? ⟨w.heap.size, 2, none⟩ = some (.int .i64 x.f2.f0) := by rw [blk_cell k1]; rfl
  have c3 : w4.cell? ⟨w.heap.size, 3, none⟩ = some (.int .i64 x.f2.f1) := by rw [blk_cell k1]; rfl
  have c4 : w4.cell? ⟨w.heap.size, 4, none⟩ = some (.slice A x.f3.length c) := by rw [blk_cell k1]; rfl
  have HB5 := Aside0.mk (And.intro hB5 (And.intro k1 (And.intro k2 HB1.out.2.2.2)))
  clear hB5 k1 k2 HH1 HB1 HB2 HC3 HB3 HB4
  go_wp2_with fail
  refine (toExpr_any x A c w4 (Kd.C_below HX.out.1 HB5.out.1) HX.out.2 HB5.out.2.2.2).mono ?_
  rintro e w5 ⟨A5, rfl, hF5, hb5⟩
  have hB6 : Below w.heap.size w w5 := HB5.out.1.trans (hb5.mono HB5.out.1.size)
  have k1 := (hb5.block _ (blk_lt HB5.out.2.1)).trans HB5.out.2.1
  have k2 := (hb5.block _ (blk_lt HB5.out.2.2.1)).trans HB5.out.2.2.1
  have HB6 := Aside0.mk (And.intro hB6 (And.intro k1 (And.intro k2 (And.intro (Kd.F_now hF5) HB5.out.2.2.2))))
  clear hB6 k1 k2 hb5 hF5 HB5 c0 c1 c2 c3 c4
  go_wp2
  have j3 := heap_alloc_new w5 (.cells #[.int .i64 x.f0, .int .i64 x.f1, .int .i64 x.f2.f0, .int .i64 x.f2.f1, .slice A5 x.f3.length x.f3.length] 32)
  have hbb : Below w5.heap.size w5 (w5.alloc (.cells #[.int .i64 x.f0, .int .i64 x.f1, .int .i64 x.f2.f0, .int .i64 x.f2.f1, .slice A5 x.f3.length x.f3.length] 32)) := (Below.refl _ _).alloc (Nat.le_refl _) _
  generalize w5.alloc (.cells #[.int .i64 x.f0, .int .i64 x.f1, .int .i64 x.f2.f0, .int .i64 x.f2.f1, .slice A5 x.f3.length x.f3.length] 32) = w6 at j3 hbb ⊢
  have hB7 : Below w.heap.size w w6 := HB6.out.1.trans (hbb.mono HB6.out.1.size)
  have k1 := (hbb.block _ (blk_lt HB6.out.2.1)).trans HB6.out.2.1
  have k2 := (hbb.block _ (blk_lt HB6.out.2.2.1)).trans HB6.out.2.2.1
  have hC6 := Kd.C_below HB6.out.2.2.2.1 hbb
  have hold : ∀ W, Below w6.heap.size w6 W → W.cell? ⟨w.heap.size, 0, none⟩ = some (.int .i64 x.f0) ∧ W.cell? ⟨w.heap.size, 1, none⟩ = some (.int .i64 x.f1) ∧ W.cell? ⟨w.heap.size, 2, none⟩ = some (.int .i64 x.f2.f0) ∧ W.cell? ⟨w.heap.size, 3, none⟩ = some (.int .i64 x.f2.f1) ∧ W.cell? ⟨w.heap.size, 4, none⟩ = some (.slice A x.f3.length c) ∧ W.cell? ⟨(w.heap.size + 1), 0, none⟩ = some (.int .i64 y.f0) ∧ W.cell? ⟨(w.heap.size + 1), 1, none⟩ = some (.int .i64 y.f1) ∧ W.cell? ⟨w5.heap.size, 0, none⟩ = some (.int .i64 x.f0) ∧ W.cell? ⟨w5.heap.size, 1, none⟩ = some (.int .i64 x.f1) ∧ W.cell? ⟨w5.heap.size, 2, none⟩ = some (.int .i64 x.f2.f0) ∧ W.cell? ⟨w5.heap.size, 3, none⟩ = some (.int .i64 x.f2.f1) ∧ W.cell? ⟨w5.heap.size, 4, none⟩ = some (.slice A5 x.f3.length x.f3.length) ∧ Below w6.heap.size w6 W := fun W h =>
    ⟨(h.cell (World.block_lt_of_cell? w6 _ ((blk_cell k1 0).trans rfl))).trans ((blk_cell k1 0).trans rfl), (h.cell (World.block_lt_of_cell? w6 _ ((blk_cell k1 1).trans rfl))).trans ((blk_cell k1 1).trans rfl), (h.cell (World.block_lt_of_cell? w6 _ ((blk_cell k1 2).trans rfl))).trans ((blk_cell k1 2).trans rfl), (h.cell (World.block_lt_of_cell? w6 _ ((blk_cell k1 3).trans rfl))).trans ((blk_cell k1 3).trans rfl), (h.cell (World.block_lt_of_cell? w6 _ ((blk_cell k1 4).trans rfl))).trans ((blk_cell k1 4).trans rfl), (h.cell (World.block_lt_of_cell? w6 _ ((blk_cell k2 0).trans rfl))).trans ((blk_cell k2 0).trans rfl), (h.cell (World.block_lt_of_cell? w6 _ ((blk_cell k2 1).trans rfl))).trans ((blk_cell k2 1).trans rfl), (h.cell (World.block_lt_of_cell? w6 _ ((blk_cell j3 0).trans rfl))).trans ((blk_cell j3 0).trans rfl), (h.cell (World.block_lt_of_cell? w6 _ ((blk_cell j3 1).trans rfl))).trans ((blk_cell j3 1).trans rfl), (h.cell (World.block_lt_of_cell? w6 _ ((blk_cell j3 2).trans rfl))).trans ((blk_cell j3 2).trans rfl), (h.cell (World.block_lt_of_cell? w6 _ ((blk_cell j3 3).trans rfl))).trans ((blk_cell j3 3).trans rfl), (h.cell (World.block_lt_of_cell? w6 _ ((blk_cell j3 4).trans rfl))).trans ((blk_cell j3 4).trans rfl), h⟩
  have HH2 := Aside0.mk hold
  have HB7 := Aside0.mk (And.intro hB7 (And.intro k1 (And.intro k2 (And.intro j3 (And.intro hC6 HB6.out.2.2.2.2)))))
  clear hB7 k1 k2 j3 hbb hC6 HB6 hold
  go_region_held3 (fun W => W.cell? ⟨w.heap.size, 0, none⟩ = some (.int .i64 x.f0) ∧ W.cell? ⟨w.heap.size, 1, none⟩ = some (.int .i64 x.f1) ∧ W.cell? ⟨w.heap.size, 2, none⟩ = some (.int .i64 x.f2.f0) ∧ W.cell? ⟨w.heap.size, 3, none⟩ = some (.int .i64 x.f2.f1) ∧ W.cell? ⟨w.heap.size, 4, none⟩ = some (.slice A x.f3.length c) ∧ W.cell? ⟨(w.heap.size + 1), 0, none⟩ = some (.int .i64 y.f0) ∧ W.cell? ⟨(w.heap.size + 1), 1, none⟩ = some (.int .i64 y.f1) ∧ W.cell? ⟨w5.heap.size, 0, none⟩ = some (.int .i64 x.f0) ∧ W.cell? ⟨w5.heap.size, 1, none⟩ = some (.int .i64 x.f1) ∧ W.cell? ⟨w5.heap.size, 2, none⟩ = some (.int .i64 x.f2.f0) ∧ W.cell? ⟨w5.heap.size, 3, none⟩ = some (.int .i64 x.f2.f1) ∧ W.cell? ⟨w5.heap.size, 4, none⟩ = some (.slice A5 x.f3.length x.f3.length) ∧ Below w6.heap.size w6 W) (first | exact HH2.out _ (below_drew (Below.refl _ _)) | exact HH2.out _ HB8.out | exact HH2.out _ HB9.out)
    (first
    | (go_at_call 21; refine (toAddr_any y.f0 y.f1 _).mono ?_; rintro e w7 ⟨rfl, hb7⟩; have HB8 := Aside0.mk ((below_drew (Below.refl _ w6)).trans hb7); clear hb7)
    | (go_at_call 22; refine (implSlim_toE hok x y.f0 y.f1 A5 w7 (Kd.C_below HB7.out.2.2.2.2.1 HB8.out)).mono ?_; rintro e w8 ⟨rfl, hb8⟩; have HB9 := Aside0.mk (HB8.out.trans (hb8.mono HB8.out.size)); clear hb8))
  rename_i hHeld
  clear hHeld
  rw [← HO.out]
  have hB10 : Below w.heap.size w w8 := HB7.out.1.trans (HB9.out.mono HB7.out.1.size)
  have k1 := (HB9.out.block _ (blk_lt HB7.out.2.1)).trans HB7.out.2.1
  have k2 := (HB9.out.block _ (blk_lt HB7.out.2.2.1)).trans HB7.out.2.2.1
  have j3 := (HB9.out.block _ (blk_lt HB7.out.2.2.2.1)).trans HB7.out.2.2.2.1
  have hC8 := Kd.C_below HB7.out.2.2.2.2.1 HB9.out
  have hold : ∀ W, Below w8.heap.size w8 W → W.cell? ⟨w.heap.size, 0, none⟩ = some (.int .i64 x.f0) ∧ W.cell? ⟨w.heap.size, 1, none⟩ = some (.int .i64 x.f1) ∧ W.cell? ⟨w.heap.size, 2, none⟩ = some (.int .i64 x.f2.f0) ∧ W.cell? ⟨w.heap.size, 3, none⟩ = some (.int .i64 x.f2.f1) ∧ W.cell? ⟨w.heap.size, 4, none⟩ = some (.slice A x.f3.length c) ∧ W.cell? ⟨(w.heap.size + 1), 0, none⟩ = some (.int .i64 y.f0) ∧ W.cell? ⟨(w.heap.size + 1), 1, none⟩ = some (.int .i64 y.f1) ∧ W.cell? ⟨w5.heap.size, 0, none⟩ = some (.int .i64 x.f0) ∧ W.cell? ⟨w5.heap.size, 1, none⟩ = some (.int .i64 x.f1) ∧ W.cell? ⟨w5.heap.size, 2, none⟩ = some (.int .i64 x.f2.f0) ∧ W.cell? ⟨w5.heap.size, 3, none⟩ = some (.int .i64 x.f2.f1) ∧ W.cell? ⟨w5.heap.size, 4, none⟩ = some (.slice A5 x.f3.length x.f3.length) ∧ Below w8.heap.size w8 W := fun W h =>
    ⟨(h.cell (World.block_lt_of_cell? w8 _ ((blk_cell k1 0).trans rfl))).trans ((blk_cell k1 0).trans rfl), (h.cell (World.block_lt_of_cell? w8 _ ((blk_cell k1 1).trans rfl))).trans ((blk_cell k1 1).trans rfl), (h.cell (World.block_lt_of_cell? w8 _ ((blk_cell k1 2).trans rfl))).trans ((blk_cell k1 2).trans rfl), (h.cell (World.block_lt_of_cell? w8 _ ((blk_cell k1 3).trans rfl))).trans ((blk_cell k1 3).trans rfl), (h.cell (World.block_lt_of_cell? w8 _ ((blk_cell k1 4).trans rfl))).trans ((blk_cell k1 4).trans rfl), (h.cell (World.block_lt_of_cell? w8 _ ((blk_cell k2 0).trans rfl))).trans ((blk_cell k2 0).trans rfl), (h.cell (World.block_lt_of_cell? w8 _ ((blk_cell k2 1).trans rfl))).trans ((blk_cell k2 1).trans rfl), (h.cell (World.block_lt_of_cell? w8 _ ((blk_cell j3 0).trans rfl))).trans ((blk_cell j3 0).trans rfl), (h.cell (World.block_lt_of_cell? w8 _ ((blk_cell j3 1).trans rfl))).trans ((blk_cell j3 1).trans rfl), (h.cell (World.block_lt_of_cell? w8 _ ((blk_cell j3 2).trans rfl))).trans ((blk_cell j3 2).trans rfl), (h.cell (World.block_lt_of_cell? w8 _ ((blk_cell j3 3).trans rfl))).trans ((blk_cell j3 3).trans rfl), (h.cell (World.block_lt_of_cell? w8 _ ((blk_cell j3 4).trans rfl))).trans ((blk_cell j3 4).trans rfl), h⟩
  have HH3 := Aside0.mk hold
  have HB10 := Aside0.mk (And.intro hB10 (And.intro hC8 HB7.out.2.2.2.2.2))
  clear hB10 k1 k2 j3 hC8 hold HB7 HB8 HB9 HH2 HO
  have hne : (ok != ok) = false := by cases ok <;> rfl
  go_wp2
  go_region_held3 (fun W => W.cell? ⟨w.heap.size, 0, none⟩ = some (.int .i64 x.f0) ∧ W.cell? ⟨w.heap.size, 1, none⟩ = some (.int .i64 x.f1) ∧ W.cell? ⟨w.heap.size, 2, none⟩ = some (.int .i64 x.f2.f0) ∧ W.cell? ⟨w.heap.size, 3, none⟩ = some (.int .i64 x.f2.f1) ∧ W.cell? ⟨w.heap.size, 4, none⟩ = some (.slice A x.f3.length c) ∧ W.cell? ⟨(w.heap.size + 1), 0, none⟩ = some (.int .i64 y.f0) ∧ W.cell? ⟨(w.heap.size + 1), 1, none⟩ = some (.int .i64 y.f1) ∧ W.cell? ⟨w5.heap.size, 0, none⟩ = some (.int .i64 x.f0) ∧ W.cell? ⟨w5.heap.size, 1, none⟩ = some (.int .i64 x.f1) ∧ W.cell? ⟨w5.heap.size, 2, none⟩ = some (.int .i64 x.f2.f0) ∧ W.cell? ⟨w5.heap.size, 3, none⟩ = some (.int .i64 x.f2.f1) ∧ W.cell? ⟨w5.heap.size, 4, none⟩ = some (.slice A5 x.f3.length x.f3.length) ∧ Below w8.heap.size w8 W) (first | exact HH3.out _ (below_drew (Below.refl _ _)) | exact HH3.out _ HB11.out.2 | exact HH3.out _ HB12.out)
    (first
    | (go_at_call 17; refine (toExpr_any x A c _ (Kd.C_below HX.out.1 (below_drew HB10.out.1)) HX.out.2 HB10.out.2.2).mono ?_; rintro e w9 ⟨A9, rfl, hF9, hb9⟩; have HB11 := Aside0.mk (And.intro (Kd.F_now hF9) ((below_drew (Below.refl _ w8)).trans hb9)); clear hF9 hb9)
    | (go_at_call 19; refine (eqExpr_toE x A5 A9 w9 (Kd.C_below HB10.out.2.1 HB11.out.2) HB11.out.1).mono ?_; rintro e w10 ⟨rfl, hb10⟩; have HB12 := Aside0.mk (HB11.out.2.trans (hb10.mono HB11.out.2.size)); clear hb10))
  go_wp2
  go_ret
  exact ⟨rfl, HB10.out.1.trans (HB12.out.mono HB10.out.1.size)⟩
end Go.Proofs.Ytiofkhfmdophpaa.B
