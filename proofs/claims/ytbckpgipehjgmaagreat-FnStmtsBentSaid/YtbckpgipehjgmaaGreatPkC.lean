/- Printed functions of this seat, in one text. -/
import Derived.Test.YtbckpgipehjgmaaGreatB0
import Derived.Test.YtbckpgipehjgmaaGreatSq
import Derived.Test.YtbckpgipehjgmaaGreatPkA
import Derived.Test.YtbckpgipehjgmaaGreatPkB
namespace Go.Proofs.YtbckpgipehjgmaaGreat.B
open Go.RowKit Go.Proofs.YtbckpgipehjgmaaGreatW.PrintWords Go.Proofs.YtbckpgipehjgmaaGreatW.PrintLast Go.Proofs.YtbckpgipehjgmaaGreatW.PrintMore
attribute [local go_sem] max2_int min2_int max_two min_two max_three min_three max_four min_four   -- for this text's walks alone
set_option linter.unusedVariables false
set_option linter.unusedSimpArgs false

/-! ### spec_l4Some: function 17 -/
def spec_l4Some.f (k : Nat) (s0_0 : List Int) (s0_1 : Int) : Option ((List (S33)) × Int) := (spec_l4List.f k s0_0 s0_1 3).bind fun bt295 => ((spec_StmtsOk.f k bt295.1).bind fun t299 => (if t299 = true then (some (bt295.1, bt295.2)) else ((spec_l4Count.f k s0_0 bt295.2).bind fun bt300 => (some ((([(⟨bt300.1, (⟨bt300.2.1, bt300.2.2.1⟩ : S28), (⟨bt300.2.2.2.1, bt300.2.2.2.2.1, (⟨bt300.2.2.2.2.2.1, bt300.2.2.2.2.2.2.1⟩ : S28), bt300.2.2.2.2.2.2.2.1⟩ : S31), bt300.2.2.2.2.2.2.2.2.1, bt300.2.2.2.2.2.2.2.2.2.1⟩ : S33)] : List (S33))), bt300.2.2.2.2.2.2.2.2.2.2)))))
set_option maxHeartbeats 8000000 in
set_option maxRecDepth 100000 in
theorem spec_l4Some.calls (k : Nat) (g : Nat) (s0_0 : List Int) (s0_1 : Int) (r1 : List (S33)) (r2 : Int) (w0 w : World) (hI : IsS53 w0 w g s0_0 s0_1) (hB : Below w0.heap.size w0 w) (h : spec_l4Some.f k s0_0 s0_1 = some (r1, r2)) :
  Calls Tryz.prog 17 #[.pointer (some ⟨g, 0, none⟩)] w fun e w' => ∃ v0_ : Value, e = .returned (v0_) ∧ Kd.N k33 33 w' w.heap.size (fun k_ => (w.heap.size ≤ k_)) v0_ r1 ∧ IsS53 w0 w' g s0_0 r2 ∧ Below w0.heap.size w0 w' ∧ KeepBut w w' g none := by
 have HI0 := z0 hI
 have HK := z0 (KeepBut.refl w g none)
 have HL := z0 hB.size
 clear hI
 have HW0 := z0 hB.size
 have HB := z0 hB
 clear hB
 have H : ((spec_l4List.f k s0_0 s0_1 3).bind fun bt295 => ((spec_StmtsOk.f k bt295.1).bind fun t299 => (if t299 = true then (some (bt295.1, bt295.2)) else ((spec_l4Count.f k s0_0 bt295.2).bind fun bt300 => (some ((([(⟨bt300.1, (⟨bt300.2.1, bt300.2.2.1⟩ : S28), (⟨bt300.2.2.2.1, bt300.2.2.2.2.1, (⟨bt300.2.2.2.2.2.1, bt300.2.2.2.2.2.2.1⟩ : S28), bt300.2.2.2.2.2.2.2.1⟩ : S31), bt300.2.2.2.2.2.2.2.2.1, bt300.2.2.2.2.2.2.2.2.2.1⟩ : S33)] : List (S33))), bt300.2.2.2.2.2.2.2.2.2.2)))))) = some (r1, r2) := h
 clear h
 replace H := Option.bind_eq_some_iff.mp H
 obtain ⟨⟨t295, t298⟩, A20, H⟩ := H
 try dsimp only at H
 have A2 := z0 A20
 clear A20
 replace H := Option.bind_eq_some_iff.mp H
 obtain ⟨t299, A30, H⟩ := H
 try dsimp only at H
 have A3 := z0 A30
 clear A30
 have HF4 := z0 H
 clear H
 go_enter Tryz.func17, Tryz.ntmps17
 go_upto_if 8 with (first | ((with_reducible refine gate_callee (f := 31) rfl ?_); refine goesL_ (some 5) rfl rfl Tryz.func31 (by kernel_rfl) rfl #[.pointer (some ⟨g, 0, none⟩), .int .i64 3] rfl argx ?_; (with_reducible refine (spec_l4List.calls k g s0_0 s0_1 3 t295 t298 w0 _ ?side1 ?side2 A2.out).mono ?_); (case side1 => exact mI53_1 HI0.out); (case side2 => exact mB53HI0 HB.out); rintro e w5 ⟨v296, rfl, ho0, hi, hb, hk⟩; refine ⟨_, rfl, ?_⟩; have n_ := az (Kd.N_lower (Kd.N_mono (ok' := fun k_ => (w.heap.size ≤ k_) ∧ k_ ≠ g) ho0 (fun k_ hk_ => ⟨(Nat.le_trans (kS HK.out) hk_), (IsS53.fresh (mI53_1 HI0.out) k_ hk_)⟩)) (kS HK.out)) <| az (KeepBut.trans (mKp HK.out) hk (.inl rfl)) <| az (hb) <| z0 (hi); clear HK HB HI0; obtain ⟨HO297, HK, HB, HI0⟩ := n_; clear hb hk hi ho0; obtain ⟨Ao6, co6, eo6⟩ := Kd.N_slice HO297.out; subst eo6) | ((with_reducible refine gate_callee (f := 7) rfl ?_); refine goesL_ (some 7) rfl rfl Tryz.func7 (by kernel_rfl) rfl #[.slice Ao6 t295.length co6] rfl argx ?_; (with_reducible refine (spec_StmtsOk.calls k _ _ t295 t299 _ ?side1 ?side2 A3.out).mono ?_); (case side1 => exact mC (Kd.N_reads' HO297.out).2.2); (case side2 => exact (Kd.N_reads' HO297.out).2.1); rintro e w7 ⟨rfl, hb⟩; refine ⟨_, rfl, ?_⟩; have n_ := az (Kd.N_below (mN HO297.out) hb) <| az (IsS53.below (mI53_1 HI0.out) hb) <| az (KeepBut.trans (mKp HK.out) (KeepBut.of_below hb g none) (.inl rfl)) <| z0 (below_step (mB53HI0 HB.out) hb); clear HO297 HI0 HK HB; obtain ⟨HO297, HI0, HK, HB⟩ := n_; clear hb))
 (try simp only [Act.put, List.setIfInBounds_toArray, List.set_cons_zero, List.set_cons_succ])
 have H := HF4.out
 clear HF4
 skip
 by_cases c8 : t299 = true
 ·subst c8
  have H1 : (some (t295, t298)) = some (r1, r2) := by rw [if_pos rfl] at H; exact H
  clear H
  have H := H1
  clear H1
  simp only [Option.some.injEq, Prod.mk.injEq] at H
  obtain ⟨rfl, rfl⟩ := H
  go_wp2
  go_ret
  exact ⟨_, rfx, by (with_reducible repeat (first | apply Kd.N_alloc | apply Kd.N_drewN | apply Kd.N_drew)); exact Kd.N_mono HO297.out (fun _ hk => hk.1), mI53_1 HI0.out, mB53HI0 HB.out, mKp HK.out⟩
 ·replace c8 := Bool.eq_false_iff.mpr c8
  subst c8
  have H1 : ((spec_l4Count.f k s0_0 t298).bind fun bt300 => (some ((([(⟨bt300.1, (⟨bt300.2.1, bt300.2.2.1⟩ : S28), (⟨bt300.2.2.2.1, bt300.2.2.2.2.1, (⟨bt300.2.2.2.2.2.1, bt300.2.2.2.2.2.2.1⟩ : S28), bt300.2.2.2.2.2.2.2.1⟩ : S31), bt300.2.2.2.2.2.2.2.2.1, bt300.2.2.2.2.2.2.2.2.2.1⟩ : S33)] : List (S33))), bt300.2.2.2.2.2.2.2.2.2.2))) = some (r1, r2) := by rw [if_neg (show ¬ (false = true) by decide)] at H; exact H
  clear H
  have H := H1
  clear H1
  replace H := Option.bind_eq_some_iff.mp H
  obtain ⟨⟨t300, t301, t302, t303, t304, t305, t306, t307, t310, t313, t316⟩, A90, H⟩ := H
  try dsimp only at H
  have A9 := z0 A90
  clear A90
  obtain ⟨y317, hy317⟩ : ∃ y_ : List (S33), y_ = (([(⟨t300, (⟨t301, t302⟩ : S28), (⟨t303, t304, (⟨t305, t306⟩ : S28), t307⟩ : S31), t310, t313⟩ : S33)] : List (S33))) := ⟨_, rfl⟩
  replace H : (some (y317, t316)) = some (r1, r2) := by first | (rw [hy317]; with_reducible exact H) | (have H2_ := (Option.bind_some _ _).symm.trans H; rw [hy317]; with_reducible exact H2_) | (have H2_ := (Option.bind_some _ _).symm.trans H; with_reducible exact H2_) | with_reducible exact H | (rw [hy317]; exact H) | exact H
  have Ny317 := z0 hy317
  clear hy317
  simp only [Option.some.injEq, Prod.mk.injEq] at H
  obtain ⟨rfl, rfl⟩ := H
  go_wp2_with (first | ((with_reducible refine gate_callee (f := 32) rfl ?_); refine goesL_ (some 10) rfl rfl Tryz.func32 (by kernel_rfl) rfl #[.pointer (some ⟨g, 0, none⟩)] rfl argx ?_; (with_reducible refine (spec_l4Count.calls k g s0_0 t298 t300 t301 t302 t303 t304 t305 t306 t307 t310 t313 t316 w0 _ ?side1 ?side2 A9.out).mono ?_); (case side1 => exact mI53_1 HI0.out); (case side2 => exact mB53HI0 HB.out); rintro e w10 ⟨v308, v311, v314, rfl, ho0, ho1, ho2, hi, hb, hk⟩; refine ⟨_, rfl, ?_⟩; have n_ := az (Kd.N_mono (Kd.N_told (Kd.N_told (Kd.N_told (Kd.N_oldK (Kd.N_mono (ok := fun k_ => (((w.heap.size ≤ k_)) ∧ k_ ≠ g)) (mN HO297.out) (fun k_ hk_ => (⟨hk_, hk_.2⟩ : _ ∧ k_ ≠ g))) hk) (by first | exact Kd.N_base ho0 | exact Kd.R_base ho0)) (by first | exact Kd.N_base ho1 | exact Kd.R_base ho1)) (by first | exact Kd.N_base ho2 | exact Kd.R_base ho2)) (fun _ h_ => h_.1)) <| az (Kd.N_lower (Kd.N_mono (ok' := fun k_ => (w.heap.size ≤ k_) ∧ nB k_ v311 ∧ nB k_ v314 ∧ nB k_ (.slice Ao6 t295.length co6) ∧ k_ ≠ g) ho0 (fun k_ hk_ => ⟨(Nat.le_trans (kS HK.out) hk_.1), hk_.2.1, hk_.2.2, (Kd.fresh' (Kd.N_lt (mN HO297.out)) k_ hk_.1), (IsS53.fresh (mI53_1 HI0.out) k_ hk_.1)⟩)) (kS HK.out)) <| az (Kd.N_lower (Kd.N_mono (ok' := fun k_ => (w.heap.size ≤ k_) ∧ nB k_ v308 ∧ nB k_ v314 ∧ nB k_ (.slice Ao6 t295.length co6) ∧ k_ ≠ g) ho1 (fun k_ hk_ => ⟨(Nat.le_trans (kS HK.out) hk_.1), hk_.2.1, hk_.2.2, (Kd.fresh' (Kd.N_lt (mN HO297.out)) k_ hk_.1), (IsS53.fresh (mI53_1 HI0.out) k_ hk_.1)⟩)) (kS HK.out)) <| az (Kd.N_lower (Kd.N_mono (ok' := fun k_ => (w.heap.size ≤ k_) ∧ nB k_ v308 ∧ nB k_ v311 ∧ nB k_ (.slice Ao6 t295.length co6) ∧ k_ ≠ g) ho2 (fun k_ hk_ => ⟨(Nat.le_trans (kS HK.out) hk_.1), hk_.2.1, hk_.2.2, (Kd.fresh' (Kd.N_lt (mN HO297.out)) k_ hk_.1), (IsS53.fresh (mI53_1 HI0.out) k_ hk_.1)⟩)) (kS HK.out)) <| az (KeepBut.trans (mKp HK.out) hk (.inl rfl)) <| az (hb) <| z0 (hi); clear HO297 HK HB HI0; obtain ⟨HO297, HO309, HO312, HO315, HK, HB, HI0⟩ := n_; clear hb hk hi ho0; (try clear ho1); (try clear ho2); obtain ⟨Ao11, co11, eo11⟩ := Kd.N_slice HO309.out; subst eo11; obtain ⟨Ao12, co12, eo12⟩ := Kd.N_slice HO312.out; subst eo12; obtain ⟨Ao13, co13, eo13⟩ := Kd.N_slice HO315.out; subst eo13) | ((with_reducible refine gate_dst (N := 11) rfl ?_); refine Kd.N_lit k33 _ 33 ?hg (N' := 11) ?hd (xs := ([(⟨t300, (⟨t301, t302⟩ : S28), (⟨t303, t304, (⟨t305, t306⟩ : S28), t307⟩ : S31), t310, t313⟩ : S33)] : List (S33))) (inner := [.int .i64 t300, .int .i64 t301, .int .i64 t302, .int .i64 t303, .int .i64 t304, .int .i64 t305, .int .i64 t306, .slice Ao11 t307.length co11, .slice Ao12 t310.length co12, .slice Ao13 t313.length co13]) (ok := (fun k_ => (w.heap.size ≤ k_) ∧ nB k_ (.slice Ao6 t295.length co6) ∧ k_ ≠ g)) (okp := (fun k_ => (w.heap.size ≤ k_) ∧ nB k_ (.slice Ao6 t295.length co6) ∧ k_ ≠ g)) ?hr ?hp (fun _ hk => hk) ((show ∀ k_, w10.heap.size ≤ k_ → (fun k_ => (w.heap.size ≤ k_) ∧ nB k_ (.slice Ao6 t295.length co6) ∧ k_ ≠ g) k_ from fun k_ hk => ⟨(Nat.le_trans (kS HK.out) hk), Kd.fresh' (Kd.N_lt (mN HO297.out)) k_ hk, IsS53.fresh (mI53_1 HI0.out) k_ hk⟩) _ (Nat.le_refl _)) (Below.refl _ _) (Nat.le_refl _) (by simp) ?_; (case hd => rfl); (case hg => rfl); (case hr => first | (go_simp; done) | (go_simp; rfl)); (case hp => exact (Reps.c10 (show Kd.FK k33 _ _ (⟨t300, (⟨t301, t302⟩ : S28), (⟨t303, t304, (⟨t305, t306⟩ : S28), t307⟩ : S31), t310, t313⟩ : S33) [.int .i64 t300, .int .i64 t301, .int .i64 t302, .int .i64 t303, .int .i64 t304, .int .i64 t305, .int .i64 t306, .slice Ao11 t307.length co11, .slice Ao12 t310.length co12, .slice Ao13 t313.length co13] from (k33_mkF _ _ (⟨t300, (⟨t301, t302⟩ : S28), (⟨t303, t304, (⟨t305, t306⟩ : S28), t307⟩ : S31), t310, t313⟩ : S33) (Kd.N_reads' (Kd.N_mono (ok' := (fun k_ => (w.heap.size ≤ k_) ∧ nB k_ (.slice Ao6 t295.length co6) ∧ k_ ≠ g)) (HO309.out) (fun k_ hk => ⟨hk.1, ⟨hk.2.2.2.1, hk.2.2.2.2⟩⟩))).2.1 (Kd.N_F (Kd.N_mono (ok' := (fun k_ => (w.heap.size ≤ k_) ∧ nB k_ (.slice Ao6 t295.length co6) ∧ k_ ≠ g)) (HO309.out) (fun k_ hk => ⟨hk.1, ⟨hk.2.2.2.1, hk.2.2.2.2⟩⟩))) (Kd.N_reads' (Kd.N_mono (ok' := (fun k_ => (w.heap.size ≤ k_) ∧ nB k_ (.slice Ao6 t295.length co6) ∧ k_ ≠ g)) (HO312.out) (fun k_ hk => ⟨hk.1, ⟨hk.2.2.2.1, hk.2.2.2.2⟩⟩))).2.1 (Kd.N_F (Kd.N_mono (ok' := (fun k_ => (w.heap.size ≤ k_) ∧ nB k_ (.slice Ao6 t295.length co6) ∧ k_ ≠ g)) (HO312.out) (fun k_ hk => ⟨hk.1, ⟨hk.2.2.2.1, hk.2.2.2.2⟩⟩))) (Kd.N_reads' (Kd.N_mono (ok' := (fun k_ => (w.heap.size ≤ k_) ∧ nB k_ (.slice Ao6 t295.length co6) ∧ k_ ≠ g)) (HO315.out) (fun k_ hk => ⟨hk.1, ⟨hk.2.2.2.1, hk.2.2.2.2⟩⟩))).2.1 (Kd.N_F (Kd.N_mono (ok' := (fun k_ => (w.heap.size ≤ k_) ∧ nB k_ (.slice Ao6 t295.length co6) ∧ k_ ≠ g)) (HO315.out) (fun k_ hk => ⟨hk.1, ⟨hk.2.2.2.1, hk.2.2.2.2⟩⟩))))) (Reps.none _ _))); intro v318 w14 ho15 hb hg_ hnew_; clear hg_ hnew_; (first | rw [← Ny317.out] at ho15 | (simp only [Int.reduceToNat] at ho15; rw [← Ny317.out] at ho15)); have n_ := az (Kd.N_elder' (mN HO297.out) (by first | exact Kd.N_base ho15 | exact Kd.R_base ho15) hb) <| az (Kd.N_lower ho15 (kS HK.out)) <| az (IsS53.below (mI53_1 HI0.out) hb) <| az (KeepBut.trans (mKp HK.out) (KeepBut.of_below hb g none) (.inl rfl)) <| z0 (below_step (mB53HI0 HB.out) hb); clear HO297 HI0 HK HB HO309 HO312 HO315; obtain ⟨HO297, HO319, HI0, HK, HB⟩ := n_; clear hb ho15))
  go_ret
  exact ⟨_, rfx, by (with_reducible repeat (first | apply Kd.N_alloc | apply Kd.N_drewN | apply Kd.N_drew)); exact Kd.N_mono HO319.out (fun _ hk => hk.1), mI53_1 HI0.out, mB53HI0 HB.out, mKp HK.out⟩

/-! ### spec_l2AddrBent: function 20 -/
def spec_l2AddrBent.f (k : Nat) (s0_0 : List Int) (s0_1 : Int) : Option (Int × Int × Int) := (spec_l2Addr.f k s0_0 s0_1).bind fun bt321 => ((spec_l12Rd_pick.f k s0_0 bt321.2.2 16).bind fun bt325 => (if bt325.1 = 0 then ((spec_l12Rd_num.f k s0_0 bt325.2 (([0, 4, (-1)] : List Int))).bind fun bt330 => (some (bt330.1, bt321.2.1, bt330.2))) else (if bt325.1 = 1 then ((spec_l12Rd_num.f k s0_0 bt325.2 (([(-1), 6, 5] : List Int))).bind fun bt335 => (some (bt321.1, bt335.1, bt335.2))) else (some (bt321.1, bt321.2.1, bt325.2)))))
set_option maxHeartbeats 8000000 in
set_option maxRecDepth 100000 in
theorem spec_l2AddrBent.calls (k : Nat) (g : Nat) (s0_0 : List Int) (s0_1 : Int) (r1 : Int) (r2 : Int) (r3 : Int) (w0 w : World) (hI : IsS53 w0 w g s0_0 s0_1) (hB : Below w0.heap.size w0 w) (h : spec_l2AddrBent.f k s0_0 s0_1 = some (r1, r2, r3)) :
  Calls Tryz.prog 20 #[.pointer (some ⟨g, 0, none⟩)] w fun e w' => e = .returned (.agg #[.int .i64 r1, .int .i64 r2]) ∧ IsS53 w0 w' g s0_0 r3 ∧ Below w0.heap.size w0 w' ∧ KeepBut w w' g none := by
 have hu28 := Tryz.underlying28
 have HI0 := z0 hI
 have HK := z0 (KeepBut.refl w g none)
 have HL := z0 hB.size
 clear hI
 have HW0 := z0 hB.size
 have HB := z0 hB
 clear hB
 have H : ((spec_l2Addr.f k s0_0 s0_1).bind fun bt321 => ((spec_l12Rd_pick.f k s0_0 bt321.2.2 16).bind fun bt325 => (if bt325.1 = 0 then ((spec_l12Rd_num.f k s0_0 bt325.2 (([0, 4, (-1)] : List Int))).bind fun bt330 => (some (bt330.1, bt321.2.1, bt330.2))) else (if bt325.1 = 1 then ((spec_l12Rd_num.f k s0_0 bt325.2 (([(-1), 6, 5] : List Int))).bind fun bt335 => (some (bt321.1, bt335.1, bt335.2))) else (some (bt321.1, bt321.2.1, bt325.2)))))) = some (r1, r2, r3) := h
 clear h
 replace H := Option.bind_eq_some_iff.mp H
 obtain ⟨⟨t321, t322, t323⟩, A20, H⟩ := H
 try dsimp only at H
 have A2 := z0 A20
 clear A20
 replace H := Option.bind_eq_some_iff.mp H
 obtain ⟨⟨t325, t326⟩, A30, H⟩ := H
 try dsimp only at H
 have A3 := z0 A30
 clear A30
 have HF4 := z0 H
 clear H
 go_enter Tryz.func20, Tryz.ntmps20
 go_upto_if 8 with (first | ((with_reducible refine gate_dst (N := 2) rfl ?_); refine box_event ?hg (N := 2) ?hd (cs := #[.int .i64 0, .int .i64 0]) (t := 28) ?hr ?_; (case hd => rfl); (case hg => rfl); (case hr => first | (go_simp; done) | (go_simp; rfl)); intro gb320 hg w5 hbox hb; have n_ := az (IsS53.below (mI53_1 HI0.out) hb) <| az (KeepBut.trans (mKp HK.out) (KeepBut.of_below hb g none) (.inl rfl)) <| az (below_step (mB53HI0 HB.out) hb) <| az (hbox) <| az ((gW hg HK.out)) <| az ((Nat.le_trans HW0.out (gW hg HK.out) : w0.heap.size ≤ gb320)) <| az ((by rw [hg]; exact Nat.ne_of_lt (IsS53.lt (show IsS53 w0 _ g s0_0 s0_1 from mI53_1 HI0.out)) : g ≠ gb320)) <| z0 ((by rw [hg]; exact Nat.ne_of_gt (IsS53.lt (show IsS53 w0 _ g s0_0 s0_1 from mI53_1 HI0.out)) : gb320 ≠ g)); clear HI0 HK HB; obtain ⟨HI0, HK, HB, BK320, GW320, GE320, NB0_320, NB320_0⟩ := n_; clear hb hbox hg) | ((with_reducible refine gate_callee (f := 33) rfl ?_); refine goesL_ (some 5) rfl rfl Tryz.func33 (by kernel_rfl) rfl #[.pointer (some ⟨g, 0, none⟩)] rfl argx ?_; (with_reducible refine (spec_l2Addr.calls k g s0_0 s0_1 t321 t322 t323 w0 _ ?side1 ?side2 A2.out).mono ?_); (case side1 => exact mI53_1 HI0.out); (case side2 => exact mB53HI0 HB.out); rintro e w6 ⟨rfl, hi, hb, hk⟩; refine ⟨_, rfl, ?_⟩; have n_ := az (kB hk BK320.out NB320_0.out) <| az (KeepBut.trans (mKp HK.out) hk (.inl rfl)) <| az (hb) <| z0 (hi); clear BK320 HK HB HI0; obtain ⟨BK320, HK, HB, HI0⟩ := n_; clear hb hk hi) | ((with_reducible refine gate_dst (N := 3) rfl ?_); refine box_event ?hg (N := 3) ?hd (cs := #[.int .i64 0, .int .i64 0]) (t := 28) ?hr ?_; (case hd => rfl); (case hg => rfl); (case hr => first | (go_simp; done) | (go_simp; rfl)); intro gb324 hg w7 hbox hb; have n_ := az (IsS53.below (mI53_1 HI0.out) hb) <| az (bB BK320.out hb) <| az (KeepBut.trans (mKp HK.out) (KeepBut.of_below hb g none) (.inl rfl)) <| az (below_step (mB53HI0 HB.out) hb) <| az (hbox) <| az ((gW hg HK.out)) <| az ((Nat.le_trans HW0.out (gW hg HK.out) : w0.heap.size ≤ gb324)) <| az ((nL hg BK320.out)) <| az ((nG hg BK320.out)) <| az ((by rw [hg]; exact Nat.ne_of_lt (IsS53.lt (show IsS53 w0 _ g s0_0 t323 from mI53_1 HI0.out)) : g ≠ gb324)) <| z0 ((by rw [hg]; exact Nat.ne_of_gt (IsS53.lt (show IsS53 w0 _ g s0_0 t323 from mI53_1 HI0.out)) : gb324 ≠ g)); clear HI0 BK320 HK HB; obtain ⟨HI0, BK320, HK, HB, BK324, GW324, GE324, NB320_324, NB324_320, NB0_324, NB324_0⟩ := n_; clear hb hbox hg; have hnb8 := NB324_320.out; have hnc8 := NB320_324.out; have hnb9 := NB324_0.out; have hnc9 := NB0_324.out; obtain ⟨hcz10_0, hcz10_1, hfz10_0, hfz10_1⟩ := cel2 BK324.out) | ((with_reducible refine gate_callee (f := 18) rfl ?_); refine goesL_ (some 7) rfl rfl Tryz.func18 (by kernel_rfl) rfl #[.pointer (some ⟨g, 0, none⟩), .int .i64 16] rfl argx ?_; (with_reducible refine (spec_l12Rd_pick.calls k g s0_0 t323 16 t325 t326 w0 _ ?side1 ?side2 A3.out).mono ?_); (case side1 => exact mI53_1 HI0.out); (case side2 => exact mB53HI0 HB.out); rintro e w11 ⟨rfl, hi, hb, hk⟩; refine ⟨_, rfl, ?_⟩; have n_ := az (KeepBut.blk hk (g' := gb320) (o := .cells #[.int .i64 0, .int .i64 0] 28 (0, 0)) (mF BK320.out) NB320_0.out (by simp)) <| az (KeepBut.blk hk (g' := gb324) (o := .cells #[.int .i64 t321, .int .i64 t322] 28 (0, 0)) (by (with_reducible repeat (first | refine blk_drewN ?_ _ | refine blk_drew ?_ | refine blk_alloc ?_ _)); refine blk_put (cs := #[.int .i64 t321, .int .i64 0]) ?_ 1 _ rfl; (with_reducible repeat (first | refine blk_drewN ?_ _ | refine blk_drew ?_ | refine blk_alloc ?_ _)); refine blk_put (cs := #[.int .i64 0, .int .i64 0]) ?_ 0 _ rfl; (with_reducible repeat (first | refine blk_drewN ?_ _ | refine blk_drew ?_ | refine blk_alloc ?_ _)); exact BK324.out) NB324_0.out (by simp)) <| az (KeepBut.trans (mKp HK.out) hk (.inl rfl)) <| az (hb) <| z0 (hi); clear BK320 BK324 HK HB HI0; obtain ⟨BK320, BK324, HK, HB, HI0⟩ := n_; clear hb hk hi))
 (try simp only [Act.put, List.setIfInBounds_toArray, List.set_cons_zero, List.set_cons_succ])
 have H := HF4.out
 clear HF4
 (try clear hcz10_0); (try clear hcz10_1); (try clear hfz10_0); (try clear hfz10_1)
 by_cases c12 : t325 = 0
 ·rw [if_pos c12] at H
  have c12b0 : (t325 == 0) = true := beq_iff_eq.mpr c12
  have c12b1 : (t325 != 0) = false := bne_eq_false_iff_eq.mpr c12
  clear c12
  (first | rw [c12b0] | (simp only [i64_w, i32_w]; rw [c12b0]) | skip)
  obtain ⟨y327, hy327⟩ : ∃ y_ : List Int, y_ = (([0, 4, (-1)] : List Int)) := ⟨_, rfl⟩
  replace H : ((spec_l12Rd_num.f k s0_0 t326 y327).bind fun bt330 => (some (bt330.1, t322, bt330.2))) = some (r1, r2, r3) := by first | (rw [hy327]; with_reducible exact H) | (have H2_ := (Option.bind_some _ _).symm.trans H; rw [hy327]; with_reducible exact H2_) | (have H2_ := (Option.bind_some _ _).symm.trans H; with_reducible exact H2_) | with_reducible exact H | (rw [hy327]; exact H) | exact H
  have Ny327 := z0 hy327
  clear hy327
  replace H := Option.bind_eq_some_iff.mp H
  obtain ⟨⟨t330, t331⟩, A130, H⟩ := H
  try dsimp only at H
  have A13 := z0 A130
  clear A130
  simp only [Option.some.injEq, Prod.mk.injEq] at H
  obtain ⟨rfl, rfl, rfl⟩ := H
  go_wp2_with (first | ((with_reducible refine gate_dst (N := 11) rfl ?_); refine Kd.R_lit (Kd.int .i64) _ 3 ?hg (N := 11) ?hd (xs := ([0, 4, (-1)] : List Int)) (inner := [.int .i64 0, .int .i64 4, .int .i64 (-1)]) (ok := fun _ => True) (okp := fun _ => True) ?hr ?hp (fun _ hk => hk) trivial (Below.refl _ _) (Nat.le_refl _) (by simp) ?_; (case hd => rfl); (case hg => rfl); (case hr => first | (go_simp; done) | (go_simp; rfl)); (case hp => exact (Reps.one (show Kd.M (Kd.int .i64) _ _ _ 0 [.int .i64 0] from rfl) (Reps.one (show Kd.M (Kd.int .i64) _ _ _ 4 [.int .i64 4] from rfl) (Reps.one (show Kd.M (Kd.int .i64) _ _ _ (-1) [.int .i64 (-1)] from rfl) (Reps.none _ _))))); intro v328 w14 ho15 hb hg_ hnew_; clear hg_ hnew_; (first | rw [← Ny327.out] at ho15 | (simp only [Int.reduceToNat] at ho15; rw [← Ny327.out] at ho15)); have n_ := az (Kd.R_lower ho15 (kS HK.out)) <| az (IsS53.below (mI53_1 HI0.out) hb) <| az (bB BK320.out hb) <| az (bB BK324.out hb) <| az (KeepBut.trans (mKp HK.out) (KeepBut.of_below hb g none) (.inl rfl)) <| z0 (below_step (mB53HI0 HB.out) hb); clear HI0 BK320 BK324 HK HB; obtain ⟨HO329, HI0, BK320, BK324, HK, HB⟩ := n_; clear hb ho15; obtain ⟨Ao16, co16, eo16⟩ := Kd.R_slice HO329.out; subst eo16) | ((with_reducible refine gate_callee (f := 19) rfl ?_); refine goesL_ (some 12) rfl rfl Tryz.func19 (by kernel_rfl) rfl #[.pointer (some ⟨g, 0, none⟩), .slice Ao16 y327.length co16] rfl argx ?_; (with_reducible refine (spec_l12Rd_num.calls k g s0_0 t326 _ _ y327 t330 t331 w0 _ ?side1 ?side2 ?side3 ?side4 ?side5 A13.out).mono ?_); (case side1 => exact mI53_1 HI0.out); (case side2 => exact mB53HI0 HB.out); (case side3 => exact mC (Kd.R_reads' HO329.out).2.2); (case side4 => exact (Kd.R_reads' HO329.out).2.1); (case side5 => exact far_slice (IsS53.own_ne HI0.out HO329.out (by decide))); rintro e w17 ⟨rfl, hi, hb, hk⟩; refine ⟨_, rfl, ?_⟩; have n_ := az (kB hk BK320.out NB320_0.out) <| az (kB hk BK324.out NB324_0.out) <| az (Kd.R_mono (Kd.R_keep (IsS53.apart (show IsS53 w0 _ g s0_0 t326 from mI53_1 HI0.out) (mR HO329.out) (by decide)) hk (fun _ h => h.2)) (fun _ h => h.1)) <| az (KeepBut.trans (mKp HK.out) hk (.inl rfl)) <| az (hb) <| z0 (hi); clear BK320 BK324 HO329 HK HB HI0; obtain ⟨BK320, BK324, HO329, HK, HB, HI0⟩ := n_; clear hb hk hi; have hnb18 := NB324_320.out; have hnc18 := NB320_324.out; have hnb19 := NB324_0.out; have hnc19 := NB0_324.out; obtain ⟨hcz20_0, hcz20_1, hfz20_0, hfz20_1⟩ := cel2 BK324.out; have hnb21 := NB320_0.out; have hnc21 := NB0_320.out; obtain ⟨hcz22_0, hcz22_1, hfz22_0, hfz22_1⟩ := cel2 BK320.out))
  refine bodyPost_ret (results_cell_row rfl _ _ gb320 28 #[.int .i64 t330, .int .i64 t322] (0, 0) _ rfl (by (with_reducible repeat (first | refine blk_drewN ?_ _ | refine blk_drew ?_ | refine blk_alloc ?_ _)); refine blk_put (cs := #[.int .i64 t330, .int .i64 0]) ?_ 1 _ rfl; (with_reducible repeat (first | refine blk_drewN ?_ _ | refine blk_drew ?_ | refine blk_alloc ?_ _)); refine blk_put (cs := #[.int .i64 0, .int .i64 0]) ?_ 0 _ rfl; (with_reducible repeat (first | refine blk_drewN ?_ _ | refine blk_drew ?_ | refine blk_alloc ?_ _)); refine blk_far ?_ NB320_324.out _; (with_reducible repeat (first | refine blk_drewN ?_ _ | refine blk_drew ?_ | refine blk_alloc ?_ _)); exact BK320.out) Tryz.underlying28 rfl (by kernel_rfl)) rfl ?_
  exact ⟨rfx, mI53_1 HI0.out, mB53HI0 HB.out, mKp HK.out⟩
 ·rw [if_neg c12] at H
  have c12b0 : (t325 == 0) = false := beq_eq_false_iff_ne.mpr c12
  have c12b1 : (t325 != 0) = true := bne_iff_ne.mpr c12
  (first | rw [c12b0] | (simp only [i64_w, i32_w]; rw [c12b0]) | skip)
  by_cases c23 : t325 = 1
  ·rw [if_pos c23] at H
   have c23b0 : (t325 == 1) = true := beq_iff_eq.mpr c23
   have c23b1 : (t325 != 1) = false := bne_eq_false_iff_eq.mpr c23
   clear c23
   obtain ⟨y332, hy332⟩ : ∃ y_ : List Int, y_ = (([(-1), 6, 5] : List Int)) := ⟨_, rfl⟩
   replace H : ((spec_l12Rd_num.f k s0_0 t326 y332).bind fun bt335 => (some (t321, bt335.1, bt335.2))) = some (r1, r2, r3) := by first | (rw [hy332]; with_reducible exact H) | (have H2_ := (Option.bind_some _ _).symm.trans H; rw [hy332]; with_reducible exact H2_) | (have H2_ := (Option.bind_some _ _).symm.trans H; with_reducible exact H2_) | with_reducible exact H | (rw [hy332]; exact H) | exact H
   have Ny332 := z0 hy332
   clear hy332
   replace H := Option.bind_eq_some_iff.mp H
   obtain ⟨⟨t335, t336⟩, A240, H⟩ := H
   try dsimp only at H
   have A24 := z0 A240
   clear A240
   simp only [Option.some.injEq, Prod.mk.injEq] at H
   obtain ⟨rfl, rfl, rfl⟩ := H
   go_wp2_with (first | ((with_reducible refine gate_dst (N := 17) rfl ?_); refine Kd.R_lit (Kd.int .i64) _ 3 ?hg (N := 17) ?hd (xs := ([(-1), 6, 5] : List Int)) (inner := [.int .i64 (-1), .int .i64 6, .int .i64 5]) (ok := fun _ => True) (okp := fun _ => True) ?hr ?hp (fun _ hk => hk) trivial (Below.refl _ _) (Nat.le_refl _) (by simp) ?_; (case hd => rfl); (case hg => rfl); (case hr => first | (go_simp; done) | (go_simp; rfl)); (case hp => exact (Reps.one (show Kd.M (Kd.int .i64) _ _ _ (-1) [.int .i64 (-1)] from rfl) (Reps.one (show Kd.M (Kd.int .i64) _ _ _ 6 [.int .i64 6] from rfl) (Reps.one (show Kd.M (Kd.int .i64) _ _ _ 5 [.int .i64 5] from rfl) (Reps.none _ _))))); intro v333 w25 ho26 hb hg_ hnew_; clear hg_ hnew_; (first | rw [← Ny332.out] at ho26 | (simp only [Int.reduceToNat] at ho26; rw [← Ny332.out] at ho26)); have n_ := az (Kd.R_lower ho26 (kS HK.out)) <| az (IsS53.below (mI53_1 HI0.out) hb) <| az (bB BK320.out hb) <| az (bB BK324.out hb) <| az (KeepBut.trans (mKp HK.out) (KeepBut.of_below hb g none) (.inl rfl)) <| z0 (below_step (mB53HI0 HB.out) hb); clear HI0 BK320 BK324 HK HB; obtain ⟨HO334, HI0, BK320, BK324, HK, HB⟩ := n_; clear hb ho26; obtain ⟨Ao27, co27, eo27⟩ := Kd.R_slice HO334.out; subst eo27) | ((with_reducible refine gate_callee (f := 19) rfl ?_); refine goesL_ (some 18) rfl rfl Tryz.func19 (by kernel_rfl) rfl #[.pointer (some ⟨g, 0, none⟩), .slice Ao27 y332.length co27] rfl argx ?_; (with_reducible refine (spec_l12Rd_num.calls k g s0_0 t326 _ _ y332 t335 t336 w0 _ ?side1 ?side2 ?side3 ?side4 ?side5 A24.out).mono ?_); (case side1 => exact mI53_1 HI0.out); (case side2 => exact mB53HI0 HB.out); (case side3 => exact mC (Kd.R_reads' HO334.out).2.2); (case side4 => exact (Kd.R_reads' HO334.out).2.1); (case side5 => exact far_slice (IsS53.own_ne HI0.out HO334.out (by decide))); rintro e w28 ⟨rfl, hi, hb, hk⟩; refine ⟨_, rfl, ?_⟩; have n_ := az (kB hk BK320.out NB320_0.out) <| az (kB hk BK324.out NB324_0.out) <| az (Kd.R_mono (Kd.R_keep (IsS53.apart (show IsS53 w0 _ g s0_0 t326 from mI53_1 HI0.out) (mR HO334.out) (by decide)) hk (fun _ h => h.2)) (fun _ h => h.1)) <| az (KeepBut.trans (mKp HK.out) hk (.inl rfl)) <| az (hb) <| z0 (hi); clear BK320 BK324 HO334 HK HB HI0; obtain ⟨BK320, BK324, HO334, HK, HB, HI0⟩ := n_; clear hb hk hi; have hnb29 := NB324_320.out; have hnc29 := NB320_324.out; have hnb30 := NB324_0.out; have hnc30 := NB0_324.out; obtain ⟨hcz31_0, hcz31_1, hfz31_0, hfz31_1⟩ := cel2 BK324.out; have hnb32 := NB320_0.out; have hnc32 := NB0_320.out; obtain ⟨hcz33_0, hcz33_1, hfz33_0, hfz33_1⟩ := cel2 BK320.out))
   refine bodyPost_ret (results_cell_row rfl _ _ gb320 28 #[.int .i64 t321, .int .i64 t335] (0, 0) _ rfl (by (with_reducible repeat (first | refine blk_drewN ?_ _ | refine blk_drew ?_ | refine blk_alloc ?_ _)); refine blk_put (cs := #[.int .i64 t321, .int .i64 0]) ?_ 1 _ rfl; (with_reducible repeat (first | refine blk_drewN ?_ _ | refine blk_drew ?_ | refine blk_alloc ?_ _)); refine blk_put (cs := #[.int .i64 0, .int .i64 0]) ?_ 0 _ rfl; (with_reducible repeat (first | refine blk_drewN ?_ _ | refine blk_drew ?_ | refine blk_alloc ?_ _)); refine blk_far ?_ NB320_324.out _; (with_reducible repeat (first | refine blk_drewN ?_ _ | refine blk_drew ?_ | refine blk_alloc ?_ _)); exact BK320.out) Tryz.underlying28 rfl (by kernel_rfl)) rfl ?_
   exact ⟨rfx, mI53_1 HI0.out, mB53HI0 HB.out, mKp HK.out⟩
  ·rw [if_neg c23] at H
   have c23b0 : (t325 == 1) = false := beq_eq_false_iff_ne.mpr c23
   have c23b1 : (t325 != 1) = true := bne_iff_ne.mpr c23
   simp only [Option.some.injEq, Prod.mk.injEq] at H
   obtain ⟨rfl, rfl, rfl⟩ := H
   have hnb34 := NB324_320.out
   have hnc34 := NB320_324.out
   have hnb35 := NB324_0.out
   have hnc35 := NB0_324.out
   obtain ⟨hcz36_0, hcz36_1, hfz36_0, hfz36_1⟩ := cel2 BK324.out
   have hnb37 := NB320_0.out
   have hnc37 := NB0_320.out
   obtain ⟨hcz38_0, hcz38_1, hfz38_0, hfz38_1⟩ := cel2 BK320.out
   go_wp2
   refine bodyPost_ret (results_cell_row rfl _ _ gb320 28 #[.int .i64 t321, .int .i64 t322] (0, 0) _ rfl (pF BK320.out) Tryz.underlying28 rfl (by kernel_rfl)) rfl ?_
   exact ⟨rfx, mI53_1 HI0.out, mB53HI0 HB.out, mKp HK.out⟩

/-! ### spec_l3Some: function 34 -/
def spec_l3Some.f (k : Nat) (s0_0 : List Int) (s0_1 : Int) : Option (Int × Int × Int × Int × (List (S31)) × Int) := (spec_l12Rd_pick.f k s0_0 s0_1 4).bind fun bt338 => ((spec_l3Expr.f k s0_0 bt338.2 (wrap64 (1 + bt338.1))).bind fun bt340 => ((spec_ExprOk.f k bt340.1 bt340.2.1 bt340.2.2.1 bt340.2.2.2.1 bt340.2.2.2.2.1).bind fun t349 => (if t349 = true then (some (bt340.1, bt340.2.1, bt340.2.2.1, bt340.2.2.2.1, bt340.2.2.2.2.1, bt340.2.2.2.2.2)) else ((spec_l3Expr.f k s0_0 bt340.2.2.2.2.2 2).bind fun bt350 => (some (bt350.1, bt350.2.1, bt350.2.2.1, bt350.2.2.2.1, bt350.2.2.2.2.1, bt350.2.2.2.2.2))))))
theorem spec_l3Some.mono : ∀ a0 a1 k, LeO (spec_l3Some.f k a0 a1) (spec_l3Some.f (k + 1) a0 a1) := by
 intro a0 a1 k
 unfold spec_l3Some.f
 repeat' first
   | (with_reducible exact spec_ExprOk.mono _ _ _ _ _ _)
   | (with_reducible exact spec_l12Rd_pick.mono _ _ _ _)
   | (with_reducible exact spec_l3Expr.mono _ _ _ _)
   | (with_reducible exact LeO.refl _)
   | (with_reducible exact LeO.none _)
   | (with_reducible refine LeO.ite ?_ ?_)
   | (with_reducible refine LeO.bind ?_ (fun _ => ?_))
   | exact spec_ExprOk.mono _ _ _ _ _ _
   | exact spec_l12Rd_pick.mono _ _ _ _
   | exact spec_l3Expr.mono _ _ _ _
   | exact LeO.none _
   | refine LeO.ite ?_ ?_
   | refine LeO.bind ?_ (fun _ => ?_)
theorem q34_1 {p : Prop} (h : p := by (with_reducible repeat (first | apply Kd.R_alloc | apply Kd.R_drewN | apply Kd.R_drew)); exact (Kd.R_mono (Kd.R_far (p := ⟨gb348, 4, none⟩) (Kd.R_far (p := ⟨gb348, 3, none⟩) (Kd.R_far (p := ⟨gb348, 2, none⟩) (Kd.R_far (p := ⟨gb348, 1, none⟩) (Kd.R_far (p := ⟨gb348, 0, none⟩) (Kd.R_mono HO346.out (fun k_ hk => (⟨hk, hk.2⟩ : _ ∧ k_ ≠ gb348))) (fun _ hk => hk.2) (.int .i64 t340)) (fun _ hk => hk.2) (.int .i64 t341)) (fun _ hk => hk.2) (.int .i64 t342)) (fun _ hk => hk.2) (.int .i64 t343)) (fun _ hk => hk.2) (.slice Ao13 t344.length co13)) (fun _ h_ => h_.1))) : p := h
set_option maxHeartbeats 8000000 in
set_option maxRecDepth 100000 in
theorem spec_l3Some.calls (k : Nat) (g : Nat) (s0_0 : List Int) (s0_1 : Int) (r1 : Int) (r2 : Int) (r3 : Int) (r4 : Int) (r5 : List (S31)) (r6 : Int) (w0 w : World) (hI : IsS53 w0 w g s0_0 s0_1) (hB : Below w0.heap.size w0 w) (h : spec_l3Some.f k s0_0 s0_1 = some (r1, r2, r3, r4, r5, r6)) :
  Calls Tryz.prog 34 #[.pointer (some ⟨g, 0, none⟩)] w fun e w' => ∃ v4_ : Value, e = .returned (.agg #[.int .i64 r1, .int .i64 r2, .int .i64 r3, .int .i64 r4, v4_]) ∧ Kd.R k31 31 w' w.heap.size (fun _ => True) v4_ r5 ∧ IsS53 w0 w' g s0_0 r6 ∧ Below w0.heap.size w0 w' ∧ KeepBut w w' g none := by
 have hu31 := Tryz.underlying31
 have HI0 := z0 hI
 have HK := z0 (KeepBut.refl w g none)
 have HL := z0 hB.size
 clear hI
 have HW0 := z0 hB.size
 have HB := z0 hB
 clear hB
 have H : ((spec_l12Rd_pick.f k s0_0 s0_1 4).bind fun bt338 => ((spec_l3Expr.f k s0_0 bt338.2 (wrap64 (1 + bt338.1))).bind fun bt340 => ((spec_ExprOk.f k bt340.1 bt340.2.1 bt340.2.2.1 bt340.2.2.2.1 bt340.2.2.2.2.1).bind fun t349 => (if t349 = true then (some (bt340.1, bt340.2.1, bt340.2.2.1, bt340.2.2.2.1, bt340.2.2.2.2.1, bt340.2.2.2.2.2)) else ((spec_l3Expr.f k s0_0 bt340.2.2.2.2.2 2).bind fun bt350 => (some (bt350.1, bt350.2.1, bt350.2.2.1, bt350.2.2.2.1, bt350.2.2.2.2.1, bt350.2.2.2.2.2))))))) = some (r1, r2, r3, r4, r5, r6) := h
 clear h
 replace H := Option.bind_eq_some_iff.mp H
 obtain ⟨⟨t338, t339⟩, A20, H⟩ := H
 try dsimp only at H
 have A2 := z0 A20
 clear A20
 replace H := Option.bind_eq_some_iff.mp H
 obtain ⟨⟨t340, t341, t342, t343, t344, t347⟩, A30, H⟩ := H
 try dsimp only at H
 have A3 := z0 A30
 clear A30
 replace H := Option.bind_eq_some_iff.mp H
 obtain ⟨t349, A40, H⟩ := H
 try dsimp only at H
 have A4 := z0 A40
 clear A40
 have HF5 := z0 H
 clear H
 go_enter Tryz.func34, Tryz.ntmps34
 go_upto_if 11 with (first | ((with_reducible refine gate_dst (N := 2) rfl ?_); refine box_event ?hg (N := 2) ?hd (cs := #[.int .i64 0, .int .i64 0, .int .i64 0, .int .i64 0, .slice none 0 0]) (t := 31) ?hr ?_; (case hd => rfl); (case hg => rfl); (case hr => first | (go_simp; done) | (go_simp; rfl)); intro gb337 hg w6 hbox hb; have n_ := az (IsS53.below (mI53_1 HI0.out) hb) <| az (KeepBut.trans (mKp HK.out) (KeepBut.of_below hb g none) (.inl rfl)) <| az (below_step (mB53HI0 HB.out) hb) <| az (hbox) <| az ((gW hg HK.out)) <| az ((Nat.le_trans HW0.out (gW hg HK.out) : w0.heap.size ≤ gb337)) <| az ((by rw [hg]; exact Nat.ne_of_lt (IsS53.lt (show IsS53 w0 _ g s0_0 s0_1 from mI53_1 HI0.out)) : g ≠ gb337)) <| z0 ((by rw [hg]; exact Nat.ne_of_gt (IsS53.lt (show IsS53 w0 _ g s0_0 s0_1 from mI53_1 HI0.out)) : gb337 ≠ g)); clear HI0 HK HB; obtain ⟨HI0, HK, HB, BK337, GW337, GE337, NB0_337, NB337_0⟩ := n_; clear hb hbox hg) | ((with_reducible refine gate_callee (f := 18) rfl ?_); refine goesL_ (some 6) rfl rfl Tryz.func18 (by kernel_rfl) rfl #[.pointer (some ⟨g, 0, none⟩), .int .i64 4] rfl argx ?_; (with_reducible refine (spec_l12Rd_pick.calls k g s0_0 s0_1 4 t338 t339 w0 _ ?side1 ?side2 A2.out).mono ?_); (case side1 => exact mI53_1 HI0.out); (case side2 => exact mB53HI0 HB.out); rintro e w7 ⟨rfl, hi, hb, hk⟩; refine ⟨_, rfl, ?_⟩; have n_ := az (kB hk BK337.out NB337_0.out) <| az (KeepBut.trans (mKp HK.out) hk (.inl rfl)) <| az (hb) <| z0 (hi); clear BK337 HK HB HI0; obtain ⟨BK337, HK, HB, HI0⟩ := n_; clear hb hk hi) | ((with_reducible refine gate_callee (f := 22) rfl ?_); refine goesL_ (some 8) rfl rfl Tryz.func22 (by kernel_rfl) rfl #[.pointer (some ⟨g, 0, none⟩), .int .i64 (wrap64 (1 + t338))] rfl argx ?_; (with_reducible refine (spec_l3Expr.calls k g s0_0 t339 (wrap64 (1 + t338)) t340 t341 t342 t343 t344 t347 w0 _ ?side1 ?side2 A3.out).mono ?_); (case side1 => exact mI53_1 HI0.out); (case side2 => exact mB53HI0 HB.out); rintro e w8 ⟨v345, rfl, ho0, hi, hb, hk⟩; refine ⟨_, rfl, ?_⟩; have n_ := az (kB hk BK337.out NB337_0.out) <| az (Kd.R_lower (Kd.R_newB ho0 (g := gb337) (o := .cells #[.int .i64 0, .int .i64 0, .int .i64 0, .int .i64 0, .slice none 0 0] 31 (0, 0)) (mK BK337.out)) (kS HK.out)) <| az (KeepBut.trans (mKp HK.out) hk (.inl rfl)) <| az (hb) <| z0 (hi); clear BK337 HK HB HI0; obtain ⟨BK337, HO346, HK, HB, HI0⟩ := n_; clear hb hk hi ho0) | ((with_reducible refine gate_dst (N := 3) rfl ?_); refine box_event ?hg (N := 3) ?hd (cs := #[.int .i64 0, .int .i64 0, .int .i64 0, .int .i64 0, .slice none 0 0]) (t := 31) ?hr ?_; (case hd => rfl); (case hg => rfl); (case hr => first | (go_simp; done) | (go_simp; rfl)); intro gb348 hg w9 hbox hb; have n_ := az (Kd.R_below (Kd.R_elderB (mR HO346.out) gb348 (Nat.le_of_eq hg.symm)) hb) <| az (IsS53.below (mI53_1 HI0.out) hb) <| az (bB BK337.out hb) <| az (KeepBut.trans (mKp HK.out) (KeepBut.of_below hb g none) (.inl rfl)) <| az (below_step (mB53HI0 HB.out) hb) <| az (hbox) <| az ((gW hg HK.out)) <| az ((Nat.le_trans HW0.out (gW hg HK.out) : w0.heap.size ≤ gb348)) <| az ((nL hg BK337.out)) <| az ((nG hg BK337.out)) <| az ((by rw [hg]; exact Nat.ne_of_lt (IsS53.lt (show IsS53 w0 _ g s0_0 t347 from mI53_1 HI0.out)) : g ≠ gb348)) <| z0 ((by rw [hg]; exact Nat.ne_of_gt (IsS53.lt (show IsS53 w0 _ g s0_0 t347 from mI53_1 HI0.out)) : gb348 ≠ g)); clear HO346 HI0 BK337 HK HB; obtain ⟨HO346, HI0, BK337, HK, HB, BK348, GW348, GE348, NB337_348, NB348_337, NB0_348, NB348_0⟩ := n_; clear hb hbox hg; have hnb10 := NB348_337.out; have hnc10 := NB337_348.out; have hnb11 := NB348_0.out; have hnc11 := NB0_348.out; obtain ⟨hcz12_0, hcz12_1, hcz12_2, hcz12_3, hcz12_4, hfz12_0, hfz12_1, hfz12_2, hfz12_3, hfz12_4⟩ := cel5 BK348.out; obtain ⟨Ao13, co13, eo13⟩ := Kd.R_slice HO346.out; subst eo13) | ((with_reducible refine gate_callee (f := 27) rfl ?_); refine goesL_ (some 10) rfl rfl Tryz.func27 (by kernel_rfl) rfl #[.agg #[.int .i64 t340, .int .i64 t341, .int .i64 t342, .int .i64 t343, .slice Ao13 t344.length co13]] rfl argx ?_; (with_reducible refine (spec_ExprOk.calls k t340 t341 t342 t343 _ _ t344 t349 _ ?side1 ?side2 A4.out).mono ?_); (case side1 => refine (Kd.R_reads' (e := 31) (base := w.heap.size) (ok := fun k_ => ((True ∧ k_ ≠ gb337) ∧ k_ ≠ gb348)) (n := t344.length) (c := co13) ?_).2.2; exact q34_1); (case side2 => exact (Kd.R_reads' HO346.out).2.1); rintro e w14 ⟨rfl, hb⟩; refine ⟨_, rfl, ?_⟩; have n_ := az (Kd.R_below q34_1 hb) <| az (IsS53.below (show IsS53 w0 (((((w9.setCell ⟨gb348, 0, none⟩ (.int .i64 t340)).setCell ⟨gb348, 1, none⟩ (.int .i64 t341)).setCell ⟨gb348, 2, none⟩ (.int .i64 t342)).setCell ⟨gb348, 3, none⟩ (.int .i64 t343)).setCell ⟨gb348, 4, none⟩ (.slice Ao13 t344.length co13)) g s0_0 t347 from mI53_1 HI0.out) hb) <| az (blk_below (g := gb337) (o := .cells #[.int .i64 0, .int .i64 0, .int .i64 0, .int .i64 0, .slice none 0 0] 31 (0, 0)) (mF BK337.out) hb) <| az (blk_below (g := gb348) (o := .cells #[.int .i64 t340, .int .i64 t341, .int .i64 t342, .int .i64 t343, .slice Ao13 t344.length co13] 31 (0, 0)) (by (with_reducible repeat (first | refine blk_drewN ?_ _ | refine blk_drew ?_ | refine blk_alloc ?_ _)); refine blk_put (cs := #[.int .i64 t340, .int .i64 t341, .int .i64 t342, .int .i64 t343, .slice none 0 0]) ?_ 4 _ rfl; (with_reducible repeat (first | refine blk_drewN ?_ _ | refine blk_drew ?_ | refine blk_alloc ?_ _)); refine blk_put (cs := #[.int .i64 t340, .int .i64 t341, .int .i64 t342, .int .i64 0, .slice none 0 0]) ?_ 3 _ rfl; (with_reducible repeat (first | refine blk_drewN ?_ _ | refine blk_drew ?_ | refine blk_alloc ?_ _)); refine blk_put (cs := #[.int .i64 t340, .int .i64 t341, .int .i64 0, .int .i64 0, .slice none 0 0]) ?_ 2 _ rfl; (with_reducible repeat (first | refine blk_drewN ?_ _ | refine blk_drew ?_ | refine blk_alloc ?_ _)); refine blk_put (cs := #[.int .i64 t340, .int .i64 0, .int .i64 0, .int .i64 0, .slice none 0 0]) ?_ 1 _ rfl; (with_reducible repeat (first | refine blk_drewN ?_ _ | refine blk_drew ?_ | refine blk_alloc ?_ _)); refine blk_put (cs := #[.int .i64 0, .int .i64 0, .int .i64 0, .int .i64 0, .slice none 0 0]) ?_ 0 _ rfl; (with_reducible repeat (first | refine blk_drewN ?_ _ | refine blk_drew ?_ | refine blk_alloc ?_ _)); exact BK348.out) hb) <| az (KeepBut.trans (mKp HK.out) (KeepBut.of_below hb g none) (.inl rfl)) <| z0 (below_step (mB53HI0 HB.out) hb); clear HO346 HI0 BK337 BK348 HK HB; obtain ⟨HO346, HI0, BK337, BK348, HK, HB⟩ := n_; clear hb))
 (try simp only [Act.put, List.setIfInBounds_toArray, List.set_cons_zero, List.set_cons_succ])
 have H := HF5.out
 clear HF5
 (try clear hcz12_0); (try clear hcz12_1); (try clear hcz12_2); (try clear hcz12_3); (try clear hcz12_4); (try clear hfz12_0); (try clear hfz12_1); (try clear hfz12_2); (try clear hfz12_3); (try clear hfz12_4)
 by_cases c15 : t349 = true
 ·subst c15
  have H1 : (some (t340, t341, t342, t343, t344, t347)) = some (r1, r2, r3, r4, r5, r6) := by rw [if_pos rfl] at H; exact H
  clear H
  have H := H1
  clear H1
  simp only [Option.some.injEq, Prod.mk.injEq] at H
  obtain ⟨rfl, rfl, rfl, rfl, rfl, rfl⟩ := H
  have hnb16 := NB348_337.out
  have hnc16 := NB337_348.out
  have hnb17 := NB348_0.out
  have hnc17 := NB0_348.out
  obtain ⟨hcz18_0, hcz18_1, hcz18_2, hcz18_3, hcz18_4, hfz18_0, hfz18_1, hfz18_2, hfz18_3, hfz18_4⟩ := cel5 BK348.out
  have hnb19 := NB337_0.out
  have hnc19 := NB0_337.out
  obtain ⟨hcz20_0, hcz20_1, hcz20_2, hcz20_3, hcz20_4, hfz20_0, hfz20_1, hfz20_2, hfz20_3, hfz20_4⟩ := cel5 BK337.out
  go_wp2
  refine bodyPost_ret (results_cell_row rfl _ _ gb337 31 #[.int .i64 t340, .int .i64 t341, .int .i64 t342, .int .i64 t343, .slice Ao13 t344.length co13] (0, 0) _ rfl (pF BK337.out) Tryz.underlying31 rfl (by kernel_rfl)) rfl ?_
  exact ⟨_, rfx, by (with_reducible repeat (first | apply Kd.R_alloc | apply Kd.R_drewN | apply Kd.R_drew)); exact Kd.R_mono (Kd.R_far (p := ⟨gb337, 4, none⟩) (Kd.R_far (p := ⟨gb337, 3, none⟩) (Kd.R_far (p := ⟨gb337, 2, none⟩) (Kd.R_far (p := ⟨gb337, 1, none⟩) (Kd.R_far (p := ⟨gb337, 0, none⟩) (Kd.R_mono HO346.out (fun k_ hk => (⟨hk, hk.1.2⟩ : _ ∧ k_ ≠ gb337))) (fun _ hk => hk.2) (.int .i64 t340)) (fun _ hk => hk.2) (.int .i64 t341)) (fun _ hk => hk.2) (.int .i64 t342)) (fun _ hk => hk.2) (.int .i64 t343)) (fun _ hk => hk.2) (.slice Ao13 t344.length co13)) (fun _ hk => trivial), mI53_1 HI0.out, mB53HI0 HB.out, mKp HK.out⟩
 ·replace c15 := Bool.eq_false_iff.mpr c15
  subst c15
  have H1 : ((spec_l3Expr.f k s0_0 t347 2).bind fun bt350 => (some (bt350.1, bt350.2.1, bt350.2.2.1, bt350.2.2.2.1, bt350.2.2.2.2.1, bt350.2.2.2.2.2))) = some (r1, r2, r3, r4, r5, r6) := by rw [if_neg (show ¬ (false = true) by decide)] at H; exact H
  clear H
  have H := H1
  clear H1
  replace H := Option.bind_eq_some_iff.mp H
  obtain ⟨⟨t350, t351, t352, t353, t354, t357⟩, A210, H⟩ := H
  try dsimp only at H
  have A21 := z0 A210
  clear A210
  simp only [Option.some.injEq, Prod.mk.injEq] at H
  obtain ⟨rfl, rfl, rfl, rfl, rfl, rfl⟩ := H
  go_wp2_with (first | ((with_reducible refine gate_callee (f := 22) rfl ?_); refine goesL_ (some 13) rfl rfl Tryz.func22 (by kernel_rfl) rfl #[.pointer (some ⟨g, 0, none⟩), .int .i64 2] rfl argx ?_; (with_reducible refine (spec_l3Expr.calls k g s0_0 t347 2 t350 t351 t352 t353 t354 t357 w0 _ ?side1 ?side2 A21.out).mono ?_); (case side1 => exact mI53_1 HI0.out); (case side2 => exact mB53HI0 HB.out); rintro e w22 ⟨v355, rfl, ho0, hi, hb, hk⟩; refine ⟨_, rfl, ?_⟩; have n_ := az (kB hk BK337.out NB337_0.out) <| az (Kd.R_mono (Kd.R_told (Kd.R_oldK (IsS53.apart (show IsS53 w0 _ g s0_0 t347 from mI53_1 HI0.out) (mR HO346.out) (by decide)) hk) (by first | exact Kd.R_base ho0 | exact Kd.R_base ho0)) (fun _ h_ => h_.1)) <| az (kB hk BK348.out NB348_0.out) <| az (Kd.R_lower (Kd.R_newB (Kd.R_newB (Kd.R_new' ho0 (Kd.R_lt (mR HO346.out))) (g := gb337) (o := .cells #[.int .i64 0, .int .i64 0, .int .i64 0, .int .i64 0, .slice none 0 0] 31 (0, 0)) (mK BK337.out)) (g := gb348) (o := .cells #[.int .i64 t340, .int .i64 t341, .int .i64 t342, .int .i64 t343, .slice Ao13 t344.length co13] 31 (0, 0)) (mK BK348.out)) (kS HK.out)) <| az (KeepBut.trans (mKp HK.out) hk (.inl rfl)) <| az (hb) <| z0 (hi); clear BK337 HO346 BK348 HK HB HI0; obtain ⟨BK337, HO346, BK348, HO356, HK, HB, HI0⟩ := n_; clear hb hk hi ho0; have hnb23 := NB337_348.out; have hnc23 := NB348_337.out; have hnb24 := NB337_0.out; have hnc24 := NB0_337.out; obtain ⟨hcz25_0, hcz25_1, hcz25_2, hcz25_3, hcz25_4, hfz25_0, hfz25_1, hfz25_2, hfz25_3, hfz25_4⟩ := cel5 BK337.out; obtain ⟨Ao26, co26, eo26⟩ := Kd.R_slice HO356.out; subst eo26))
  refine bodyPost_ret (results_cell_row rfl _ _ gb337 31 #[.int .i64 t350, .int .i64 t351, .int .i64 t352, .int .i64 t353, .slice Ao26 t354.length co26] (0, 0) _ rfl (pF BK337.out) Tryz.underlying31 rfl (by kernel_rfl)) rfl ?_
  exact ⟨_, rfx, by (with_reducible repeat (first | apply Kd.R_alloc | apply Kd.R_drewN | apply Kd.R_drew)); exact Kd.R_mono (Kd.R_far (p := ⟨gb337, 4, none⟩) (Kd.R_far (p := ⟨gb337, 3, none⟩) (Kd.R_far (p := ⟨gb337, 2, none⟩) (Kd.R_far (p := ⟨gb337, 1, none⟩) (Kd.R_far (p := ⟨gb337, 0, none⟩) (Kd.R_mono HO356.out (fun k_ hk => (⟨hk, hk.1.2⟩ : _ ∧ k_ ≠ gb337))) (fun _ hk => hk.2) (.int .i64 t350)) (fun _ hk => hk.2) (.int .i64 t351)) (fun _ hk => hk.2) (.int .i64 t352)) (fun _ hk => hk.2) (.int .i64 t353)) (fun _ hk => hk.2) (.slice Ao26 t354.length co26)) (fun _ hk => trivial), mI53_1 HI0.out, mB53HI0 HB.out, mKp HK.out⟩

/-! ### spec_l3Copy: function 35 -/
mutual
def spec_l3Copy.l0 : Nat → Int → Int → Int → Int → Int → List (S31) → Int → Int → Int → Int → List (S31) → Option (Int × Int × Int × Int × (List (S31)))
 | 0, _, _, _, _, _, _, _, _, _, _, _ => none
 | k + 1, x4, x359000, x359001, x359002, x359003, x359004, x361000, x361001, x361002, x361003, x361004 => if x4 < (x359004.length : Int) then (if 0 ≤ x4 then ((spec_l3Copy.f k ((rd_T31 x359004 x4).f0) ((rd_T31 x359004 x4).f1) ((rd_T31 x359004 x4).f2.f0) ((rd_T31 x359004 x4).f2.f1) ((rd_T31 x359004 x4).f3)).bind fun bt362 => (if x361004.length < 2513169434916 then (spec_l3Copy.l0 k (wrap64 (x4 + 1)) x359000 x359001 x359002 x359003 x359004 x361000 x361001 x361002 x361003 (x361004 ++ [(⟨bt362.1, bt362.2.1, (⟨bt362.2.2.1, bt362.2.2.2.1⟩ : S28), bt362.2.2.2.2⟩ : S31)])) else (none))) else (none)) else (some (x361000, x361001, x361002, x361003, x361004))
def spec_l3Copy.f : Nat → Int → Int → Int → Int → List (S31) → Option (Int × Int × Int × Int × (List (S31)))
 | 0, _, _, _, _, _ => none
 | k + 1, a0_0, a0_1, a0_2, a0_3, l0_4 => spec_l3Copy.l0 k 0 a0_0 a0_1 a0_2 a0_3 l0_4 a0_0 a0_1 a0_2 a0_3 ([] : List (S31))
end
theorem spec_l3Copy.mono_l : ∀ k, (∀ y0 y1 y2 y3 y4, LeO (spec_l3Copy.f k y0 y1 y2 y3 y4) (spec_l3Copy.f (k + 1) y0 y1 y2 y3 y4)) ∧ (∀ y0 y1 y2 y3 y4 y5 y6 y7 y8 y9 y10, LeO (spec_l3Copy.l0 k y0 y1 y2 y3 y4 y5 y6 y7 y8 y9 y10) (spec_l3Copy.l0 (k + 1) y0 y1 y2 y3 y4 y5 y6 y7 y8 y9 y10))
 | 0 => ⟨fun _ _ _ _ _ r h => by simp [spec_l3Copy.f] at h, fun _ _ _ _ _ _ _ _ _ _ _ r h => by simp [spec_l3Copy.l0] at h⟩
 | k + 1 => by
  obtain ⟨ih0, ih1⟩ := spec_l3Copy.mono_l k
  refine ⟨?_, ?_⟩
  ·intro y0 y1 y2 y3 y4
   unfold spec_l3Copy.f
   repeat' first
   | (with_reducible exact ih0 _ _ _ _ _)
   | (with_reducible exact ih1 _ _ _ _ _ _ _ _ _ _ _)
   | (with_reducible exact LeO.refl _)
   | (with_reducible exact LeO.none _)
   | (with_reducible refine LeO.ite ?_ ?_)
   | (with_reducible refine LeO.bind ?_ (fun _ => ?_))
   | exact ih0 _ _ _ _ _
   | exact ih1 _ _ _ _ _ _ _ _ _ _ _
   | exact LeO.none _
   | refine LeO.ite ?_ ?_
   | refine LeO.bind ?_ (fun _ => ?_)
  ·intro y0 y1 y2 y3 y4 y5 y6 y7 y8 y9 y10
   unfold spec_l3Copy.l0
   repeat' first
   | (with_reducible exact ih0 _ _ _ _ _)
   | (with_reducible exact ih1 _ _ _ _ _ _ _ _ _ _ _)
   | (with_reducible exact LeO.refl _)
   | (with_reducible exact LeO.none _)
   | (with_reducible refine LeO.ite ?_ ?_)
   | (with_reducible refine LeO.bind ?_ (fun _ => ?_))
   | exact ih0 _ _ _ _ _
   | exact ih1 _ _ _ _ _ _ _ _ _ _ _
   | exact LeO.none _
   | refine LeO.ite ?_ ?_
   | refine LeO.bind ?_ (fun _ => ?_)
def spec_l3Copy.T5 : Bool × List (List Nat × List Nat) := (true, [([], []), ([0], [0]), ([], []), ([2], [2]), ([], []), ([3, 4], [3, 4]), ([5], [5]), ([6], [6]), ([7], [7]), ([1, 8, 7], [1, 8]), ([0, 1, 2, 3, 4, 5, 6, 7, 8, 9], []), ([10, 9, 9, 0, 1, 2, 3, 4, 5, 6, 7, 8, 9], [9, 10])])
def spec_l3Copy.B5 : List Nat := [0, 1, 0, 4, 0, 28, 60, 124, 252, 511, 1023, 2047]
theorem spec_l3Copy.tab5 : rtab .any (opsOf Tryz.f35 5) = spec_l3Copy.T5 := by kernel_rfl
theorem spec_l3Copy.bits5 : waitsOk spec_l3Copy.T5.2 spec_l3Copy.B5 = true := by kernel_rfl
theorem q35_1 {p : Prop} (h : p := by exact ⟨(blk_cell BK360.out 0).trans rfl, (blk_cell BK360.out 1).trans rfl, (blk_cell BK360.out 2).trans rfl, (blk_cell BK360.out 3).trans rfl, (blk_cell BK360.out 4).trans rfl, (blk_cell BK358.out 0).trans rfl, (blk_cell BK358.out 1).trans rfl, (blk_cell BK358.out 2).trans rfl, (blk_cell BK358.out 3).trans rfl, (blk_cell BK358.out 4).trans rfl, ((HB.out.cell (World.block_lt_of_cell? w _ hw361_0)).trans hw361_0), ((HB.out.cell (World.block_lt_of_cell? w _ hw361_1)).trans hw361_1), ((HB.out.cell (World.block_lt_of_cell? w _ hw361_2)).trans hw361_2), ((HB.out.cell (World.block_lt_of_cell? w _ hw361_3)).trans hw361_3), ((HB.out.cell (World.block_lt_of_cell? w _ hw361_4)).trans hw361_4)⟩) : p := h
set_option maxHeartbeats 8000000 in
set_option maxRecDepth 100000 in
theorem spec_l3Copy.calls (k : Nat) : ∀ (a0_0 : Int) (a0_1 : Int) (a0_2 : Int) (a0_3 : Int) (A0_4 : Option Addr) (c0_4 : Nat) (l0_4 : List (S31)) (r1 : Int) (r2 : Int) (r3 : Int) (r4 : Int) (r5 : List (S31)) (w : World) (hr0_4 : Kd.C k31 w A0_4 l0_4.length l0_4) (hc0_4 : l0_4.length ≤ c0_4) (h : spec_l3Copy.f k a0_0 a0_1 a0_2 a0_3 l0_4 = some (r1, r2, r3, r4, r5)),
  Calls Tryz.prog 35 #[.agg #[.int .i64 a0_0, .int .i64 a0_1, .int .i64 a0_2, .int .i64 a0_3, .slice A0_4 l0_4.length c0_4]] w fun e w' => ∃ v4_ : Value, e = .returned (.agg #[.int .i64 r1, .int .i64 r2, .int .i64 r3, .int .i64 r4, v4_]) ∧ Kd.R k31 31 w' w.heap.size (fun _ => True) v4_ r5 ∧ Below w.heap.size w w' := by
 induction k using Nat.strongRecOn with
 | _ k ih =>
 intro a0_0 a0_1 a0_2 a0_3 A0_4 c0_4 l0_4 r1 r2 r3 r4 r5 w hr0_4 hc0_4 h
 cases k with
 | zero => exact absurd h (by simp [spec_l3Copy.f])
 | succ k =>
 simp only [spec_l3Copy.f] at h
 have hu31 := Tryz.underlying31
 have hu28 := Tryz.underlying28
 have HR0_4 := z0 hr0_4
 have HC0_4 := z0 hc0_4
 clear hr0_4 hc0_4
 have HB := z0 (Below.refl w.heap.size w)
 have H : (spec_l3Copy.l0 k 0 a0_0 a0_1 a0_2 a0_3 l0_4 a0_0 a0_1 a0_2 a0_3 ([] : List (S31))) = some (r1, r2, r3, r4, r5) := h
 clear h
 have H' := z0 H
 clear H
 go_enter Tryz.func35, Tryz.ntmps35
 go_wp2_with (first | ((with_reducible refine gate_dst (N := 1) rfl ?_); refine box_event ?hg (N := 1) ?hd (cs := #[.int .i64 a0_0, .int .i64 a0_1, .int .i64 a0_2, .int .i64 a0_3, .slice A0_4 l0_4.length c0_4]) (t := 31) ?hr ?_; (case hd => rfl); (case hg => rfl); (case hr => first | (go_simp; done) | (go_simp; rfl)); intro gb358 hg w2 hbox hb; have n_ := az (below_step (mB HB.out) hb) <| az (hbox) <| az ((by rw [hg]; exact (below_size (mB HB.out)) : w.heap.size ≤ gb358)) <| z0 ((by rw [hg]; exact (below_size (mB HB.out)) : w.heap.size ≤ gb358)); clear HB; obtain ⟨HB, BK358, GW358, GE358⟩ := n_; clear hb hbox hg) | ((with_reducible refine gate_dst (N := 2) rfl ?_); refine box_event ?hg (N := 2) ?hd (cs := #[.int .i64 0, .int .i64 0, .int .i64 0, .int .i64 0, .slice none 0 0]) (t := 31) ?hr ?_; (case hd => rfl); (case hg => rfl); (case hr => first | (go_simp; done) | (go_simp; rfl)); intro gb359 hg w3 hbox hb; have n_ := az (bB BK358.out hb) <| az (below_step (mB HB.out) hb) <| az (hbox) <| az ((by rw [hg]; exact (below_size (mB HB.out)) : w.heap.size ≤ gb359)) <| az ((by rw [hg]; exact (below_size (mB HB.out)) : w.heap.size ≤ gb359)) <| az ((nL hg BK358.out)) <| z0 ((nG hg BK358.out)); clear BK358 HB; obtain ⟨BK358, HB, BK359, GW359, GE359, NB358_359, NB359_358⟩ := n_; clear hb hbox hg; have hnb4 := NB358_359.out; have hnc4 := NB359_358.out; obtain ⟨hcz5_0, hcz5_1, hcz5_2, hcz5_3, hcz5_4, hfz5_0, hfz5_1, hfz5_2, hfz5_3, hfz5_4⟩ := cel5 BK358.out) | ((with_reducible refine gate_dst (N := 3) rfl ?_); refine box_event ?hg (N := 3) ?hd (cs := #[.int .i64 0, .int .i64 0, .int .i64 0, .int .i64 0, .slice none 0 0]) (t := 31) ?hr ?_; (case hd => rfl); (case hg => rfl); (case hr => first | (go_simp; done) | (go_simp; rfl)); intro gb360 hg w6 hbox hb; have n_ := az (bB BK358.out hb) <| az (bB BK359.out hb) <| az (below_step (mB HB.out) hb) <| az (hbox) <| az ((by rw [hg]; exact (below_size (mB HB.out)) : w.heap.size ≤ gb360)) <| az ((by rw [hg]; exact (below_size (mB HB.out)) : w.heap.size ≤ gb360)) <| az ((nL hg BK358.out)) <| az ((nG hg BK358.out)) <| az ((nL hg BK359.out)) <| z0 ((nG hg BK359.out)); clear BK358 BK359 HB; obtain ⟨BK358, BK359, HB, BK360, GW360, GE360, NB358_360, NB360_358, NB359_360, NB360_359⟩ := n_; clear hb hbox hg; have hnb7 := NB360_358.out; have hnc7 := NB358_360.out; have hnb8 := NB360_359.out; have hnc8 := NB359_360.out; obtain ⟨hcz9_0, hcz9_1, hcz9_2, hcz9_3, hcz9_4, hfz9_0, hfz9_1, hfz9_2, hfz9_3, hfz9_4⟩ := cel5 BK360.out))
 go_loopg [4] k (fun kq v4 w' => ∃ (x4_1 : Int) (x361004_1 : List (S31)) (u361004 : Value), v4 = .int .i64 x4_1 ∧ Aside0 (spec_l3Copy.l0 kq x4_1 a0_0 a0_1 a0_2 a0_3 l0_4 a0_0 a0_1 a0_2 a0_3 x361004_1 = some (r1, r2, r3, r4, r5)) ∧ Aside0 (kq ≤ k) ∧ Aside0 (Kd.R k31 31 w' w.heap.size (fun k_ => k_ ≠ gb358 ∧ k_ ≠ gb359 ∧ k_ ≠ gb360) u361004 x361004_1) ∧ Aside0 (w'.heap[gb358]? = some (.cells #[.int .i64 a0_0, .int .i64 a0_1, .int .i64 a0_2, .int .i64 a0_3, (.slice A0_4 l0_4.length c0_4)] 31 (0, 0))) ∧ Aside0 (w'.heap[gb359]? = some (.cells #[.int .i64 0, .int .i64 0, .int .i64 0, .int .i64 0, (.slice none 0 0)] 31 (0, 0))) ∧ Aside0 (w'.heap[gb360]? = some (.cells #[.int .i64 a0_0, .int .i64 a0_1, .int .i64 a0_2, .int .i64 a0_3, u361004] 31 (0, 0))) ∧ Aside0 (Below w.heap.size w w'))
 case atStart => exact ⟨(0), (([] : List (S31))), (.slice none 0 0), rfy, H', ⟨Nat.le_refl _⟩, ⟨by first | exact Kd.R_nil _ _ _ _ _ | exact Kd.N_nil _ _ _ _ _ | exact Kd.V_nil _ _ _ _ _ | exact Kd.Q_nil _ _ _ _ _ | exact Kd.S_nil _ _ _ _ _⟩, ⟨mF BK358.out⟩, ⟨mF BK359.out⟩, ⟨by (with_reducible repeat (first | refine blk_drewN ?_ _ | refine blk_drew ?_ | refine blk_alloc ?_ _)); refine blk_put (cs := #[.int .i64 a0_0, .int .i64 a0_1, .int .i64 a0_2, .int .i64 a0_3, .slice none 0 0]) ?_ 4 _ rfl; (with_reducible repeat (first | refine blk_drewN ?_ _ | refine blk_drew ?_ | refine blk_alloc ?_ _)); refine blk_put (cs := #[.int .i64 a0_0, .int .i64 a0_1, .int .i64 a0_2, .int .i64 0, .slice none 0 0]) ?_ 3 _ rfl; (with_reducible repeat (first | refine blk_drewN ?_ _ | refine blk_drew ?_ | refine blk_alloc ?_ _)); refine blk_put (cs := #[.int .i64 a0_0, .int .i64 a0_1, .int .i64 0, .int .i64 0, .slice none 0 0]) ?_ 2 _ rfl; (with_reducible repeat (first | refine blk_drewN ?_ _ | refine blk_drew ?_ | refine blk_alloc ?_ _)); refine blk_put (cs := #[.int .i64 a0_0, .int .i64 0, .int .i64 0, .int .i64 0, .slice none 0 0]) ?_ 1 _ rfl; (with_reducible repeat (first | refine blk_drewN ?_ _ | refine blk_drew ?_ | refine blk_alloc ?_ _)); refine blk_put (cs := #[.int .i64 0, .int .i64 0, .int .i64 0, .int .i64 0, .slice none 0 0]) ?_ 0 _ rfl; (with_reducible repeat (first | refine blk_drewN ?_ _ | refine blk_drew ?_ | refine blk_alloc ?_ _)); exact BK360.out⟩, ⟨mB HB.out⟩⟩
 case round =>
  clear H'
  (try clear hcz5_0); (try clear hcz5_1); (try clear hcz5_2); (try clear hcz5_3); (try clear hcz5_4); (try clear hcz9_0); (try clear hcz9_1); (try clear hcz9_2); (try clear hcz9_3); (try clear hcz9_4); (try clear hfz5_0); (try clear hfz5_1); (try clear hfz5_2); (try clear hfz5_3); (try clear hfz5_4); (try clear hfz9_0); (try clear hfz9_1); (try clear hfz9_2); (try clear hfz9_3); (try clear hfz9_4)
  obtain ⟨x4_1, x361004_1, u361004, rfl, HA, HK1, HO_361004, BK358, BK359, BK360, HB⟩ := hrel
  cases gk with
  | zero => exact absurd HA.out (by simp [spec_l3Copy.l0])
  | succ k1 =>
   have H := HA.out
   clear HA
   simp only [spec_l3Copy.l0] at H
   by_cases c10 : x4_1 < (l0_4.length : Int)
   ·rw [if_pos c10] at H
    have c10b0 : decide (x4_1 < (l0_4.length : Int)) = true := decide_eq_true c10
    clear c10
    by_cases c11 : 0 ≤ x4_1
    ·rw [if_pos c11] at H
     have c11b0 : decide (0 ≤ x4_1) = true := decide_eq_true c11
     clear c11
     replace H := Option.bind_eq_some_iff.mp H
     obtain ⟨⟨t362, t363, t364, t365, t366⟩, A120, H⟩ := H
     try dsimp only at H
     have A12 := z0 A120
     clear A120
     by_cases c13 : x361004_1.length < 2513169434916
     ·rw [if_pos c13] at H
      have LMc13 := z0 c13
      clear c13
      obtain ⟨y369, hy369⟩ : ∃ y_ : List (S31), y_ = (x361004_1 ++ [(⟨t362, t363, (⟨t364, t365⟩ : S28), t366⟩ : S31)]) := ⟨_, rfl⟩
      replace H : (spec_l3Copy.l0 k1 (wrap64 (x4_1 + 1)) a0_0 a0_1 a0_2 a0_3 l0_4 a0_0 a0_1 a0_2 a0_3 y369) = some (r1, r2, r3, r4, r5) := by first | (rw [hy369]; with_reducible exact H) | (have H2_ := (Option.bind_some _ _).symm.trans H; rw [hy369]; with_reducible exact H2_) | (have H2_ := (Option.bind_some _ _).symm.trans H; with_reducible exact H2_) | with_reducible exact H | (rw [hy369]; exact H) | exact H
      have Ny369 := z0 hy369
      clear hy369
      have H' := z0 H
      clear H
      have hnb14 := NB358_359.out
      have hnc14 := NB359_358.out
      have hnb15 := NB358_360.out
      have hnc15 := NB360_358.out
      obtain ⟨hcz16_0, hcz16_1, hcz16_2, hcz16_3, hcz16_4, hfz16_0, hfz16_1, hfz16_2, hfz16_3, hfz16_4⟩ := cel5 BK358.out
      try go_wp2
      have n_ := az (Kd.R_drew HO_361004.out) <| az (blk_drew BK358.out) <| az (blk_drew BK359.out) <| az (blk_drew BK360.out) <| z0 (below_drew1 HB.out)
      clear HO_361004 BK358 BK359 BK360 HB
      obtain ⟨HO_361004, BK358, BK359, BK360, HB⟩ := n_
      have p361 : 0 ≤ (x4_1 : Int) := of_decide_eq_true (by first | (with_reducible assumption) | assumption)
      have q361 : x4_1 < (l0_4.length : Int) := of_decide_eq_true (by first | (with_reducible assumption) | assumption)
      obtain ⟨ad361, A361_4, c361_4, e361, hx361_0, hx361_1, hx361_2, hx361_3, hx361_4, hl361_4, hi361_4⟩ := at_T31 HR0_4.out x4_1 p361 q361
      have hw361_4 := hx361_4
      have hw361_3 := hx361_3
      have hw361_2 := hx361_2
      have hw361_1 := hx361_1
      have hw361_0 := hx361_0
      cases e361
      replace hx361_0 := (HB.out.cell (World.block_lt_of_cell? w _ hx361_0)).trans hx361_0
      replace hx361_1 := (HB.out.cell (World.block_lt_of_cell? w _ hx361_1)).trans hx361_1
      replace hx361_2 := (HB.out.cell (World.block_lt_of_cell? w _ hx361_2)).trans hx361_2
      replace hx361_3 := (HB.out.cell (World.block_lt_of_cell? w _ hx361_3)).trans hx361_3
      replace hx361_4 := (HB.out.cell (World.block_lt_of_cell? w _ hx361_4)).trans hx361_4
      have HR361_4 := z0 hi361_4
      have HC361_4 := z0 hl361_4
      clear hi361_4 hl361_4
      replace p361 := eq_true p361
      replace q361 := eq_true q361
      refine start_ (n := 12) (S := fun w' => w'.cell? ⟨gb360, 0, none⟩ = some (.int .i64 a0_0) ∧ w'.cell? ⟨gb360, 1, none⟩ = some (.int .i64 a0_1) ∧ w'.cell? ⟨gb360, 2, none⟩ = some (.int .i64 a0_2) ∧ w'.cell? ⟨gb360, 3, none⟩ = some (.int .i64 a0_3) ∧ w'.cell? ⟨gb360, 4, none⟩ = some (u361004) ∧ w'.cell? ⟨gb358, 0, none⟩ = some (.int .i64 a0_0) ∧ w'.cell? ⟨gb358, 1, none⟩ = some (.int .i64 a0_1) ∧ w'.cell? ⟨gb358, 2, none⟩ = some (.int .i64 a0_2) ∧ w'.cell? ⟨gb358, 3, none⟩ = some (.int .i64 a0_3) ∧ w'.cell? ⟨gb358, 4, none⟩ = some (.slice (some ad361) l0_4.length c0_4) ∧ w'.cell? (ad361.add ((x4_1).toNat * 5)) = some (.int .i64 ((rd_T31 l0_4 x4_1).f0)) ∧ w'.cell? ⟨(ad361.add ((x4_1).toNat * 5)).block, (ad361.add ((x4_1).toNat * 5)).off + 1, none⟩ = some (.int .i64 ((rd_T31 l0_4 x4_1).f1)) ∧ w'.cell? ⟨(ad361.add ((x4_1).toNat * 5)).block, (ad361.add ((x4_1).toNat * 5)).off + 2, none⟩ = some (.int .i64 ((rd_T31 l0_4 x4_1).f2.f0)) ∧ w'.cell? ⟨(ad361.add ((x4_1).toNat * 5)).block, (ad361.add ((x4_1).toNat * 5)).off + 3, none⟩ = some (.int .i64 ((rd_T31 l0_4 x4_1).f2.f1)) ∧ w'.cell? ⟨(ad361.add ((x4_1).toNat * 5)).block, (ad361.add ((x4_1).toNat * 5)).off + 4, none⟩ = some (.slice A361_4 ((rd_T31 l0_4 x4_1).f3).length c361_4)) (ds := [11]) #[false, false, false, false, false, false, false, false, false, false, false, false] (by kernel_rfl) rfl rfl q35_1 (fun hHeld => ?_); refine with_tabW spec_l3Copy.tab5 spec_l3Copy.bits5 (fun HT_ HW_ => ?_)
      generalize wr.drew = w17 at HO_361004 BK358 BK359 BK360 HB HR361_4 hx361_0 hx361_1 hx361_2 hx361_3 hx361_4 hHeld ⊢
      refine pure_ (i := 0) (N := some 19) (v := ?_) (a' := ?_) #[true, false, false, false, false, false, false, false, false, false, false, false] rfl rfl (any_of HT_.out (by kernel_rfl)) (fun _ _ _ h => h) (Or.inl ⟨by rfl, ?_⟩) ?_ ?_
      rotate_left
      ·intro w'
       go_simp
       with_reducible rfl
      rotate_left
      ·simp only [Act.put, List.setIfInBounds_toArray, List.set_cons_zero, List.set_cons_succ, i64_w, i32_w]
       rfl
      refine pure_ (i := 2) (N := some 21) (v := ?_) (a' := ?_) #[true, false, true, false, false, false, false, false, false, false, false, false] rfl rfl (any_of HT_.out (by kernel_rfl)) (fun _ _ _ h => h) (Or.inl ⟨by rfl, ?_⟩) ?_ ?_
      rotate_left
      ·intro w'
       go_simp
       with_reducible rfl
      rotate_left
      ·simp only [Act.put, List.setIfInBounds_toArray, List.set_cons_zero, List.set_cons_succ, i64_w, i32_w]
       rfl
      refine pure_ (i := 4) (N := some 23) (v := ?_) (a' := ?_) #[true, false, true, false, true, false, false, false, false, false, false, false] rfl rfl (any_of HT_.out (by kernel_rfl)) (fun _ _ _ h => h) (Or.inl ⟨by rfl, ?_⟩) ?_ ?_
      rotate_left
      ·intro w'
       go_simp
       with_reducible rfl
      rotate_left
      ·simp only [Act.put, List.setIfInBounds_toArray, List.set_cons_zero, List.set_cons_succ, i64_w, i32_w]
       rfl
      refine take_ (i := 1) (N := some 20) (v := ?_) (a' := ?_) #[true, true, true, false, true, false, false, false, false, false, false, false] rfl rfl (take_ofW HT_.out HW_.out (by kernel_rfl)) (fun _ _ _ h => h) (Or.inl ⟨by rfl, ?_⟩) hHeld ?_ ?_
      rotate_left
      ·rintro w' ⟨s0, s1, s2, s3, s4, s5, s6, s7, s8, s9, s10, s11, s12, s13, s14⟩
       go_simp
       with_reducible rfl
      rotate_left
      ·simp only [Act.put, List.setIfInBounds_toArray, List.set_cons_zero, List.set_cons_succ, i64_w, i32_w]
       rfl
      refine take_ (i := 3) (N := some 22) (v := ?_) (a' := ?_) #[true, true, true, true, true, false, false, false, false, false, false, false] rfl rfl (take_ofW HT_.out HW_.out (by kernel_rfl)) (fun _ _ _ h => h) (Or.inl ⟨by rfl, ?_⟩) hHeld ?_ ?_
      rotate_left
      ·rintro w' ⟨s0, s1, s2, s3, s4, s5, s6, s7, s8, s9, s10, s11, s12, s13, s14⟩
       go_simp
       with_reducible rfl
      rotate_left
      ·simp only [Act.put, List.setIfInBounds_toArray, List.set_cons_zero, List.set_cons_succ, i64_w, i32_w]
       rfl
      refine pure_ (i := 5) (N := some 24) (v := ?_) (a' := ?_) #[true, true, true, true, true, true, false, false, false, false, false, false] rfl rfl (any_of HT_.out (by kernel_rfl)) (fun _ _ _ h => h) (Or.inl ⟨by rfl, ?_⟩) ?_ ?_
      rotate_left
      ·intro w'
       go_simp
       with_reducible rfl
      rotate_left
      ·simp only [Act.put, List.setIfInBounds_toArray, List.set_cons_zero, List.set_cons_succ, i64_w, i32_w]
       rfl
      refine take_ (i := 6) (N := some 25) (v := ?_) (a' := ?_) #[true, true, true, true, true, true, true, false, false, false, false, false] rfl rfl (take_ofW HT_.out HW_.out (by kernel_rfl)) (fun _ _ _ h => h) (Or.inl ⟨by rfl, ?_⟩) hHeld ?_ ?_
      rotate_left
      ·rintro w' ⟨s0, s1, s2, s3, s4, s5, s6, s7, s8, s9, s10, s11, s12, s13, s14⟩
       go_simp
       with_reducible rfl
      rotate_left
      ·simp only [Act.put, List.setIfInBounds_toArray, List.set_cons_zero, List.set_cons_succ, i64_w, i32_w]
       rfl
      refine one_ (i := 7) (N := some 26) #[true, true, true, true, true, true, true, true, false, false, false, false] rfl rfl (one_of HT_.out (by kernel_rfl)) (by decide) (fun K hK => ?_)
      refine goes_ Tryz.func35 (by kernel_rfl) rfl #[.agg #[.int .i64 ((rd_T31 l0_4 x4_1).f0), .int .i64 ((rd_T31 l0_4 x4_1).f1), .int .i64 ((rd_T31 l0_4 x4_1).f2.f0), .int .i64 ((rd_T31 l0_4 x4_1).f2.f1), .slice A361_4 ((rd_T31 l0_4 x4_1).f3).length c361_4]] (by rfl) rfl rfl argx ?_
      with_reducible refine (ih k1 (by have := HK1.out; omega) ((rd_T31 l0_4 x4_1).f0) ((rd_T31 l0_4 x4_1).f1) ((rd_T31 l0_4 x4_1).f2.f0) ((rd_T31 l0_4 x4_1).f2.f1) _ _ ((rd_T31 l0_4 x4_1).f3) t362 t363 t364 t365 t366 _ ?side1 ?side2 A12.out).mono ?_
      (case side1 => exact mC (Kd.C_below HR361_4.out HB.out))
      (case side2 => exact HC361_4.out)
      rintro e w18 ⟨v367, rfl, ho0, hb⟩
      refine ⟨_, rfl, ?_⟩
      have n_ := az (Kd.R_elder' (mR HO_361004.out) (by first | exact Kd.R_base ho0 | exact Kd.R_base ho0) hb) <| And.intro (z0 (Kd.R_lower (Kd.R_newB (Kd.R_newB (Kd.R_newB (Kd.R_new' ho0 (Kd.R_lt (mR HO_361004.out))) (g := gb358) (o := .cells #[.int .i64 a0_0, .int .i64 a0_1, .int .i64 a0_2, .int .i64 a0_3, .slice (some ad361) l0_4.length c0_4] 31 (0, 0)) (mK BK358.out)) (g := gb359) (o := .cells #[.int .i64 0, .int .i64 0, .int .i64 0, .int .i64 0, .slice none 0 0] 31 (0, 0)) (mK BK359.out)) (g := gb360) (o := .cells #[.int .i64 a0_0, .int .i64 a0_1, .int .i64 a0_2, .int .i64 a0_3, u361004] 31 (0, 0)) (mK BK360.out)) (below_size (mB HB.out)))) <| az (bB BK358.out hb) <| az (bB BK359.out hb) <| az (bB BK360.out hb) <| z0 (below_step (mB HB.out) hb)
      clear HO_361004 BK358 BK359 BK360 HB
      obtain ⟨HO_361004, HO368, BK358, BK359, BK360, HB⟩ := n_
      (try clear hb)
      (try clear hb2)
      (try clear hk)
      (try clear hi)
      (try clear ho0)
      obtain ⟨Ao20, co20, eo20⟩ := Kd.R_slice HO368.out
      (first | subst eo20 | (injection eo20 with f1_ f2_ f3_; have f4_ := f1_.symm; have f5_ := f3_.symm; clear f1_ f2_ f3_; subst f4_; subst f5_))
      refine hK.out _ _ q35_1 (fun hHeld => ?_)
      clear hK K
      refine norm_ (a' := ?_) ?_ ?_
      rotate_left
      ·show Act.put _ (some 26) _ = _
       simp only [Act.put, List.setIfInBounds_toArray, List.set_cons_zero, List.set_cons_succ, i64_w, i32_w]
       rfl
      refine one_ (i := 8) (N := some 27) #[true, true, true, true, true, true, true, true, true, false, false, false] rfl rfl (one_of HT_.out (by kernel_rfl)) (by decide) (fun K hK => ?_)
      refine value_ (w1 := ?_) (v := ?_) (by rfl) rfl ?_ ?_
      rotate_left 2
      ·go_simp
       constructor
       ·rfl
       ·rfl
      refine hK.out _ _ ⟨(blk_cell (blk_alloc BK360.out _) 0).trans rfl, (blk_cell (blk_alloc BK360.out _) 1).trans rfl, (blk_cell (blk_alloc BK360.out _) 2).trans rfl, (blk_cell (blk_alloc BK360.out _) 3).trans rfl, (blk_cell (blk_alloc BK360.out _) 4).trans rfl, (blk_cell (blk_alloc BK358.out _) 0).trans rfl, (blk_cell (blk_alloc BK358.out _) 1).trans rfl, (blk_cell (blk_alloc BK358.out _) 2).trans rfl, (blk_cell (blk_alloc BK358.out _) 3).trans rfl, (blk_cell (blk_alloc BK358.out _) 4).trans rfl, (World.cell?_alloc_lt _ _ _ (World.block_lt_of_cell? _ _ (((HB.out.cell (World.block_lt_of_cell? w _ hw361_0)).trans hw361_0)))).trans (((HB.out.cell (World.block_lt_of_cell? w _ hw361_0)).trans hw361_0)), (World.cell?_alloc_lt _ _ _ (World.block_lt_of_cell? _ _ (((HB.out.cell (World.block_lt_of_cell? w _ hw361_1)).trans hw361_1)))).trans (((HB.out.cell (World.block_lt_of_cell? w _ hw361_1)).trans hw361_1)), (World.cell?_alloc_lt _ _ _ (World.block_lt_of_cell? _ _ (((HB.out.cell (World.block_lt_of_cell? w _ hw361_2)).trans hw361_2)))).trans (((HB.out.cell (World.block_lt_of_cell? w _ hw361_2)).trans hw361_2)), (World.cell?_alloc_lt _ _ _ (World.block_lt_of_cell? _ _ (((HB.out.cell (World.block_lt_of_cell? w _ hw361_3)).trans hw361_3)))).trans (((HB.out.cell (World.block_lt_of_cell? w _ hw361_3)).trans hw361_3)), (World.cell?_alloc_lt _ _ _ (World.block_lt_of_cell? _ _ (((HB.out.cell (World.block_lt_of_cell? w _ hw361_4)).trans hw361_4)))).trans (((HB.out.cell (World.block_lt_of_cell? w _ hw361_4)).trans hw361_4))⟩ (fun hHeld => ?_)
      clear hK K
      refine norm_ (a' := ?_) ?_ ?_
      rotate_left
      ·show Act.put _ (some 27) _ = _
       simp only [Act.put, List.setIfInBounds_toArray, List.set_cons_zero, List.set_cons_succ, i64_w, i32_w]
       rfl
      refine one_ (i := 9) (N := some 28) #[true, true, true, true, true, true, true, true, true, true, false, false] rfl rfl (one_of HT_.out (by kernel_rfl)) (by decide) (fun K hK => ?_)
      refine Kd.R_append_step k31 (w0 := w) w.heap.size (by rfl) (.tmp 20) (.tmp 27) 29 31 (.agg #[(.int .i64 0), (.int .i64 0), (.int .i64 0), (.int .i64 0), (.slice none 0 0)]) 56 rfl Tryz.underlying29 info31 rfl (by decide) (by omega) u361004 x361004_1 (⟨t362, t363, (⟨t364, t365⟩ : S28), t366⟩ : S31) [.int .i64 t362, .int .i64 t363, .int .i64 t364, .int .i64 t365, .slice Ao20 t366.length co20] (fun k_ => k_ ≠ gb358 ∧ k_ ≠ gb359 ∧ k_ ≠ gb360) (fun k_ => ((fun k_ => k_ ≠ gb358 ∧ k_ ≠ gb359 ∧ k_ ≠ gb360)) k_ ∧ nB k_ u361004) rfl rfl ?aP (fun _ hk => hk) ?aF ?aO ?aB ?aS ?aL ?_
      (case aP => exact k31_mkM _ _ _ (⟨t362, t363, (⟨t364, t365⟩ : S28), t366⟩ : S31) (Kd.R_mono (HO368.out) (fun k_ hk => ⟨⟨hk.1.1.2, ⟨hk.1.2, hk.2⟩⟩, hk.1.1.1.2⟩)))
      (case aB => exact (mB HB.out))
      (case aF => exact (fun k_ hk => ⟨fB BK358.out hk, fB BK359.out hk, fB BK360.out hk⟩))
      (case aO => exact (by (with_reducible repeat (first | apply Kd.R_alloc | apply Kd.R_drewN | apply Kd.R_drew)); exact Kd.R_mono HO_361004.out (fun _ hk => ⟨hk.1.1, ⟨hk.1.2.1, hk.1.2.2⟩⟩)))
      (case aS => exact (below_size (mB HB.out)))
      (case aL => have := LMc13.out; omega)
      intro v370 w19 ho hb hg hat
      rw [← Ny369.out] at ho
      have n_ := az (blk_grown (g := gb358) (o := .cells #[.int .i64 a0_0, .int .i64 a0_1, .int .i64 a0_2, .int .i64 a0_3, .slice (some ad361) l0_4.length c0_4] 31 (0, 0)) (mK BK358.out) hg (Kd.R_away HO_361004.out (fun _ hk => hk.1.1))) <| az (blk_grown (g := gb359) (o := .cells #[.int .i64 0, .int .i64 0, .int .i64 0, .int .i64 0, .slice none 0 0] 31 (0, 0)) (mK BK359.out) hg (Kd.R_away HO_361004.out (fun _ hk => hk.1.2.1))) <| az (blk_grown (g := gb360) (o := .cells #[.int .i64 a0_0, .int .i64 a0_1, .int .i64 a0_2, .int .i64 a0_3, u361004] 31 (0, 0)) (mK BK360.out) hg (Kd.R_away HO_361004.out (fun _ hk => hk.1.2.2))) <| az (hb) <| z0 (ho)
      clear BK358 BK359 BK360 HB HO_361004 HO368
      obtain ⟨BK358, BK359, BK360, HB, HO371⟩ := n_
      clear ho hb hg hat
      obtain ⟨Ao21, co21, eo21⟩ := Kd.R_slice HO371.out
      (first | subst eo21 | (injection eo21 with f1_ f2_ f3_; have f4_ := f1_.symm; have f5_ := f3_.symm; clear f1_ f2_ f3_; subst f4_; subst f5_))
      refine hK.out _ _ q35_1 (fun hHeld => ?_)
      clear hK K
      refine norm_ (a' := ?_) ?_ ?_
      rotate_left
      ·show Act.put _ (some 28) _ = _
       simp only [Act.put, List.setIfInBounds_toArray, List.set_cons_zero, List.set_cons_succ, i64_w, i32_w]
       rfl
      refine pure_ (i := 10) (N := some 29) (v := ?_) (a' := ?_) #[true, true, true, true, true, true, true, true, true, true, true, false] rfl rfl (any_of HT_.out (by kernel_rfl)) (fun _ _ _ h => h) (Or.inl ⟨by rfl, ?_⟩) ?_ ?_
      rotate_left
      ·intro w'
       go_simp
       with_reducible rfl
      rotate_left
      ·simp only [Act.put, List.setIfInBounds_toArray, List.set_cons_zero, List.set_cons_succ, i64_w, i32_w]
       rfl
      refine last_ (i := 11) (N := none) #[true, true, true, true, true, true, true, true, true, true, true, true] rfl rfl (one_of HT_.out (by kernel_rfl)) (by decide) (fun K hK => ?_)
      have hs22 : w19.cell? ⟨gb360, 4, none⟩ = some (u361004) := (blk_cell BK360.out 4).trans rfl
      have hfs22 := blk_frozen BK360.out 4
      have hns22_0 := NB358_360.out
      have hns22_1 := NB359_360.out
      have hms22_0 := NB360_358.out
      have hms22_1 := NB360_359.out
      refine skip_ (w1 := ?_) (by rfl) rfl ?_ ?_
      rotate_left
      ·go_simp
       rfl
      refine hK.out _ _ ?_
      clear hK K
      refine done_ (done_of HT_.out (by kernel_rfl)) ?_
      try go_wp2
      go_roundg k1
      case measure => have := HK1.out; omega
      case rel => exact ⟨(wrap64 (x4_1 + 1)), (y369), (.slice Ao21 y369.length co21), rfy, H', ⟨by have := HK1.out; omega⟩, ⟨by (with_reducible repeat (first | apply Kd.R_alloc | apply Kd.R_drewN | apply Kd.R_drew)); exact Kd.R_mono (Kd.R_far (p := ⟨gb360, 4, none⟩) (Kd.R_mono HO371.out (fun k_ hk => (⟨hk, hk.2.2⟩ : _ ∧ k_ ≠ gb360))) (fun _ hk => hk.2) (.slice Ao21 y369.length co21)) (fun _ hk => ⟨hk.1.1, ⟨hk.1.2.1, hk.1.2.2⟩⟩)⟩, ⟨mF BK358.out⟩, ⟨mF BK359.out⟩, ⟨by (with_reducible repeat (first | refine blk_drewN ?_ _ | refine blk_drew ?_ | refine blk_alloc ?_ _)); refine blk_put (cs := #[.int .i64 a0_0, .int .i64 a0_1, .int .i64 a0_2, .int .i64 a0_3, u361004]) ?_ 4 _ rfl; (with_reducible repeat (first | refine blk_drewN ?_ _ | refine blk_drew ?_ | refine blk_alloc ?_ _)); exact BK360.out⟩, ⟨mB HB.out⟩⟩
     ·rw [if_neg c13] at H
      exact absurd H (by simp)
    ·rw [if_neg c11] at H
     exact absurd H (by simp)
   ·rw [if_neg c10] at H
    have c10b0 : decide (x4_1 < (l0_4.length : Int)) = false := decide_eq_false c10
    clear c10
    simp only [Option.some.injEq, Prod.mk.injEq] at H
    obtain ⟨rfl, rfl, rfl, rfl, rfl⟩ := H
    have hnb23 := NB358_359.out
    have hnc23 := NB359_358.out
    have hnb24 := NB358_360.out
    have hnc24 := NB360_358.out
    obtain ⟨hcz25_0, hcz25_1, hcz25_2, hcz25_3, hcz25_4, hfz25_0, hfz25_1, hfz25_2, hfz25_3, hfz25_4⟩ := cel5 BK358.out
    have hnb26 := NB360_359.out
    have hnc26 := NB359_360.out
    obtain ⟨hcz27_0, hcz27_1, hcz27_2, hcz27_3, hcz27_4, hfz27_0, hfz27_1, hfz27_2, hfz27_3, hfz27_4⟩ := cel5 BK360.out
    obtain ⟨hcz28_0, hcz28_1, hcz28_2, hcz28_3, hcz28_4, hfz28_0, hfz28_1, hfz28_2, hfz28_3, hfz28_4⟩ := cel5 BK359.out
    obtain ⟨Ao29, co29, eo29⟩ := Kd.R_slice HO_361004.out
    subst eo29
    go_wp2
    refine bodyPost_ret (results_cell_row rfl _ _ gb359 31 #[.int .i64 a0_0, .int .i64 a0_1, .int .i64 a0_2, .int .i64 a0_3, .slice Ao29 x361004_1.length co29] (0, 0) _ rfl (pF BK359.out) Tryz.underlying31 rfl (by kernel_rfl)) rfl ?_
    exact ⟨_, rfx, by (with_reducible repeat (first | apply Kd.R_alloc | apply Kd.R_drewN | apply Kd.R_drew)); exact Kd.R_mono (Kd.R_far (p := ⟨gb359, 4, none⟩) (Kd.R_far (p := ⟨gb359, 3, none⟩) (Kd.R_far (p := ⟨gb359, 2, none⟩) (Kd.R_far (p := ⟨gb359, 1, none⟩) (Kd.R_far (p := ⟨gb359, 0, none⟩) (Kd.R_mono HO_361004.out (fun k_ hk => (⟨hk, hk.2.1⟩ : _ ∧ k_ ≠ gb359))) (fun _ hk => hk.2) (.int .i64 a0_0)) (fun _ hk => hk.2) (.int .i64 a0_1)) (fun _ hk => hk.2) (.int .i64 a0_2)) (fun _ hk => hk.2) (.int .i64 a0_3)) (fun _ hk => hk.2) (.slice Ao29 x361004_1.length co29)) (fun _ hk => trivial), mB HB.out⟩

/-! ### spec_l3Bent: function 21 -/
mutual
def spec_l3Bent.l0 : Nat → Int → List Int → Int → Int → Int → Int → Int → List (S31) → Option (Int × Int × Int × Int × (List (S31)) × Int)
 | 0, _, _, _, _, _, _, _, _ => none
 | k + 1, x4, x1000, x1001, x382000, x382001, x382002, x382003, x382004 => if x4 < 6 then (spec_l3Bent.l0 k (wrap64 (x4 + 1)) x1000 x1001 10 0 0 0 (([(⟨x382000, x382001, (⟨x382002, x382003⟩ : S28), x382004⟩ : S31)] : List (S31)))) else (some (x382000, x382001, x382002, x382003, x382004, x1001))
def spec_l3Bent.l1 : Nat → Int → List Int → Int → Int → Int → Int → Int → List (S31) → Option (Int × Int × Int × Int × (List (S31)) × Int)
 | 0, _, _, _, _, _, _, _, _ => none
 | k + 1, x5, x1000, x1001, x382000, x382001, x382002, x382003, x382004 => if x5 < 4 then ((spec_l3Copy.f k x382000 x382001 x382002 x382003 x382004).bind fun bt400 => (spec_l3Bent.l1 k (wrap64 (x5 + 1)) x1000 x1001 3 0 0 0 (([(⟨x382000, x382001, (⟨x382002, x382003⟩ : S28), x382004⟩ : S31), (⟨bt400.1, bt400.2.1, (⟨bt400.2.2.1, bt400.2.2.2.1⟩ : S28), bt400.2.2.2.2⟩ : S31)] : List (S31))))) else (some (x382000, x382001, x382002, x382003, x382004, x1001))
end
def spec_l3Bent.f (k : Nat) (s0_0 : List Int) (s0_1 : Int) : Option (Int × Int × Int × Int × (List (S31)) × Int) := (spec_l3Some.f k s0_0 s0_1).bind fun bt373 => ((spec_l12Rd_pick.f k s0_0 bt373.2.2.2.2.2 60).bind fun bt382 => (if bt382.1 = 0 then ((spec_l12Rd_num.f k s0_0 bt382.2 (([0, 11, 3, 10] : List Int))).bind fun bt387 => (some (bt387.1, bt373.2.1, bt373.2.2.1, bt373.2.2.2.1, bt373.2.2.2.2.1, bt387.2))) else (if bt382.1 = 1 then ((spec_l12Rd_num.f k s0_0 bt382.2 (([1, 1000001] : List Int))).bind fun bt392 => (some (bt373.1, bt392.1, bt373.2.2.1, bt373.2.2.2.1, bt373.2.2.2.2.1, bt392.2))) else (if bt382.1 = 2 then ((spec_l2AddrBent.f k s0_0 bt382.2).bind fun bt394 => (some (bt373.1, bt373.2.1, bt394.1, bt394.2.1, bt373.2.2.2.2.1, bt394.2.2))) else (if bt382.1 = 3 then (spec_l3Bent.l0 k 0 s0_0 bt382.2 bt373.1 bt373.2.1 bt373.2.2.1 bt373.2.2.2.1 bt373.2.2.2.2.1) else (if bt382.1 = 4 then (spec_l3Bent.l1 k 0 s0_0 bt382.2 bt373.1 bt373.2.1 bt373.2.2.1 bt373.2.2.2.1 bt373.2.2.2.2.1) else (some (bt373.1, bt373.2.1, bt373.2.2.1, bt373.2.2.2.1, bt373.2.2.2.2.1, bt382.2))))))))
set_option maxHeartbeats 8000000 in
set_option maxRecDepth 100000 in
theorem spec_l3Bent.calls (k : Nat) (g : Nat) (s0_0 : List Int) (s0_1 : Int) (r1 : Int) (r2 : Int) (r3 : Int) (r4 : Int) (r5 : List (S31)) (r6 : Int) (w0 w : World) (hI : IsS53 w0 w g s0_0 s0_1) (hB : Below w0.heap.size w0 w) (h : spec_l3Bent.f k s0_0 s0_1 = some (r1, r2, r3, r4, r5, r6)) :
  Calls Tryz.prog 21 #[.pointer (some ⟨g, 0, none⟩)] w fun e w' => ∃ v4_ : Value, e = .returned (.agg #[.int .i64 r1, .int .i64 r2, .int .i64 r3, .int .i64 r4, v4_]) ∧ Kd.N k31 31 w' w.heap.size (fun k_ => (w.heap.size ≤ k_)) v4_ r5 ∧ IsS53 w0 w' g s0_0 r6 ∧ Below w0.heap.size w0 w' ∧ KeepBut w w' g none := by
 have hu31 := Tryz.underlying31
 have hu28 := Tryz.underlying28
 have HI0 := z0 hI
 have HK := z0 (KeepBut.refl w g none)
 have HL := z0 hB.size
 clear hI
 have HW0 := z0 hB.size
 have HB := z0 hB
 clear hB
 have H : ((spec_l3Some.f k s0_0 s0_1).bind fun bt373 => ((spec_l12Rd_pick.f k s0_0 bt373.2.2.2.2.2 60).bind fun bt382 => (if bt382.1 = 0 then ((spec_l12Rd_num.f k s0_0 bt382.2 (([0, 11, 3, 10] : List Int))).bind fun bt387 => (some (bt387.1, bt373.2.1, bt373.2.2.1, bt373.2.2.2.1, bt373.2.2.2.2.1, bt387.2))) else (if bt382.1 = 1 then ((spec_l12Rd_num.f k s0_0 bt382.2 (([1, 1000001] : List Int))).bind fun bt392 => (some (bt373.1, bt392.1, bt373.2.2.1, bt373.2.2.2.1, bt373.2.2.2.2.1, bt392.2))) else (if bt382.1 = 2 then ((spec_l2AddrBent.f k s0_0 bt382.2).bind fun bt394 => (some (bt373.1, bt373.2.1, bt394.1, bt394.2.1, bt373.2.2.2.2.1, bt394.2.2))) else (if bt382.1 = 3 then (spec_l3Bent.l0 k 0 s0_0 bt382.2 bt373.1 bt373.2.1 bt373.2.2.1 bt373.2.2.2.1 bt373.2.2.2.2.1) else (if bt382.1 = 4 then (spec_l3Bent.l1 k 0 s0_0 bt382.2 bt373.1 bt373.2.1 bt373.2.2.1 bt373.2.2.2.1 bt373.2.2.2.2.1) else (some (bt373.1, bt373.2.1, bt373.2.2.1, bt373.2.2.2.1, bt373.2.2.2.2.1, bt382.2))))))))) = some (r1, r2, r3, r4, r5, r6) := h
 clear h
 replace H := Option.bind_eq_some_iff.mp H
 obtain ⟨⟨t373, t374, t375, t376, t377, t380⟩, A20, H⟩ := H
 try dsimp only at H
 have A2 := z0 A20
 clear A20
 replace H := Option.bind_eq_some_iff.mp H
 obtain ⟨⟨t382, t383⟩, A30, H⟩ := H
 try dsimp only at H
 have A3 := z0 A30
 clear A30
 have HF4 := z0 H
 clear H
 go_enter Tryz.func21, Tryz.ntmps21
 go_upto_if 10 with (first | ((with_reducible refine gate_dst (N := 2) rfl ?_); refine box_event ?hg (N := 2) ?hd (cs := #[.int .i64 0, .int .i64 0, .int .i64 0, .int .i64 0, .slice none 0 0]) (t := 31) ?hr ?_; (case hd => rfl); (case hg => rfl); (case hr => first | (go_simp; done) | (go_simp; rfl)); intro gb372 hg w5 hbox hb; have n_ := az (IsS53.below (mI53_1 HI0.out) hb) <| az (KeepBut.trans (mKp HK.out) (KeepBut.of_below hb g none) (.inl rfl)) <| az (below_step (mB53HI0 HB.out) hb) <| az (hbox) <| az ((gW hg HK.out)) <| az ((Nat.le_trans HW0.out (gW hg HK.out) : w0.heap.size ≤ gb372)) <| az ((by rw [hg]; exact Nat.ne_of_lt (IsS53.lt (show IsS53 w0 _ g s0_0 s0_1 from mI53_1 HI0.out)) : g ≠ gb372)) <| z0 ((by rw [hg]; exact Nat.ne_of_gt (IsS53.lt (show IsS53 w0 _ g s0_0 s0_1 from mI53_1 HI0.out)) : gb372 ≠ g)); clear HI0 HK HB; obtain ⟨HI0, HK, HB, BK372, GW372, GE372, NB0_372, NB372_0⟩ := n_; clear hb hbox hg) | ((with_reducible refine gate_callee (f := 34) rfl ?_); refine goesL_ (some 7) rfl rfl Tryz.func34 (by kernel_rfl) rfl #[.pointer (some ⟨g, 0, none⟩)] rfl argx ?_; (with_reducible refine (spec_l3Some.calls k g s0_0 s0_1 t373 t374 t375 t376 t377 t380 w0 _ ?side1 ?side2 A2.out).mono ?_); (case side1 => exact mI53_1 HI0.out); (case side2 => exact mB53HI0 HB.out); rintro e w6 ⟨v378, rfl, ho0, hi, hb, hk⟩; refine ⟨_, rfl, ?_⟩; have n_ := az (kB hk BK372.out NB372_0.out) <| az (Kd.N_lower (Kd.N_mono (ok' := fun k_ => (w.heap.size ≤ k_) ∧ k_ ≠ gb372 ∧ k_ ≠ g) (Kd.R_N (Kd.R_bound ho0)) (fun k_ hk_ => ⟨(Nat.le_trans (kS HK.out) hk_.2.1), (fB BK372.out hk_.2.1), (IsS53.fresh (mI53_1 HI0.out) k_ hk_.2.1)⟩)) (kS HK.out)) <| az (KeepBut.trans (mKp HK.out) hk (.inl rfl)) <| az (hb) <| z0 (hi); clear BK372 HK HB HI0; obtain ⟨BK372, HO379, HK, HB, HI0⟩ := n_; clear hb hk hi ho0) | ((with_reducible refine gate_dst (N := 3) rfl ?_); refine box_event ?hg (N := 3) ?hd (cs := #[.int .i64 0, .int .i64 0, .int .i64 0, .int .i64 0, .slice none 0 0]) (t := 31) ?hr ?_; (case hd => rfl); (case hg => rfl); (case hr => first | (go_simp; done) | (go_simp; rfl)); intro gb381 hg w7 hbox hb; have n_ := az (Kd.N_below (Kd.N_elderB (mN HO379.out) gb381 (Nat.le_of_eq hg.symm)) hb) <| az (IsS53.below (mI53_1 HI0.out) hb) <| az (bB BK372.out hb) <| az (KeepBut.trans (mKp HK.out) (KeepBut.of_below hb g none) (.inl rfl)) <| az (below_step (mB53HI0 HB.out) hb) <| az (hbox) <| az ((gW hg HK.out)) <| az ((Nat.le_trans HW0.out (gW hg HK.out) : w0.heap.size ≤ gb381)) <| az ((nL hg BK372.out)) <| az ((nG hg BK372.out)) <| az ((by rw [hg]; exact Nat.ne_of_lt (IsS53.lt (show IsS53 w0 _ g s0_0 t380 from mI53_1 HI0.out)) : g ≠ gb381)) <| z0 ((by rw [hg]; exact Nat.ne_of_gt (IsS53.lt (show IsS53 w0 _ g s0_0 t380 from mI53_1 HI0.out)) : gb381 ≠ g)); clear HO379 HI0 BK372 HK HB; obtain ⟨HO379, HI0, BK372, HK, HB, BK381, GW381, GE381, NB372_381, NB381_372, NB0_381, NB381_0⟩ := n_; clear hb hbox hg; have hnb8 := NB381_372.out; have hnc8 := NB372_381.out; have hnb9 := NB381_0.out; have hnc9 := NB0_381.out; obtain ⟨hcz10_0, hcz10_1, hcz10_2, hcz10_3, hcz10_4, hfz10_0, hfz10_1, hfz10_2, hfz10_3, hfz10_4⟩ := cel5 BK381.out; obtain ⟨Ao11, co11, eo11⟩ := Kd.N_slice HO379.out; subst eo11) | ((with_reducible refine gate_callee (f := 18) rfl ?_); refine goesL_ (some 9) rfl rfl Tryz.func18 (by kernel_rfl) rfl #[.pointer (some ⟨g, 0, none⟩), .int .i64 60] rfl argx ?_; (with_reducible refine (spec_l12Rd_pick.calls k g s0_0 t380 60 t382 t383 w0 _ ?side1 ?side2 A3.out).mono ?_); (case side1 => exact mI53_1 HI0.out); (case side2 => exact mB53HI0 HB.out); rintro e w12 ⟨rfl, hi, hb, hk⟩; refine ⟨_, rfl, ?_⟩; have n_ := az (KeepBut.blk hk (g' := gb372) (o := .cells #[.int .i64 0, .int .i64 0, .int .i64 0, .int .i64 0, .slice none 0 0] 31 (0, 0)) (mF BK372.out) NB372_0.out (by simp)) <| az (Kd.N_mono (Kd.N_keep (Kd.N_mono (ok := fun k_ => ((((w.heap.size ≤ k_)) ∧ (k_ ≠ gb372 ∧ k_ ≠ g)) ∧ k_ ≠ gb381)) (by (with_reducible repeat (first | apply Kd.N_alloc | apply Kd.N_drewN | apply Kd.N_drew)); exact (Kd.N_mono (Kd.N_far (p := ⟨gb381, 4, none⟩) (Kd.N_far (p := ⟨gb381, 3, none⟩) (Kd.N_far (p := ⟨gb381, 2, none⟩) (Kd.N_far (p := ⟨gb381, 1, none⟩) (Kd.N_far (p := ⟨gb381, 0, none⟩) (Kd.N_mono HO379.out (fun k_ hk => (⟨hk, hk.2⟩ : _ ∧ k_ ≠ gb381))) (fun _ hk => hk.2) (.int .i64 t373)) (fun _ hk => hk.2) (.int .i64 t374)) (fun _ hk => hk.2) (.int .i64 t375)) (fun _ hk => hk.2) (.int .i64 t376)) (fun _ hk => hk.2) (.slice Ao11 t377.length co11)) (fun _ h_ => h_.1))) (fun k_ hk_ => (⟨hk_, hk_.1.2.2⟩ : _ ∧ k_ ≠ g))) hk (fun _ h => h.2)) (fun _ h => h.1)) <| az (KeepBut.blk hk (g' := gb381) (o := .cells #[.int .i64 t373, .int .i64 t374, .int .i64 t375, .int .i64 t376, .slice Ao11 t377.length co11] 31 (0, 0)) (by (with_reducible repeat (first | refine blk_drewN ?_ _ | refine blk_drew ?_ | refine blk_alloc ?_ _)); refine blk_put (cs := #[.int .i64 t373, .int .i64 t374, .int .i64 t375, .int .i64 t376, .slice none 0 0]) ?_ 4 _ rfl; (with_reducible repeat (first | refine blk_drewN ?_ _ | refine blk_drew ?_ | refine blk_alloc ?_ _)); refine blk_put (cs := #[.int .i64 t373, .int .i64 t374, .int .i64 t375, .int .i64 0, .slice none 0 0]) ?_ 3 _ rfl; (with_reducible repeat (first | refine blk_drewN ?_ _ | refine blk_drew ?_ | refine blk_alloc ?_ _)); refine blk_put (cs := #[.int .i64 t373, .int .i64 t374, .int .i64 0, .int .i64 0, .slice none 0 0]) ?_ 2 _ rfl; (with_reducible repeat (first | refine blk_drewN ?_ _ | refine blk_drew ?_ | refine blk_alloc ?_ _)); refine blk_put (cs := #[.int .i64 t373, .int .i64 0, .int .i64 0, .int .i64 0, .slice none 0 0]) ?_ 1 _ rfl; (with_reducible repeat (first | refine blk_drewN ?_ _ | refine blk_drew ?_ | refine blk_alloc ?_ _)); refine blk_put (cs := #[.int .i64 0, .int .i64 0, .int .i64 0, .int .i64 0, .slice none 0 0]) ?_ 0 _ rfl; (with_reducible repeat (first | refine blk_drewN ?_ _ | refine blk_drew ?_ | refine blk_alloc ?_ _)); exact BK381.out) NB381_0.out (by simp)) <| az (KeepBut.trans (mKp HK.out) hk (.inl rfl)) <| az (hb) <| z0 (hi); clear BK372 HO379 BK381 HK HB HI0; obtain ⟨BK372, HO379, BK381, HK, HB, HI0⟩ := n_; clear hb hk hi))
 (try simp only [Act.put, List.setIfInBounds_toArray, List.set_cons_zero, List.set_cons_succ])
 have H := HF4.out
 clear HF4
 (try clear hcz10_0); (try clear hcz10_1); (try clear hcz10_2); (try clear hcz10_3); (try clear hcz10_4); (try clear hfz10_0); (try clear hfz10_1); (try clear hfz10_2); (try clear hfz10_3); (try clear hfz10_4)
 by_cases c13 : t382 = 0
 ·rw [if_pos c13] at H
  have c13b0 : (t382 == 0) = true := beq_iff_eq.mpr c13
  have c13b1 : (t382 != 0) = false := bne_eq_false_iff_eq.mpr c13
  clear c13
  (first | rw [c13b0] | (simp only [i64_w, i32_w]; rw [c13b0]) | skip)
  obtain ⟨y384, hy384⟩ : ∃ y_ : List Int, y_ = (([0, 11, 3, 10] : List Int)) := ⟨_, rfl⟩
  replace H : ((spec_l12Rd_num.f k s0_0 t383 y384).bind fun bt387 => (some (bt387.1, t374, t375, t376, t377, bt387.2))) = some (r1, r2, r3, r4, r5, r6) := by first | (rw [hy384]; with_reducible exact H) | (have H2_ := (Option.bind_some _ _).symm.trans H; rw [hy384]; with_reducible exact H2_) | (have H2_ := (Option.bind_some _ _).symm.trans H; with_reducible exact H2_) | with_reducible exact H | (rw [hy384]; exact H) | exact H
  have Ny384 := z0 hy384
  clear hy384
  replace H := Option.bind_eq_some_iff.mp H
  obtain ⟨⟨t387, t388⟩, A140, H⟩ := H
  try dsimp only at H
  have A14 := z0 A140
  clear A140
  simp only [Option.some.injEq, Prod.mk.injEq] at H
  obtain ⟨rfl, rfl, rfl, rfl, rfl, rfl⟩ := H
  go_wp2_with (first | ((with_reducible refine gate_dst (N := 13) rfl ?_); refine Kd.R_lit (Kd.int .i64) _ 3 ?hg (N := 13) ?hd (xs := ([0, 11, 3, 10] : List Int)) (inner := [.int .i64 0, .int .i64 11, .int .i64 3, .int .i64 10]) (ok := fun _ => True) (okp := fun _ => True) ?hr ?hp (fun _ hk => hk) trivial (Below.refl _ _) (Nat.le_refl _) (by simp) ?_; (case hd => rfl); (case hg => rfl); (case hr => first | (go_simp; done) | (go_simp; rfl)); (case hp => exact (Reps.one (show Kd.M (Kd.int .i64) _ _ _ 0 [.int .i64 0] from rfl) (Reps.one (show Kd.M (Kd.int .i64) _ _ _ 11 [.int .i64 11] from rfl) (Reps.one (show Kd.M (Kd.int .i64) _ _ _ 3 [.int .i64 3] from rfl) (Reps.one (show Kd.M (Kd.int .i64) _ _ _ 10 [.int .i64 10] from rfl) (Reps.none _ _)))))); intro v385 w15 ho16 hb hg_ hnew_; clear hg_ hnew_; (first | rw [← Ny384.out] at ho16 | (simp only [Int.reduceToNat] at ho16; rw [← Ny384.out] at ho16)); have n_ := az (Kd.N_elder' (mN HO379.out) (by first | exact Kd.R_base ho16 | exact Kd.R_base ho16) hb) <| az (Kd.R_lower (Kd.R_newM (M := fun k_ => (w.heap.size ≤ k_)) ho16 (kS HK.out) (fun k_ h_ => h_)) (kS HK.out)) <| az (IsS53.below (mI53_1 HI0.out) hb) <| az (bB BK372.out hb) <| az (bB BK381.out hb) <| az (KeepBut.trans (mKp HK.out) (KeepBut.of_below hb g none) (.inl rfl)) <| z0 (below_step (mB53HI0 HB.out) hb); clear HO379 HI0 BK372 BK381 HK HB; obtain ⟨HO379, HO386, HI0, BK372, BK381, HK, HB⟩ := n_; clear hb ho16; obtain ⟨Ao17, co17, eo17⟩ := Kd.R_slice HO386.out; subst eo17) | ((with_reducible refine gate_callee (f := 19) rfl ?_); refine goesL_ (some 14) rfl rfl Tryz.func19 (by kernel_rfl) rfl #[.pointer (some ⟨g, 0, none⟩), .slice Ao17 y384.length co17] rfl argx ?_; (with_reducible refine (spec_l12Rd_num.calls k g s0_0 t383 _ _ y384 t387 t388 w0 _ ?side1 ?side2 ?side3 ?side4 ?side5 A14.out).mono ?_); (case side1 => exact mI53_1 HI0.out); (case side2 => exact mB53HI0 HB.out); (case side3 => exact mC (Kd.R_reads' HO386.out).2.2); (case side4 => exact (Kd.R_reads' HO386.out).2.1); (case side5 => exact far_slice (IsS53.own_ne HI0.out HO386.out (by decide))); rintro e w18 ⟨rfl, hi, hb, hk⟩; refine ⟨_, rfl, ?_⟩; have n_ := az (kB hk BK372.out NB372_0.out) <| az (Kd.N_mono (Kd.N_keep (Kd.N_mono (ok := fun k_ => (((((w.heap.size ≤ k_)) ∧ (k_ ≠ gb372 ∧ k_ ≠ g)) ∧ k_ ≠ gb381) ∧ nB k_ (.slice Ao17 y384.length co17))) (mN HO379.out) (fun k_ hk_ => (⟨hk_, hk_.1.1.2.2⟩ : _ ∧ k_ ≠ g))) hk (fun _ h => h.2)) (fun _ h => h.1)) <| az (kB hk BK381.out NB381_0.out) <| az (Kd.R_mono (Kd.R_keep (IsS53.apart (show IsS53 w0 _ g s0_0 t383 from mI53_1 HI0.out) (mR HO386.out) (by decide)) hk (fun _ h => h.2)) (fun _ h => h.1)) <| az (KeepBut.trans (mKp HK.out) hk (.inl rfl)) <| az (hb) <| z0 (hi); clear BK372 HO379 BK381 HO386 HK HB HI0; obtain ⟨BK372, HO379, BK381, HO386, HK, HB, HI0⟩ := n_; clear hb hk hi; have hnb19 := NB381_372.out; have hnc19 := NB372_381.out; have hnb20 := NB381_0.out; have hnc20 := NB0_381.out; obtain ⟨hcz21_0, hcz21_1, hcz21_2, hcz21_3, hcz21_4, hfz21_0, hfz21_1, hfz21_2, hfz21_3, hfz21_4⟩ := cel5 BK381.out; have hnb22 := NB372_0.out; have hnc22 := NB0_372.out; obtain ⟨hcz23_0, hcz23_1, hcz23_2, hcz23_3, hcz23_4, hfz23_0, hfz23_1, hfz23_2, hfz23_3, hfz23_4⟩ := cel5 BK372.out))
  refine bodyPost_ret (results_cell_row rfl _ _ gb372 31 #[.int .i64 t387, .int .i64 t374, .int .i64 t375, .int .i64 t376, .slice Ao11 t377.length co11] (0, 0) _ rfl (by (with_reducible repeat (first | refine blk_drewN ?_ _ | refine blk_drew ?_ | refine blk_alloc ?_ _)); refine blk_put (cs := #[.int .i64 t387, .int .i64 t374, .int .i64 t375, .int .i64 t376, .slice none 0 0]) ?_ 4 _ rfl; (with_reducible repeat (first | refine blk_drewN ?_ _ | refine blk_drew ?_ | refine blk_alloc ?_ _)); refine blk_put (cs := #[.int .i64 t387, .int .i64 t374, .int .i64 t375, .int .i64 0, .slice none 0 0]) ?_ 3 _ rfl; (with_reducible repeat (first | refine blk_drewN ?_ _ | refine blk_drew ?_ | refine blk_alloc ?_ _)); refine blk_put (cs := #[.int .i64 t387, .int .i64 t374, .int .i64 0, .int .i64 0, .slice none 0 0]) ?_ 2 _ rfl; (with_reducible repeat (first | refine blk_drewN ?_ _ | refine blk_drew ?_ | refine blk_alloc ?_ _)); refine blk_put (cs := #[.int .i64 t387, .int .i64 0, .int .i64 0, .int .i64 0, .slice none 0 0]) ?_ 1 _ rfl; (with_reducible repeat (first | refine blk_drewN ?_ _ | refine blk_drew ?_ | refine blk_alloc ?_ _)); refine blk_put (cs := #[.int .i64 0, .int .i64 0, .int .i64 0, .int .i64 0, .slice none 0 0]) ?_ 0 _ rfl; (with_reducible repeat (first | refine blk_drewN ?_ _ | refine blk_drew ?_ | refine blk_alloc ?_ _)); refine blk_far ?_ NB372_381.out _; (with_reducible repeat (first | refine blk_drewN ?_ _ | refine blk_drew ?_ | refine blk_alloc ?_ _)); exact BK372.out) Tryz.underlying31 rfl (by kernel_rfl)) rfl ?_
  exact ⟨_, rfx, by (with_reducible repeat (first | apply Kd.N_alloc | apply Kd.N_drewN | apply Kd.N_drew)); exact Kd.N_mono (Kd.N_far (p := ⟨gb372, 4, none⟩) (Kd.N_far (p := ⟨gb372, 3, none⟩) (Kd.N_far (p := ⟨gb372, 2, none⟩) (Kd.N_far (p := ⟨gb372, 1, none⟩) (Kd.N_far (p := ⟨gb372, 0, none⟩) (Kd.N_far (p := ⟨gb381, 0, none⟩) (Kd.N_mono (Kd.N_mono HO379.out (fun k_ hk => (⟨hk, hk.1.2⟩ : _ ∧ k_ ≠ gb381))) (fun k_ hk => (⟨hk, hk.1.1.1.2.1⟩ : _ ∧ k_ ≠ gb372))) (fun _ hk => hk.1.2) (.int .i64 t387)) (fun _ hk => hk.2) (.int .i64 t387)) (fun _ hk => hk.2) (.int .i64 t374)) (fun _ hk => hk.2) (.int .i64 t375)) (fun _ hk => hk.2) (.int .i64 t376)) (fun _ hk => hk.2) (.slice Ao11 t377.length co11)) (fun _ hk => hk.1.1.1.1.1), mI53_1 HI0.out, mB53HI0 HB.out, mKp HK.out⟩
 ·rw [if_neg c13] at H
  have c13b0 : (t382 == 0) = false := beq_eq_false_iff_ne.mpr c13
  have c13b1 : (t382 != 0) = true := bne_iff_ne.mpr c13
  (first | rw [c13b0] | (simp only [i64_w, i32_w]; rw [c13b0]) | skip)
  by_cases c24 : t382 = 1
  ·rw [if_pos c24] at H
   have c24b0 : (t382 == 1) = true := beq_iff_eq.mpr c24
   have c24b1 : (t382 != 1) = false := bne_eq_false_iff_eq.mpr c24
   clear c24
   obtain ⟨y389, hy389⟩ : ∃ y_ : List Int, y_ = (([1, 1000001] : List Int)) := ⟨_, rfl⟩
   replace H : ((spec_l12Rd_num.f k s0_0 t383 y389).bind fun bt392 => (some (t373, bt392.1, t375, t376, t377, bt392.2))) = some (r1, r2, r3, r4, r5, r6) := by first | (rw [hy389]; with_reducible exact H) | (have H2_ := (Option.bind_some _ _).symm.trans H; rw [hy389]; with_reducible exact H2_) | (have H2_ := (Option.bind_some _ _).symm.trans H; with_reducible exact H2_) | with_reducible exact H | (rw [hy389]; exact H) | exact H
   have Ny389 := z0 hy389
   clear hy389
   replace H := Option.bind_eq_some_iff.mp H
   obtain ⟨⟨t392, t393⟩, A250, H⟩ := H
   try dsimp only at H
   have A25 := z0 A250
   clear A250
   simp only [Option.some.injEq, Prod.mk.injEq] at H
   obtain ⟨rfl, rfl, rfl, rfl, rfl, rfl⟩ := H
   go_wp2_with (first | ((with_reducible refine gate_dst (N := 19) rfl ?_); refine Kd.R_lit (Kd.int .i64) _ 3 ?hg (N := 19) ?hd (xs := ([1, 1000001] : List Int)) (inner := [.int .i64 1, .int .i64 1000001]) (ok := fun _ => True) (okp := fun _ => True) ?hr ?hp (fun _ hk => hk) trivial (Below.refl _ _) (Nat.le_refl _) (by simp) ?_; (case hd => rfl); (case hg => rfl); (case hr => first | (go_simp; done) | (go_simp; rfl)); (case hp => exact (Reps.one (show Kd.M (Kd.int .i64) _ _ _ 1 [.int .i64 1] from rfl) (Reps.one (show Kd.M (Kd.int .i64) _ _ _ 1000001 [.int .i64 1000001] from rfl) (Reps.none _ _)))); intro v390 w26 ho27 hb hg_ hnew_; clear hg_ hnew_; (first | rw [← Ny389.out] at ho27 | (simp only [Int.reduceToNat] at ho27; rw [← Ny389.out] at ho27)); have n_ := az (Kd.N_elder' (mN HO379.out) (by first | exact Kd.R_base ho27 | exact Kd.R_base ho27) hb) <| az (Kd.R_lower (Kd.R_newM (M := fun k_ => (w.heap.size ≤ k_)) ho27 (kS HK.out) (fun k_ h_ => h_)) (kS HK.out)) <| az (IsS53.below (mI53_1 HI0.out) hb) <| az (bB BK372.out hb) <| az (bB BK381.out hb) <| az (KeepBut.trans (mKp HK.out) (KeepBut.of_below hb g none) (.inl rfl)) <| z0 (below_step (mB53HI0 HB.out) hb); clear HO379 HI0 BK372 BK381 HK HB; obtain ⟨HO379, HO391, HI0, BK372, BK381, HK, HB⟩ := n_; clear hb ho27; obtain ⟨Ao28, co28, eo28⟩ := Kd.R_slice HO391.out; subst eo28) | ((with_reducible refine gate_callee (f := 19) rfl ?_); refine goesL_ (some 20) rfl rfl Tryz.func19 (by kernel_rfl) rfl #[.pointer (some ⟨g, 0, none⟩), .slice Ao28 y389.length co28] rfl argx ?_; (with_reducible refine (spec_l12Rd_num.calls k g s0_0 t383 _ _ y389 t392 t393 w0 _ ?side1 ?side2 ?side3 ?side4 ?side5 A25.out).mono ?_); (case side1 => exact mI53_1 HI0.out); (case side2 => exact mB53HI0 HB.out); (case side3 => exact mC (Kd.R_reads' HO391.out).2.2); (case side4 => exact (Kd.R_reads' HO391.out).2.1); (case side5 => exact far_slice (IsS53.own_ne HI0.out HO391.out (by decide))); rintro e w29 ⟨rfl, hi, hb, hk⟩; refine ⟨_, rfl, ?_⟩; have n_ := az (kB hk BK372.out NB372_0.out) <| az (Kd.N_mono (Kd.N_keep (Kd.N_mono (ok := fun k_ => (((((w.heap.size ≤ k_)) ∧ (k_ ≠ gb372 ∧ k_ ≠ g)) ∧ k_ ≠ gb381) ∧ nB k_ (.slice Ao28 y389.length co28))) (mN HO379.out) (fun k_ hk_ => (⟨hk_, hk_.1.1.2.2⟩ : _ ∧ k_ ≠ g))) hk (fun _ h => h.2)) (fun _ h => h.1)) <| az (kB hk BK381.out NB381_0.out) <| az (Kd.R_mono (Kd.R_keep (IsS53.apart (show IsS53 w0 _ g s0_0 t383 from mI53_1 HI0.out) (mR HO391.out) (by decide)) hk (fun _ h => h.2)) (fun _ h => h.1)) <| az (KeepBut.trans (mKp HK.out) hk (.inl rfl)) <| az (hb) <| z0 (hi); clear BK372 HO379 BK381 HO391 HK HB HI0; obtain ⟨BK372, HO379, BK381, HO391, HK, HB, HI0⟩ := n_; clear hb hk hi; have hnb30 := NB381_372.out; have hnc30 := NB372_381.out; have hnb31 := NB381_0.out; have hnc31 := NB0_381.out; obtain ⟨hcz32_0, hcz32_1, hcz32_2, hcz32_3, hcz32_4, hfz32_0, hfz32_1, hfz32_2, hfz32_3, hfz32_4⟩ := cel5 BK381.out; have hnb33 := NB372_0.out; have hnc33 := NB0_372.out; obtain ⟨hcz34_0, hcz34_1, hcz34_2, hcz34_3, hcz34_4, hfz34_0, hfz34_1, hfz34_2, hfz34_3, hfz34_4⟩ := cel5 BK372.out))
   refine bodyPost_ret (results_cell_row rfl _ _ gb372 31 #[.int .i64 t373, .int .i64 t392, .int .i64 t375, .int .i64 t376, .slice Ao11 t377.length co11] (0, 0) _ rfl (by (with_reducible repeat (first | refine blk_drewN ?_ _ | refine blk_drew ?_ | refine blk_alloc ?_ _)); refine blk_put (cs := #[.int .i64 t373, .int .i64 t392, .int .i64 t375, .int .i64 t376, .slice none 0 0]) ?_ 4 _ rfl; (with_reducible repeat (first | refine blk_drewN ?_ _ | refine blk_drew ?_ | refine blk_alloc ?_ _)); refine blk_put (cs := #[.int .i64 t373, .int .i64 t392, .int .i64 t375, .int .i64 0, .slice none 0 0]) ?_ 3 _ rfl; (with_reducible repeat (first | refine blk_drewN ?_ _ | refine blk_drew ?_ | refine blk_alloc ?_ _)); refine blk_put (cs := #[.int .i64 t373, .int .i64 t392, .int .i64 0, .int .i64 0, .slice none 0 0]) ?_ 2 _ rfl; (with_reducible repeat (first | refine blk_drewN ?_ _ | refine blk_drew ?_ | refine blk_alloc ?_ _)); refine blk_put (cs := #[.int .i64 t373, .int .i64 0, .int .i64 0, .int .i64 0, .slice none 0 0]) ?_ 1 _ rfl; (with_reducible repeat (first | refine blk_drewN ?_ _ | refine blk_drew ?_ | refine blk_alloc ?_ _)); refine blk_put (cs := #[.int .i64 0, .int .i64 0, .int .i64 0, .int .i64 0, .slice none 0 0]) ?_ 0 _ rfl; (with_reducible repeat (first | refine blk_drewN ?_ _ | refine blk_drew ?_ | refine blk_alloc ?_ _)); refine blk_far ?_ NB372_381.out _; (with_reducible repeat (first | refine blk_drewN ?_ _ | refine blk_drew ?_ | refine blk_alloc ?_ _)); exact BK372.out) Tryz.underlying31 rfl (by kernel_rfl)) rfl ?_
   exact ⟨_, rfx, by (with_reducible repeat (first | apply Kd.N_alloc | apply Kd.N_drewN | apply Kd.N_drew)); exact Kd.N_mono (Kd.N_far (p := ⟨gb372, 4, none⟩) (Kd.N_far (p := ⟨gb372, 3, none⟩) (Kd.N_far (p := ⟨gb372, 2, none⟩) (Kd.N_far (p := ⟨gb372, 1, none⟩) (Kd.N_far (p := ⟨gb372, 0, none⟩) (Kd.N_far (p := ⟨gb381, 1, none⟩) (Kd.N_mono (Kd.N_mono HO379.out (fun k_ hk => (⟨hk, hk.1.2⟩ : _ ∧ k_ ≠ gb381))) (fun k_ hk => (⟨hk, hk.1.1.1.2.1⟩ : _ ∧ k_ ≠ gb372))) (fun _ hk => hk.1.2) (.int .i64 t392)) (fun _ hk => hk.2) (.int .i64 t373)) (fun _ hk => hk.2) (.int .i64 t392)) (fun _ hk => hk.2) (.int .i64 t375)) (fun _ hk => hk.2) (.int .i64 t376)) (fun _ hk => hk.2) (.slice Ao11 t377.length co11)) (fun _ hk => hk.1.1.1.1.1), mI53_1 HI0.out, mB53HI0 HB.out, mKp HK.out⟩
  ·rw [if_neg c24] at H
   have c24b0 : (t382 == 1) = false := beq_eq_false_iff_ne.mpr c24
   have c24b1 : (t382 != 1) = true := bne_iff_ne.mpr c24
   by_cases c35 : t382 = 2
   ·rw [if_pos c35] at H
    have c35b0 : (t382 == 2) = true := beq_iff_eq.mpr c35
    have c35b1 : (t382 != 2) = false := bne_eq_false_iff_eq.mpr c35
    clear c35
    replace H := Option.bind_eq_some_iff.mp H
    obtain ⟨⟨t394, t395, t396⟩, A360, H⟩ := H
    try dsimp only at H
    have A36 := z0 A360
    clear A360
    simp only [Option.some.injEq, Prod.mk.injEq] at H
    obtain ⟨rfl, rfl, rfl, rfl, rfl, rfl⟩ := H
    go_wp2_with (first | ((with_reducible refine gate_callee (f := 20) rfl ?_); refine goesL_ (some 25) rfl rfl Tryz.func20 (by kernel_rfl) rfl #[.pointer (some ⟨g, 0, none⟩)] rfl argx ?_; (with_reducible refine (spec_l2AddrBent.calls k g s0_0 t383 t394 t395 t396 w0 _ ?side1 ?side2 A36.out).mono ?_); (case side1 => exact mI53_1 HI0.out); (case side2 => exact mB53HI0 HB.out); rintro e w37 ⟨rfl, hi, hb, hk⟩; refine ⟨_, rfl, ?_⟩; have n_ := az (kB hk BK372.out NB372_0.out) <| az (Kd.N_mono (Kd.N_keep (Kd.N_mono (ok := fun k_ => ((((w.heap.size ≤ k_)) ∧ (k_ ≠ gb372 ∧ k_ ≠ g)) ∧ k_ ≠ gb381)) (mN HO379.out) (fun k_ hk_ => (⟨hk_, hk_.1.2.2⟩ : _ ∧ k_ ≠ g))) hk (fun _ h => h.2)) (fun _ h => h.1)) <| az (kB hk BK381.out NB381_0.out) <| az (KeepBut.trans (mKp HK.out) hk (.inl rfl)) <| az (hb) <| z0 (hi); clear BK372 HO379 BK381 HK HB HI0; obtain ⟨BK372, HO379, BK381, HK, HB, HI0⟩ := n_; clear hb hk hi; have hnb38 := NB381_372.out; have hnc38 := NB372_381.out; have hnb39 := NB381_0.out; have hnc39 := NB0_381.out; obtain ⟨hcz40_0, hcz40_1, hcz40_2, hcz40_3, hcz40_4, hfz40_0, hfz40_1, hfz40_2, hfz40_3, hfz40_4⟩ := cel5 BK381.out; have hnb41 := NB372_0.out; have hnc41 := NB0_372.out; obtain ⟨hcz42_0, hcz42_1, hcz42_2, hcz42_3, hcz42_4, hfz42_0, hfz42_1, hfz42_2, hfz42_3, hfz42_4⟩ := cel5 BK372.out))
    refine bodyPost_ret (results_cell_row rfl _ _ gb372 31 #[.int .i64 t373, .int .i64 t374, .int .i64 t394, .int .i64 t395, .slice Ao11 t377.length co11] (0, 0) _ rfl (by (with_reducible repeat (first | refine blk_drewN ?_ _ | refine blk_drew ?_ | refine blk_alloc ?_ _)); refine blk_put (cs := #[.int .i64 t373, .int .i64 t374, .int .i64 t394, .int .i64 t395, .slice none 0 0]) ?_ 4 _ rfl; (with_reducible repeat (first | refine blk_drewN ?_ _ | refine blk_drew ?_ | refine blk_alloc ?_ _)); refine blk_put (cs := #[.int .i64 t373, .int .i64 t374, .int .i64 t394, .int .i64 0, .slice none 0 0]) ?_ 3 _ rfl; (with_reducible repeat (first | refine blk_drewN ?_ _ | refine blk_drew ?_ | refine blk_alloc ?_ _)); refine blk_put (cs := #[.int .i64 t373, .int .i64 t374, .int .i64 0, .int .i64 0, .slice none 0 0]) ?_ 2 _ rfl; (with_reducible repeat (first | refine blk_drewN ?_ _ | refine blk_drew ?_ | refine blk_alloc ?_ _)); refine blk_put (cs := #[.int .i64 t373, .int .i64 0, .int .i64 0, .int .i64 0, .slice none 0 0]) ?_ 1 _ rfl; (with_reducible repeat (first | refine blk_drewN ?_ _ | refine blk_drew ?_ | refine blk_alloc ?_ _)); refine blk_put (cs := #[.int .i64 0, .int .i64 0, .int .i64 0, .int .i64 0, .slice none 0 0]) ?_ 0 _ rfl; (with_reducible repeat (first | refine blk_drewN ?_ _ | refine blk_drew ?_ | refine blk_alloc ?_ _)); refine blk_far ?_ NB372_381.out _; (with_reducible repeat (first | refine blk_drewN ?_ _ | refine blk_drew ?_ | refine blk_alloc ?_ _)); refine blk_far ?_ NB372_381.out _; (with_reducible repeat (first | refine blk_drewN ?_ _ | refine blk_drew ?_ | refine blk_alloc ?_ _)); exact BK372.out) Tryz.underlying31 rfl (by kernel_rfl)) rfl ?_
    exact ⟨_, rfx, by (with_reducible repeat (first | apply Kd.N_alloc | apply Kd.N_drewN | apply Kd.N_drew)); exact Kd.N_mono (Kd.N_far (p := ⟨gb372, 4, none⟩) (Kd.N_far (p := ⟨gb372, 3, none⟩) (Kd.N_far (p := ⟨gb372, 2, none⟩) (Kd.N_far (p := ⟨gb372, 1, none⟩) (Kd.N_far (p := ⟨gb372, 0, none⟩) (Kd.N_far (p := ⟨gb381, 3, none⟩) (Kd.N_far (p := ⟨gb381, 2, none⟩) (Kd.N_mono (Kd.N_mono HO379.out (fun k_ hk => (⟨hk, hk.2⟩ : _ ∧ k_ ≠ gb381))) (fun k_ hk => (⟨hk, hk.1.1.2.1⟩ : _ ∧ k_ ≠ gb372))) (fun _ hk => hk.1.2) (.int .i64 t394)) (fun _ hk => hk.1.2) (.int .i64 t395)) (fun _ hk => hk.2) (.int .i64 t373)) (fun _ hk => hk.2) (.int .i64 t374)) (fun _ hk => hk.2) (.int .i64 t394)) (fun _ hk => hk.2) (.int .i64 t395)) (fun _ hk => hk.2) (.slice Ao11 t377.length co11)) (fun _ hk => hk.1.1.1.1), mI53_1 HI0.out, mB53HI0 HB.out, mKp HK.out⟩
   ·rw [if_neg c35] at H
    have c35b0 : (t382 == 2) = false := beq_eq_false_iff_ne.mpr c35
    have c35b1 : (t382 != 2) = true := bne_iff_ne.mpr c35
    by_cases c43 : t382 = 3
    ·rw [if_pos c43] at H
     have c43b0 : (t382 == 3) = true := beq_iff_eq.mpr c43
     have c43b1 : (t382 != 3) = false := bne_eq_false_iff_eq.mpr c43
     clear c43
     have H' := z0 H
     clear H
     go_wp2
     go_loopg [4] k (fun kq v4 w' => ∃ (x4_1 : Int) (x382000_1 : Int) (x382001_1 : Int) (x382002_1 : Int) (x382003_1 : Int) (x382004_1 : List (S31)) (u382004 : Value), v4 = .int .i64 x4_1 ∧ Aside0 (spec_l3Bent.l0 kq x4_1 s0_0 t383 x382000_1 x382001_1 x382002_1 x382003_1 x382004_1 = some (r1, r2, r3, r4, r5, r6)) ∧ Aside0 (kq ≤ k) ∧ Aside0 (Kd.N k31 31 w' w.heap.size (fun k_ => (w.heap.size ≤ k_) ∧ k_ ≠ gb372 ∧ k_ ≠ gb381 ∧ k_ ≠ g) u382004 x382004_1) ∧ Aside0 (w'.heap[gb372]? = some (.cells #[.int .i64 0, .int .i64 0, .int .i64 0, .int .i64 0, (.slice none 0 0)] 31 (0, 0))) ∧ Aside0 (w'.heap[gb381]? = some (.cells #[.int .i64 x382000_1, .int .i64 x382001_1, .int .i64 x382002_1, .int .i64 x382003_1, u382004] 31 (0, 0))) ∧ Aside0 (IsS53 w0 w' g s0_0 t383) ∧ Aside0 (KeepBut w w' g none) ∧ Aside0 (Below w0.heap.size w0 w'))
     case atStart => exact ⟨(0), (t373), (t374), (t375), (t376), (t377), (.slice Ao11 t377.length co11), rfy, H', ⟨Nat.le_refl _⟩, ⟨by (with_reducible repeat (first | apply Kd.N_alloc | apply Kd.N_drewN | apply Kd.N_drew)); exact Kd.N_mono HO379.out (fun _ hk => ⟨hk.1.1, ⟨hk.1.2.1, ⟨hk.2, hk.1.2.2⟩⟩⟩)⟩, ⟨mK BK372.out⟩, ⟨mK BK381.out⟩, ⟨mI53_1 HI0.out⟩, ⟨mKp HK.out⟩, ⟨mB53HI0 HB.out⟩⟩
     case round =>
      clear H'
      (try clear c13); (try clear c13b0); (try clear c13b1); (try clear c24); (try clear c24b0); (try clear c24b1); (try clear c35); (try clear c35b0); (try clear c35b1); (try clear c43); (try clear c43b0); (try clear c43b1); (try clear hcz10_0); (try clear hcz10_1); (try clear hcz10_2); (try clear hcz10_3); (try clear hcz10_4); (try clear hcz21_0); (try clear hcz21_1); (try clear hcz21_2); (try clear hcz21_3); (try clear hcz21_4); (try clear hcz23_0); (try clear hcz23_1); (try clear hcz23_2); (try clear hcz23_3); (try clear hcz23_4); (try clear hcz32_0); (try clear hcz32_1); (try clear hcz32_2); (try clear hcz32_3); (try clear hcz32_4); (try clear hcz34_0); (try clear hcz34_1); (try clear hcz34_2); (try clear hcz34_3); (try clear hcz34_4); (try clear hcz40_0); (try clear hcz40_1); (try clear hcz40_2); (try clear hcz40_3); (try clear hcz40_4); (try clear hcz42_0); (try clear hcz42_1); (try clear hcz42_2); (try clear hcz42_3); (try clear hcz42_4); (try clear hfz10_0); (try clear hfz10_1); (try clear hfz10_2); (try clear hfz10_3); (try clear hfz10_4); (try clear hfz21_0); (try clear hfz21_1); (try clear hfz21_2); (try clear hfz21_3); (try clear hfz21_4); (try clear hfz23_0); (try clear hfz23_1); (try clear hfz23_2); (try clear hfz23_3); (try clear hfz23_4); (try clear hfz32_0); (try clear hfz32_1); (try clear hfz32_2); (try clear hfz32_3); (try clear hfz32_4); (try clear hfz34_0); (try clear hfz34_1); (try clear hfz34_2); (try clear hfz34_3); (try clear hfz34_4); (try clear hfz40_0); (try clear hfz40_1); (try clear hfz40_2); (try clear hfz40_3); (try clear hfz40_4); (try clear hfz42_0); (try clear hfz42_1); (try clear hfz42_2); (try clear hfz42_3); (try clear hfz42_4)
      obtain ⟨x4_1, x382000_1, x382001_1, x382002_1, x382003_1, x382004_1, u382004, rfl, HA, HK1, HO_382004, BK372, BK381, HI0, HK, HB⟩ := hrel
      cases gk with
      | zero => exact absurd HA.out (by simp [spec_l3Bent.l0])
      | succ k1 =>
       have H := HA.out
       clear HA
       simp only [spec_l3Bent.l0] at H
       by_cases c44 : x4_1 < 6
       ·rw [if_pos c44] at H
        have c44b0 : decide (x4_1 < 6) = true := decide_eq_true c44
        clear c44
        obtain ⟨y397, hy397⟩ : ∃ y_ : List (S31), y_ = (([(⟨x382000_1, x382001_1, (⟨x382002_1, x382003_1⟩ : S28), x382004_1⟩ : S31)] : List (S31))) := ⟨_, rfl⟩
        replace H : (spec_l3Bent.l0 k1 (wrap64 (x4_1 + 1)) s0_0 t383 10 0 0 0 y397) = some (r1, r2, r3, r4, r5, r6) := by first | (rw [hy397]; with_reducible exact H) | (have H2_ := (Option.bind_some _ _).symm.trans H; rw [hy397]; with_reducible exact H2_) | (have H2_ := (Option.bind_some _ _).symm.trans H; with_reducible exact H2_) | with_reducible exact H | (rw [hy397]; exact H) | exact H
        have Ny397 := z0 hy397
        clear hy397
        have H' := z0 H
        clear H
        have hnb45 := NB381_372.out
        have hnc45 := NB372_381.out
        have hnb46 := NB381_0.out
        have hnc46 := NB0_381.out
        obtain ⟨hcz47_0, hcz47_1, hcz47_2, hcz47_3, hcz47_4, hfz47_0, hfz47_1, hfz47_2, hfz47_3, hfz47_4⟩ := cel5 BK381.out
        obtain ⟨Ao48, co48, eo48⟩ := Kd.N_slice HO_382004.out
        subst eo48
        go_wp2_with (first | ((with_reducible refine gate_dst (N := 34) rfl ?_); refine Kd.N_lit k31 _ 31 ?hg (N' := 34) ?hd (xs := ([(⟨x382000_1, x382001_1, (⟨x382002_1, x382003_1⟩ : S28), x382004_1⟩ : S31)] : List (S31))) (inner := [.int .i64 x382000_1, .int .i64 x382001_1, .int .i64 x382002_1, .int .i64 x382003_1, .slice Ao48 x382004_1.length co48]) (ok := (fun k_ => (w.heap.size ≤ k_) ∧ k_ ≠ gb372 ∧ k_ ≠ gb381 ∧ k_ ≠ g)) (okp := (fun k_ => (w.heap.size ≤ k_) ∧ k_ ≠ gb372 ∧ k_ ≠ gb381 ∧ k_ ≠ g)) ?hr ?hp (fun _ hk => hk) ((show ∀ k_, wr.heap.size ≤ k_ → (fun k_ => (w.heap.size ≤ k_) ∧ k_ ≠ gb372 ∧ k_ ≠ gb381 ∧ k_ ≠ g) k_ from fun k_ hk => ⟨(Nat.le_trans (kS HK.out) hk), fB BK372.out hk, fB BK381.out hk, IsS53.fresh (mI53_1 HI0.out) k_ hk⟩) _ (Nat.le_refl _)) (Below.refl _ _) (Nat.le_refl _) (by simp) ?_; (case hd => rfl); (case hg => rfl); (case hr => first | (go_simp; done) | (go_simp; rfl)); (case hp => exact (Reps.c5 (show Kd.FK k31 _ _ (⟨x382000_1, x382001_1, (⟨x382002_1, x382003_1⟩ : S28), x382004_1⟩ : S31) [.int .i64 x382000_1, .int .i64 x382001_1, .int .i64 x382002_1, .int .i64 x382003_1, .slice Ao48 x382004_1.length co48] from (k31_mkF _ _ (⟨x382000_1, x382001_1, (⟨x382002_1, x382003_1⟩ : S28), x382004_1⟩ : S31) (Kd.N_reads' (Kd.N_mono (ok' := (fun k_ => (w.heap.size ≤ k_) ∧ k_ ≠ gb372 ∧ k_ ≠ gb381 ∧ k_ ≠ g)) (HO_382004.out) (fun k_ hk => ⟨hk.1, ⟨hk.2.1, ⟨hk.2.2.1, hk.2.2.2⟩⟩⟩))).2.1 (Kd.N_F (Kd.N_mono (ok' := (fun k_ => (w.heap.size ≤ k_) ∧ k_ ≠ gb372 ∧ k_ ≠ gb381 ∧ k_ ≠ g)) (HO_382004.out) (fun k_ hk => ⟨hk.1, ⟨hk.2.1, ⟨hk.2.2.1, hk.2.2.2⟩⟩⟩))))) (Reps.none _ _))); intro v398 w49 ho50 hb hg_ hnew_; clear hg_ hnew_; (first | rw [← Ny397.out] at ho50 | (simp only [Int.reduceToNat] at ho50; rw [← Ny397.out] at ho50)); have n_ := az (Kd.N_lower ho50 (kS HK.out)) <| az (bB BK372.out hb) <| az (bB BK381.out hb) <| az (IsS53.below (mI53_1 HI0.out) hb) <| az (KeepBut.trans (mKp HK.out) (KeepBut.of_below hb g none) (.inl rfl)) <| z0 (below_step (mB53HI0 HB.out) hb); clear BK372 BK381 HI0 HK HB HO_382004; obtain ⟨HO399, BK372, BK381, HI0, HK, HB⟩ := n_; clear hb ho50; obtain ⟨Ao51, co51, eo51⟩ := Kd.N_slice HO399.out; subst eo51; obtain ⟨hcz52_0, hcz52_1, hcz52_2, hcz52_3, hcz52_4, hfz52_0, hfz52_1, hfz52_2, hfz52_3, hfz52_4⟩ := cel5 BK381.out))
        go_roundg k1
        case measure => have := HK1.out; omega
        case rel => exact ⟨(wrap64 (x4_1 + 1)), (10), (0), (0), (0), (y397), (.slice Ao51 y397.length co51), rfy, H', ⟨by have := HK1.out; omega⟩, ⟨by (with_reducible repeat (first | apply Kd.N_alloc | apply Kd.N_drewN | apply Kd.N_drew)); exact Kd.N_mono (Kd.N_far (p := ⟨gb381, 4, none⟩) (Kd.N_far (p := ⟨gb381, 3, none⟩) (Kd.N_far (p := ⟨gb381, 2, none⟩) (Kd.N_far (p := ⟨gb381, 1, none⟩) (Kd.N_far (p := ⟨gb381, 0, none⟩) (Kd.N_mono HO399.out (fun k_ hk => (⟨hk, hk.2.2.1⟩ : _ ∧ k_ ≠ gb381))) (fun _ hk => hk.2) (.int .i64 10)) (fun _ hk => hk.2) (.int .i64 0)) (fun _ hk => hk.2) (.int .i64 0)) (fun _ hk => hk.2) (.int .i64 0)) (fun _ hk => hk.2) (.slice Ao51 y397.length co51)) (fun _ hk => ⟨hk.1.1, ⟨hk.1.2.1, ⟨hk.1.2.2.1, hk.1.2.2.2⟩⟩⟩)⟩, ⟨mF BK372.out⟩, ⟨by (with_reducible repeat (first | refine blk_drewN ?_ _ | refine blk_drew ?_ | refine blk_alloc ?_ _)); refine blk_put (cs := #[.int .i64 10, .int .i64 0, .int .i64 0, .int .i64 0, .slice Ao48 x382004_1.length co48]) ?_ 4 _ rfl; (with_reducible repeat (first | refine blk_drewN ?_ _ | refine blk_drew ?_ | refine blk_alloc ?_ _)); refine blk_put (cs := #[.int .i64 10, .int .i64 0, .int .i64 0, .int .i64 x382003_1, .slice Ao48 x382004_1.length co48]) ?_ 3 _ rfl; (with_reducible repeat (first | refine blk_drewN ?_ _ | refine blk_drew ?_ | refine blk_alloc ?_ _)); refine blk_put (cs := #[.int .i64 10, .int .i64 0, .int .i64 x382002_1, .int .i64 x382003_1, .slice Ao48 x382004_1.length co48]) ?_ 2 _ rfl; (with_reducible repeat (first | refine blk_drewN ?_ _ | refine blk_drew ?_ | refine blk_alloc ?_ _)); refine blk_put (cs := #[.int .i64 10, .int .i64 x382001_1, .int .i64 x382002_1, .int .i64 x382003_1, .slice Ao48 x382004_1.length co48]) ?_ 1 _ rfl; (with_reducible repeat (first | refine blk_drewN ?_ _ | refine blk_drew ?_ | refine blk_alloc ?_ _)); refine blk_put (cs := #[.int .i64 x382000_1, .int .i64 x382001_1, .int .i64 x382002_1, .int .i64 x382003_1, .slice Ao48 x382004_1.length co48]) ?_ 0 _ rfl; (with_reducible repeat (first | refine blk_drewN ?_ _ | refine blk_drew ?_ | refine blk_alloc ?_ _)); exact BK381.out⟩, ⟨mI53_1 HI0.out⟩, ⟨mKp HK.out⟩, ⟨mB53HI0 HB.out⟩⟩
       ·rw [if_neg c44] at H
        have c44b0 : decide (x4_1 < 6) = false := decide_eq_false c44
        clear c44
        simp only [Option.some.injEq, Prod.mk.injEq] at H
        obtain ⟨rfl, rfl, rfl, rfl, rfl, rfl⟩ := H
        have hnb53 := NB381_372.out
        have hnc53 := NB372_381.out
        have hnb54 := NB381_0.out
        have hnc54 := NB0_381.out
        obtain ⟨hcz55_0, hcz55_1, hcz55_2, hcz55_3, hcz55_4, hfz55_0, hfz55_1, hfz55_2, hfz55_3, hfz55_4⟩ := cel5 BK381.out
        have hnb56 := NB372_0.out
        have hnc56 := NB0_372.out
        obtain ⟨hcz57_0, hcz57_1, hcz57_2, hcz57_3, hcz57_4, hfz57_0, hfz57_1, hfz57_2, hfz57_3, hfz57_4⟩ := cel5 BK372.out
        obtain ⟨Ao58, co58, eo58⟩ := Kd.N_slice HO_382004.out
        subst eo58
        go_wp2
        refine bodyPost_ret (results_cell_row rfl _ _ gb372 31 #[.int .i64 x382000_1, .int .i64 x382001_1, .int .i64 x382002_1, .int .i64 x382003_1, .slice Ao58 x382004_1.length co58] (0, 0) _ rfl (pF BK372.out) Tryz.underlying31 rfl (by kernel_rfl)) rfl ?_
        exact ⟨_, rfx, by (with_reducible repeat (first | apply Kd.N_alloc | apply Kd.N_drewN | apply Kd.N_drew)); exact Kd.N_mono (Kd.N_far (p := ⟨gb372, 4, none⟩) (Kd.N_far (p := ⟨gb372, 3, none⟩) (Kd.N_far (p := ⟨gb372, 2, none⟩) (Kd.N_far (p := ⟨gb372, 1, none⟩) (Kd.N_far (p := ⟨gb372, 0, none⟩) (Kd.N_mono HO_382004.out (fun k_ hk => (⟨hk, hk.2.1⟩ : _ ∧ k_ ≠ gb372))) (fun _ hk => hk.2) (.int .i64 x382000_1)) (fun _ hk => hk.2) (.int .i64 x382001_1)) (fun _ hk => hk.2) (.int .i64 x382002_1)) (fun _ hk => hk.2) (.int .i64 x382003_1)) (fun _ hk => hk.2) (.slice Ao58 x382004_1.length co58)) (fun _ hk => hk.1.1), mI53_1 HI0.out, mB53HI0 HB.out, mKp HK.out⟩
    ·rw [if_neg c43] at H
     have c43b0 : (t382 == 3) = false := beq_eq_false_iff_ne.mpr c43
     have c43b1 : (t382 != 3) = true := bne_iff_ne.mpr c43
     by_cases c59 : t382 = 4
     ·rw [if_pos c59] at H
      have c59b0 : (t382 == 4) = true := beq_iff_eq.mpr c59
      have c59b1 : (t382 != 4) = false := bne_eq_false_iff_eq.mpr c59
      clear c59
      have H' := z0 H
      clear H
      go_wp2
      go_loopg [5] k (fun kq v5 w' => ∃ (x5_1 : Int) (x382000_1 : Int) (x382001_1 : Int) (x382002_1 : Int) (x382003_1 : Int) (x382004_1 : List (S31)) (u382004 : Value), v5 = .int .i64 x5_1 ∧ Aside0 (spec_l3Bent.l1 kq x5_1 s0_0 t383 x382000_1 x382001_1 x382002_1 x382003_1 x382004_1 = some (r1, r2, r3, r4, r5, r6)) ∧ Aside0 (kq ≤ k) ∧ Aside0 (Kd.N k31 31 w' w.heap.size (fun k_ => (w.heap.size ≤ k_) ∧ k_ ≠ gb372 ∧ k_ ≠ gb381 ∧ k_ ≠ g) u382004 x382004_1) ∧ Aside0 (w'.heap[gb372]? = some (.cells #[.int .i64 0, .int .i64 0, .int .i64 0, .int .i64 0, (.slice none 0 0)] 31 (0, 0))) ∧ Aside0 (w'.heap[gb381]? = some (.cells #[.int .i64 x382000_1, .int .i64 x382001_1, .int .i64 x382002_1, .int .i64 x382003_1, u382004] 31 (0, 0))) ∧ Aside0 (IsS53 w0 w' g s0_0 t383) ∧ Aside0 (KeepBut w w' g none) ∧ Aside0 (Below w0.heap.size w0 w'))
      case atStart => exact ⟨(0), (t373), (t374), (t375), (t376), (t377), (.slice Ao11 t377.length co11), rfy, H', ⟨Nat.le_refl _⟩, ⟨by (with_reducible repeat (first | apply Kd.N_alloc | apply Kd.N_drewN | apply Kd.N_drew)); exact Kd.N_mono HO379.out (fun _ hk => ⟨hk.1.1, ⟨hk.1.2.1, ⟨hk.2, hk.1.2.2⟩⟩⟩)⟩, ⟨mK BK372.out⟩, ⟨mK BK381.out⟩, ⟨mI53_1 HI0.out⟩, ⟨mKp HK.out⟩, ⟨mB53HI0 HB.out⟩⟩
      case round =>
       clear H'
       (try clear c13); (try clear c13b0); (try clear c13b1); (try clear c24); (try clear c24b0); (try clear c24b1); (try clear c35); (try clear c35b0); (try clear c35b1); (try clear c43); (try clear c43b0); (try clear c43b1); (try clear c59); (try clear c59b0); (try clear c59b1); (try clear hcz10_0); (try clear hcz10_1); (try clear hcz10_2); (try clear hcz10_3); (try clear hcz10_4); (try clear hcz21_0); (try clear hcz21_1); (try clear hcz21_2); (try clear hcz21_3); (try clear hcz21_4); (try clear hcz23_0); (try clear hcz23_1); (try clear hcz23_2); (try clear hcz23_3); (try clear hcz23_4); (try clear hcz32_0); (try clear hcz32_1); (try clear hcz32_2); (try clear hcz32_3); (try clear hcz32_4); (try clear hcz34_0); (try clear hcz34_1); (try clear hcz34_2); (try clear hcz34_3); (try clear hcz34_4); (try clear hcz40_0); (try clear hcz40_1); (try clear hcz40_2); (try clear hcz40_3); (try clear hcz40_4); (try clear hcz42_0); (try clear hcz42_1); (try clear hcz42_2); (try clear hcz42_3); (try clear hcz42_4); (try clear hfz10_0); (try clear hfz10_1); (try clear hfz10_2); (try clear hfz10_3); (try clear hfz10_4); (try clear hfz21_0); (try clear hfz21_1); (try clear hfz21_2); (try clear hfz21_3); (try clear hfz21_4); (try clear hfz23_0); (try clear hfz23_1); (try clear hfz23_2); (try clear hfz23_3); (try clear hfz23_4); (try clear hfz32_0); (try clear hfz32_1); (try clear hfz32_2); (try clear hfz32_3); (try clear hfz32_4); (try clear hfz34_0); (try clear hfz34_1); (try clear hfz34_2); (try clear hfz34_3); (try clear hfz34_4); (try clear hfz40_0); (try clear hfz40_1); (try clear hfz40_2); (try clear hfz40_3); (try clear hfz40_4); (try clear hfz42_0); (try clear hfz42_1); (try clear hfz42_2); (try clear hfz42_3); (try clear hfz42_4)
       obtain ⟨x5_1, x382000_1, x382001_1, x382002_1, x382003_1, x382004_1, u382004, rfl, HA, HK1, HO_382004, BK372, BK381, HI0, HK, HB⟩ := hrel
       cases gk with
       | zero => exact absurd HA.out (by simp [spec_l3Bent.l1])
       | succ k1 =>
        have H := HA.out
        clear HA
        simp only [spec_l3Bent.l1] at H
        by_cases c60 : x5_1 < 4
        ·rw [if_pos c60] at H
         have c60b0 : decide (x5_1 < 4) = true := decide_eq_true c60
         clear c60
         replace H := Option.bind_eq_some_iff.mp H
         obtain ⟨⟨t400, t401, t402, t403, t404⟩, A610, H⟩ := H
         try dsimp only at H
         have A61 := z0 A610
         clear A610
         obtain ⟨y407, hy407⟩ : ∃ y_ : List (S31), y_ = (([(⟨x382000_1, x382001_1, (⟨x382002_1, x382003_1⟩ : S28), x382004_1⟩ : S31), (⟨t400, t401, (⟨t402, t403⟩ : S28), t404⟩ : S31)] : List (S31))) := ⟨_, rfl⟩
         replace H : (spec_l3Bent.l1 k1 (wrap64 (x5_1 + 1)) s0_0 t383 3 0 0 0 y407) = some (r1, r2, r3, r4, r5, r6) := by first | (rw [hy407]; with_reducible exact H) | (have H2_ := (Option.bind_some _ _).symm.trans H; rw [hy407]; with_reducible exact H2_) | (have H2_ := (Option.bind_some _ _).symm.trans H; with_reducible exact H2_) | with_reducible exact H | (rw [hy407]; exact H) | exact H
         have Ny407 := z0 hy407
         clear hy407
         have H' := z0 H
         clear H
         try go_wp2
         have n_ := az (Kd.N_drew HO_382004.out) <| az (blk_drew BK372.out) <| az (blk_drew BK381.out) <| az (IsS53.drew HI0.out) <| az (keep_drew HK.out) <| z0 (below_drew1 HB.out)
         clear HO_382004 BK372 BK381 HI0 HK HB
         obtain ⟨HO_382004, BK372, BK381, HI0, HK, HB⟩ := n_
         obtain ⟨Ao63, co63, eo63⟩ := Kd.N_slice HO_382004.out
         (first | subst eo63 | (injection eo63 with f1_ f2_ f3_; have f4_ := f1_.symm; have f5_ := f3_.symm; clear f1_ f2_ f3_; subst f4_; subst f5_))
         refine start_ (n := 6) (S := fun w' => w'.cell? ⟨gb381, 0, none⟩ = some (.int .i64 x382000_1) ∧ w'.cell? ⟨gb381, 1, none⟩ = some (.int .i64 x382001_1) ∧ w'.cell? ⟨gb381, 2, none⟩ = some (.int .i64 x382002_1) ∧ w'.cell? ⟨gb381, 3, none⟩ = some (.int .i64 x382003_1) ∧ w'.cell? ⟨gb381, 4, none⟩ = some (.slice Ao63 x382004_1.length co63)) (ds := [5]) #[false, false, false, false, false, false] (by kernel_rfl) rfl rfl ⟨(blk_cell BK381.out 0).trans rfl, (blk_cell BK381.out 1).trans rfl, (blk_cell BK381.out 2).trans rfl, (blk_cell BK381.out 3).trans rfl, (blk_cell BK381.out 4).trans rfl⟩ (fun hHeld => ?_)
         generalize wr.drew = w62 at HO_382004 BK372 BK381 HI0 HK HB hHeld ⊢
         refine take_ (i := 0) (N := some 42) (v := ?_) (a' := ?_) #[true, false, false, false, false, false] rfl rfl (by kernel_rfl) (fun _ _ _ h => h) (Or.inl ⟨by rfl, ?_⟩) hHeld ?_ ?_
         rotate_left
         ·rintro w' ⟨s0, s1, s2, s3, s4⟩
          go_simp
          with_reducible rfl
         rotate_left
         ·simp only [Act.put, List.setIfInBounds_toArray, List.set_cons_zero, List.set_cons_succ, i64_w, i32_w]
          rfl
         refine take_ (i := 1) (N := some 43) (v := ?_) (a' := ?_) #[true, true, false, false, false, false] rfl rfl (by kernel_rfl) (fun _ _ _ h => h) (Or.inl ⟨by rfl, ?_⟩) hHeld ?_ ?_
         rotate_left
         ·rintro w' ⟨s0, s1, s2, s3, s4⟩
          go_simp
          with_reducible rfl
         rotate_left
         ·simp only [Act.put, List.setIfInBounds_toArray, List.set_cons_zero, List.set_cons_succ, i64_w, i32_w]
          rfl
         refine one_ (i := 2) (N := some 44) #[true, true, true, false, false, false] rfl rfl (by kernel_rfl) (by decide) (fun K hK => ?_)
         refine goes_ Tryz.func35 (by kernel_rfl) rfl #[.agg #[.int .i64 x382000_1, .int .i64 x382001_1, .int .i64 x382002_1, .int .i64 x382003_1, .slice Ao63 x382004_1.length co63]] (by rfl) rfl rfl argx ?_
         with_reducible refine (spec_l3Copy.calls k1 x382000_1 x382001_1 x382002_1 x382003_1 _ _ x382004_1 t400 t401 t402 t403 t404 _ ?side1 ?side2 A61.out).mono ?_
         (case side1 => exact mC (Kd.N_reads' HO_382004.out).2.2)
         (case side2 => exact (Kd.N_reads' HO_382004.out).2.1)
         rintro e w64 ⟨v405, rfl, ho0, hb⟩
         refine ⟨_, rfl, ?_⟩
         have n_ := az (Kd.N_elder' (mN HO_382004.out) (by first | exact Kd.N_base ho0 | exact Kd.R_base ho0) hb) <| And.intro (z0 (Kd.N_lower (Kd.N_mono (ok' := fun k_ => (w.heap.size ≤ k_) ∧ nB k_ (.slice Ao63 x382004_1.length co63) ∧ k_ ≠ gb372 ∧ k_ ≠ gb381 ∧ k_ ≠ g) (Kd.R_N (Kd.R_bound ho0)) (fun k_ hk_ => ⟨(Nat.le_trans (kS HK.out) hk_.2.1), (Kd.fresh' (Kd.N_lt (mN HO_382004.out)) k_ hk_.2.1), (fB BK372.out hk_.2.1), (fB BK381.out hk_.2.1), (IsS53.fresh (mI53_1 HI0.out) k_ hk_.2.1)⟩)) (kS HK.out))) <| az (bB BK372.out hb) <| az (bB BK381.out hb) <| az (IsS53.below (mI53_1 HI0.out) hb) <| az (KeepBut.trans (mKp HK.out) (KeepBut.of_below hb g none) (.inl rfl)) <| z0 (below_step (mB53HI0 HB.out) hb)
         clear HO_382004 BK372 BK381 HI0 HK HB
         obtain ⟨HO_382004, HO406, BK372, BK381, HI0, HK, HB⟩ := n_
         (try clear hb)
         (try clear hb2)
         (try clear hk)
         (try clear hi)
         (try clear ho0)
         obtain ⟨Ao65, co65, eo65⟩ := Kd.N_slice HO406.out
         (first | subst eo65 | (injection eo65 with f1_ f2_ f3_; have f4_ := f1_.symm; have f5_ := f3_.symm; clear f1_ f2_ f3_; subst f4_; subst f5_))
         refine hK.out _ _ ⟨(blk_cell BK381.out 0).trans rfl, (blk_cell BK381.out 1).trans rfl, (blk_cell BK381.out 2).trans rfl, (blk_cell BK381.out 3).trans rfl, (blk_cell BK381.out 4).trans rfl⟩ (fun hHeld => ?_)
         clear hK K
         refine norm_ (a' := ?_) ?_ ?_
         rotate_left
         ·show Act.put _ (some 44) _ = _
          simp only [Act.put, List.setIfInBounds_toArray, List.set_cons_zero, List.set_cons_succ, i64_w, i32_w]
          rfl
         refine one_ (i := 3) (N := some 45) #[true, true, true, true, false, false] rfl rfl (by kernel_rfl) (by decide) (fun K hK => ?_)
         refine Kd.N_lit_step k31 _ 31 ?hg (N' := 45) ?hd (xs := ([(⟨x382000_1, x382001_1, (⟨x382002_1, x382003_1⟩ : S28), x382004_1⟩ : S31), (⟨t400, t401, (⟨t402, t403⟩ : S28), t404⟩ : S31)] : List (S31))) (inner := [.int .i64 x382000_1, .int .i64 x382001_1, .int .i64 x382002_1, .int .i64 x382003_1, .slice Ao63 x382004_1.length co63, .int .i64 t400, .int .i64 t401, .int .i64 t402, .int .i64 t403, .slice Ao65 t404.length co65]) (ok := (fun k_ => (w.heap.size ≤ k_) ∧ k_ ≠ gb372 ∧ k_ ≠ gb381 ∧ k_ ≠ g)) (okp := (fun k_ => (w.heap.size ≤ k_) ∧ k_ ≠ gb372 ∧ k_ ≠ gb381 ∧ k_ ≠ g)) ?hr ?hp (fun _ hk => hk) ((show ∀ k_, w64.heap.size ≤ k_ → (fun k_ => (w.heap.size ≤ k_) ∧ k_ ≠ gb372 ∧ k_ ≠ gb381 ∧ k_ ≠ g) k_ from fun k_ hk => ⟨(Nat.le_trans (kS HK.out) hk), fB BK372.out hk, fB BK381.out hk, IsS53.fresh (mI53_1 HI0.out) k_ hk⟩) _ (Nat.le_refl _)) (Below.refl _ _) (Nat.le_refl _) (by simp) ?_; (case hd => rfl); (case hg => rfl); (case hr => first | (go_simp; done) | (go_simp; rfl)); (case hp => exact (Reps.c5 (show Kd.FK k31 _ _ (⟨x382000_1, x382001_1, (⟨x382002_1, x382003_1⟩ : S28), x382004_1⟩ : S31) [.int .i64 x382000_1, .int .i64 x382001_1, .int .i64 x382002_1, .int .i64 x382003_1, .slice Ao63 x382004_1.length co63] from (k31_mkF _ _ (⟨x382000_1, x382001_1, (⟨x382002_1, x382003_1⟩ : S28), x382004_1⟩ : S31) (Kd.N_reads' (Kd.N_mono (ok' := (fun k_ => (w.heap.size ≤ k_) ∧ k_ ≠ gb372 ∧ k_ ≠ gb381 ∧ k_ ≠ g)) (HO_382004.out) (fun k_ hk => ⟨hk.1.1, ⟨hk.1.2.1, ⟨hk.1.2.2.1, hk.1.2.2.2⟩⟩⟩))).2.1 (Kd.N_F (Kd.N_mono (ok' := (fun k_ => (w.heap.size ≤ k_) ∧ k_ ≠ gb372 ∧ k_ ≠ gb381 ∧ k_ ≠ g)) (HO_382004.out) (fun k_ hk => ⟨hk.1.1, ⟨hk.1.2.1, ⟨hk.1.2.2.1, hk.1.2.2.2⟩⟩⟩))))) (Reps.c5 (show Kd.FK k31 _ _ (⟨t400, t401, (⟨t402, t403⟩ : S28), t404⟩ : S31) [.int .i64 t400, .int .i64 t401, .int .i64 t402, .int .i64 t403, .slice Ao65 t404.length co65] from (k31_mkF _ _ (⟨t400, t401, (⟨t402, t403⟩ : S28), t404⟩ : S31) (Kd.N_reads' (Kd.N_mono (ok' := (fun k_ => (w.heap.size ≤ k_) ∧ k_ ≠ gb372 ∧ k_ ≠ gb381 ∧ k_ ≠ g)) (HO406.out) (fun k_ hk => ⟨hk.1, ⟨hk.2.2.1, ⟨hk.2.2.2.1, hk.2.2.2.2⟩⟩⟩))).2.1 (Kd.N_F (Kd.N_mono (ok' := (fun k_ => (w.heap.size ≤ k_) ∧ k_ ≠ gb372 ∧ k_ ≠ gb381 ∧ k_ ≠ g)) (HO406.out) (fun k_ hk => ⟨hk.1, ⟨hk.2.2.1, ⟨hk.2.2.2.1, hk.2.2.2.2⟩⟩⟩))))) (Reps.none _ _))))
         intro v408 w66 ho67 hb hg_ hnew_
         clear hg_ hnew_
         (first | rw [← Ny407.out] at ho67 | (simp only [Int.reduceToNat] at ho67; rw [← Ny407.out] at ho67))
         have n_ := az (Kd.N_lower ho67 (kS HK.out)) <| az (bB BK372.out hb) <| az (bB BK381.out hb) <| az (IsS53.below (mI53_1 HI0.out) hb) <| az (KeepBut.trans (mKp HK.out) (KeepBut.of_below hb g none) (.inl rfl)) <| z0 (below_step (mB53HI0 HB.out) hb)
         clear BK372 BK381 HI0 HK HB HO406 HO_382004
         obtain ⟨HO409, BK372, BK381, HI0, HK, HB⟩ := n_
         clear hb ho67
         obtain ⟨Ao68, co68, eo68⟩ := Kd.N_slice HO409.out
         (first | subst eo68 | (injection eo68 with f1_ f2_ f3_; have f4_ := f1_.symm; have f5_ := f3_.symm; clear f1_ f2_ f3_; subst f4_; subst f5_))
         refine hK.out _ _ ⟨(blk_cell BK381.out 0).trans rfl, (blk_cell BK381.out 1).trans rfl, (blk_cell BK381.out 2).trans rfl, (blk_cell BK381.out 3).trans rfl, (blk_cell BK381.out 4).trans rfl⟩ (fun hHeld => ?_)
         clear hK K
         refine norm_ (a' := ?_) ?_ ?_
         rotate_left
         ·show Act.put _ (some 45) _ = _
          simp only [Act.put, List.setIfInBounds_toArray, List.set_cons_zero, List.set_cons_succ, i64_w, i32_w]
          rfl
         refine pure_ (i := 4) (N := some 46) (v := ?_) (a' := ?_) #[true, true, true, true, true, false] rfl rfl (by kernel_rfl) (fun _ _ _ h => h) (Or.inl ⟨by rfl, ?_⟩) ?_ ?_
         rotate_left
         ·intro w'
          go_simp
          with_reducible rfl
         rotate_left
         ·simp only [Act.put, List.setIfInBounds_toArray, List.set_cons_zero, List.set_cons_succ, i64_w, i32_w]
          rfl
         refine last_ (i := 5) (N := none) #[true, true, true, true, true, true] rfl rfl (by kernel_rfl) (by decide) (fun K hK => ?_)
         have hs69 : w66.cell? ⟨gb381, 0, none⟩ = some (.int .i64 x382000_1) := (blk_cell BK381.out 0).trans rfl
         have hfs69 := blk_frozen BK381.out 0
         have hns69_0 := NB372_381.out
         have hms69_0 := NB381_372.out
         have hs70 : w66.cell? ⟨gb381, 1, none⟩ = some (.int .i64 x382001_1) := (blk_cell BK381.out 1).trans rfl
         have hfs70 := blk_frozen BK381.out 1
         have hns70_0 := NB372_381.out
         have hms70_0 := NB381_372.out
         have hs71 : w66.cell? ⟨gb381, 2, none⟩ = some (.int .i64 x382002_1) := (blk_cell BK381.out 2).trans rfl
         have hfs71 := blk_frozen BK381.out 2
         have hns71_0 := NB372_381.out
         have hms71_0 := NB381_372.out
         have hs72 : w66.cell? ⟨gb381, 3, none⟩ = some (.int .i64 x382003_1) := (blk_cell BK381.out 3).trans rfl
         have hfs72 := blk_frozen BK381.out 3
         have hns72_0 := NB372_381.out
         have hms72_0 := NB381_372.out
         have hs73 : w66.cell? ⟨gb381, 4, none⟩ = some (.slice Ao63 x382004_1.length co63) := (blk_cell BK381.out 4).trans rfl
         have hfs73 := blk_frozen BK381.out 4
         have hns73_0 := NB372_381.out
         have hms73_0 := NB381_372.out
         refine skip_ (w1 := ?_) (by rfl) rfl ?_ ?_
         rotate_left
         ·go_simp
          rfl
         refine hK.out _ _ ?_
         clear hK K
         refine done_ (by kernel_rfl) ?_
         try go_wp2
         go_roundg k1
         case measure => have := HK1.out; omega
         case rel => exact ⟨(wrap64 (x5_1 + 1)), (3), (0), (0), (0), (y407), (.slice Ao68 y407.length co68), rfy, H', ⟨by have := HK1.out; omega⟩, ⟨by (with_reducible repeat (first | apply Kd.N_alloc | apply Kd.N_drewN | apply Kd.N_drew)); exact Kd.N_mono (Kd.N_far (p := ⟨gb381, 4, none⟩) (Kd.N_far (p := ⟨gb381, 3, none⟩) (Kd.N_far (p := ⟨gb381, 2, none⟩) (Kd.N_far (p := ⟨gb381, 1, none⟩) (Kd.N_far (p := ⟨gb381, 0, none⟩) (Kd.N_mono HO409.out (fun k_ hk => (⟨hk, hk.2.2.1⟩ : _ ∧ k_ ≠ gb381))) (fun _ hk => hk.2) (.int .i64 3)) (fun _ hk => hk.2) (.int .i64 0)) (fun _ hk => hk.2) (.int .i64 0)) (fun _ hk => hk.2) (.int .i64 0)) (fun _ hk => hk.2) (.slice Ao68 y407.length co68)) (fun _ hk => ⟨hk.1.1, ⟨hk.1.2.1, ⟨hk.1.2.2.1, hk.1.2.2.2⟩⟩⟩)⟩, ⟨mF BK372.out⟩, ⟨by (with_reducible repeat (first | refine blk_drewN ?_ _ | refine blk_drew ?_ | refine blk_alloc ?_ _)); refine blk_put (cs := #[.int .i64 3, .int .i64 0, .int .i64 0, .int .i64 0, .slice Ao63 x382004_1.length co63]) ?_ 4 _ rfl; (with_reducible repeat (first | refine blk_drewN ?_ _ | refine blk_drew ?_ | refine blk_alloc ?_ _)); refine blk_put (cs := #[.int .i64 3, .int .i64 0, .int .i64 0, .int .i64 x382003_1, .slice Ao63 x382004_1.length co63]) ?_ 3 _ rfl; (with_reducible repeat (first | refine blk_drewN ?_ _ | refine blk_drew ?_ | refine blk_alloc ?_ _)); refine blk_put (cs := #[.int .i64 3, .int .i64 0, .int .i64 x382002_1, .int .i64 x382003_1, .slice Ao63 x382004_1.length co63]) ?_ 2 _ rfl; (with_reducible repeat (first | refine blk_drewN ?_ _ | refine blk_drew ?_ | refine blk_alloc ?_ _)); refine blk_put (cs := #[.int .i64 3, .int .i64 x382001_1, .int .i64 x382002_1, .int .i64 x382003_1, .slice Ao63 x382004_1.length co63]) ?_ 1 _ rfl; (with_reducible repeat (first | refine blk_drewN ?_ _ | refine blk_drew ?_ | refine blk_alloc ?_ _)); refine blk_put (cs := #[.int .i64 x382000_1, .int .i64 x382001_1, .int .i64 x382002_1, .int .i64 x382003_1, .slice Ao63 x382004_1.length co63]) ?_ 0 _ rfl; (with_reducible repeat (first | refine blk_drewN ?_ _ | refine blk_drew ?_ | refine blk_alloc ?_ _)); exact BK381.out⟩, ⟨mI53_1 HI0.out⟩, ⟨mKp HK.out⟩, ⟨mB53HI0 HB.out⟩⟩
        ·rw [if_neg c60] at H
         have c60b0 : decide (x5_1 < 4) = false := decide_eq_false c60
         clear c60
         simp only [Option.some.injEq, Prod.mk.injEq] at H
         obtain ⟨rfl, rfl, rfl, rfl, rfl, rfl⟩ := H
         have hnb74 := NB381_372.out
         have hnc74 := NB372_381.out
         have hnb75 := NB381_0.out
         have hnc75 := NB0_381.out
         obtain ⟨hcz76_0, hcz76_1, hcz76_2, hcz76_3, hcz76_4, hfz76_0, hfz76_1, hfz76_2, hfz76_3, hfz76_4⟩ := cel5 BK381.out
         have hnb77 := NB372_0.out
         have hnc77 := NB0_372.out
         obtain ⟨hcz78_0, hcz78_1, hcz78_2, hcz78_3, hcz78_4, hfz78_0, hfz78_1, hfz78_2, hfz78_3, hfz78_4⟩ := cel5 BK372.out
         obtain ⟨Ao79, co79, eo79⟩ := Kd.N_slice HO_382004.out
         subst eo79
         go_wp2
         refine bodyPost_ret (results_cell_row rfl _ _ gb372 31 #[.int .i64 x382000_1, .int .i64 x382001_1, .int .i64 x382002_1, .int .i64 x382003_1, .slice Ao79 x382004_1.length co79] (0, 0) _ rfl (pF BK372.out) Tryz.underlying31 rfl (by kernel_rfl)) rfl ?_
         exact ⟨_, rfx, by (with_reducible repeat (first | apply Kd.N_alloc | apply Kd.N_drewN | apply Kd.N_drew)); exact Kd.N_mono (Kd.N_far (p := ⟨gb372, 4, none⟩) (Kd.N_far (p := ⟨gb372, 3, none⟩) (Kd.N_far (p := ⟨gb372, 2, none⟩) (Kd.N_far (p := ⟨gb372, 1, none⟩) (Kd.N_far (p := ⟨gb372, 0, none⟩) (Kd.N_mono HO_382004.out (fun k_ hk => (⟨hk, hk.2.1⟩ : _ ∧ k_ ≠ gb372))) (fun _ hk => hk.2) (.int .i64 x382000_1)) (fun _ hk => hk.2) (.int .i64 x382001_1)) (fun _ hk => hk.2) (.int .i64 x382002_1)) (fun _ hk => hk.2) (.int .i64 x382003_1)) (fun _ hk => hk.2) (.slice Ao79 x382004_1.length co79)) (fun _ hk => hk.1.1), mI53_1 HI0.out, mB53HI0 HB.out, mKp HK.out⟩
     ·rw [if_neg c59] at H
      have c59b0 : (t382 == 4) = false := beq_eq_false_iff_ne.mpr c59
      have c59b1 : (t382 != 4) = true := bne_iff_ne.mpr c59
      simp only [Option.some.injEq, Prod.mk.injEq] at H
      obtain ⟨rfl, rfl, rfl, rfl, rfl, rfl⟩ := H
      have hnb80 := NB381_372.out
      have hnc80 := NB372_381.out
      have hnb81 := NB381_0.out
      have hnc81 := NB0_381.out
      obtain ⟨hcz82_0, hcz82_1, hcz82_2, hcz82_3, hcz82_4, hfz82_0, hfz82_1, hfz82_2, hfz82_3, hfz82_4⟩ := cel5 BK381.out
      have hnb83 := NB372_0.out
      have hnc83 := NB0_372.out
      obtain ⟨hcz84_0, hcz84_1, hcz84_2, hcz84_3, hcz84_4, hfz84_0, hfz84_1, hfz84_2, hfz84_3, hfz84_4⟩ := cel5 BK372.out
      go_wp2
      refine bodyPost_ret (results_cell_row rfl _ _ gb372 31 #[.int .i64 t373, .int .i64 t374, .int .i64 t375, .int .i64 t376, .slice Ao11 t377.length co11] (0, 0) _ rfl (pF BK372.out) Tryz.underlying31 rfl (by kernel_rfl)) rfl ?_
      exact ⟨_, rfx, by (with_reducible repeat (first | apply Kd.N_alloc | apply Kd.N_drewN | apply Kd.N_drew)); exact Kd.N_mono (Kd.N_far (p := ⟨gb372, 4, none⟩) (Kd.N_far (p := ⟨gb372, 3, none⟩) (Kd.N_far (p := ⟨gb372, 2, none⟩) (Kd.N_far (p := ⟨gb372, 1, none⟩) (Kd.N_far (p := ⟨gb372, 0, none⟩) (Kd.N_mono HO379.out (fun k_ hk => (⟨hk, hk.1.2.1⟩ : _ ∧ k_ ≠ gb372))) (fun _ hk => hk.2) (.int .i64 t373)) (fun _ hk => hk.2) (.int .i64 t374)) (fun _ hk => hk.2) (.int .i64 t375)) (fun _ hk => hk.2) (.int .i64 t376)) (fun _ hk => hk.2) (.slice Ao11 t377.length co11)) (fun _ hk => hk.1.1.1), mI53_1 HI0.out, mB53HI0 HB.out, mKp HK.out⟩

/-! ### spec_l4Bent: function 10 -/
mutual
def spec_l4Bent.l0 : Nat → List (S33) → Int → List Int → Int → Option ((List (S33)) × Int)
 | 0, _, _, _, _ => none
 | k + 1, x3, x5, x1000, x1001 => if x5 < 4 then ((spec_l3Expr.f k x1000 x1001 1).bind fun bt437 => (spec_l4Bent.l0 k (([(⟨2, (⟨0, 0⟩ : S28), (⟨bt437.1, bt437.2.1, (⟨bt437.2.2.1, bt437.2.2.2.1⟩ : S28), bt437.2.2.2.2.1⟩ : S31), x3, ([] : List (S33))⟩ : S33)] : List (S33))) (wrap64 (x5 + 1)) x1000 bt437.2.2.2.2.2)) else (some (x3, x1001))
def spec_l4Bent.l1 : Nat → List (S33) → List Int → Int → Option ((List (S33)) × Int)
 | 0, _, _, _ => none
 | k + 1, x3, x1000, x1001 => if (x3.length : Int) ≤ 16 then ((spec_l2To.f k x1000 x1001).bind fun bt448 => ((spec_l3Expr.f k x1000 bt448.2.2 1).bind fun bt451 => (if x3.length < 1099511627776 then (spec_l4Bent.l1 k (x3 ++ [(⟨1, (⟨bt448.1, bt448.2.1⟩ : S28), (⟨bt451.1, bt451.2.1, (⟨bt451.2.2.1, bt451.2.2.2.1⟩ : S28), bt451.2.2.2.2.1⟩ : S31), ([] : List (S33)), ([] : List (S33))⟩ : S33)]) x1000 bt451.2.2.2.2.2) else (none)))) else (some (x3, x1001))
end
def spec_l4Bent.f (k : Nat) (s0_0 : List Int) (s0_1 : Int) : Option ((List (S33)) × Int) := (spec_l4Some.f k s0_0 s0_1).bind fun bt410 => (if (bt410.1.length : Int) = 0 then (some (bt410.1, bt410.2)) else ((spec_l12Rd_pick.f k s0_0 bt410.2 (bt410.1.length : Int)).bind fun bt414 => ((spec_l12Rd_pick.f k s0_0 bt414.2 50).bind fun bt416 => (if bt416.1 = 0 then ((spec_l12Rd_num.f k s0_0 bt416.2 (([0, 4, 1, 2, 3] : List Int))).bind fun bt421 => (if 0 ≤ bt414.1 then (if bt414.1 < (bt410.1.length : Int) then (some ((bt410.1.set (bt414.1 : Int).toNat (⟨bt421.1, (⟨(rd_T33 bt410.1 bt414.1).f1.f0, (rd_T33 bt410.1 bt414.1).f1.f1⟩ : S28), (⟨(rd_T33 bt410.1 bt414.1).f2.f0, (rd_T33 bt410.1 bt414.1).f2.f1, (⟨(rd_T33 bt410.1 bt414.1).f2.f2.f0, (rd_T33 bt410.1 bt414.1).f2.f2.f1⟩ : S28), (rd_T33 bt410.1 bt414.1).f2.f3⟩ : S31), (rd_T33 bt410.1 bt414.1).f3, (rd_T33 bt410.1 bt414.1).f4⟩ : S33)), bt421.2)) else (none)) else (none))) else (if bt416.1 = 1 then ((spec_l2AddrBent.f k s0_0 bt416.2).bind fun bt424 => (if 0 ≤ bt414.1 then (if bt414.1 < (bt410.1.length : Int) then (some ((bt410.1.set (bt414.1 : Int).toNat (⟨(rd_T33 bt410.1 bt414.1).f0, (⟨bt424.1, bt424.2.1⟩ : S28), (⟨(rd_T33 bt410.1 bt414.1).f2.f0, (rd_T33 bt410.1 bt414.1).f2.f1, (⟨(rd_T33 bt410.1 bt414.1).f2.f2.f0, (rd_T33 bt410.1 bt414.1).f2.f2.f1⟩ : S28), (rd_T33 bt410.1 bt414.1).f2.f3⟩ : S31), (rd_T33 bt410.1 bt414.1).f3, (rd_T33 bt410.1 bt414.1).f4⟩ : S33)), bt424.2.2)) else (none)) else (none))) else (if bt416.1 = 2 then ((spec_l3Bent.f k s0_0 bt416.2).bind fun bt428 => (if 0 ≤ bt414.1 then (if bt414.1 < (bt410.1.length : Int) then (some ((bt410.1.set (bt414.1 : Int).toNat (⟨(rd_T33 bt410.1 bt414.1).f0, (⟨(rd_T33 bt410.1 bt414.1).f1.f0, (rd_T33 bt410.1 bt414.1).f1.f1⟩ : S28), (⟨bt428.1, bt428.2.1, (⟨bt428.2.2.1, bt428.2.2.2.1⟩ : S28), bt428.2.2.2.2.1⟩ : S31), (rd_T33 bt410.1 bt414.1).f3, (rd_T33 bt410.1 bt414.1).f4⟩ : S33)), bt428.2.2.2.2.2)) else (none)) else (none))) else (if bt416.1 = 3 then (spec_l4Bent.l0 k bt410.1 0 s0_0 bt416.2) else (if bt416.1 = 4 then (spec_l4Bent.l1 k bt410.1 s0_0 bt416.2) else (some (bt410.1, bt416.2))))))))))
theorem q10_1 {p : Prop} (h : p := by first | (with_reducible assumption) | assumption) : p := h
set_option maxHeartbeats 8000000 in
set_option maxRecDepth 100000 in
theorem spec_l4Bent.calls (k : Nat) (g : Nat) (s0_0 : List Int) (s0_1 : Int) (r1 : List (S33)) (r2 : Int) (w0 w : World) (hI : IsS53 w0 w g s0_0 s0_1) (hB : Below w0.heap.size w0 w) (h : spec_l4Bent.f k s0_0 s0_1 = some (r1, r2)) :
  Calls Tryz.prog 10 #[.pointer (some ⟨g, 0, none⟩)] w fun e w' => ∃ v0_ : Value, e = .returned (v0_) ∧ Kd.N k33 33 w' w.heap.size (fun k_ => (w.heap.size ≤ k_)) v0_ r1 ∧ IsS53 w0 w' g s0_0 r2 ∧ Below w0.heap.size w0 w' ∧ KeepBut w w' g none := by
 have hu28 := Tryz.underlying28
 have hu31 := Tryz.underlying31
 have hu33 := Tryz.underlying33
 have HI0 := z0 hI
 have HK := z0 (KeepBut.refl w g none)
 have HL := z0 hB.size
 clear hI
 have HW0 := z0 hB.size
 have HB := z0 hB
 clear hB
 have H : ((spec_l4Some.f k s0_0 s0_1).bind fun bt410 => (if (bt410.1.length : Int) = 0 then (some (bt410.1, bt410.2)) else ((spec_l12Rd_pick.f k s0_0 bt410.2 (bt410.1.length : Int)).bind fun bt414 => ((spec_l12Rd_pick.f k s0_0 bt414.2 50).bind fun bt416 => (if bt416.1 = 0 then ((spec_l12Rd_num.f k s0_0 bt416.2 (([0, 4, 1, 2, 3] : List Int))).bind fun bt421 => (if 0 ≤ bt414.1 then (if bt414.1 < (bt410.1.length : Int) then (some ((bt410.1.set (bt414.1 : Int).toNat (⟨bt421.1, (⟨(rd_T33 bt410.1 bt414.1).f1.f0, (rd_T33 bt410.1 bt414.1).f1.f1⟩ : S28), (⟨(rd_T33 bt410.1 bt414.1).f2.f0, (rd_T33 bt410.1 bt414.1).f2.f1, (⟨(rd_T33 bt410.1 bt414.1).f2.f2.f0, (rd_T33 bt410.1 bt414.1).f2.f2.f1⟩ : S28), (rd_T33 bt410.1 bt414.1).f2.f3⟩ : S31), (rd_T33 bt410.1 bt414.1).f3, (rd_T33 bt410.1 bt414.1).f4⟩ : S33)), bt421.2)) else (none)) else (none))) else (if bt416.1 = 1 then ((spec_l2AddrBent.f k s0_0 bt416.2).bind fun bt424 => (if 0 ≤ bt414.1 then (if bt414.1 < (bt410.1.length : Int) then (some ((bt410.1.set (bt414.1 : Int).toNat (⟨(rd_T33 bt410.1 bt414.1).f0, (⟨bt424.1, bt424.2.1⟩ : S28), (⟨(rd_T33 bt410.1 bt414.1).f2.f0, (rd_T33 bt410.1 bt414.1).f2.f1, (⟨(rd_T33 bt410.1 bt414.1).f2.f2.f0, (rd_T33 bt410.1 bt414.1).f2.f2.f1⟩ : S28), (rd_T33 bt410.1 bt414.1).f2.f3⟩ : S31), (rd_T33 bt410.1 bt414.1).f3, (rd_T33 bt410.1 bt414.1).f4⟩ : S33)), bt424.2.2)) else (none)) else (none))) else (if bt416.1 = 2 then ((spec_l3Bent.f k s0_0 bt416.2).bind fun bt428 => (if 0 ≤ bt414.1 then (if bt414.1 < (bt410.1.length : Int) then (some ((bt410.1.set (bt414.1 : Int).toNat (⟨(rd_T33 bt410.1 bt414.1).f0, (⟨(rd_T33 bt410.1 bt414.1).f1.f0, (rd_T33 bt410.1 bt414.1).f1.f1⟩ : S28), (⟨bt428.1, bt428.2.1, (⟨bt428.2.2.1, bt428.2.2.2.1⟩ : S28), bt428.2.2.2.2.1⟩ : S31), (rd_T33 bt410.1 bt414.1).f3, (rd_T33 bt410.1 bt414.1).f4⟩ : S33)), bt428.2.2.2.2.2)) else (none)) else (none))) else (if bt416.1 = 3 then (spec_l4Bent.l0 k bt410.1 0 s0_0 bt416.2) else (if bt416.1 = 4 then (spec_l4Bent.l1 k bt410.1 s0_0 bt416.2) else (some (bt410.1, bt416.2))))))))))) = some (r1, r2) := h
 clear h
 replace H := Option.bind_eq_some_iff.mp H
 obtain ⟨⟨t410, t413⟩, A20, H⟩ := H
 try dsimp only at H
 have A2 := z0 A20
 clear A20
 have HF3 := z0 H
 clear H
 go_enter Tryz.func10, Tryz.ntmps10
 go_upto_if 10 with (first | ((with_reducible refine gate_callee (f := 17) rfl ?_); refine goesL_ (some 7) rfl rfl Tryz.func17 (by kernel_rfl) rfl #[.pointer (some ⟨g, 0, none⟩)] rfl argx ?_; (with_reducible refine (spec_l4Some.calls k g s0_0 s0_1 t410 t413 w0 _ ?side1 ?side2 A2.out).mono ?_); (case side1 => exact mI53_1 HI0.out); (case side2 => exact mB53HI0 HB.out); rintro e w4 ⟨v411, rfl, ho0, hi, hb, hk⟩; refine ⟨_, rfl, ?_⟩; have n_ := az (Kd.N_lower (Kd.N_mono (ok' := fun k_ => (w.heap.size ≤ k_) ∧ k_ ≠ g) ho0 (fun k_ hk_ => ⟨(Nat.le_trans (kS HK.out) hk_), (IsS53.fresh (mI53_1 HI0.out) k_ hk_)⟩)) (kS HK.out)) <| az (KeepBut.trans (mKp HK.out) hk (.inl rfl)) <| az (hb) <| z0 (hi); clear HK HB HI0; obtain ⟨HO412, HK, HB, HI0⟩ := n_; clear hb hk hi ho0; obtain ⟨Ao5, co5, eo5⟩ := Kd.N_slice HO412.out; subst eo5))
 (try simp only [Act.put, List.setIfInBounds_toArray, List.set_cons_zero, List.set_cons_succ])
 have H := HF3.out
 clear HF3
 try clear c1
 by_cases c6 : (t410.length : Int) = 0
 ·rw [if_pos c6] at H
  have c6b0 : ((t410.length : Int) == 0) = true := beq_iff_eq.mpr c6
  have c6b1 : ((t410.length : Int) != 0) = false := bne_eq_false_iff_eq.mpr c6
  clear c6
  (first | rw [c6b0] | (simp only [i64_w, i32_w]; rw [c6b0]) | skip)
  simp only [Option.some.injEq, Prod.mk.injEq] at H
  obtain ⟨rfl, rfl⟩ := H
  go_wp2
  go_ret
  exact ⟨_, rfx, by (with_reducible repeat (first | apply Kd.N_alloc | apply Kd.N_drewN | apply Kd.N_drew)); exact Kd.N_mono HO412.out (fun _ hk => hk.1), mI53_1 HI0.out, mB53HI0 HB.out, mKp HK.out⟩
 ·rw [if_neg c6] at H
  have c6b0 : ((t410.length : Int) == 0) = false := beq_eq_false_iff_ne.mpr c6
  have c6b1 : ((t410.length : Int) != 0) = true := bne_iff_ne.mpr c6
  have c6b2 : ¬ (t410 = []) := fun h_ => c6 (by rw [h_]; rfl)
  (first | rw [c6b0] | (simp only [i64_w, i32_w]; rw [c6b0]) | skip)
  replace H := Option.bind_eq_some_iff.mp H
  obtain ⟨⟨t414, t415⟩, A70, H⟩ := H
  try dsimp only at H
  have A7 := z0 A70
  clear A70
  replace H := Option.bind_eq_some_iff.mp H
  obtain ⟨⟨t416, t417⟩, A80, H⟩ := H
  try dsimp only at H
  have A8 := z0 A80
  clear A80
  have HF9 := z0 H
  clear H
  go_upto_if 18 with (first | ((with_reducible refine gate_callee (f := 18) rfl ?_); refine goesL_ (some 15) rfl rfl Tryz.func18 (by kernel_rfl) rfl #[.pointer (some ⟨g, 0, none⟩), .int .i64 (t410.length : Int)] rfl argx ?_; (with_reducible refine (spec_l12Rd_pick.calls k g s0_0 t413 (t410.length : Int) t414 t415 w0 _ ?side1 ?side2 A7.out).mono ?_); (case side1 => exact mI53_1 HI0.out); (case side2 => exact mB53HI0 HB.out); rintro e w10 ⟨rfl, hi, hb, hk⟩; refine ⟨_, rfl, ?_⟩; have n_ := az (Kd.N_mono (Kd.N_keep (Kd.N_mono (ok := fun k_ => (((w.heap.size ≤ k_)) ∧ k_ ≠ g)) (mN HO412.out) (fun k_ hk_ => (⟨hk_, hk_.2⟩ : _ ∧ k_ ≠ g))) hk (fun _ h => h.2)) (fun _ h => h.1)) <| az (KeepBut.trans (mKp HK.out) hk (.inl rfl)) <| az (hb) <| z0 (hi); clear HO412 HK HB HI0; obtain ⟨HO412, HK, HB, HI0⟩ := n_; clear hb hk hi) | ((with_reducible refine gate_callee (f := 18) rfl ?_); refine goesL_ (some 17) rfl rfl Tryz.func18 (by kernel_rfl) rfl #[.pointer (some ⟨g, 0, none⟩), .int .i64 50] rfl argx ?_; (with_reducible refine (spec_l12Rd_pick.calls k g s0_0 t415 50 t416 t417 w0 _ ?side1 ?side2 A8.out).mono ?_); (case side1 => exact mI53_1 HI0.out); (case side2 => exact mB53HI0 HB.out); rintro e w11 ⟨rfl, hi, hb, hk⟩; refine ⟨_, rfl, ?_⟩; have n_ := az (Kd.N_mono (Kd.N_keep (Kd.N_mono (ok := fun k_ => (((w.heap.size ≤ k_)) ∧ k_ ≠ g)) (mN HO412.out) (fun k_ hk_ => (⟨hk_, hk_.2⟩ : _ ∧ k_ ≠ g))) hk (fun _ h => h.2)) (fun _ h => h.1)) <| az (KeepBut.trans (mKp HK.out) hk (.inl rfl)) <| az (hb) <| z0 (hi); clear HO412 HK HB HI0; obtain ⟨HO412, HK, HB, HI0⟩ := n_; clear hb hk hi))
  (try simp only [Act.put, List.setIfInBounds_toArray, List.set_cons_zero, List.set_cons_succ])
  have H := HF9.out
  clear HF9
  (try clear c1); (try clear c6); (try clear c6b0); (try clear c6b1); (try clear c6b2)
  by_cases c12 : t416 = 0
  ·rw [if_pos c12] at H
   have c12b0 : (t416 == 0) = true := beq_iff_eq.mpr c12
   have c12b1 : (t416 != 0) = false := bne_eq_false_iff_eq.mpr c12
   clear c12
   (first | rw [c12b0] | (simp only [i64_w, i32_w]; rw [c12b0]) | skip)
   obtain ⟨y418, hy418⟩ : ∃ y_ : List Int, y_ = (([0, 4, 1, 2, 3] : List Int)) := ⟨_, rfl⟩
   replace H : ((spec_l12Rd_num.f k s0_0 t417 y418).bind fun bt421 => (if 0 ≤ t414 then (if t414 < (t410.length : Int) then (some ((t410.set (t414 : Int).toNat (⟨bt421.1, (⟨(rd_T33 t410 t414).f1.f0, (rd_T33 t410 t414).f1.f1⟩ : S28), (⟨(rd_T33 t410 t414).f2.f0, (rd_T33 t410 t414).f2.f1, (⟨(rd_T33 t410 t414).f2.f2.f0, (rd_T33 t410 t414).f2.f2.f1⟩ : S28), (rd_T33 t410 t414).f2.f3⟩ : S31), (rd_T33 t410 t414).f3, (rd_T33 t410 t414).f4⟩ : S33)), bt421.2)) else (none)) else (none))) = some (r1, r2) := by first | (rw [hy418]; with_reducible exact H) | (have H2_ := (Option.bind_some _ _).symm.trans H; rw [hy418]; with_reducible exact H2_) | (have H2_ := (Option.bind_some _ _).symm.trans H; with_reducible exact H2_) | with_reducible exact H | (rw [hy418]; exact H) | exact H
   have Ny418 := z0 hy418
   clear hy418
   replace H := Option.bind_eq_some_iff.mp H
   obtain ⟨⟨t421, t422⟩, A130, H⟩ := H
   try dsimp only at H
   have A13 := z0 A130
   clear A130
   by_cases c14 : 0 ≤ t414
   ·rw [if_pos c14] at H
    have c14b0 : decide (0 ≤ t414) = true := decide_eq_true c14
    clear c14
    by_cases c15 : t414 < (t410.length : Int)
    ·rw [if_pos c15] at H
     have c15b0 : decide (t414 < (t410.length : Int)) = true := decide_eq_true c15
     clear c15
     obtain ⟨y423, hy423⟩ : ∃ y_ : List (S33), y_ = (t410.set (t414 : Int).toNat (⟨t421, (⟨(rd_T33 t410 t414).f1.f0, (rd_T33 t410 t414).f1.f1⟩ : S28), (⟨(rd_T33 t410 t414).f2.f0, (rd_T33 t410 t414).f2.f1, (⟨(rd_T33 t410 t414).f2.f2.f0, (rd_T33 t410 t414).f2.f2.f1⟩ : S28), (rd_T33 t410 t414).f2.f3⟩ : S31), (rd_T33 t410 t414).f3, (rd_T33 t410 t414).f4⟩ : S33)) := ⟨_, rfl⟩
     replace H : (some (y423, t422)) = some (r1, r2) := by first | (rw [hy423]; with_reducible exact H) | (have H2_ := (Option.bind_some _ _).symm.trans H; rw [hy423]; with_reducible exact H2_) | (have H2_ := (Option.bind_some _ _).symm.trans H; with_reducible exact H2_) | with_reducible exact H | (rw [hy423]; exact H) | exact H
     have Ny423 := z0 hy423
     clear hy423
     simp only [Option.some.injEq, Prod.mk.injEq] at H
     obtain ⟨rfl, rfl⟩ := H
     go_wp2_with (first | ((with_reducible refine gate_dst (N := 23) rfl ?_); refine Kd.R_lit (Kd.int .i64) _ 3 ?hg (N := 23) ?hd (xs := ([0, 4, 1, 2, 3] : List Int)) (inner := [.int .i64 0, .int .i64 4, .int .i64 1, .int .i64 2, .int .i64 3]) (ok := fun _ => True) (okp := fun _ => True) ?hr ?hp (fun _ hk => hk) trivial (Below.refl _ _) (Nat.le_refl _) (by simp) ?_; (case hd => rfl); (case hg => rfl); (case hr => first | (go_simp; done) | (go_simp; rfl)); (case hp => exact (Reps.one (show Kd.M (Kd.int .i64) _ _ _ 0 [.int .i64 0] from rfl) (Reps.one (show Kd.M (Kd.int .i64) _ _ _ 4 [.int .i64 4] from rfl) (Reps.one (show Kd.M (Kd.int .i64) _ _ _ 1 [.int .i64 1] from rfl) (Reps.one (show Kd.M (Kd.int .i64) _ _ _ 2 [.int .i64 2] from rfl) (Reps.one (show Kd.M (Kd.int .i64) _ _ _ 3 [.int .i64 3] from rfl) (Reps.none _ _))))))); intro v419 w17 ho18 hb hg_ hnew_; clear hg_ hnew_; (first | rw [← Ny418.out] at ho18 | (simp only [Int.reduceToNat] at ho18; rw [← Ny418.out] at ho18)); have n_ := az (Kd.N_elder' (mN HO412.out) (by first | exact Kd.R_base ho18 | exact Kd.R_base ho18) hb) <| az (Kd.R_lower (Kd.R_newM (M := fun k_ => (w.heap.size ≤ k_)) ho18 (kS HK.out) (fun k_ h_ => h_)) (kS HK.out)) <| az (IsS53.below (mI53_1 HI0.out) hb) <| az (KeepBut.trans (mKp HK.out) (KeepBut.of_below hb g none) (.inl rfl)) <| z0 (below_step (mB53HI0 HB.out) hb); clear HO412 HI0 HK HB; obtain ⟨HO412, HO420, HI0, HK, HB⟩ := n_; clear hb ho18; obtain ⟨Ao19, co19, eo19⟩ := Kd.R_slice HO420.out; subst eo19) | ((with_reducible refine gate_callee (f := 19) rfl ?_); refine goesL_ (some 24) rfl rfl Tryz.func19 (by kernel_rfl) rfl #[.pointer (some ⟨g, 0, none⟩), .slice Ao19 y418.length co19] rfl argx ?_; (with_reducible refine (spec_l12Rd_num.calls k g s0_0 t417 _ _ y418 t421 t422 w0 _ ?side1 ?side2 ?side3 ?side4 ?side5 A13.out).mono ?_); (case side1 => exact mI53_1 HI0.out); (case side2 => exact mB53HI0 HB.out); (case side3 => exact mC (Kd.R_reads' HO420.out).2.2); (case side4 => exact (Kd.R_reads' HO420.out).2.1); (case side5 => exact far_slice (IsS53.own_ne HI0.out HO420.out (by decide))); rintro e w20 ⟨rfl, hi, hb, hk⟩; refine ⟨_, rfl, ?_⟩; have n_ := az (Kd.N_mono (Kd.N_keep (Kd.N_mono (ok := fun k_ => ((((w.heap.size ≤ k_)) ∧ k_ ≠ g) ∧ nB k_ (.slice Ao19 y418.length co19))) (mN HO412.out) (fun k_ hk_ => (⟨hk_, hk_.1.2⟩ : _ ∧ k_ ≠ g))) hk (fun _ h => h.2)) (fun _ h => h.1)) <| az (Kd.R_mono (Kd.R_keep (IsS53.apart (show IsS53 w0 _ g s0_0 t417 from mI53_1 HI0.out) (mR HO420.out) (by decide)) hk (fun _ h => h.2)) (fun _ h => h.1)) <| az (KeepBut.trans (mKp HK.out) hk (.inl rfl)) <| az (hb) <| z0 (hi); clear HO412 HO420 HK HB HI0; obtain ⟨HO412, HO420, HK, HB, HI0⟩ := n_; clear hb hk hi; have p16 : 0 ≤ (t414 : Int) := of_decide_eq_true q10_1; have q16 : (t414 : Int) < ((t410.length : Int) : Int) := of_decide_eq_true q10_1; obtain ⟨go16, co16, eo16, gb16, gl16, cl16, HG16⟩ := Kd.N_form HO412.out (by omega); (first | cases eo16 | (injection eo16 with ea_ en_ ec_; (first | subst ea_ | (injection ea_ with ea_; subst ea_)); subst ec_; clear en_)); have GB16 := z0 gb16; have GG16 := z0 HG16; clear gb16 gl16 HG16; obtain ⟨ce16, hcl16, hM16, hcc16, hfr16⟩ := Kd.N_elem HO412.out z33 (t414 : Int) p16 q16; obtain ⟨ua16_7, uc16_7, ua16_8, uc16_8, ua16_9, uc16_9, rfl, ul16_7, ge16_7, ul16_8, ge16_8, ul16_9, ge16_9⟩ := k33_openF hM16; have hx16_0 : w20.cell? ⟨go16, (t414 : Int).toNat * 10, none⟩ = some (.int .i64 ((rd_T33 t410 t414).f0)) := hcc16 0 _ rfl; have hx16_1 : w20.cell? ⟨go16, (t414 : Int).toNat * 10 + 1, none⟩ = some (.int .i64 ((rd_T33 t410 t414).f1.f0)) := hcc16 1 _ rfl; have hx16_2 : w20.cell? ⟨go16, (t414 : Int).toNat * 10 + 2, none⟩ = some (.int .i64 ((rd_T33 t410 t414).f1.f1)) := hcc16 2 _ rfl; have hx16_3 : w20.cell? ⟨go16, (t414 : Int).toNat * 10 + 3, none⟩ = some (.int .i64 ((rd_T33 t410 t414).f2.f0)) := hcc16 3 _ rfl; have hx16_4 : w20.cell? ⟨go16, (t414 : Int).toNat * 10 + 4, none⟩ = some (.int .i64 ((rd_T33 t410 t414).f2.f1)) := hcc16 4 _ rfl; have hx16_5 : w20.cell? ⟨go16, (t414 : Int).toNat * 10 + 5, none⟩ = some (.int .i64 ((rd_T33 t410 t414).f2.f2.f0)) := hcc16 5 _ rfl; have hx16_6 : w20.cell? ⟨go16, (t414 : Int).toNat * 10 + 6, none⟩ = some (.int .i64 ((rd_T33 t410 t414).f2.f2.f1)) := hcc16 6 _ rfl; have hx16_7 : w20.cell? ⟨go16, (t414 : Int).toNat * 10 + 7, none⟩ = some (.slice ua16_7 ((rd_T33 t410 t414).f2.f3).length uc16_7) := hcc16 7 _ rfl; have hx16_8 : w20.cell? ⟨go16, (t414 : Int).toNat * 10 + 8, none⟩ = some (.slice ua16_8 ((rd_T33 t410 t414).f3).length uc16_8) := hcc16 8 _ rfl; have hx16_9 : w20.cell? ⟨go16, (t414 : Int).toNat * 10 + 9, none⟩ = some (.slice ua16_9 ((rd_T33 t410 t414).f4).length uc16_9) := hcc16 9 _ rfl; have hf16_0 : w20.frozen? ⟨go16, (t414 : Int).toNat * 10, none⟩ = false := hfr16 0; have hf16_1 : w20.frozen? ⟨go16, (t414 : Int).toNat * 10 + 1, none⟩ = false := hfr16 1; have hf16_2 : w20.frozen? ⟨go16, (t414 : Int).toNat * 10 + 2, none⟩ = false := hfr16 2; have hf16_3 : w20.frozen? ⟨go16, (t414 : Int).toNat * 10 + 3, none⟩ = false := hfr16 3; have hf16_4 : w20.frozen? ⟨go16, (t414 : Int).toNat * 10 + 4, none⟩ = false := hfr16 4; have hf16_5 : w20.frozen? ⟨go16, (t414 : Int).toNat * 10 + 5, none⟩ = false := hfr16 5; have hf16_6 : w20.frozen? ⟨go16, (t414 : Int).toNat * 10 + 6, none⟩ = false := hfr16 6; have hf16_7 : w20.frozen? ⟨go16, (t414 : Int).toNat * 10 + 7, none⟩ = false := hfr16 7; have hf16_8 : w20.frozen? ⟨go16, (t414 : Int).toNat * 10 + 8, none⟩ = false := hfr16 8; have hf16_9 : w20.frozen? ⟨go16, (t414 : Int).toNat * 10 + 9, none⟩ = false := hfr16 9; clear hcl16 hcc16 hfr16 hM16; replace p16 := eq_true p16; replace q16 := eq_true q16; have n_ := z0 (Kd.N_mono (ok' := (fun k_ => (w.heap.size ≤ k_) ∧ nB k_ (.slice Ao19 y418.length co19))) HO412.out (fun k_ hk => ⟨hk.1.1, hk.2⟩)); clear HO412; have HO412 := n_; clear n_; have HX21 := z0 (show Kd.N k33 33 w20 w.heap.size (fun k_ => (w.heap.size ≤ k_) ∧ nB k_ (.slice Ao19 y418.length co19)) (.slice (some ⟨go16, 0, none⟩) t410.length co5) t410 from (mN HO412.out)); obtain ⟨ce21, hcl21, hM21, hcc21, hfr21⟩ := Kd.N_elem HX21.out z33 (t414 : Int) (of_decide_eq_true q10_1) (by have h_ : (t414 : Int) < ((t410.length : Int) : Int) := of_decide_eq_true q10_1; first | exact h_ | (have e_ := (Kd.N_reads' HO412.out).1; omega) | simpa using h_); obtain ⟨ua21_7, uc21_7, ua21_8, uc21_8, ua21_9, uc21_9, rfl, ul21_7, ge21_7, ul21_8, ge21_8, ul21_9, ge21_9⟩ := k33_openF hM21; have HP21 := Kd.N_seg HX21.out (t414 : Int) (of_decide_eq_true q10_1) (by have h_ : (t414 : Int) < ((t410.length : Int) : Int) := of_decide_eq_true q10_1; first | exact h_ | (have e_ := (Kd.N_reads' HO412.out).1; omega) | simpa using h_) (seg := [.int .i64 t421]) (j := 0) hcl21 hcc21 (show 1 ≤ 10 from by decide) (x' := (⟨t421, (⟨(rd_T33 t410 t414).f1.f0, (rd_T33 t410 t414).f1.f1⟩ : S28), (⟨(rd_T33 t410 t414).f2.f0, (rd_T33 t410 t414).f2.f1, (⟨(rd_T33 t410 t414).f2.f2.f0, (rd_T33 t410 t414).f2.f2.f1⟩ : S28), (rd_T33 t410 t414).f2.f3⟩ : S31), (rd_T33 t410 t414).f3, (rd_T33 t410 t414).f4⟩ : S33)) (k33_mkF _ _ (⟨t421, (⟨(rd_T33 t410 t414).f1.f0, (rd_T33 t410 t414).f1.f1⟩ : S28), (⟨(rd_T33 t410 t414).f2.f0, (rd_T33 t410 t414).f2.f1, (⟨(rd_T33 t410 t414).f2.f2.f0, (rd_T33 t410 t414).f2.f2.f1⟩ : S28), (rd_T33 t410 t414).f2.f3⟩ : S31), (rd_T33 t410 t414).f3, (rd_T33 t410 t414).f4⟩ : S33) ul21_7 ge21_7 ul21_8 ge21_8 ul21_9 ge21_9) (fun _ hk => hk); have hx21_0 := hcc21 0 _ rfl; (try simp only [show (k33).sz = 10 from rfl, Nat.mul_one, Nat.add_zero] at hx21_0); have hf21_0 := hfr21 0; (try simp only [show (k33).sz = 10 from rfl, Nat.mul_one, Nat.add_zero] at hf21_0); clear hcl21 hcc21 hfr21 hM21) | ((with_reducible refine gate_store (t := 3) (p := 26) rfl ?_); refine store_event (t := 3) (p := 26) (v := ?vo_w22) (w1 := (w20.setCell ⟨go16, (t414 : Int).toNat * 10, none⟩ (.int .i64 t421))) ?hg ?ho ?hn ?hr ?_; (case ho => rfl); (case hg => rfl); (case hn => rfl); (case hr => first | (go_simp; done) | (go_simp; rfl)); intro w22 hw; have hg : w20.grownBy w22 (some go16) := (by rw [hw]; exact HP21.2); have hp_ : Kd.N k33 33 w22 w.heap.size (fun k_ => (w.heap.size ≤ k_) ∧ nB k_ (.slice Ao19 y418.length co19)) (.slice (some ⟨go16, 0, none⟩) t410.length co5) y423 := (by rw [hw, Ny423.out]; exact HP21.1); clear HP21; have n_ := az (IsS53.grown (mI53_1 HI0.out) hg (IsS53.own_neN HI0.out HO412.out (by decide))) <| az (hp_) <| az (Kd.R_over' (v := (.slice (some ⟨go16, 0, none⟩) t410.length co5)) (mR HO420.out) (Kd.N_typed HO412.out) (by decide) hg) <| az ((by rw [hw]; exact below_set (HB.out) (Nat.le_trans HL.out GB16.out) : Below w0.heap.size w0 w22)) <| z0 (KeepBut.trans (mKp HK.out) (KeepBut.of_grown hg g) (Kd.N_base2 HO412.out)); clear HI0 HO412 HO420 HB HK; obtain ⟨HI0, HO412, HO420, HB, HK⟩ := n_; clear hg hw hp_))
     go_ret
     exact ⟨_, rfx, by (with_reducible repeat (first | apply Kd.N_alloc | apply Kd.N_drewN | apply Kd.N_drew)); exact Kd.N_mono HO412.out (fun _ hk => hk.1), mI53_1 HI0.out, mB53HI0 HB.out, mKp HK.out⟩
    ·rw [if_neg c15] at H
     exact absurd H (by simp)
   ·rw [if_neg c14] at H
    exact absurd H (by simp)
  ·rw [if_neg c12] at H
   have c12b0 : (t416 == 0) = false := beq_eq_false_iff_ne.mpr c12
   have c12b1 : (t416 != 0) = true := bne_iff_ne.mpr c12
   (first | rw [c12b0] | (simp only [i64_w, i32_w]; rw [c12b0]) | skip)
   by_cases c23 : t416 = 1
   ·rw [if_pos c23] at H
    have c23b0 : (t416 == 1) = true := beq_iff_eq.mpr c23
    have c23b1 : (t416 != 1) = false := bne_eq_false_iff_eq.mpr c23
    clear c23
    replace H := Option.bind_eq_some_iff.mp H
    obtain ⟨⟨t424, t425, t426⟩, A240, H⟩ := H
    try dsimp only at H
    have A24 := z0 A240
    clear A240
    by_cases c25 : 0 ≤ t414
    ·rw [if_pos c25] at H
     have c25b0 : decide (0 ≤ t414) = true := decide_eq_true c25
     clear c25
     by_cases c26 : t414 < (t410.length : Int)
     ·rw [if_pos c26] at H
      have c26b0 : decide (t414 < (t410.length : Int)) = true := decide_eq_true c26
      clear c26
      obtain ⟨y427, hy427⟩ : ∃ y_ : List (S33), y_ = (t410.set (t414 : Int).toNat (⟨(rd_T33 t410 t414).f0, (⟨t424, t425⟩ : S28), (⟨(rd_T33 t410 t414).f2.f0, (rd_T33 t410 t414).f2.f1, (⟨(rd_T33 t410 t414).f2.f2.f0, (rd_T33 t410 t414).f2.f2.f1⟩ : S28), (rd_T33 t410 t414).f2.f3⟩ : S31), (rd_T33 t410 t414).f3, (rd_T33 t410 t414).f4⟩ : S33)) := ⟨_, rfl⟩
      replace H : (some (y427, t426)) = some (r1, r2) := by first | (rw [hy427]; with_reducible exact H) | (have H2_ := (Option.bind_some _ _).symm.trans H; rw [hy427]; with_reducible exact H2_) | (have H2_ := (Option.bind_some _ _).symm.trans H; with_reducible exact H2_) | with_reducible exact H | (rw [hy427]; exact H) | exact H
      have Ny427 := z0 hy427
      clear hy427
      simp only [Option.some.injEq, Prod.mk.injEq] at H
      obtain ⟨rfl, rfl⟩ := H
      go_wp2_with (first | ((with_reducible refine gate_callee (f := 20) rfl ?_); refine goesL_ (some 32) rfl rfl Tryz.func20 (by kernel_rfl) rfl #[.pointer (some ⟨g, 0, none⟩)] rfl argx ?_; (with_reducible refine (spec_l2AddrBent.calls k g s0_0 t417 t424 t425 t426 w0 _ ?side1 ?side2 A24.out).mono ?_); (case side1 => exact mI53_1 HI0.out); (case side2 => exact mB53HI0 HB.out); rintro e w28 ⟨rfl, hi, hb, hk⟩; refine ⟨_, rfl, ?_⟩; have n_ := az (Kd.N_mono (Kd.N_keep (Kd.N_mono (ok := fun k_ => (((w.heap.size ≤ k_)) ∧ k_ ≠ g)) (mN HO412.out) (fun k_ hk_ => (⟨hk_, hk_.2⟩ : _ ∧ k_ ≠ g))) hk (fun _ h => h.2)) (fun _ h => h.1)) <| az (KeepBut.trans (mKp HK.out) hk (.inl rfl)) <| az (hb) <| z0 (hi); clear HO412 HK HB HI0; obtain ⟨HO412, HK, HB, HI0⟩ := n_; clear hb hk hi; have p27 : 0 ≤ (t414 : Int) := of_decide_eq_true q10_1; have q27 : (t414 : Int) < ((t410.length : Int) : Int) := of_decide_eq_true q10_1; obtain ⟨go27, co27, eo27, gb27, gl27, cl27, HG27⟩ := Kd.N_form HO412.out (by omega); (first | cases eo27 | (injection eo27 with ea_ en_ ec_; (first | subst ea_ | (injection ea_ with ea_; subst ea_)); subst ec_; clear en_)); have GB27 := z0 gb27; have GG27 := z0 HG27; clear gb27 gl27 HG27; obtain ⟨ce27, hcl27, hM27, hcc27, hfr27⟩ := Kd.N_elem HO412.out z33 (t414 : Int) p27 q27; obtain ⟨ua27_7, uc27_7, ua27_8, uc27_8, ua27_9, uc27_9, rfl, ul27_7, ge27_7, ul27_8, ge27_8, ul27_9, ge27_9⟩ := k33_openF hM27; have hx27_0 : w28.cell? ⟨go27, (t414 : Int).toNat * 10, none⟩ = some (.int .i64 ((rd_T33 t410 t414).f0)) := hcc27 0 _ rfl; have hx27_1 : w28.cell? ⟨go27, (t414 : Int).toNat * 10 + 1, none⟩ = some (.int .i64 ((rd_T33 t410 t414).f1.f0)) := hcc27 1 _ rfl; have hx27_2 : w28.cell? ⟨go27, (t414 : Int).toNat * 10 + 2, none⟩ = some (.int .i64 ((rd_T33 t410 t414).f1.f1)) := hcc27 2 _ rfl; have hx27_3 : w28.cell? ⟨go27, (t414 : Int).toNat * 10 + 3, none⟩ = some (.int .i64 ((rd_T33 t410 t414).f2.f0)) := hcc27 3 _ rfl; have hx27_4 : w28.cell? ⟨go27, (t414 : Int).toNat * 10 + 4, none⟩ = some (.int .i64 ((rd_T33 t410 t414).f2.f1)) := hcc27 4 _ rfl; have hx27_5 : w28.cell? ⟨go27, (t414 : Int).toNat * 10 + 5, none⟩ = some (.int .i64 ((rd_T33 t410 t414).f2.f2.f0)) := hcc27 5 _ rfl; have hx27_6 : w28.cell? ⟨go27, (t414 : Int).toNat * 10 + 6, none⟩ = some (.int .i64 ((rd_T33 t410 t414).f2.f2.f1)) := hcc27 6 _ rfl; have hx27_7 : w28.cell? ⟨go27, (t414 : Int).toNat * 10 + 7, none⟩ = some (.slice ua27_7 ((rd_T33 t410 t414).f2.f3).length uc27_7) := hcc27 7 _ rfl; have hx27_8 : w28.cell? ⟨go27, (t414 : Int).toNat * 10 + 8, none⟩ = some (.slice ua27_8 ((rd_T33 t410 t414).f3).length uc27_8) := hcc27 8 _ rfl; have hx27_9 : w28.cell? ⟨go27, (t414 : Int).toNat * 10 + 9, none⟩ = some (.slice ua27_9 ((rd_T33 t410 t414).f4).length uc27_9) := hcc27 9 _ rfl; have hf27_0 : w28.frozen? ⟨go27, (t414 : Int).toNat * 10, none⟩ = false := hfr27 0; have hf27_1 : w28.frozen? ⟨go27, (t414 : Int).toNat * 10 + 1, none⟩ = false := hfr27 1; have hf27_2 : w28.frozen? ⟨go27, (t414 : Int).toNat * 10 + 2, none⟩ = false := hfr27 2; have hf27_3 : w28.frozen? ⟨go27, (t414 : Int).toNat * 10 + 3, none⟩ = false := hfr27 3; have hf27_4 : w28.frozen? ⟨go27, (t414 : Int).toNat * 10 + 4, none⟩ = false := hfr27 4; have hf27_5 : w28.frozen? ⟨go27, (t414 : Int).toNat * 10 + 5, none⟩ = false := hfr27 5; have hf27_6 : w28.frozen? ⟨go27, (t414 : Int).toNat * 10 + 6, none⟩ = false := hfr27 6; have hf27_7 : w28.frozen? ⟨go27, (t414 : Int).toNat * 10 + 7, none⟩ = false := hfr27 7; have hf27_8 : w28.frozen? ⟨go27, (t414 : Int).toNat * 10 + 8, none⟩ = false := hfr27 8; have hf27_9 : w28.frozen? ⟨go27, (t414 : Int).toNat * 10 + 9, none⟩ = false := hfr27 9; clear hcl27 hcc27 hfr27 hM27; replace p27 := eq_true p27; replace q27 := eq_true q27; have HX29 := z0 (show Kd.N k33 33 w28 w.heap.size (fun k_ => (w.heap.size ≤ k_) ∧ k_ ≠ g) (.slice (some ⟨go27, 0, none⟩) t410.length co5) t410 from (mN HO412.out)); obtain ⟨ce29, hcl29, hM29, hcc29, hfr29⟩ := Kd.N_elem HX29.out z33 (t414 : Int) (of_decide_eq_true q10_1) (by have h_ : (t414 : Int) < ((t410.length : Int) : Int) := of_decide_eq_true q10_1; first | exact h_ | (have e_ := (Kd.N_reads' HO412.out).1; omega) | simpa using h_); obtain ⟨ua29_7, uc29_7, ua29_8, uc29_8, ua29_9, uc29_9, rfl, ul29_7, ge29_7, ul29_8, ge29_8, ul29_9, ge29_9⟩ := k33_openF hM29; have HP29 := Kd.N_seg HX29.out (t414 : Int) (of_decide_eq_true q10_1) (by have h_ : (t414 : Int) < ((t410.length : Int) : Int) := of_decide_eq_true q10_1; first | exact h_ | (have e_ := (Kd.N_reads' HO412.out).1; omega) | simpa using h_) (seg := [.int .i64 t424, .int .i64 t425]) (j := 1) hcl29 hcc29 (show 3 ≤ 10 from by decide) (x' := (⟨(rd_T33 t410 t414).f0, (⟨t424, t425⟩ : S28), (⟨(rd_T33 t410 t414).f2.f0, (rd_T33 t410 t414).f2.f1, (⟨(rd_T33 t410 t414).f2.f2.f0, (rd_T33 t410 t414).f2.f2.f1⟩ : S28), (rd_T33 t410 t414).f2.f3⟩ : S31), (rd_T33 t410 t414).f3, (rd_T33 t410 t414).f4⟩ : S33)) (k33_mkF _ _ (⟨(rd_T33 t410 t414).f0, (⟨t424, t425⟩ : S28), (⟨(rd_T33 t410 t414).f2.f0, (rd_T33 t410 t414).f2.f1, (⟨(rd_T33 t410 t414).f2.f2.f0, (rd_T33 t410 t414).f2.f2.f1⟩ : S28), (rd_T33 t410 t414).f2.f3⟩ : S31), (rd_T33 t410 t414).f3, (rd_T33 t410 t414).f4⟩ : S33) ul29_7 ge29_7 ul29_8 ge29_8 ul29_9 ge29_9) (fun _ hk => hk); have hx29_1 := hcc29 1 _ rfl; (try simp only [show (k33).sz = 10 from rfl, Nat.mul_one, Nat.add_zero] at hx29_1); have hf29_1 := hfr29 1; (try simp only [show (k33).sz = 10 from rfl, Nat.mul_one, Nat.add_zero] at hf29_1); have hx29_2 := hcc29 2 _ rfl; (try simp only [show (k33).sz = 10 from rfl, Nat.mul_one, Nat.add_zero] at hx29_2); have hf29_2 := hfr29 2; (try simp only [show (k33).sz = 10 from rfl, Nat.mul_one, Nat.add_zero] at hf29_2); clear hcl29 hcc29 hfr29 hM29) | ((with_reducible refine gate_store (t := 28) (p := 34) rfl ?_); refine store_event (t := 28) (p := 34) (v := ?vo_w30) (w1 := ((w28.setCell ⟨go27, (t414 : Int).toNat * 10 + 1, none⟩ (.int .i64 t424)).setCell ⟨go27, (t414 : Int).toNat * 10 + 2, none⟩ (.int .i64 t425))) ?hg ?ho ?hn ?hr ?_; (case ho => rfl); (case hg => rfl); (case hn => rfl); (case hr => first | (go_simp; done) | (go_simp; rfl)); intro w30 hw; have hg : w28.grownBy w30 (some go27) := (by rw [hw]; exact HP29.2); have hp_ : Kd.N k33 33 w30 w.heap.size (fun k_ => (w.heap.size ≤ k_) ∧ k_ ≠ g) (.slice (some ⟨go27, 0, none⟩) t410.length co5) y427 := (by rw [hw, Ny427.out]; exact HP29.1); clear HP29; have n_ := az (IsS53.grown (mI53_1 HI0.out) hg (IsS53.own_neN HI0.out HO412.out (by decide))) <| az (hp_) <| az ((by rw [hw]; exact below_set (below_set (HB.out) (Nat.le_trans HL.out GB27.out)) (Nat.le_trans HL.out GB27.out) : Below w0.heap.size w0 w30)) <| z0 (KeepBut.trans (mKp HK.out) (KeepBut.of_grown hg g) (Kd.N_base2 HO412.out)); clear HI0 HO412 HB HK; obtain ⟨HI0, HO412, HB, HK⟩ := n_; clear hg hw hp_))
      go_ret
      exact ⟨_, rfx, by (with_reducible repeat (first | apply Kd.N_alloc | apply Kd.N_drewN | apply Kd.N_drew)); exact Kd.N_mono HO412.out (fun _ hk => hk.1), mI53_1 HI0.out, mB53HI0 HB.out, mKp HK.out⟩
     ·rw [if_neg c26] at H
      exact absurd H (by simp)
    ·rw [if_neg c25] at H
     exact absurd H (by simp)
   ·rw [if_neg c23] at H
    have c23b0 : (t416 == 1) = false := beq_eq_false_iff_ne.mpr c23
    have c23b1 : (t416 != 1) = true := bne_iff_ne.mpr c23
    by_cases c31 : t416 = 2
    ·rw [if_pos c31] at H
     have c31b0 : (t416 == 2) = true := beq_iff_eq.mpr c31
     have c31b1 : (t416 != 2) = false := bne_eq_false_iff_eq.mpr c31
     clear c31
     replace H := Option.bind_eq_some_iff.mp H
     obtain ⟨⟨t428, t429, t430, t431, t432, t435⟩, A320, H⟩ := H
     try dsimp only at H
     have A32 := z0 A320
     clear A320
     by_cases c33 : 0 ≤ t414
     ·rw [if_pos c33] at H
      have c33b0 : decide (0 ≤ t414) = true := decide_eq_true c33
      clear c33
      by_cases c34 : t414 < (t410.length : Int)
      ·rw [if_pos c34] at H
       have c34b0 : decide (t414 < (t410.length : Int)) = true := decide_eq_true c34
       clear c34
       obtain ⟨y436, hy436⟩ : ∃ y_ : List (S33), y_ = (t410.set (t414 : Int).toNat (⟨(rd_T33 t410 t414).f0, (⟨(rd_T33 t410 t414).f1.f0, (rd_T33 t410 t414).f1.f1⟩ : S28), (⟨t428, t429, (⟨t430, t431⟩ : S28), t432⟩ : S31), (rd_T33 t410 t414).f3, (rd_T33 t410 t414).f4⟩ : S33)) := ⟨_, rfl⟩
       replace H : (some (y436, t435)) = some (r1, r2) := by first | (rw [hy436]; with_reducible exact H) | (have H2_ := (Option.bind_some _ _).symm.trans H; rw [hy436]; with_reducible exact H2_) | (have H2_ := (Option.bind_some _ _).symm.trans H; with_reducible exact H2_) | with_reducible exact H | (rw [hy436]; exact H) | exact H
       have Ny436 := z0 hy436
       clear hy436
       simp only [Option.some.injEq, Prod.mk.injEq] at H
       obtain ⟨rfl, rfl⟩ := H
       go_wp2_with (first | ((with_reducible refine gate_callee (f := 21) rfl ?_); refine goesL_ (some 40) rfl rfl Tryz.func21 (by kernel_rfl) rfl #[.pointer (some ⟨g, 0, none⟩)] rfl argx ?_; (with_reducible refine (spec_l3Bent.calls k g s0_0 t417 t428 t429 t430 t431 t432 t435 w0 _ ?side1 ?side2 A32.out).mono ?_); (case side1 => exact mI53_1 HI0.out); (case side2 => exact mB53HI0 HB.out); rintro e w36 ⟨v433, rfl, ho0, hi, hb, hk⟩; refine ⟨_, rfl, ?_⟩; have n_ := az (Kd.N_mono (Kd.N_told (Kd.N_oldK (Kd.N_mono (ok := fun k_ => (((w.heap.size ≤ k_)) ∧ k_ ≠ g)) (mN HO412.out) (fun k_ hk_ => (⟨hk_, hk_.2⟩ : _ ∧ k_ ≠ g))) hk) (by first | exact Kd.N_base ho0 | exact Kd.R_base ho0)) (fun _ h_ => h_.1)) <| az (Kd.N_lower (Kd.N_mono (ok' := fun k_ => (w.heap.size ≤ k_) ∧ nB k_ (.slice Ao5 t410.length co5) ∧ k_ ≠ g) ho0 (fun k_ hk_ => ⟨(Nat.le_trans (kS HK.out) hk_), (Kd.fresh' (Kd.N_lt (mN HO412.out)) k_ hk_), (IsS53.fresh (mI53_1 HI0.out) k_ hk_)⟩)) (kS HK.out)) <| az (KeepBut.trans (mKp HK.out) hk (.inl rfl)) <| az (hb) <| z0 (hi); clear HO412 HK HB HI0; obtain ⟨HO412, HO434, HK, HB, HI0⟩ := n_; clear hb hk hi ho0; have p35 : 0 ≤ (t414 : Int) := of_decide_eq_true q10_1; have q35 : (t414 : Int) < ((t410.length : Int) : Int) := of_decide_eq_true q10_1; obtain ⟨go35, co35, eo35, gb35, gl35, cl35, HG35⟩ := Kd.N_form HO412.out (by omega); (first | cases eo35 | (injection eo35 with ea_ en_ ec_; (first | subst ea_ | (injection ea_ with ea_; subst ea_)); subst ec_; clear en_)); have GB35 := z0 gb35; have GG35 := z0 HG35; clear gb35 gl35 HG35; obtain ⟨ce35, hcl35, hM35, hcc35, hfr35⟩ := Kd.N_elem HO412.out z33 (t414 : Int) p35 q35; obtain ⟨ua35_7, uc35_7, ua35_8, uc35_8, ua35_9, uc35_9, rfl, ul35_7, ge35_7, ul35_8, ge35_8, ul35_9, ge35_9⟩ := k33_openF hM35; have hx35_0 : w36.cell? ⟨go35, (t414 : Int).toNat * 10, none⟩ = some (.int .i64 ((rd_T33 t410 t414).f0)) := hcc35 0 _ rfl; have hx35_1 : w36.cell? ⟨go35, (t414 : Int).toNat * 10 + 1, none⟩ = some (.int .i64 ((rd_T33 t410 t414).f1.f0)) := hcc35 1 _ rfl; have hx35_2 : w36.cell? ⟨go35, (t414 : Int).toNat * 10 + 2, none⟩ = some (.int .i64 ((rd_T33 t410 t414).f1.f1)) := hcc35 2 _ rfl; have hx35_3 : w36.cell? ⟨go35, (t414 : Int).toNat * 10 + 3, none⟩ = some (.int .i64 ((rd_T33 t410 t414).f2.f0)) := hcc35 3 _ rfl; have hx35_4 : w36.cell? ⟨go35, (t414 : Int).toNat * 10 + 4, none⟩ = some (.int .i64 ((rd_T33 t410 t414).f2.f1)) := hcc35 4 _ rfl; have hx35_5 : w36.cell? ⟨go35, (t414 : Int).toNat * 10 + 5, none⟩ = some (.int .i64 ((rd_T33 t410 t414).f2.f2.f0)) := hcc35 5 _ rfl; have hx35_6 : w36.cell? ⟨go35, (t414 : Int).toNat * 10 + 6, none⟩ = some (.int .i64 ((rd_T33 t410 t414).f2.f2.f1)) := hcc35 6 _ rfl; have hx35_7 : w36.cell? ⟨go35, (t414 : Int).toNat * 10 + 7, none⟩ = some (.slice ua35_7 ((rd_T33 t410 t414).f2.f3).length uc35_7) := hcc35 7 _ rfl; have hx35_8 : w36.cell? ⟨go35, (t414 : Int).toNat * 10 + 8, none⟩ = some (.slice ua35_8 ((rd_T33 t410 t414).f3).length uc35_8) := hcc35 8 _ rfl; have hx35_9 : w36.cell? ⟨go35, (t414 : Int).toNat * 10 + 9, none⟩ = some (.slice ua35_9 ((rd_T33 t410 t414).f4).length uc35_9) := hcc35 9 _ rfl; have hf35_0 : w36.frozen? ⟨go35, (t414 : Int).toNat * 10, none⟩ = false := hfr35 0; have hf35_1 : w36.frozen? ⟨go35, (t414 : Int).toNat * 10 + 1, none⟩ = false := hfr35 1; have hf35_2 : w36.frozen? ⟨go35, (t414 : Int).toNat * 10 + 2, none⟩ = false := hfr35 2; have hf35_3 : w36.frozen? ⟨go35, (t414 : Int).toNat * 10 + 3, none⟩ = false := hfr35 3; have hf35_4 : w36.frozen? ⟨go35, (t414 : Int).toNat * 10 + 4, none⟩ = false := hfr35 4; have hf35_5 : w36.frozen? ⟨go35, (t414 : Int).toNat * 10 + 5, none⟩ = false := hfr35 5; have hf35_6 : w36.frozen? ⟨go35, (t414 : Int).toNat * 10 + 6, none⟩ = false := hfr35 6; have hf35_7 : w36.frozen? ⟨go35, (t414 : Int).toNat * 10 + 7, none⟩ = false := hfr35 7; have hf35_8 : w36.frozen? ⟨go35, (t414 : Int).toNat * 10 + 8, none⟩ = false := hfr35 8; have hf35_9 : w36.frozen? ⟨go35, (t414 : Int).toNat * 10 + 9, none⟩ = false := hfr35 9; clear hcl35 hcc35 hfr35 hM35; replace p35 := eq_true p35; replace q35 := eq_true q35; have n_ := z0 (Kd.N_mono (ok' := (fun k_ => (w.heap.size ≤ k_) ∧ nB k_ v433)) HO412.out (fun k_ hk => ⟨hk.1.1, hk.2⟩)); clear HO412; have HO412 := n_; clear n_; obtain ⟨Ao39, co39, eo39⟩ := Kd.N_slice HO434.out; subst eo39; have HX37 := z0 (show Kd.N k33 33 w36 w.heap.size (fun k_ => (w.heap.size ≤ k_)) (.slice (some ⟨go35, 0, none⟩) t410.length co5) t410 from (by (with_reducible repeat (first | apply Kd.N_alloc | apply Kd.N_drewN | apply Kd.N_drew)); exact Kd.N_mono HO412.out (fun _ hk => hk.1))); obtain ⟨ce37, hcl37, hM37, hcc37, hfr37⟩ := Kd.N_elem HX37.out z33 (t414 : Int) (of_decide_eq_true q10_1) (by have h_ : (t414 : Int) < ((t410.length : Int) : Int) := of_decide_eq_true q10_1; first | exact h_ | (have e_ := (Kd.N_reads' HO412.out).1; omega) | simpa using h_); obtain ⟨ua37_7, uc37_7, ua37_8, uc37_8, ua37_9, uc37_9, rfl, ul37_7, ge37_7, ul37_8, ge37_8, ul37_9, ge37_9⟩ := k33_openF hM37; have HP37 := Kd.N_seg HX37.out (t414 : Int) (of_decide_eq_true q10_1) (by have h_ : (t414 : Int) < ((t410.length : Int) : Int) := of_decide_eq_true q10_1; first | exact h_ | (have e_ := (Kd.N_reads' HO412.out).1; omega) | simpa using h_) (seg := [.int .i64 t428, .int .i64 t429, .int .i64 t430, .int .i64 t431, .slice Ao39 t432.length co39]) (j := 3) hcl37 hcc37 (show 8 ≤ 10 from by decide) (x' := (⟨(rd_T33 t410 t414).f0, (⟨(rd_T33 t410 t414).f1.f0, (rd_T33 t410 t414).f1.f1⟩ : S28), (⟨t428, t429, (⟨t430, t431⟩ : S28), t432⟩ : S31), (rd_T33 t410 t414).f3, (rd_T33 t410 t414).f4⟩ : S33)) (k33_mkF _ _ (⟨(rd_T33 t410 t414).f0, (⟨(rd_T33 t410 t414).f1.f0, (rd_T33 t410 t414).f1.f1⟩ : S28), (⟨t428, t429, (⟨t430, t431⟩ : S28), t432⟩ : S31), (rd_T33 t410 t414).f3, (rd_T33 t410 t414).f4⟩ : S33) (Kd.N_reads' (Kd.N_mono (ok' := (fun k_ => ((fun k_ => (w.heap.size ≤ k_))) k_ ∧ k_ ≠ go35)) (HO434.out) (fun k_ hk => ⟨hk.1, fun e_ => (hk.2.1) (by rw [e_]; rfl)⟩))).2.1 (Kd.N_F (Kd.N_mono (ok' := (fun k_ => ((fun k_ => (w.heap.size ≤ k_))) k_ ∧ k_ ≠ go35)) (HO434.out) (fun k_ hk => ⟨hk.1, fun e_ => (hk.2.1) (by rw [e_]; rfl)⟩))) ul37_8 ge37_8 ul37_9 ge37_9) (fun _ hk => hk); have hx37_3 := hcc37 3 _ rfl; (try simp only [show (k33).sz = 10 from rfl, Nat.mul_one, Nat.add_zero] at hx37_3); have hf37_3 := hfr37 3; (try simp only [show (k33).sz = 10 from rfl, Nat.mul_one, Nat.add_zero] at hf37_3); have hx37_4 := hcc37 4 _ rfl; (try simp only [show (k33).sz = 10 from rfl, Nat.mul_one, Nat.add_zero] at hx37_4); have hf37_4 := hfr37 4; (try simp only [show (k33).sz = 10 from rfl, Nat.mul_one, Nat.add_zero] at hf37_4); have hx37_5 := hcc37 5 _ rfl; (try simp only [show (k33).sz = 10 from rfl, Nat.mul_one, Nat.add_zero] at hx37_5); have hf37_5 := hfr37 5; (try simp only [show (k33).sz = 10 from rfl, Nat.mul_one, Nat.add_zero] at hf37_5); have hx37_6 := hcc37 6 _ rfl; (try simp only [show (k33).sz = 10 from rfl, Nat.mul_one, Nat.add_zero] at hx37_6); have hf37_6 := hfr37 6; (try simp only [show (k33).sz = 10 from rfl, Nat.mul_one, Nat.add_zero] at hf37_6); have hx37_7 := hcc37 7 _ rfl; (try simp only [show (k33).sz = 10 from rfl, Nat.mul_one, Nat.add_zero] at hx37_7); have hf37_7 := hfr37 7; (try simp only [show (k33).sz = 10 from rfl, Nat.mul_one, Nat.add_zero] at hf37_7); clear hcl37 hcc37 hfr37 hM37) | ((with_reducible refine gate_store (t := 31) (p := 42) rfl ?_); refine store_event (t := 31) (p := 42) (v := ?vo_w38) (w1 := (((((w36.setCell ⟨go35, (t414 : Int).toNat * 10 + 3, none⟩ (.int .i64 t428)).setCell ⟨go35, (t414 : Int).toNat * 10 + 4, none⟩ (.int .i64 t429)).setCell ⟨go35, (t414 : Int).toNat * 10 + 5, none⟩ (.int .i64 t430)).setCell ⟨go35, (t414 : Int).toNat * 10 + 6, none⟩ (.int .i64 t431)).setCell ⟨go35, (t414 : Int).toNat * 10 + 7, none⟩ (.slice Ao39 t432.length co39))) ?hg ?ho ?hn ?hr ?_; (case ho => rfl); (case hg => rfl); (case hn => rfl); (case hr => first | (go_simp; done) | (go_simp; rfl)); intro w38 hw; have hg : w36.grownBy w38 (some go35) := (by rw [hw]; exact HP37.2); have hp_ : Kd.N k33 33 w38 w.heap.size (fun k_ => (w.heap.size ≤ k_)) (.slice (some ⟨go35, 0, none⟩) t410.length co5) y436 := (by rw [hw, Ny436.out]; exact HP37.1); clear HP37; have n_ := az (IsS53.grown (mI53_1 HI0.out) hg (IsS53.own_neN HI0.out HO412.out (by decide))) <| az (hp_) <| az ((by rw [hw]; exact below_set (below_set (below_set (below_set (below_set (HB.out) (Nat.le_trans HL.out GB35.out)) (Nat.le_trans HL.out GB35.out)) (Nat.le_trans HL.out GB35.out)) (Nat.le_trans HL.out GB35.out)) (Nat.le_trans HL.out GB35.out) : Below w0.heap.size w0 w38)) <| z0 (KeepBut.trans (mKp HK.out) (KeepBut.of_grown hg g) (Kd.N_base2 HO412.out)); clear HI0 HO412 HB HK HO434; obtain ⟨HI0, HO412, HB, HK⟩ := n_; clear hg hw hp_))
       go_ret
       exact ⟨_, rfx, mN HO412.out, mI53_1 HI0.out, mB53HI0 HB.out, mKp HK.out⟩
      ·rw [if_neg c34] at H
       exact absurd H (by simp)
     ·rw [if_neg c33] at H
      exact absurd H (by simp)
    ·rw [if_neg c31] at H
     have c31b0 : (t416 == 2) = false := beq_eq_false_iff_ne.mpr c31
     have c31b1 : (t416 != 2) = true := bne_iff_ne.mpr c31
     by_cases c40 : t416 = 3
     ·rw [if_pos c40] at H
      have c40b0 : (t416 == 3) = true := beq_iff_eq.mpr c40
      have c40b1 : (t416 != 3) = false := bne_eq_false_iff_eq.mpr c40
      clear c40
      have H' := z0 H
      clear H
      go_wp2
      go_loopg [3, 5] k (fun kq v3 v5 w' => ∃ (x3_1 : List (S33)) (x5_1 : Int) (x1001_1 : Int), v5 = .int .i64 x5_1 ∧ Aside0 (spec_l4Bent.l0 kq x3_1 x5_1 s0_0 x1001_1 = some (r1, r2)) ∧ Aside0 (kq ≤ k) ∧ Aside0 (Kd.N k33 33 w' w.heap.size (fun k_ => (w.heap.size ≤ k_) ∧ k_ ≠ g) v3 x3_1) ∧ Aside0 (IsS53 w0 w' g s0_0 x1001_1) ∧ Aside0 (KeepBut w w' g none) ∧ Aside0 (Below w0.heap.size w0 w'))
      case atStart => exact ⟨(t410), (0), (t417), rfy, H', ⟨Nat.le_refl _⟩, ⟨mN HO412.out⟩, ⟨mI53_1 HI0.out⟩, ⟨mKp HK.out⟩, ⟨mB53HI0 HB.out⟩⟩
      case round =>
       clear H'
       (try clear c1); (try clear c6); (try clear c6b0); (try clear c6b1); (try clear c6b2); (try clear c12); (try clear c12b0); (try clear c12b1); (try clear c14); (try clear c23); (try clear c23b0); (try clear c23b1); (try clear c25); (try clear c31); (try clear c31b0); (try clear c31b1); (try clear c33); (try clear c40); (try clear c40b0); (try clear c40b1)
       obtain ⟨x3_1, x5_1, x1001_1, rfl, HA, HK1, HO_3, HI0, HK, HB⟩ := hrel
       cases gk with
       | zero => exact absurd HA.out (by simp [spec_l4Bent.l0])
       | succ k1 =>
        have H := HA.out
        clear HA
        simp only [spec_l4Bent.l0] at H
        by_cases c41 : x5_1 < 4
        ·rw [if_pos c41] at H
         have c41b0 : decide (x5_1 < 4) = true := decide_eq_true c41
         clear c41
         replace H := Option.bind_eq_some_iff.mp H
         obtain ⟨⟨t437, t438, t439, t440, t441, t444⟩, A420, H⟩ := H
         try dsimp only at H
         have A42 := z0 A420
         clear A420
         obtain ⟨y445, hy445⟩ : ∃ y_ : List (S33), y_ = (([(⟨2, (⟨0, 0⟩ : S28), (⟨t437, t438, (⟨t439, t440⟩ : S28), t441⟩ : S31), x3_1, ([] : List (S33))⟩ : S33)] : List (S33))) := ⟨_, rfl⟩
         replace H : (spec_l4Bent.l0 k1 y445 (wrap64 (x5_1 + 1)) s0_0 t444) = some (r1, r2) := by first | (rw [hy445]; with_reducible exact H) | (have H2_ := (Option.bind_some _ _).symm.trans H; rw [hy445]; with_reducible exact H2_) | (have H2_ := (Option.bind_some _ _).symm.trans H; with_reducible exact H2_) | with_reducible exact H | (rw [hy445]; exact H) | exact H
         have Ny445 := z0 hy445
         clear hy445
         have H' := z0 H
         clear H
         go_wp2_with (first | ((with_reducible refine gate_callee (f := 22) rfl ?_); refine goesL_ (some 50) rfl rfl Tryz.func22 (by kernel_rfl) rfl #[.pointer (some ⟨g, 0, none⟩), .int .i64 1] rfl argx ?_; (with_reducible refine (spec_l3Expr.calls k1 g s0_0 x1001_1 1 t437 t438 t439 t440 t441 t444 w0 _ ?side1 ?side2 A42.out).mono ?_); (case side1 => exact mI53_1 HI0.out); (case side2 => exact mB53HI0 HB.out); rintro e w43 ⟨v442, rfl, ho0, hi, hb, hk⟩; refine ⟨_, rfl, ?_⟩; have n_ := az (Kd.N_mono (Kd.N_told (Kd.N_oldK (Kd.N_mono (ok := fun k_ => (((w.heap.size ≤ k_)) ∧ k_ ≠ g)) (mN HO_3.out) (fun k_ hk_ => (⟨hk_, hk_.2⟩ : _ ∧ k_ ≠ g))) hk) (by first | exact Kd.N_base ho0 | exact Kd.R_base ho0)) (fun _ h_ => h_.1)) <| az (Kd.N_lower (Kd.N_mono (ok' := fun k_ => (w.heap.size ≤ k_) ∧ nB k_ u3 ∧ k_ ≠ g) (Kd.R_N (Kd.R_bound ho0)) (fun k_ hk_ => ⟨(Nat.le_trans (kS HK.out) hk_.2.1), (Kd.fresh' (Kd.N_lt (mN HO_3.out)) k_ hk_.2.1), (IsS53.fresh (mI53_1 HI0.out) k_ hk_.2.1)⟩)) (kS HK.out)) <| az (KeepBut.trans (mKp HK.out) hk (.inl rfl)) <| az (hb) <| z0 (hi); clear HO_3 HK HB HI0; obtain ⟨HO_3, HO443, HK, HB, HI0⟩ := n_; clear hb hk hi ho0; obtain ⟨Ao44, co44, eo44⟩ := Kd.N_slice HO_3.out; subst eo44; obtain ⟨Ao45, co45, eo45⟩ := Kd.N_slice HO443.out; subst eo45) | ((with_reducible refine gate_dst (N := 53) rfl ?_); refine Kd.N_lit k33 _ 33 ?hg (N' := 53) ?hd (xs := ([(⟨2, (⟨0, 0⟩ : S28), (⟨t437, t438, (⟨t439, t440⟩ : S28), t441⟩ : S31), x3_1, ([] : List (S33))⟩ : S33)] : List (S33))) (inner := [.int .i64 2, .int .i64 0, .int .i64 0, .int .i64 t437, .int .i64 t438, .int .i64 t439, .int .i64 t440, .slice Ao45 t441.length co45, .slice Ao44 x3_1.length co44, .slice none 0 0]) (ok := (fun k_ => (w.heap.size ≤ k_) ∧ k_ ≠ g)) (okp := (fun k_ => (w.heap.size ≤ k_) ∧ k_ ≠ g)) ?hr ?hp (fun _ hk => hk) ((show ∀ k_, w43.heap.size ≤ k_ → (fun k_ => (w.heap.size ≤ k_) ∧ k_ ≠ g) k_ from fun k_ hk => ⟨(Nat.le_trans (kS HK.out) hk), IsS53.fresh (mI53_1 HI0.out) k_ hk⟩) _ (Nat.le_refl _)) (Below.refl _ _) (Nat.le_refl _) (by simp) ?_; (case hd => rfl); (case hg => rfl); (case hr => first | (go_simp; done) | (go_simp; rfl)); (case hp => exact (Reps.c10 (show Kd.FK k33 _ _ (⟨2, (⟨0, 0⟩ : S28), (⟨t437, t438, (⟨t439, t440⟩ : S28), t441⟩ : S31), x3_1, ([] : List (S33))⟩ : S33) [.int .i64 2, .int .i64 0, .int .i64 0, .int .i64 t437, .int .i64 t438, .int .i64 t439, .int .i64 t440, .slice Ao45 t441.length co45, .slice Ao44 x3_1.length co44, .slice none 0 0] from (k33_mkF _ _ (⟨2, (⟨0, 0⟩ : S28), (⟨t437, t438, (⟨t439, t440⟩ : S28), t441⟩ : S31), x3_1, ([] : List (S33))⟩ : S33) (Kd.N_reads' (Kd.N_mono (ok' := (fun k_ => (w.heap.size ≤ k_) ∧ k_ ≠ g)) (HO443.out) (fun k_ hk => ⟨hk.1, hk.2.2⟩))).2.1 (Kd.N_F (Kd.N_mono (ok' := (fun k_ => (w.heap.size ≤ k_) ∧ k_ ≠ g)) (HO443.out) (fun k_ hk => ⟨hk.1, hk.2.2⟩))) (Kd.N_reads' (Kd.N_mono (ok' := (fun k_ => (w.heap.size ≤ k_) ∧ k_ ≠ g)) (HO_3.out) (fun k_ hk => ⟨hk.1.1, hk.1.2⟩))).2.1 (Kd.N_F (Kd.N_mono (ok' := (fun k_ => (w.heap.size ≤ k_) ∧ k_ ≠ g)) (HO_3.out) (fun k_ hk => ⟨hk.1.1, hk.1.2⟩))) (Nat.le_refl _) (Kd.F_nil _ _ _))) (Reps.none _ _))); intro v446 w46 ho47 hb hg_ hnew_; clear hg_ hnew_; (first | rw [← Ny445.out] at ho47 | (simp only [Int.reduceToNat] at ho47; rw [← Ny445.out] at ho47)); have n_ := az (Kd.N_lower ho47 (kS HK.out)) <| az (IsS53.below (mI53_1 HI0.out) hb) <| az (KeepBut.trans (mKp HK.out) (KeepBut.of_below hb g none) (.inl rfl)) <| z0 (below_step (mB53HI0 HB.out) hb); clear HI0 HK HB HO443 HO_3; obtain ⟨HO447, HI0, HK, HB⟩ := n_; clear hb ho47))
         go_roundg k1
         case measure => have := HK1.out; omega
         case rel => exact ⟨(y445), (wrap64 (x5_1 + 1)), (t444), rfy, H', ⟨by have := HK1.out; omega⟩, ⟨mN HO447.out⟩, ⟨mI53_1 HI0.out⟩, ⟨mKp HK.out⟩, ⟨mB53HI0 HB.out⟩⟩
        ·rw [if_neg c41] at H
         have c41b0 : decide (x5_1 < 4) = false := decide_eq_false c41
         clear c41
         simp only [Option.some.injEq, Prod.mk.injEq] at H
         obtain ⟨rfl, rfl⟩ := H
         go_wp2
         go_ret
         exact ⟨_, rfx, by (with_reducible repeat (first | apply Kd.N_alloc | apply Kd.N_drewN | apply Kd.N_drew)); exact Kd.N_mono HO_3.out (fun _ hk => hk.1), mI53_1 HI0.out, mB53HI0 HB.out, mKp HK.out⟩
     ·rw [if_neg c40] at H
      have c40b0 : (t416 == 3) = false := beq_eq_false_iff_ne.mpr c40
      have c40b1 : (t416 != 3) = true := bne_iff_ne.mpr c40
      by_cases c48 : t416 = 4
      ·rw [if_pos c48] at H
       have c48b0 : (t416 == 4) = true := beq_iff_eq.mpr c48
       have c48b1 : (t416 != 4) = false := bne_eq_false_iff_eq.mpr c48
       clear c48
       have H' := z0 H
       clear H
       go_wp2
       go_loopg [3] k (fun kq v3 w' => ∃ (x3_1 : List (S33)) (x1001_1 : Int), Aside0 (spec_l4Bent.l1 kq x3_1 s0_0 x1001_1 = some (r1, r2)) ∧ Aside0 (kq ≤ k) ∧ Aside0 (Kd.N k33 33 w' w.heap.size (fun k_ => (w.heap.size ≤ k_) ∧ k_ ≠ g) v3 x3_1) ∧ Aside0 (IsS53 w0 w' g s0_0 x1001_1) ∧ Aside0 (KeepBut w w' g none) ∧ Aside0 (Below w0.heap.size w0 w'))
       case atStart => exact ⟨(t410), (t417), H', ⟨Nat.le_refl _⟩, ⟨mN HO412.out⟩, ⟨mI53_1 HI0.out⟩, ⟨mKp HK.out⟩, ⟨mB53HI0 HB.out⟩⟩
       case round =>
        clear H'
        (try clear c1); (try clear c6); (try clear c6b0); (try clear c6b1); (try clear c6b2); (try clear c12); (try clear c12b0); (try clear c12b1); (try clear c14); (try clear c23); (try clear c23b0); (try clear c23b1); (try clear c25); (try clear c31); (try clear c31b0); (try clear c31b1); (try clear c33); (try clear c40); (try clear c40b0); (try clear c40b1); (try clear c48); (try clear c48b0); (try clear c48b1)
        obtain ⟨x3_1, x1001_1, HA, HK1, HO_3, HI0, HK, HB⟩ := hrel
        cases gk with
        | zero => exact absurd HA.out (by simp [spec_l4Bent.l1])
        | succ k1 =>
         have H := HA.out
         clear HA
         simp only [spec_l4Bent.l1] at H
         by_cases c49 : (x3_1.length : Int) ≤ 16
         ·rw [if_pos c49] at H
          have c49b0 : decide ((x3_1.length : Int) ≤ 16) = true := decide_eq_true c49
          have c49b1 : decide (x3_1.length ≤ 16) = true := decide_eq_true (by omega)
          clear c49
          replace H := Option.bind_eq_some_iff.mp H
          obtain ⟨⟨t448, t449, t450⟩, A500, H⟩ := H
          try dsimp only at H
          have A50 := z0 A500
          clear A500
          replace H := Option.bind_eq_some_iff.mp H
          obtain ⟨⟨t451, t452, t453, t454, t455, t458⟩, A510, H⟩ := H
          try dsimp only at H
          have A51 := z0 A510
          clear A510
          by_cases c52 : x3_1.length < 1099511627776
          ·rw [if_pos c52] at H
           have LMc52 := z0 c52
           clear c52
           obtain ⟨y459, hy459⟩ : ∃ y_ : List (S33), y_ = (x3_1 ++ [(⟨1, (⟨t448, t449⟩ : S28), (⟨t451, t452, (⟨t453, t454⟩ : S28), t455⟩ : S31), ([] : List (S33)), ([] : List (S33))⟩ : S33)]) := ⟨_, rfl⟩
           replace H : (spec_l4Bent.l1 k1 y459 s0_0 t458) = some (r1, r2) := by first | (rw [hy459]; with_reducible exact H) | (have H2_ := (Option.bind_some _ _).symm.trans H; rw [hy459]; with_reducible exact H2_) | (have H2_ := (Option.bind_some _ _).symm.trans H; with_reducible exact H2_) | with_reducible exact H | (rw [hy459]; exact H) | exact H
           have Ny459 := z0 hy459
           clear hy459
           have H' := z0 H
           clear H
           obtain ⟨Ao53, co53, eo53⟩ := Kd.N_slice HO_3.out
           subst eo53
           go_wp2_with (first | ((with_reducible refine gate_callee (f := 23) rfl ?_); refine goesL_ (some 61) rfl rfl Tryz.func23 (by kernel_rfl) rfl #[.pointer (some ⟨g, 0, none⟩)] rfl argx ?_; (with_reducible refine (spec_l2To.calls k1 g s0_0 x1001_1 t448 t449 t450 w0 _ ?side1 ?side2 A50.out).mono ?_); (case side1 => exact mI53_1 HI0.out); (case side2 => exact mB53HI0 HB.out); rintro e w54 ⟨rfl, hi, hb, hk⟩; refine ⟨_, rfl, ?_⟩; have n_ := az (Kd.N_mono (Kd.N_keep (Kd.N_mono (ok := fun k_ => (((w.heap.size ≤ k_)) ∧ k_ ≠ g)) (mN HO_3.out) (fun k_ hk_ => (⟨hk_, hk_.2⟩ : _ ∧ k_ ≠ g))) hk (fun _ h => h.2)) (fun _ h => h.1)) <| az (KeepBut.trans (mKp HK.out) hk (.inl rfl)) <| az (hb) <| z0 (hi); clear HO_3 HK HB HI0; obtain ⟨HO_3, HK, HB, HI0⟩ := n_; clear hb hk hi) | ((with_reducible refine gate_callee (f := 22) rfl ?_); refine goesL_ (some 63) rfl rfl Tryz.func22 (by kernel_rfl) rfl #[.pointer (some ⟨g, 0, none⟩), .int .i64 1] rfl argx ?_; (with_reducible refine (spec_l3Expr.calls k1 g s0_0 t450 1 t451 t452 t453 t454 t455 t458 w0 _ ?side1 ?side2 A51.out).mono ?_); (case side1 => exact mI53_1 HI0.out); (case side2 => exact mB53HI0 HB.out); rintro e w55 ⟨v456, rfl, ho0, hi, hb, hk⟩; refine ⟨_, rfl, ?_⟩; have n_ := az (Kd.N_mono (Kd.N_told (Kd.N_oldK (Kd.N_mono (ok := fun k_ => (((w.heap.size ≤ k_)) ∧ k_ ≠ g)) (mN HO_3.out) (fun k_ hk_ => (⟨hk_, hk_.2⟩ : _ ∧ k_ ≠ g))) hk) (by first | exact Kd.N_base ho0 | exact Kd.R_base ho0)) (fun _ h_ => h_.1)) <| az (Kd.N_lower (Kd.N_mono (ok' := fun k_ => (w.heap.size ≤ k_) ∧ nB k_ (.slice Ao53 x3_1.length co53) ∧ k_ ≠ g) (Kd.R_N (Kd.R_bound ho0)) (fun k_ hk_ => ⟨(Nat.le_trans (kS HK.out) hk_.2.1), (Kd.fresh' (Kd.N_lt (mN HO_3.out)) k_ hk_.2.1), (IsS53.fresh (mI53_1 HI0.out) k_ hk_.2.1)⟩)) (kS HK.out)) <| az (KeepBut.trans (mKp HK.out) hk (.inl rfl)) <| az (hb) <| z0 (hi); clear HO_3 HK HB HI0; obtain ⟨HO_3, HO457, HK, HB, HI0⟩ := n_; clear hb hk hi ho0; obtain ⟨Ao56, co56, eo56⟩ := Kd.N_slice HO457.out; subst eo56) | ((with_reducible refine gate_builtin (b := .append) (xs := #[.tmp 59, .tmp 65]) rfl ?_); at_builtin; refine Kd.N_append k33 w.heap.size rfl (.tmp 59) (.tmp 65) 23 33 (.agg #[(.int .i64 0), (.int .i64 0), (.int .i64 0), (.int .i64 0), (.int .i64 0), (.int .i64 0), (.int .i64 0), (.slice none 0 0), (.slice none 0 0), (.slice none 0 0)]) 128 rfl Tryz.underlying23 info33 rfl (by decide) (by omega) (.slice Ao53 x3_1.length co53) x3_1 (⟨1, (⟨t448, t449⟩ : S28), (⟨t451, t452, (⟨t453, t454⟩ : S28), t455⟩ : S31), ([] : List (S33)), ([] : List (S33))⟩ : S33) [.int .i64 1, .int .i64 t448, .int .i64 t449, .int .i64 t451, .int .i64 t452, .int .i64 t453, .int .i64 t454, .slice Ao56 t455.length co56, .slice none 0 0, .slice none 0 0] (fun k_ => (w.heap.size ≤ k_) ∧ k_ ≠ g) (fun k_ => ((fun k_ => (w.heap.size ≤ k_) ∧ k_ ≠ g)) k_ ∧ nB k_ (.slice Ao53 x3_1.length co53)) rfl rfl ?aP (fun _ hk => hk) ?aF ?aO (Below.refl _ _) ?aS ?aL ?_; (case aP => exact (k33_mkF _ _ (⟨1, (⟨t448, t449⟩ : S28), (⟨t451, t452, (⟨t453, t454⟩ : S28), t455⟩ : S31), ([] : List (S33)), ([] : List (S33))⟩ : S33) (Kd.N_reads' (Kd.N_mono (ok' := (fun k_ => ((fun k_ => (w.heap.size ≤ k_) ∧ k_ ≠ g)) k_ ∧ nB k_ (.slice Ao53 x3_1.length co53))) (HO457.out) (fun k_ hk => ⟨⟨hk.1, hk.2.2⟩, hk.2.1⟩))).2.1 (Kd.N_F (Kd.N_mono (ok' := (fun k_ => ((fun k_ => (w.heap.size ≤ k_) ∧ k_ ≠ g)) k_ ∧ nB k_ (.slice Ao53 x3_1.length co53))) (HO457.out) (fun k_ hk => ⟨⟨hk.1, hk.2.2⟩, hk.2.1⟩))) (Nat.le_refl _) (Kd.F_nil _ _ _) (Nat.le_refl _) (Kd.F_nil _ _ _))); (case aF => exact (fun k_ hk => ⟨(Nat.le_trans (kS HK.out) hk), IsS53.fresh (mI53_1 HI0.out) k_ hk⟩)); (case aO => exact (by (with_reducible repeat (first | apply Kd.N_alloc | apply Kd.N_drewN | apply Kd.N_drew)); exact Kd.N_mono HO_3.out (fun _ hk => ⟨hk.1.1, hk.1.2⟩))); (case aS => exact (kS HK.out)); (case aL => have := LMc52.out; omega); intro v460 w57 ho hb hg hat; rw [← Ny459.out] at ho; have n_ := az (IsS53.grown (mI53_1 HI0.out) hg (IsS53.own_neN HI0.out HO_3.out (by decide))) <| az (below_weaken (mB53HI0 HB.out) HL.out hb) <| az (KeepBut.trans (mKp HK.out) (KeepBut.of_grown hg g) (Kd.N_base2 HO_3.out)) <| z0 (ho); clear HI0 HB HK HO_3 HO457; obtain ⟨HI0, HB, HK, HO461⟩ := n_; clear ho hb hg hat))
           go_roundg k1
           case measure => have := HK1.out; omega
           case rel => exact ⟨(y459), (t458), H', ⟨by have := HK1.out; omega⟩, ⟨mN HO461.out⟩, ⟨mI53_1 HI0.out⟩, ⟨mKp HK.out⟩, ⟨mB53HI0 HB.out⟩⟩
          ·rw [if_neg c52] at H
           exact absurd H (by simp)
         ·rw [if_neg c49] at H
          have c49b0 : decide ((x3_1.length : Int) ≤ 16) = false := decide_eq_false c49
          have c49b1 : decide (x3_1.length ≤ 16) = false := decide_eq_false (by omega)
          clear c49
          simp only [Option.some.injEq, Prod.mk.injEq] at H
          obtain ⟨rfl, rfl⟩ := H
          obtain ⟨Ao58, co58, eo58⟩ := Kd.N_slice HO_3.out
          subst eo58
          go_wp2
          go_ret
          exact ⟨_, rfx, by (with_reducible repeat (first | apply Kd.N_alloc | apply Kd.N_drewN | apply Kd.N_drew)); exact Kd.N_mono HO_3.out (fun _ hk => hk.1), mI53_1 HI0.out, mB53HI0 HB.out, mKp HK.out⟩
      ·rw [if_neg c48] at H
       have c48b0 : (t416 == 4) = false := beq_eq_false_iff_ne.mpr c48
       have c48b1 : (t416 != 4) = true := bne_iff_ne.mpr c48
       simp only [Option.some.injEq, Prod.mk.injEq] at H
       obtain ⟨rfl, rfl⟩ := H
       go_wp2
       go_ret
       exact ⟨_, rfx, by (with_reducible repeat (first | apply Kd.N_alloc | apply Kd.N_drewN | apply Kd.N_drew)); exact Kd.N_mono HO412.out (fun _ hk => hk.1), mI53_1 HI0.out, mB53HI0 HB.out, mKp HK.out⟩

/-! ### spec_l12Open: function 11 -/
def spec_l12Open.f (l0 : List Int) : Option (List Int × Int) := if (l0.length : Int) > 2000 then (if 2000 ≤ (l0.length : Int) then (some (l0.take 2000, 0)) else (none)) else (some (l0, 0))
set_option maxHeartbeats 8000000 in
set_option maxRecDepth 100000 in
theorem spec_l12Open.calls (A0 : Option Addr) (c0 : Nat) (l0 : List Int) (r1 : List Int) (r2 : Int) (w0 w : World) (hB : Below w0.heap.size w0 w) (hr0 : Kd.C (Kd.int .u8) w0 A0 l0.length l0) (hc0 : l0.length ≤ c0) (h : spec_l12Open.f l0 = some (r1, r2)) :
  Calls Tryz.prog 11 #[.slice A0 l0.length c0] w fun e w' => ∃ g_ : Nat, e = .returned (.pointer (some ⟨g_, 0, none⟩)) ∧ IsS53 w0 w' g_ r1 r2 ∧ Below w0.heap.size w0 w' ∧ Below w.heap.size w w' := by
 have hu53 := Tryz.underlying53
 have HR0 := z0 hr0
 have HC0 := z0 hc0
 clear hr0 hc0
 have HBW := z0 (Below.refl w.heap.size w)
 have HW0 := z0 hB.size
 have HB := z0 hB
 clear hB
 have H : (if (l0.length : Int) > 2000 then (if 2000 ≤ (l0.length : Int) then (some (l0.take 2000, 0)) else (none)) else (some (l0, 0))) = some (r1, r2) := h
 clear h
 by_cases c2 : (l0.length : Int) > 2000
 ·rw [if_pos c2] at H
  have c2b0 : decide (2000 < (l0.length : Int)) = true := decide_eq_true c2
  have c2b1 : decide (2000 < l0.length) = true := decide_eq_true (by omega)
  clear c2
  by_cases c3 : 2000 ≤ (l0.length : Int)
  ·rw [if_pos c3] at H
   have c3b0 := eq_true c3
   have c3b1 : decide (2000 ≤ (l0.length : Int)) = true := decide_eq_true c3
   clear c3
   simp only [Option.some.injEq, Prod.mk.injEq] at H
   obtain ⟨rfl, rfl⟩ := H
   obtain ⟨i04, hi04, _, hsz4, _⟩ := info_parts info5
   obtain ⟨hcut4, hA4, hC4⟩ := print_take_of (P := Tryz.prog) (Value.int .u8) 0 22 5 .i64 Tryz.underlying22 hi04 hsz4 A0 c0 l0 2000 (by omega) (of_decide_eq_true (by first | (with_reducible assumption) | assumption)) HC0.out
   have HR462 := z0 (Kd.C_of_reads (h1 := fun _ => rfl) (hA4 _ (Kd.reads_of_C HR0.out)))
   have HC462 := z0 hC4
   clear hA4 hC4 hi04 hsz4
   go_enter Tryz.func11, Tryz.ntmps11
   go_wp2_with (first | ((with_reducible refine gate_dst (N := 10) rfl ?_); refine box_event ?hg (N := 10) ?hd (cs := #[.slice A0 (l0.take 2000).length c0, .int .i64 0]) (t := 53) ?hr ?_; (case hd => rfl); (case hg => rfl); (case hr => first | (go_simp; done) | (go_simp; rfl)); intro gb463 hg w5 hbox hb; have n_ := az (below_step HBW.out hb) <| az (below_step (mB HB.out) hb) <| az (hbox) <| az ((by rw [hg]; exact (below_size (mB HBW.out)) : w.heap.size ≤ gb463)) <| z0 ((Nat.le_trans HW0.out (by rw [hg]; exact (below_size (mB HBW.out)) : w.heap.size ≤ gb463) : w0.heap.size ≤ gb463)); clear HBW HB; obtain ⟨HBW, HB, BK463, GW463, GE463⟩ := n_; clear hb hbox hg))
   go_ret
   exact ⟨_, rfl, (show IsS53 w0 _ gb463 (l0.take 2000) 0 from ⟨_, _, mK BK463.out, GE463.out, HR462.out⟩), mB HB.out, mB HBW.out⟩
  ·rw [if_neg c3] at H
   exact absurd H (by simp)
 ·rw [if_neg c2] at H
  have c2b0 : decide (2000 < (l0.length : Int)) = false := decide_eq_false c2
  have c2b1 : decide (2000 < l0.length) = false := decide_eq_false (by omega)
  clear c2
  simp only [Option.some.injEq, Prod.mk.injEq] at H
  obtain ⟨rfl, rfl⟩ := H
  go_enter Tryz.func11, Tryz.ntmps11
  go_wp2_with (first | ((with_reducible refine gate_dst (N := 10) rfl ?_); refine box_event ?hg (N := 10) ?hd (cs := #[.slice A0 l0.length c0, .int .i64 0]) (t := 53) ?hr ?_; (case hd => rfl); (case hg => rfl); (case hr => first | (go_simp; done) | (go_simp; rfl)); intro gb464 hg w6 hbox hb; have n_ := az (below_step HBW.out hb) <| az (below_step (mB HB.out) hb) <| az (hbox) <| az ((by rw [hg]; exact (below_size (mB HBW.out)) : w.heap.size ≤ gb464)) <| z0 ((Nat.le_trans HW0.out (by rw [hg]; exact (below_size (mB HBW.out)) : w.heap.size ≤ gb464) : w0.heap.size ≤ gb464)); clear HBW HB; obtain ⟨HBW, HB, BK464, GW464, GE464⟩ := n_; clear hb hbox hg))
  go_ret
  exact ⟨_, rfl, (show IsS53 w0 _ gb464 l0 0 from ⟨_, _, mK BK464.out, GE464.out, HR0.out⟩), mB HB.out, mB HBW.out⟩

/-! ### spec_DrawStmtsOk: function 4 -/
def spec_DrawStmtsOk.f (k : Nat) (l0 : List Int) : Option ((List (S33))) := (spec_l12Open.f l0).bind fun bt465 => ((spec_l4Bent.f k bt465.1 bt465.2).bind fun bt468 => (some bt468.1))
set_option maxHeartbeats 8000000 in
set_option maxRecDepth 100000 in
theorem spec_DrawStmtsOk.calls (k : Nat) (A0 : Option Addr) (c0 : Nat) (l0 : List Int) (r : List (S33)) (w : World) (hr0 : Kd.C (Kd.int .u8) w A0 l0.length l0) (hc0 : l0.length ≤ c0) (h : spec_DrawStmtsOk.f k l0 = some r) :
  Calls Tryz.prog 4 #[.slice A0 l0.length c0] w fun e w' => ∃ v0_ : Value, e = .returned (v0_) ∧ Kd.N k33 33 w' w.heap.size (fun k_ => (w.heap.size ≤ k_)) v0_ r ∧ Below w.heap.size w w' := by
 have HR0 := z0 hr0
 have HC0 := z0 hc0
 clear hr0 hc0
 have HB := z0 (Below.refl w.heap.size w)
 have H : ((spec_l12Open.f l0).bind fun bt465 => ((spec_l4Bent.f k bt465.1 bt465.2).bind fun bt468 => (some bt468.1))) = some r := h
 clear h
 replace H := Option.bind_eq_some_iff.mp H
 obtain ⟨⟨t465, t466⟩, A20, H⟩ := H
 try dsimp only at H
 have A2 := z0 A20
 clear A20
 replace H := Option.bind_eq_some_iff.mp H
 obtain ⟨⟨t468, t471⟩, A30, H⟩ := H
 try dsimp only at H
 have A3 := z0 A30
 clear A30
 obtain rfl := Option.some.inj H
 go_enter Tryz.func4, Tryz.ntmps4
 go_wp2_with (first | ((with_reducible refine gate_callee (f := 11) rfl ?_); refine goesL_ (some 4) rfl rfl Tryz.func11 (by kernel_rfl) rfl #[.slice A0 l0.length c0] rfl argx ?_; (with_reducible refine (spec_l12Open.calls _ _ l0 t465 t466 w _ ?side1 ?side2 ?side3 A2.out).mono ?_); (case side1 => exact mB HB.out); (case side2 => exact HR0.out); (case side3 => exact HC0.out); rintro e w4 ⟨g467, rfl, hi, hb, hb2⟩; refine ⟨_, rfl, ?_⟩; have n_ := az (hb) <| z0 (hi); clear HB; obtain ⟨HB, HI467⟩ := n_; clear hb hb2 hi) | ((with_reducible refine gate_callee (f := 10) rfl ?_); refine goesL_ (some 5) rfl rfl Tryz.func10 (by kernel_rfl) rfl #[.pointer (some ⟨g467, 0, none⟩)] rfl argx ?_; (with_reducible refine (spec_l4Bent.calls k g467 t465 t466 t468 t471 w _ ?side1 ?side2 A3.out).mono ?_); (case side1 => exact mI53_1 HI467.out); (case side2 => exact mB53HI467 HB.out); rintro e w5 ⟨v469, rfl, ho0, hi, hb, hk⟩; refine ⟨_, rfl, ?_⟩; have n_ := az (Kd.N_lower (Kd.N_mono (ok' := fun k_ => (w.heap.size ≤ k_) ∧ k_ ≠ g467) ho0 (fun k_ hk_ => ⟨(Nat.le_trans (below_size (mB53HI467 HB.out)) hk_), (IsS53.fresh (mI53_1 HI467.out) k_ hk_)⟩)) (below_size (mB53HI467 HB.out))) <| az (hb) <| z0 (hi); clear HB HI467; obtain ⟨HO470, HB, HI467⟩ := n_; clear hb hk hi ho0))
 go_ret
 exact ⟨_, rfx, by (with_reducible repeat (first | apply Kd.N_alloc | apply Kd.N_drewN | apply Kd.N_drew)); exact Kd.N_mono HO470.out (fun _ hk => hk.1), mB53HI467 HB.out⟩

/-! ### impl_isNum: function 103 -/
def impl_isNum.f (a0 : Int) : Option (Bool) := if a0 ≥ (-1000000) then (some (decide (a0 ≤ 1000000))) else (some false)
set_option maxHeartbeats 8000000 in
set_option maxRecDepth 100000 in
theorem impl_isNum.calls (a0 : Int) (r : Bool) (w : World) (h : impl_isNum.f a0 = some r) :
  Calls Tryz.prog 103 #[.int .i64 a0] w fun e w' => e = .returned (.bool r) ∧ Drawn0 w w' := by
 have H : (if a0 ≥ (-1000000) then (some (decide (a0 ≤ 1000000))) else (some false)) = some r := h
 clear h
 by_cases c2 : a0 ≥ (-1000000)
 ·rw [if_pos c2] at H
  have c2b0 : decide ((-1000000) ≤ a0) = true := decide_eq_true c2
  clear c2
  obtain rfl := Option.some.inj H
  go_enter Tryz.func103, Tryz.ntmps103
  go_wp2
  go_ret
  exact ⟨by first | rfl | (simp; done) | (simp [*]; done), by repeat (first | exact Drawn0.refl _ | apply Drawn0.step)⟩
 ·rw [if_neg c2] at H
  have c2b0 : decide ((-1000000) ≤ a0) = false := decide_eq_false c2
  clear c2
  obtain rfl := Option.some.inj H
  go_enter Tryz.func103, Tryz.ntmps103
  go_wp2
  go_ret
  exact ⟨by first | rfl | (simp; done) | (simp [*]; done), by repeat (first | exact Drawn0.refl _ | apply Drawn0.step)⟩

/-! ### impl_AddrOk: function 76 -/
def impl_AddrOk.f (a0_0 : Int) (a0_1 : Int) : Option (Bool) := if a0_0 ≥ 1 then (if a0_0 ≤ 3 then (if a0_1 ≥ 0 then (some (decide (a0_1 < 6))) else (some false)) else (some false)) else (some false)
set_option maxHeartbeats 8000000 in
set_option maxRecDepth 100000 in
theorem impl_AddrOk.calls (a0_0 : Int) (a0_1 : Int) (r : Bool) (w : World) (h : impl_AddrOk.f a0_0 a0_1 = some r) :
  Calls Tryz.prog 76 #[.agg #[.int .i64 a0_0, .int .i64 a0_1]] w fun e w' => e = .returned (.bool r) ∧ Below w.heap.size w w' := by
 have hu28 := Tryz.underlying28
 have HB := z0 (Below.refl w.heap.size w)
 have H : (if a0_0 ≥ 1 then (if a0_0 ≤ 3 then (if a0_1 ≥ 0 then (some (decide (a0_1 < 6))) else (some false)) else (some false)) else (some false)) = some r := h
 clear h
 have HF2 := z0 H
 clear H
 go_enter Tryz.func76, Tryz.ntmps76
 go_upto_region 1 with (first | ((with_reducible refine gate_dst (N := 1) rfl ?_); refine box_event ?hg (N := 1) ?hd (cs := #[.int .i64 a0_0, .int .i64 a0_1]) (t := 28) ?hr ?_; (case hd => rfl); (case hg => rfl); (case hr => first | (go_simp; done) | (go_simp; rfl)); intro gb539 hg w3 hbox hb; have n_ := az (below_step (mB HB.out) hb) <| az (hbox) <| az ((by rw [hg]; exact (below_size (mB HB.out)) : w.heap.size ≤ gb539)) <| z0 ((by rw [hg]; exact (below_size (mB HB.out)) : w.heap.size ≤ gb539)); clear HB; obtain ⟨HB, BK539, GW539, GE539⟩ := n_; clear hb hbox hg))
 (try simp only [Act.put, List.setIfInBounds_toArray, List.set_cons_zero, List.set_cons_succ])
 have H := HF2.out
 clear HF2
 by_cases c4 : a0_0 ≥ 1
 ·rw [if_pos c4] at H
  have c4b0 : decide (1 ≤ a0_0) = true := decide_eq_true c4
  clear c4
  by_cases c5 : a0_0 ≤ 3
  ·rw [if_pos c5] at H
   have c5b0 : decide (a0_0 ≤ 3) = true := decide_eq_true c5
   clear c5
   by_cases c6 : a0_1 ≥ 0
   ·rw [if_pos c6] at H
    have c6b0 : decide (0 ≤ a0_1) = true := decide_eq_true c6
    clear c6
    obtain rfl := Option.some.inj H
    obtain ⟨hcz7_0, hcz7_1, hfz7_0, hfz7_1⟩ := cel2 BK539.out
    go_wp2
    go_ret
    exact ⟨rfx, mB HB.out⟩
   ·rw [if_neg c6] at H
    have c6b0 : decide (0 ≤ a0_1) = false := decide_eq_false c6
    clear c6
    obtain rfl := Option.some.inj H
    obtain ⟨hcz8_0, hcz8_1, hfz8_0, hfz8_1⟩ := cel2 BK539.out
    go_wp2
    go_ret
    exact ⟨rfx, mB HB.out⟩
  ·rw [if_neg c5] at H
   have c5b0 : decide (a0_0 ≤ 3) = false := decide_eq_false c5
   clear c5
   obtain rfl := Option.some.inj H
   obtain ⟨hcz9_0, hcz9_1, hfz9_0, hfz9_1⟩ := cel2 BK539.out
   go_wp2
   go_ret
   exact ⟨rfx, mB HB.out⟩
 ·rw [if_neg c4] at H
  have c4b0 : decide (1 ≤ a0_0) = false := decide_eq_false c4
  clear c4
  obtain rfl := Option.some.inj H
  obtain ⟨hcz10_0, hcz10_1, hfz10_0, hfz10_1⟩ := cel2 BK539.out
  go_wp2
  go_ret
  exact ⟨rfx, mB HB.out⟩

/-! ### impl_puts: function 72 -/
def impl_puts.f (a0_0 : Int) (a0_1 : Int) : Option (Bool) := (impl_AddrOk.f a0_0 a0_1).bind fun t541 => (if t541 = true then (some (a0_0 != 1)) else (some false))
set_option maxHeartbeats 8000000 in
set_option maxRecDepth 100000 in
theorem impl_puts.calls (a0_0 : Int) (a0_1 : Int) (r : Bool) (w : World) (h : impl_puts.f a0_0 a0_1 = some r) :
  Calls Tryz.prog 72 #[.agg #[.int .i64 a0_0, .int .i64 a0_1]] w fun e w' => e = .returned (.bool r) ∧ Below w.heap.size w w' := by
 have hu28 := Tryz.underlying28
 have HB := z0 (Below.refl w.heap.size w)
 have H : ((impl_AddrOk.f a0_0 a0_1).bind fun t541 => (if t541 = true then (some (a0_0 != 1)) else (some false))) = some r := h
 clear h
 have HF2 := z0 H
 clear H
 go_enter Tryz.func72, Tryz.ntmps72
 go_upto_region 1 with (first | ((with_reducible refine gate_dst (N := 1) rfl ?_); refine box_event ?hg (N := 1) ?hd (cs := #[.int .i64 a0_0, .int .i64 a0_1]) (t := 28) ?hr ?_; (case hd => rfl); (case hg => rfl); (case hr => first | (go_simp; done) | (go_simp; rfl)); intro gb540 hg w3 hbox hb; have n_ := az (below_step (mB HB.out) hb) <| az (hbox) <| az ((by rw [hg]; exact (below_size (mB HB.out)) : w.heap.size ≤ gb540)) <| z0 ((by rw [hg]; exact (below_size (mB HB.out)) : w.heap.size ≤ gb540)); clear HB; obtain ⟨HB, BK540, GW540, GE540⟩ := n_; clear hb hbox hg))
 (try simp only [Act.put, List.setIfInBounds_toArray, List.set_cons_zero, List.set_cons_succ])
 have H := HF2.out
 clear HF2
 replace H := Option.bind_eq_some_iff.mp H
 obtain ⟨t541, A40, H⟩ := H
 try dsimp only at H
 have A4 := z0 A40
 clear A40
 by_cases c5 : t541 = true
 ·subst c5
  have H1 : (some (a0_0 != 1)) = some r := by rw [if_pos rfl] at H; exact H
  clear H
  have H := H1
  clear H1
  obtain rfl := Option.some.inj H
  obtain ⟨hcz6_0, hcz6_1, hfz6_0, hfz6_1⟩ := cel2 BK540.out
  go_wp2_with (first | ((with_reducible refine gate_callee (f := 76) rfl ?_); refine goesL_ (some 4) rfl rfl Tryz.func76 (by kernel_rfl) rfl #[.agg #[.int .i64 a0_0, .int .i64 a0_1]] rfl argx ?_; (with_reducible refine (impl_AddrOk.calls a0_0 a0_1 true _ A4.out).mono ?_); rintro e w7 ⟨rfl, hb⟩; refine ⟨_, rfl, ?_⟩; have n_ := az (bB BK540.out hb) <| z0 (below_step (mB HB.out) hb); clear BK540 HB; obtain ⟨BK540, HB⟩ := n_; clear hb; obtain ⟨hcz8_0, hcz8_1, hfz8_0, hfz8_1⟩ := cel2 BK540.out))
  go_ret
  exact ⟨rfx, mB HB.out⟩
 ·replace c5 := Bool.eq_false_iff.mpr c5
  subst c5
  have H1 : (some false) = some r := by rw [if_neg (show ¬ (false = true) by decide)] at H; exact H
  clear H
  have H := H1
  clear H1
  obtain rfl := Option.some.inj H
  obtain ⟨hcz9_0, hcz9_1, hfz9_0, hfz9_1⟩ := cel2 BK540.out
  go_wp2_with (first | ((with_reducible refine gate_callee (f := 76) rfl ?_); refine goesL_ (some 4) rfl rfl Tryz.func76 (by kernel_rfl) rfl #[.agg #[.int .i64 a0_0, .int .i64 a0_1]] rfl argx ?_; (with_reducible refine (impl_AddrOk.calls a0_0 a0_1 false _ A4.out).mono ?_); rintro e w10 ⟨rfl, hb⟩; refine ⟨_, rfl, ?_⟩; have n_ := az (bB BK540.out hb) <| z0 (below_step (mB HB.out) hb); clear BK540 HB; obtain ⟨BK540, HB⟩ := n_; clear hb))
  go_ret
  exact ⟨rfx, mB HB.out⟩

/-! ### impl_setDoing_plain: function 70 -/
def impl_setDoing_plain.f (a0_0 : Int) (a0_1 : Int) (a0_2 : Int) (a0_3 : Int) (a0_4 : Int) (a0_5 : Int) (l0_6 : List (S31)) (a1_0 : Int) (a1_1 : Int) (a1_2 : Int) (a1_3 : Int) (a1_4 : Int) (a1_5 : Int) (a1_6 : Int) (l1_7 : List (S31)) (l1_8 : List (S33)) (l1_9 : List (S33)) : Option (Bool) := (impl_puts.f a1_1 a1_2).bind fun t544 => (if t544 = true then (if (l1_8.length : Int) = 0 then (some ((l1_9.length : Int) == 0)) else (some false)) else (some false))
set_option maxHeartbeats 8000000 in
set_option maxRecDepth 100000 in
theorem impl_setDoing_plain.calls (a0_0 : Int) (a0_1 : Int) (a0_2 : Int) (a0_3 : Int) (a0_4 : Int) (a0_5 : Int) (A0_6 : Option Addr) (c0_6 : Nat) (l0_6 : List (S31)) (a1_0 : Int) (a1_1 : Int) (a1_2 : Int) (a1_3 : Int) (a1_4 : Int) (a1_5 : Int) (a1_6 : Int) (A1_7 : Option Addr) (c1_7 : Nat) (l1_7 : List (S31)) (A1_8 : Option Addr) (c1_8 : Nat) (l1_8 : List (S33)) (A1_9 : Option Addr) (c1_9 : Nat) (l1_9 : List (S33)) (r : Bool) (w : World) (hr0_6 : Kd.C k31 w A0_6 l0_6.length l0_6) (hc0_6 : l0_6.length ≤ c0_6) (hr1_7 : Kd.C k31 w A1_7 l1_7.length l1_7) (hc1_7 : l1_7.length ≤ c1_7) (hr1_8 : Kd.C k33 w A1_8 l1_8.length l1_8) (hc1_8 : l1_8.length ≤ c1_8) (hr1_9 : Kd.C k33 w A1_9 l1_9.length l1_9) (hc1_9 : l1_9.length ≤ c1_9) (h : impl_setDoing_plain.f a0_0 a0_1 a0_2 a0_3 a0_4 a0_5 l0_6 a1_0 a1_1 a1_2 a1_3 a1_4 a1_5 a1_6 l1_7 l1_8 l1_9 = some r) :
  Calls Tryz.prog 70 #[.agg #[.int .i64 a0_0, .int .i64 a0_1, .int .i64 a0_2, .int .i64 a0_3, .int .i64 a0_4, .int .i64 a0_5, .slice A0_6 l0_6.length c0_6], .agg #[.int .i64 a1_0, .int .i64 a1_1, .int .i64 a1_2, .int .i64 a1_3, .int .i64 a1_4, .int .i64 a1_5, .int .i64 a1_6, .slice A1_7 l1_7.length c1_7, .slice A1_8 l1_8.length c1_8, .slice A1_9 l1_9.length c1_9]] w fun e w' => e = .returned (.bool r) ∧ Below w.heap.size w w' := by
 have hu74 := Tryz.underlying74
 have hu33 := Tryz.underlying33
 have hu28 := Tryz.underlying28
 have HR0_6 := z0 hr0_6
 have HC0_6 := z0 hc0_6
 clear hr0_6 hc0_6
 have HR1_7 := z0 hr1_7
 have HC1_7 := z0 hc1_7
 clear hr1_7 hc1_7
 have HR1_8 := z0 hr1_8
 have HC1_8 := z0 hc1_8
 clear hr1_8 hc1_8
 have HR1_9 := z0 hr1_9
 have HC1_9 := z0 hc1_9
 clear hr1_9 hc1_9
 have HB := z0 (Below.refl w.heap.size w)
 have H : ((impl_puts.f a1_1 a1_2).bind fun t544 => (if t544 = true then (if (l1_8.length : Int) = 0 then (some ((l1_9.length : Int) == 0)) else (some false)) else (some false))) = some r := h
 clear h
 have HF3 := z0 H
 clear H
 go_enter Tryz.func70, Tryz.ntmps70
 go_upto_region 1 with (first | ((with_reducible refine gate_dst (N := 2) rfl ?_); (try (refine gate_guard (by rfl) ?_; dsimp only)); refine box_event ?hg (N := 2) ?hd (cs := #[.int .i64 a0_0, .int .i64 a0_1, .int .i64 a0_2, .int .i64 a0_3, .int .i64 a0_4, .int .i64 a0_5, .slice A0_6 l0_6.length c0_6]) (t := 74) ?hr ?_; (case hd => rfl); (case hg => rfl); (case hr => first | (go_simp; done) | (go_simp; rfl)); intro gb542 hg w4 hbox hb; have n_ := az (below_step (mB HB.out) hb) <| az (hbox) <| az ((by rw [hg]; exact (below_size (mB HB.out)) : w.heap.size ≤ gb542)) <| z0 ((by rw [hg]; exact (below_size (mB HB.out)) : w.heap.size ≤ gb542)); clear HB; obtain ⟨HB, BK542, GW542, GE542⟩ := n_; clear hb hbox hg) | ((with_reducible refine gate_dst (N := 3) rfl ?_); (try (refine gate_guard (by rfl) ?_; dsimp only)); refine box_event ?hg (N := 3) ?hd (cs := #[.int .i64 a1_0, .int .i64 a1_1, .int .i64 a1_2, .int .i64 a1_3, .int .i64 a1_4, .int .i64 a1_5, .int .i64 a1_6, .slice A1_7 l1_7.length c1_7, .slice A1_8 l1_8.length c1_8, .slice A1_9 l1_9.length c1_9]) (t := 33) ?hr ?_; (case hd => rfl); (case hg => rfl); (case hr => first | (go_simp; done) | (go_simp; rfl)); intro gb543 hg w5 hbox hb; have n_ := az (bB BK542.out hb) <| az (below_step (mB HB.out) hb) <| az (hbox) <| az ((by rw [hg]; exact (below_size (mB HB.out)) : w.heap.size ≤ gb543)) <| az ((by rw [hg]; exact (below_size (mB HB.out)) : w.heap.size ≤ gb543)) <| az ((nL hg BK542.out)) <| z0 ((nG hg BK542.out)); clear BK542 HB; obtain ⟨BK542, HB, BK543, GW543, GE543, NB542_543, NB543_542⟩ := n_; clear hb hbox hg))
 (try simp only [Act.put, List.setIfInBounds_toArray, List.set_cons_zero, List.set_cons_succ])
 have H := HF3.out
 clear HF3
 try clear c1
 replace H := Option.bind_eq_some_iff.mp H
 obtain ⟨t544, A60, H⟩ := H
 try dsimp only at H
 have A6 := z0 A60
 clear A60
 by_cases c7 : t544 = true
 ·subst c7
  have H1 : (if (l1_8.length : Int) = 0 then (some ((l1_9.length : Int) == 0)) else (some false)) = some r := by rw [if_pos rfl] at H; exact H
  clear H
  have H := H1
  clear H1
  by_cases c8 : (l1_8.length : Int) = 0
  ·rw [if_pos c8] at H
   have c8b0 : ((l1_8.length : Int) == 0) = true := beq_iff_eq.mpr c8
   have c8b1 : ((l1_8.length : Int) != 0) = false := bne_eq_false_iff_eq.mpr c8
   clear c8
   obtain rfl := Option.some.inj H
   have hnb9 := NB543_542.out
   have hnc9 := NB542_543.out
   obtain ⟨hcz10_0, hcz10_1, hcz10_2, hcz10_3, hcz10_4, hcz10_5, hcz10_6, hcz10_7, hcz10_8, hcz10_9, hfz10_0, hfz10_1, hfz10_2, hfz10_3, hfz10_4, hfz10_5, hfz10_6, hfz10_7, hfz10_8, hfz10_9⟩ := cel10 BK543.out
   go_wp2_with (first | ((with_reducible refine gate_callee (f := 72) rfl ?_); refine goesL_ (some 7) rfl rfl Tryz.func72 (by kernel_rfl) rfl #[.agg #[.int .i64 a1_1, .int .i64 a1_2]] rfl argx ?_; (with_reducible refine (impl_puts.calls a1_1 a1_2 true _ A6.out).mono ?_); rintro e w11 ⟨rfl, hb⟩; refine ⟨_, rfl, ?_⟩; have n_ := az (bB BK542.out hb) <| az (bB BK543.out hb) <| z0 (below_step (mB HB.out) hb); clear BK542 BK543 HB; obtain ⟨BK542, BK543, HB⟩ := n_; clear hb; obtain ⟨hcz12_0, hcz12_1, hcz12_2, hcz12_3, hcz12_4, hcz12_5, hcz12_6, hcz12_7, hcz12_8, hcz12_9, hfz12_0, hfz12_1, hfz12_2, hfz12_3, hfz12_4, hfz12_5, hfz12_6, hfz12_7, hfz12_8, hfz12_9⟩ := cel10 BK543.out))
   go_ret
   exact ⟨rfx, mB HB.out⟩
  ·rw [if_neg c8] at H
   have c8b0 : ((l1_8.length : Int) == 0) = false := beq_eq_false_iff_ne.mpr c8
   have c8b1 : ((l1_8.length : Int) != 0) = true := bne_iff_ne.mpr c8
   have c8b2 : ¬ (l1_8 = []) := fun h_ => c8 (by rw [h_]; rfl)
   obtain rfl := Option.some.inj H
   have hnb13 := NB543_542.out
   have hnc13 := NB542_543.out
   obtain ⟨hcz14_0, hcz14_1, hcz14_2, hcz14_3, hcz14_4, hcz14_5, hcz14_6, hcz14_7, hcz14_8, hcz14_9, hfz14_0, hfz14_1, hfz14_2, hfz14_3, hfz14_4, hfz14_5, hfz14_6, hfz14_7, hfz14_8, hfz14_9⟩ := cel10 BK543.out
   go_wp2_with (first | ((with_reducible refine gate_callee (f := 72) rfl ?_); refine goesL_ (some 7) rfl rfl Tryz.func72 (by kernel_rfl) rfl #[.agg #[.int .i64 a1_1, .int .i64 a1_2]] rfl argx ?_; (with_reducible refine (impl_puts.calls a1_1 a1_2 true _ A6.out).mono ?_); rintro e w15 ⟨rfl, hb⟩; refine ⟨_, rfl, ?_⟩; have n_ := az (bB BK542.out hb) <| az (bB BK543.out hb) <| z0 (below_step (mB HB.out) hb); clear BK542 BK543 HB; obtain ⟨BK542, BK543, HB⟩ := n_; clear hb; obtain ⟨hcz16_0, hcz16_1, hcz16_2, hcz16_3, hcz16_4, hcz16_5, hcz16_6, hcz16_7, hcz16_8, hcz16_9, hfz16_0, hfz16_1, hfz16_2, hfz16_3, hfz16_4, hfz16_5, hfz16_6, hfz16_7, hfz16_8, hfz16_9⟩ := cel10 BK543.out))
   go_ret
   exact ⟨rfx, mB HB.out⟩
 ·replace c7 := Bool.eq_false_iff.mpr c7
  subst c7
  have H1 : (some false) = some r := by rw [if_neg (show ¬ (false = true) by decide)] at H; exact H
  clear H
  have H := H1
  clear H1
  obtain rfl := Option.some.inj H
  have hnb17 := NB543_542.out
  have hnc17 := NB542_543.out
  obtain ⟨hcz18_0, hcz18_1, hcz18_2, hcz18_3, hcz18_4, hcz18_5, hcz18_6, hcz18_7, hcz18_8, hcz18_9, hfz18_0, hfz18_1, hfz18_2, hfz18_3, hfz18_4, hfz18_5, hfz18_6, hfz18_7, hfz18_8, hfz18_9⟩ := cel10 BK543.out
  go_wp2_with (first | ((with_reducible refine gate_callee (f := 72) rfl ?_); refine goesL_ (some 7) rfl rfl Tryz.func72 (by kernel_rfl) rfl #[.agg #[.int .i64 a1_1, .int .i64 a1_2]] rfl argx ?_; (with_reducible refine (impl_puts.calls a1_1 a1_2 false _ A6.out).mono ?_); rintro e w19 ⟨rfl, hb⟩; refine ⟨_, rfl, ?_⟩; have n_ := az (bB BK542.out hb) <| az (bB BK543.out hb) <| z0 (below_step (mB HB.out) hb); clear BK542 BK543 HB; obtain ⟨BK542, BK543, HB⟩ := n_; clear hb))
  go_ret
  exact ⟨rfx, mB HB.out⟩

end Go.Proofs.YtbckpgipehjgmaaGreat.B
namespace Go.Proofs.YtbckpgipehjgmaaGreat.B
open Go.RowKit Go.Proofs.YtbckpgipehjgmaaGreatW.PrintWords Go.Proofs.YtbckpgipehjgmaaGreatW.PrintLast Go.Proofs.YtbckpgipehjgmaaGreatW.PrintMore
attribute [local go_sem] max2_int min2_int max_two min_two max_three min_three max_four min_four   -- for this text's walks alone
set_option linter.unusedVariables false
set_option linter.unusedSimpArgs false

attribute [local go_sem high] eqA28
/-! ### impl_ifDoing_plain: function 93 -/
def impl_ifDoing_plain.f (a0_0 : Int) (a0_1 : Int) (a0_2 : Int) (a0_3 : Int) (l0_4 : List (S31)) (l0_5 : List (S33)) (l0_6 : List (S33)) (a1_0 : Int) (a1_1 : Int) (a1_2 : Int) (a1_3 : Int) (a1_4 : Int) (a1_5 : Int) (a1_6 : Int) (l1_7 : List (S31)) (l1_8 : List (S33)) (l1_9 : List (S33)) : Option (Bool) := some (a1_1 == 0 && (a1_2 == 0))
set_option maxHeartbeats 8000000 in
set_option maxRecDepth 100000 in
theorem impl_ifDoing_plain.calls (a0_0 : Int) (a0_1 : Int) (a0_2 : Int) (a0_3 : Int) (A0_4 : Option Addr) (c0_4 : Nat) (l0_4 : List (S31)) (A0_5 : Option Addr) (c0_5 : Nat) (l0_5 : List (S33)) (A0_6 : Option Addr) (c0_6 : Nat) (l0_6 : List (S33)) (a1_0 : Int) (a1_1 : Int) (a1_2 : Int) (a1_3 : Int) (a1_4 : Int) (a1_5 : Int) (a1_6 : Int) (A1_7 : Option Addr) (c1_7 : Nat) (l1_7 : List (S31)) (A1_8 : Option Addr) (c1_8 : Nat) (l1_8 : List (S33)) (A1_9 : Option Addr) (c1_9 : Nat) (l1_9 : List (S33)) (r : Bool) (w : World) (hr0_4 : Kd.C k31 w A0_4 l0_4.length l0_4) (hc0_4 : l0_4.length ≤ c0_4) (hr0_5 : Kd.C k33 w A0_5 l0_5.length l0_5) (hc0_5 : l0_5.length ≤ c0_5) (hr0_6 : Kd.C k33 w A0_6 l0_6.length l0_6) (hc0_6 : l0_6.length ≤ c0_6) (hr1_7 : Kd.C k31 w A1_7 l1_7.length l1_7) (hc1_7 : l1_7.length ≤ c1_7) (hr1_8 : Kd.C k33 w A1_8 l1_8.length l1_8) (hc1_8 : l1_8.length ≤ c1_8) (hr1_9 : Kd.C k33 w A1_9 l1_9.length l1_9) (hc1_9 : l1_9.length ≤ c1_9) (h : impl_ifDoing_plain.f a0_0 a0_1 a0_2 a0_3 l0_4 l0_5 l0_6 a1_0 a1_1 a1_2 a1_3 a1_4 a1_5 a1_6 l1_7 l1_8 l1_9 = some r) :
  Calls Tryz.prog 93 #[.agg #[.int .i64 a0_0, .int .i64 a0_1, .int .i64 a0_2, .int .i64 a0_3, .slice A0_4 l0_4.length c0_4, .slice A0_5 l0_5.length c0_5, .slice A0_6 l0_6.length c0_6], .agg #[.int .i64 a1_0, .int .i64 a1_1, .int .i64 a1_2, .int .i64 a1_3, .int .i64 a1_4, .int .i64 a1_5, .int .i64 a1_6, .slice A1_7 l1_7.length c1_7, .slice A1_8 l1_8.length c1_8, .slice A1_9 l1_9.length c1_9]] w fun e w' => e = .returned (.bool r) ∧ Below w.heap.size w w' := by
 have hu76 := Tryz.underlying76
 have hu33 := Tryz.underlying33
 have hu28 := Tryz.underlying28
 have HR0_4 := z0 hr0_4
 have HC0_4 := z0 hc0_4
 clear hr0_4 hc0_4
 have HR0_5 := z0 hr0_5
 have HC0_5 := z0 hc0_5
 clear hr0_5 hc0_5
 have HR0_6 := z0 hr0_6
 have HC0_6 := z0 hc0_6
 clear hr0_6 hc0_6
 have HR1_7 := z0 hr1_7
 have HC1_7 := z0 hc1_7
 clear hr1_7 hc1_7
 have HR1_8 := z0 hr1_8
 have HC1_8 := z0 hc1_8
 clear hr1_8 hc1_8
 have HR1_9 := z0 hr1_9
 have HC1_9 := z0 hc1_9
 clear hr1_9 hc1_9
 have HB := z0 (Below.refl w.heap.size w)
 have H : (some (a1_1 == 0 && (a1_2 == 0))) = some r := h
 clear h
 obtain rfl := Option.some.inj H
 go_enter Tryz.func93, Tryz.ntmps93
 go_wp2_with (first | ((with_reducible refine gate_dst (N := 2) rfl ?_); refine box_event ?hg (N := 2) ?hd (cs := #[.int .i64 a0_0, .int .i64 a0_1, .int .i64 a0_2, .int .i64 a0_3, .slice A0_4 l0_4.length c0_4, .slice A0_5 l0_5.length c0_5, .slice A0_6 l0_6.length c0_6]) (t := 76) ?hr ?_; (case hd => rfl); (case hg => rfl); (case hr => first | (go_simp; done) | (go_simp; rfl)); intro gb571 hg w3 hbox hb; have n_ := az (below_step (mB HB.out) hb) <| az (hbox) <| az ((by rw [hg]; exact (below_size (mB HB.out)) : w.heap.size ≤ gb571)) <| z0 ((by rw [hg]; exact (below_size (mB HB.out)) : w.heap.size ≤ gb571)); clear HB; obtain ⟨HB, BK571, GW571, GE571⟩ := n_; clear hb hbox hg) | ((with_reducible refine gate_dst (N := 3) rfl ?_); refine box_event ?hg (N := 3) ?hd (cs := #[.int .i64 a1_0, .int .i64 a1_1, .int .i64 a1_2, .int .i64 a1_3, .int .i64 a1_4, .int .i64 a1_5, .int .i64 a1_6, .slice A1_7 l1_7.length c1_7, .slice A1_8 l1_8.length c1_8, .slice A1_9 l1_9.length c1_9]) (t := 33) ?hr ?_; (case hd => rfl); (case hg => rfl); (case hr => first | (go_simp; done) | (go_simp; rfl)); intro gb572 hg w4 hbox hb; have n_ := az (bB BK571.out hb) <| az (below_step (mB HB.out) hb) <| az (hbox) <| az ((by rw [hg]; exact (below_size (mB HB.out)) : w.heap.size ≤ gb572)) <| az ((by rw [hg]; exact (below_size (mB HB.out)) : w.heap.size ≤ gb572)) <| az ((nL hg BK571.out)) <| z0 ((nG hg BK571.out)); clear BK571 HB; obtain ⟨BK571, HB, BK572, GW572, GE572, NB571_572, NB572_571⟩ := n_; clear hb hbox hg; have hnb5 := NB572_571.out; have hnc5 := NB571_572.out; obtain ⟨hcz6_0, hcz6_1, hcz6_2, hcz6_3, hcz6_4, hcz6_5, hcz6_6, hcz6_7, hcz6_8, hcz6_9, hfz6_0, hfz6_1, hfz6_2, hfz6_3, hfz6_4, hfz6_5, hfz6_6, hfz6_7, hfz6_8, hfz6_9⟩ := cel10 BK572.out))
 go_ret
 exact ⟨rfx, mB HB.out⟩

/-! ### impl_whileDoing_plain: function 97 -/
def impl_whileDoing_plain.f (a0_0 : Int) (a0_1 : Int) (a0_2 : Int) (a0_3 : Int) (l0_4 : List (S31)) (l0_5 : List (S33)) (a1_0 : Int) (a1_1 : Int) (a1_2 : Int) (a1_3 : Int) (a1_4 : Int) (a1_5 : Int) (a1_6 : Int) (l1_7 : List (S31)) (l1_8 : List (S33)) (l1_9 : List (S33)) : Option (Bool) := if (a1_1 == 0 && (a1_2 == 0)) = true then (some ((l1_9.length : Int) == 0)) else (some false)
set_option maxHeartbeats 8000000 in
set_option maxRecDepth 100000 in
theorem impl_whileDoing_plain.calls (a0_0 : Int) (a0_1 : Int) (a0_2 : Int) (a0_3 : Int) (A0_4 : Option Addr) (c0_4 : Nat) (l0_4 : List (S31)) (A0_5 : Option Addr) (c0_5 : Nat) (l0_5 : List (S33)) (a1_0 : Int) (a1_1 : Int) (a1_2 : Int) (a1_3 : Int) (a1_4 : Int) (a1_5 : Int) (a1_6 : Int) (A1_7 : Option Addr) (c1_7 : Nat) (l1_7 : List (S31)) (A1_8 : Option Addr) (c1_8 : Nat) (l1_8 : List (S33)) (A1_9 : Option Addr) (c1_9 : Nat) (l1_9 : List (S33)) (r : Bool) (w : World) (hr0_4 : Kd.C k31 w A0_4 l0_4.length l0_4) (hc0_4 : l0_4.length ≤ c0_4) (hr0_5 : Kd.C k33 w A0_5 l0_5.length l0_5) (hc0_5 : l0_5.length ≤ c0_5) (hr1_7 : Kd.C k31 w A1_7 l1_7.length l1_7) (hc1_7 : l1_7.length ≤ c1_7) (hr1_8 : Kd.C k33 w A1_8 l1_8.length l1_8) (hc1_8 : l1_8.length ≤ c1_8) (hr1_9 : Kd.C k33 w A1_9 l1_9.length l1_9) (hc1_9 : l1_9.length ≤ c1_9) (h : impl_whileDoing_plain.f a0_0 a0_1 a0_2 a0_3 l0_4 l0_5 a1_0 a1_1 a1_2 a1_3 a1_4 a1_5 a1_6 l1_7 l1_8 l1_9 = some r) :
  Calls Tryz.prog 97 #[.agg #[.int .i64 a0_0, .int .i64 a0_1, .int .i64 a0_2, .int .i64 a0_3, .slice A0_4 l0_4.length c0_4, .slice A0_5 l0_5.length c0_5], .agg #[.int .i64 a1_0, .int .i64 a1_1, .int .i64 a1_2, .int .i64 a1_3, .int .i64 a1_4, .int .i64 a1_5, .int .i64 a1_6, .slice A1_7 l1_7.length c1_7, .slice A1_8 l1_8.length c1_8, .slice A1_9 l1_9.length c1_9]] w fun e w' => e = .returned (.bool r) ∧ Below w.heap.size w w' := by
 have hu78 := Tryz.underlying78
 have hu33 := Tryz.underlying33
 have hu28 := Tryz.underlying28
 have HR0_4 := z0 hr0_4
 have HC0_4 := z0 hc0_4
 clear hr0_4 hc0_4
 have HR0_5 := z0 hr0_5
 have HC0_5 := z0 hc0_5
 clear hr0_5 hc0_5
 have HR1_7 := z0 hr1_7
 have HC1_7 := z0 hc1_7
 clear hr1_7 hc1_7
 have HR1_8 := z0 hr1_8
 have HC1_8 := z0 hc1_8
 clear hr1_8 hc1_8
 have HR1_9 := z0 hr1_9
 have HC1_9 := z0 hc1_9
 clear hr1_9 hc1_9
 have HB := z0 (Below.refl w.heap.size w)
 have H : (if (a1_1 == 0 && (a1_2 == 0)) = true then (some ((l1_9.length : Int) == 0)) else (some false)) = some r := h
 clear h
 have HF3 := z0 H
 clear H
 go_enter Tryz.func97, Tryz.ntmps97
 go_upto_region 1 with (first | ((with_reducible refine gate_dst (N := 2) rfl ?_); (try (refine gate_guard (by rfl) ?_; dsimp only)); refine box_event ?hg (N := 2) ?hd (cs := #[.int .i64 a0_0, .int .i64 a0_1, .int .i64 a0_2, .int .i64 a0_3, .slice A0_4 l0_4.length c0_4, .slice A0_5 l0_5.length c0_5]) (t := 78) ?hr ?_; (case hd => rfl); (case hg => rfl); (case hr => first | (go_simp; done) | (go_simp; rfl)); intro gb580 hg w4 hbox hb; have n_ := az (below_step (mB HB.out) hb) <| az (hbox) <| az ((by rw [hg]; exact (below_size (mB HB.out)) : w.heap.size ≤ gb580)) <| z0 ((by rw [hg]; exact (below_size (mB HB.out)) : w.heap.size ≤ gb580)); clear HB; obtain ⟨HB, BK580, GW580, GE580⟩ := n_; clear hb hbox hg) | ((with_reducible refine gate_dst (N := 3) rfl ?_); (try (refine gate_guard (by rfl) ?_; dsimp only)); refine box_event ?hg (N := 3) ?hd (cs := #[.int .i64 a1_0, .int .i64 a1_1, .int .i64 a1_2, .int .i64 a1_3, .int .i64 a1_4, .int .i64 a1_5, .int .i64 a1_6, .slice A1_7 l1_7.length c1_7, .slice A1_8 l1_8.length c1_8, .slice A1_9 l1_9.length c1_9]) (t := 33) ?hr ?_; (case hd => rfl); (case hg => rfl); (case hr => first | (go_simp; done) | (go_simp; rfl)); intro gb581 hg w5 hbox hb; have n_ := az (bB BK580.out hb) <| az (below_step (mB HB.out) hb) <| az (hbox) <| az ((by rw [hg]; exact (below_size (mB HB.out)) : w.heap.size ≤ gb581)) <| az ((by rw [hg]; exact (below_size (mB HB.out)) : w.heap.size ≤ gb581)) <| az ((nL hg BK580.out)) <| z0 ((nG hg BK580.out)); clear BK580 HB; obtain ⟨BK580, HB, BK581, GW581, GE581, NB580_581, NB581_580⟩ := n_; clear hb hbox hg))
 (try simp only [Act.put, List.setIfInBounds_toArray, List.set_cons_zero, List.set_cons_succ])
 have H := HF3.out
 clear HF3
 try clear c1
 by_cases c6 : (a1_1 == 0 && (a1_2 == 0)) = true
 ·rw [if_pos c6] at H
  have c6b0 : (a1_1 == 0 && (a1_2 == 0)) = true := c6
  (try (have c6b1 : decide (a1_1 = 0 && (a1_2 == 0)) = true := by simpa using c6))
  (try (have c6b2 : (a1_1 == 0 && (a1_2 == 0)) = true := by simpa using c6))
  clear c6
  obtain rfl := Option.some.inj H
  have hnb7 := NB581_580.out
  have hnc7 := NB580_581.out
  obtain ⟨hcz8_0, hcz8_1, hcz8_2, hcz8_3, hcz8_4, hcz8_5, hcz8_6, hcz8_7, hcz8_8, hcz8_9, hfz8_0, hfz8_1, hfz8_2, hfz8_3, hfz8_4, hfz8_5, hfz8_6, hfz8_7, hfz8_8, hfz8_9⟩ := cel10 BK581.out
  go_wp2
  go_ret
  exact ⟨rfx, mB HB.out⟩
 ·rw [if_neg c6] at H
  have c6b0 : (a1_1 == 0 && (a1_2 == 0)) = false := by simpa using c6
  (try (have c6b1 : decide (a1_1 = 0 && (a1_2 == 0)) = false := by simpa using c6))
  (try (have c6b2 : (a1_1 == 0 && (a1_2 == 0)) = false := by simpa using c6))
  (try (have c6b3 : ¬ (a1_1 = 0 && (a1_2 == 0)) := by simpa using c6))
  clear c6
  obtain rfl := Option.some.inj H
  have hnb9 := NB581_580.out
  have hnc9 := NB580_581.out
  obtain ⟨hcz10_0, hcz10_1, hcz10_2, hcz10_3, hcz10_4, hcz10_5, hcz10_6, hcz10_7, hcz10_8, hcz10_9, hfz10_0, hfz10_1, hfz10_2, hfz10_3, hfz10_4, hfz10_5, hfz10_6, hfz10_7, hfz10_8, hfz10_9⟩ := cel10 BK581.out
  go_wp2
  go_ret
  exact ⟨rfx, mB HB.out⟩

end Go.Proofs.YtbckpgipehjgmaaGreat.B
namespace Go.Proofs.YtbckpgipehjgmaaGreat.B
open Go.RowKit Go.Proofs.YtbckpgipehjgmaaGreatW.PrintWords Go.Proofs.YtbckpgipehjgmaaGreatW.PrintLast Go.Proofs.YtbckpgipehjgmaaGreatW.PrintMore
attribute [local go_sem] max2_int min2_int max_two min_two max_three min_three max_four min_four   -- for this text's walks alone
set_option linter.unusedVariables false
set_option linter.unusedSimpArgs false

/-! ### spec_StmtsMany: function 8 -/
def spec_StmtsMany.f (k : Nat) (l0 : List (S33)) : Option (Int) := (spec_StmtsOk.f k l0).bind fun t472 => (if t472 = true then ((spec_l4Many.f k l0 4).bind fun t473 => (some t473)) else (some 0))
set_option maxHeartbeats 8000000 in
set_option maxRecDepth 100000 in
theorem spec_StmtsMany.calls (k : Nat) (A0 : Option Addr) (c0 : Nat) (l0 : List (S33)) (r : Int) (w : World) (hr0 : Kd.C k33 w A0 l0.length l0) (hc0 : l0.length ≤ c0) (h : spec_StmtsMany.f k l0 = some r) :
  Calls Tryz.prog 8 #[.slice A0 l0.length c0] w fun e w' => e = .returned (.int .i64 r) ∧ Below w.heap.size w w' := by
 have HR0 := z0 hr0
 have HC0 := z0 hc0
 clear hr0 hc0
 have HB := z0 (Below.refl w.heap.size w)
 have H : ((spec_StmtsOk.f k l0).bind fun t472 => (if t472 = true then ((spec_l4Many.f k l0 4).bind fun t473 => (some t473)) else (some 0))) = some r := h
 clear h
 replace H := Option.bind_eq_some_iff.mp H
 obtain ⟨t472, A20, H⟩ := H
 try dsimp only at H
 have A2 := z0 A20
 clear A20
 have HF3 := z0 H
 clear H
 go_enter Tryz.func8, Tryz.ntmps8
 go_upto_if 5 with (first | ((with_reducible refine gate_callee (f := 7) rfl ?_); refine goesL_ (some 4) rfl rfl Tryz.func7 (by kernel_rfl) rfl #[.slice A0 l0.length c0] rfl argx ?_; (with_reducible refine (spec_StmtsOk.calls k _ _ l0 t472 _ ?side1 ?side2 A2.out).mono ?_); (case side1 => exact mC HR0.out); (case side2 => exact HC0.out); rintro e w4 ⟨rfl, hb⟩; refine ⟨_, rfl, ?_⟩; have n0_ := z0 (below_step (mB HB.out) hb); clear HB; have HB := n0_; clear n0_; (try clear hb); (try clear hb2); (try clear hk); (try clear hi)))
 (try simp only [Act.put, List.setIfInBounds_toArray, List.set_cons_zero, List.set_cons_succ])
 have H := HF3.out
 clear HF3
 by_cases c5 : t472 = true
 ·subst c5
  have H1 : ((spec_l4Many.f k l0 4).bind fun t473 => (some t473)) = some r := by rw [if_pos rfl] at H; exact H
  clear H
  have H := H1
  clear H1
  replace H := Option.bind_eq_some_iff.mp H
  obtain ⟨t473, A60, H⟩ := H
  try dsimp only at H
  have A6 := z0 A60
  clear A60
  obtain rfl := Option.some.inj H
  go_wp2_with (first | ((with_reducible refine gate_callee (f := 13) rfl ?_); refine goesL_ (some 7) rfl rfl Tryz.func13 (by kernel_rfl) rfl #[.slice A0 l0.length c0, .int .i64 4] rfl argx ?_; (with_reducible refine (spec_l4Many.calls k _ _ l0 4 t473 _ ?side1 ?side2 A6.out).mono ?_); (case side1 => exact mC (Kd.C_below HR0.out HB.out)); (case side2 => exact HC0.out); rintro e w7 ⟨rfl, hb⟩; refine ⟨_, rfl, ?_⟩; have n0_ := z0 (below_step (mB HB.out) hb); clear HB; have HB := n0_; clear n0_; (try clear hb); (try clear hb2); (try clear hk); (try clear hi)))
  go_ret
  exact ⟨rfx, mB HB.out⟩
 ·replace c5 := Bool.eq_false_iff.mpr c5
  subst c5
  have H1 : (some 0) = some r := by rw [if_neg (show ¬ (false = true) by decide)] at H; exact H
  clear H
  have H := H1
  clear H1
  obtain rfl := Option.some.inj H
  go_wp2
  go_ret
  exact ⟨rfx, mB HB.out⟩

end Go.Proofs.YtbckpgipehjgmaaGreat.B
