/- Printed functions of this seat, in one text. -/
import Derived.Test.YtddnijmgipffeaaB0
import Derived.Test.YtddnijmgipffeaaSq
import Derived.Test.YtddnijmgipffeaaPkA
import Derived.Test.YtddnijmgipffeaaPkB
import Derived.Test.YtddnijmgipffeaaPkD
import Derived.Test.YtddnijmgipffeaaPkC
namespace Go.Proofs.Ytddnijmgipffeaa.B
open Go.RowKit Go.Proofs.YtddnijmgipffeaaW.PrintWords Go.Proofs.YtddnijmgipffeaaW.PrintLast Go.Proofs.YtddnijmgipffeaaW.PrintMore
attribute [local go_sem] max2_int min2_int max_two min_two max_three min_three max_four min_four   -- for this text's walks alone
set_option linter.unusedVariables false
set_option linter.unusedSimpArgs false

/-! ### spec_l4Some: function 72 -/
def spec_l4Some.f (k : Nat) (s0_0 : List Int) (s0_1 : Int) : Option ((List (S69)) × Int) := (spec_l4List.f k s0_0 s0_1 3).bind fun bt600 => ((spec_StmtsOk.f k bt600.1).bind fun t604 => (if t604 = true then (some (bt600.1, bt600.2)) else ((spec_l4Count.f k s0_0 bt600.2).bind fun bt605 => (some ((([(⟨bt605.1, (⟨bt605.2.1, bt605.2.2.1⟩ : S37), (⟨bt605.2.2.2.1, bt605.2.2.2.2.1, (⟨bt605.2.2.2.2.2.1, bt605.2.2.2.2.2.2.1⟩ : S37), bt605.2.2.2.2.2.2.2.1⟩ : S46), bt605.2.2.2.2.2.2.2.2.1, bt605.2.2.2.2.2.2.2.2.2.1⟩ : S69)] : List (S69))), bt605.2.2.2.2.2.2.2.2.2.2)))))
set_option maxHeartbeats 8000000 in
set_option maxRecDepth 100000 in
theorem spec_l4Some.calls (k : Nat) (g : Nat) (s0_0 : List Int) (s0_1 : Int) (r1 : List (S69)) (r2 : Int) (w0 w : World) (hI : IsS116 w0 w g s0_0 s0_1) (hB : Below w0.heap.size w0 w) (h : spec_l4Some.f k s0_0 s0_1 = some (r1, r2)) :
  Calls Try.prog 72 #[.pointer (some ⟨g, 0, none⟩)] w fun e w' => ∃ v0_ : Value, e = .returned (v0_) ∧ Kd.N k69 69 w' w.heap.size (fun k_ => (w.heap.size ≤ k_)) v0_ r1 ∧ IsS116 w0 w' g s0_0 r2 ∧ Below w0.heap.size w0 w' ∧ KeepBut w w' g none := by
 have HI0 := z0 hI
 have HK := z0 (KeepBut.refl w g none)
 have HL := z0 hB.size
 clear hI
 have HW0 := z0 hB.size
 have HB := z0 hB
 clear hB
 have H : ((spec_l4List.f k s0_0 s0_1 3).bind fun bt600 => ((spec_StmtsOk.f k bt600.1).bind fun t604 => (if t604 = true then (some (bt600.1, bt600.2)) else ((spec_l4Count.f k s0_0 bt600.2).bind fun bt605 => (some ((([(⟨bt605.1, (⟨bt605.2.1, bt605.2.2.1⟩ : S37), (⟨bt605.2.2.2.1, bt605.2.2.2.2.1, (⟨bt605.2.2.2.2.2.1, bt605.2.2.2.2.2.2.1⟩ : S37), bt605.2.2.2.2.2.2.2.1⟩ : S46), bt605.2.2.2.2.2.2.2.2.1, bt605.2.2.2.2.2.2.2.2.2.1⟩ : S69)] : List (S69))), bt605.2.2.2.2.2.2.2.2.2.2)))))) = some (r1, r2) := h
 clear h
 replace H := Option.bind_eq_some_iff.mp H
 obtain ⟨⟨t600, t603⟩, A20, H⟩ := H
 try dsimp only at H
 have A2 := z0 A20
 clear A20
 replace H := Option.bind_eq_some_iff.mp H
 obtain ⟨t604, A30, H⟩ := H
 try dsimp only at H
 have A3 := z0 A30
 clear A30
 have HF4 := z0 H
 clear H
 go_enter Try.func72, Try.ntmps72
 go_upto_if 8 with (first | ((with_reducible refine gate_callee (f := 102) rfl ?_); refine goesL_ (some 5) rfl rfl Try.func102 (by kernel_rfl) rfl #[.pointer (some ⟨g, 0, none⟩), .int .i64 3] rfl argx ?_; (with_reducible refine (spec_l4List.calls k g s0_0 s0_1 3 t600 t603 w0 _ ?side1 ?side2 A2.out).mono ?_); (case side1 => exact mI116_1 HI0.out); (case side2 => exact mB116HI0 HB.out); rintro e w5 ⟨v601, rfl, ho0, hi, hb, hk⟩; refine ⟨_, rfl, ?_⟩; have n_ := az (Kd.N_lower (Kd.N_mono (ok' := fun k_ => (w.heap.size ≤ k_) ∧ k_ ≠ g) ho0 (fun k_ hk_ => ⟨(Nat.le_trans (kS HK.out) hk_), (IsS116.fresh (mI116_1 HI0.out) k_ hk_)⟩)) (kS HK.out)) <| az (KeepBut.trans (mKp HK.out) hk (.inl rfl)) <| az (hb) <| z0 (hi); clear HK HB HI0; obtain ⟨HO602, HK, HB, HI0⟩ := n_; clear hb hk hi ho0; obtain ⟨Ao6, co6, eo6⟩ := Kd.N_slice HO602.out; subst eo6) | ((with_reducible refine gate_callee (f := 19) rfl ?_); refine goesL_ (some 7) rfl rfl Try.func19 (by kernel_rfl) rfl #[.slice Ao6 t600.length co6] rfl argx ?_; (with_reducible refine (spec_StmtsOk.calls k _ _ t600 t604 _ ?side1 ?side2 A3.out).mono ?_); (case side1 => exact mC (Kd.N_reads' HO602.out).2.2); (case side2 => exact (Kd.N_reads' HO602.out).2.1); rintro e w7 ⟨rfl, hb⟩; refine ⟨_, rfl, ?_⟩; have n_ := az (Kd.N_below (mN HO602.out) hb) <| az (IsS116.below (mI116_1 HI0.out) hb) <| az (KeepBut.trans (mKp HK.out) (KeepBut.of_below hb g none) (.inl rfl)) <| z0 (below_step (mB116HI0 HB.out) hb); clear HO602 HI0 HK HB; obtain ⟨HO602, HI0, HK, HB⟩ := n_; clear hb))
 (try simp only [Act.put, List.setIfInBounds_toArray, List.set_cons_zero, List.set_cons_succ])
 have H := HF4.out
 clear HF4
 skip
 by_cases c8 : t604 = true
 ·subst c8
  have H1 : (some (t600, t603)) = some (r1, r2) := by rw [if_pos rfl] at H; exact H
  clear H
  have H := H1
  clear H1
  simp only [Option.some.injEq, Prod.mk.injEq] at H
  obtain ⟨rfl, rfl⟩ := H
  go_wp2
  go_ret
  exact ⟨_, rfx, by (with_reducible repeat (first | apply Kd.N_alloc | apply Kd.N_drewN | apply Kd.N_drew)); exact Kd.N_mono HO602.out (fun _ hk => hk.1), mI116_1 HI0.out, mB116HI0 HB.out, mKp HK.out⟩
 ·replace c8 := Bool.eq_false_iff.mpr c8
  subst c8
  have H1 : ((spec_l4Count.f k s0_0 t603).bind fun bt605 => (some ((([(⟨bt605.1, (⟨bt605.2.1, bt605.2.2.1⟩ : S37), (⟨bt605.2.2.2.1, bt605.2.2.2.2.1, (⟨bt605.2.2.2.2.2.1, bt605.2.2.2.2.2.2.1⟩ : S37), bt605.2.2.2.2.2.2.2.1⟩ : S46), bt605.2.2.2.2.2.2.2.2.1, bt605.2.2.2.2.2.2.2.2.2.1⟩ : S69)] : List (S69))), bt605.2.2.2.2.2.2.2.2.2.2))) = some (r1, r2) := by rw [if_neg (show ¬ (false = true) by decide)] at H; exact H
  clear H
  have H := H1
  clear H1
  replace H := Option.bind_eq_some_iff.mp H
  obtain ⟨⟨t605, t606, t607, t608, t609, t610, t611, t612, t615, t618, t621⟩, A90, H⟩ := H
  try dsimp only at H
  have A9 := z0 A90
  clear A90
  obtain ⟨y622, hy622⟩ : ∃ y_ : List (S69), y_ = (([(⟨t605, (⟨t606, t607⟩ : S37), (⟨t608, t609, (⟨t610, t611⟩ : S37), t612⟩ : S46), t615, t618⟩ : S69)] : List (S69))) := ⟨_, rfl⟩
  replace H : (some (y622, t621)) = some (r1, r2) := by first | (rw [hy622]; with_reducible exact H) | (have H2_ := (Option.bind_some _ _).symm.trans H; rw [hy622]; with_reducible exact H2_) | (have H2_ := (Option.bind_some _ _).symm.trans H; with_reducible exact H2_) | with_reducible exact H | (rw [hy622]; exact H) | exact H
  have Ny622 := z0 hy622
  clear hy622
  simp only [Option.some.injEq, Prod.mk.injEq] at H
  obtain ⟨rfl, rfl⟩ := H
  go_wp2_with (first | ((with_reducible refine gate_callee (f := 103) rfl ?_); refine goesL_ (some 10) rfl rfl Try.func103 (by kernel_rfl) rfl #[.pointer (some ⟨g, 0, none⟩)] rfl argx ?_; (with_reducible refine (spec_l4Count.calls k g s0_0 t603 t605 t606 t607 t608 t609 t610 t611 t612 t615 t618 t621 w0 _ ?side1 ?side2 A9.out).mono ?_); (case side1 => exact mI116_1 HI0.out); (case side2 => exact mB116HI0 HB.out); rintro e w10 ⟨v613, v616, v619, rfl, ho0, ho1, ho2, hi, hb, hk⟩; refine ⟨_, rfl, ?_⟩; have n_ := az (Kd.N_mono (Kd.N_told (Kd.N_told (Kd.N_told (Kd.N_oldK (Kd.N_mono (ok := fun k_ => (((w.heap.size ≤ k_)) ∧ k_ ≠ g)) (mN HO602.out) (fun k_ hk_ => (⟨hk_, hk_.2⟩ : _ ∧ k_ ≠ g))) hk) (by first | exact Kd.N_base ho0 | exact Kd.R_base ho0)) (by first | exact Kd.N_base ho1 | exact Kd.R_base ho1)) (by first | exact Kd.N_base ho2 | exact Kd.R_base ho2)) (fun _ h_ => h_.1)) <| az (Kd.N_lower (Kd.N_mono (ok' := fun k_ => (w.heap.size ≤ k_) ∧ nB k_ v616 ∧ nB k_ v619 ∧ nB k_ (.slice Ao6 t600.length co6) ∧ k_ ≠ g) ho0 (fun k_ hk_ => ⟨(Nat.le_trans (kS HK.out) hk_.1), hk_.2.1, hk_.2.2, (Kd.fresh' (Kd.N_lt (mN HO602.out)) k_ hk_.1), (IsS116.fresh (mI116_1 HI0.out) k_ hk_.1)⟩)) (kS HK.out)) <| az (Kd.N_lower (Kd.N_mono (ok' := fun k_ => (w.heap.size ≤ k_) ∧ nB k_ v613 ∧ nB k_ v619 ∧ nB k_ (.slice Ao6 t600.length co6) ∧ k_ ≠ g) ho1 (fun k_ hk_ => ⟨(Nat.le_trans (kS HK.out) hk_.1), hk_.2.1, hk_.2.2, (Kd.fresh' (Kd.N_lt (mN HO602.out)) k_ hk_.1), (IsS116.fresh (mI116_1 HI0.out) k_ hk_.1)⟩)) (kS HK.out)) <| az (Kd.N_lower (Kd.N_mono (ok' := fun k_ => (w.heap.size ≤ k_) ∧ nB k_ v613 ∧ nB k_ v616 ∧ nB k_ (.slice Ao6 t600.length co6) ∧ k_ ≠ g) ho2 (fun k_ hk_ => ⟨(Nat.le_trans (kS HK.out) hk_.1), hk_.2.1, hk_.2.2, (Kd.fresh' (Kd.N_lt (mN HO602.out)) k_ hk_.1), (IsS116.fresh (mI116_1 HI0.out) k_ hk_.1)⟩)) (kS HK.out)) <| az (KeepBut.trans (mKp HK.out) hk (.inl rfl)) <| az (hb) <| z0 (hi); clear HO602 HK HB HI0; obtain ⟨HO602, HO614, HO617, HO620, HK, HB, HI0⟩ := n_; clear hb hk hi ho0; (try clear ho1); (try clear ho2); obtain ⟨Ao11, co11, eo11⟩ := Kd.N_slice HO614.out; subst eo11; obtain ⟨Ao12, co12, eo12⟩ := Kd.N_slice HO617.out; subst eo12; obtain ⟨Ao13, co13, eo13⟩ := Kd.N_slice HO620.out; subst eo13) | ((with_reducible refine gate_dst (N := 11) rfl ?_); refine Kd.N_lit k69 _ 69 ?hg (N' := 11) ?hd (xs := ([(⟨t605, (⟨t606, t607⟩ : S37), (⟨t608, t609, (⟨t610, t611⟩ : S37), t612⟩ : S46), t615, t618⟩ : S69)] : List (S69))) (inner := [.int .i64 t605, .int .i64 t606, .int .i64 t607, .int .i64 t608, .int .i64 t609, .int .i64 t610, .int .i64 t611, .slice Ao11 t612.length co11, .slice Ao12 t615.length co12, .slice Ao13 t618.length co13]) (ok := (fun k_ => (w.heap.size ≤ k_) ∧ nB k_ (.slice Ao6 t600.length co6) ∧ k_ ≠ g)) (okp := (fun k_ => (w.heap.size ≤ k_) ∧ nB k_ (.slice Ao6 t600.length co6) ∧ k_ ≠ g)) ?hr ?hp (fun _ hk => hk) ((show ∀ k_, w10.heap.size ≤ k_ → (fun k_ => (w.heap.size ≤ k_) ∧ nB k_ (.slice Ao6 t600.length co6) ∧ k_ ≠ g) k_ from fun k_ hk => ⟨(Nat.le_trans (kS HK.out) hk), Kd.fresh' (Kd.N_lt (mN HO602.out)) k_ hk, IsS116.fresh (mI116_1 HI0.out) k_ hk⟩) _ (Nat.le_refl _)) (Below.refl _ _) (Nat.le_refl _) (by simp) ?_; (case hd => rfl); (case hg => rfl); (case hr => first | (go_simp; done) | (go_simp; rfl)); (case hp => exact (Reps.c10 (show Kd.FK k69 _ _ (⟨t605, (⟨t606, t607⟩ : S37), (⟨t608, t609, (⟨t610, t611⟩ : S37), t612⟩ : S46), t615, t618⟩ : S69) [.int .i64 t605, .int .i64 t606, .int .i64 t607, .int .i64 t608, .int .i64 t609, .int .i64 t610, .int .i64 t611, .slice Ao11 t612.length co11, .slice Ao12 t615.length co12, .slice Ao13 t618.length co13] from (k69_mkF _ _ (⟨t605, (⟨t606, t607⟩ : S37), (⟨t608, t609, (⟨t610, t611⟩ : S37), t612⟩ : S46), t615, t618⟩ : S69) (Kd.N_reads' (Kd.N_mono (ok' := (fun k_ => (w.heap.size ≤ k_) ∧ nB k_ (.slice Ao6 t600.length co6) ∧ k_ ≠ g)) (HO614.out) (fun k_ hk => ⟨hk.1, ⟨hk.2.2.2.1, hk.2.2.2.2⟩⟩))).2.1 (Kd.N_F (Kd.N_mono (ok' := (fun k_ => (w.heap.size ≤ k_) ∧ nB k_ (.slice Ao6 t600.length co6) ∧ k_ ≠ g)) (HO614.out) (fun k_ hk => ⟨hk.1, ⟨hk.2.2.2.1, hk.2.2.2.2⟩⟩))) (Kd.N_reads' (Kd.N_mono (ok' := (fun k_ => (w.heap.size ≤ k_) ∧ nB k_ (.slice Ao6 t600.length co6) ∧ k_ ≠ g)) (HO617.out) (fun k_ hk => ⟨hk.1, ⟨hk.2.2.2.1, hk.2.2.2.2⟩⟩))).2.1 (Kd.N_F (Kd.N_mono (ok' := (fun k_ => (w.heap.size ≤ k_) ∧ nB k_ (.slice Ao6 t600.length co6) ∧ k_ ≠ g)) (HO617.out) (fun k_ hk => ⟨hk.1, ⟨hk.2.2.2.1, hk.2.2.2.2⟩⟩))) (Kd.N_reads' (Kd.N_mono (ok' := (fun k_ => (w.heap.size ≤ k_) ∧ nB k_ (.slice Ao6 t600.length co6) ∧ k_ ≠ g)) (HO620.out) (fun k_ hk => ⟨hk.1, ⟨hk.2.2.2.1, hk.2.2.2.2⟩⟩))).2.1 (Kd.N_F (Kd.N_mono (ok' := (fun k_ => (w.heap.size ≤ k_) ∧ nB k_ (.slice Ao6 t600.length co6) ∧ k_ ≠ g)) (HO620.out) (fun k_ hk => ⟨hk.1, ⟨hk.2.2.2.1, hk.2.2.2.2⟩⟩))))) (Reps.none _ _))); intro v623 w14 ho15 hb hg_ hnew_; clear hg_ hnew_; (first | rw [← Ny622.out] at ho15 | (simp only [Int.reduceToNat] at ho15; rw [← Ny622.out] at ho15)); have n_ := az (Kd.N_elder' (mN HO602.out) (by first | exact Kd.N_base ho15 | exact Kd.R_base ho15) hb) <| az (Kd.N_lower ho15 (kS HK.out)) <| az (IsS116.below (mI116_1 HI0.out) hb) <| az (KeepBut.trans (mKp HK.out) (KeepBut.of_below hb g none) (.inl rfl)) <| z0 (below_step (mB116HI0 HB.out) hb); clear HO602 HI0 HK HB HO614 HO617 HO620; obtain ⟨HO602, HO624, HI0, HK, HB⟩ := n_; clear hb ho15))
  go_ret
  exact ⟨_, rfx, by (with_reducible repeat (first | apply Kd.N_alloc | apply Kd.N_drewN | apply Kd.N_drew)); exact Kd.N_mono HO624.out (fun _ hk => hk.1), mI116_1 HI0.out, mB116HI0 HB.out, mKp HK.out⟩

/-! ### spec_l4Bent: function 41 -/
mutual
def spec_l4Bent.l0 : Nat → List (S69) → Int → List Int → Int → Option ((List (S69)) × Int)
 | 0, _, _, _, _ => none
 | k + 1, x3, x5, x1000, x1001 => if x5 < 4 then ((spec_l3Expr.f k x1000 x1001 1).bind fun bt652 => (spec_l4Bent.l0 k (([(⟨2, (⟨0, 0⟩ : S37), (⟨bt652.1, bt652.2.1, (⟨bt652.2.2.1, bt652.2.2.2.1⟩ : S37), bt652.2.2.2.2.1⟩ : S46), x3, ([] : List (S69))⟩ : S69)] : List (S69))) (wrap64 (x5 + 1)) x1000 bt652.2.2.2.2.2)) else (some (x3, x1001))
def spec_l4Bent.l1 : Nat → List (S69) → List Int → Int → Option ((List (S69)) × Int)
 | 0, _, _, _ => none
 | k + 1, x3, x1000, x1001 => if (x3.length : Int) ≤ 16 then ((spec_l2To.f k x1000 x1001).bind fun bt663 => ((spec_l3Expr.f k x1000 bt663.2.2 1).bind fun bt666 => (if x3.length < 1099511627776 then (spec_l4Bent.l1 k (x3 ++ [(⟨1, (⟨bt663.1, bt663.2.1⟩ : S37), (⟨bt666.1, bt666.2.1, (⟨bt666.2.2.1, bt666.2.2.2.1⟩ : S37), bt666.2.2.2.2.1⟩ : S46), ([] : List (S69)), ([] : List (S69))⟩ : S69)]) x1000 bt666.2.2.2.2.2) else (none)))) else (some (x3, x1001))
end
def spec_l4Bent.f (k : Nat) (s0_0 : List Int) (s0_1 : Int) : Option ((List (S69)) × Int) := (spec_l4Some.f k s0_0 s0_1).bind fun bt625 => (if (bt625.1.length : Int) = 0 then (some (bt625.1, bt625.2)) else ((spec_l12Rd_pick.f k s0_0 bt625.2 (bt625.1.length : Int)).bind fun bt629 => ((spec_l12Rd_pick.f k s0_0 bt629.2 50).bind fun bt631 => (if bt631.1 = 0 then ((spec_l12Rd_num.f k s0_0 bt631.2 (([0, 4, 1, 2, 3] : List Int))).bind fun bt636 => (if 0 ≤ bt629.1 then (if bt629.1 < (bt625.1.length : Int) then (some ((bt625.1.set (bt629.1 : Int).toNat (⟨bt636.1, (⟨(rd_T69 bt625.1 bt629.1).f1.f0, (rd_T69 bt625.1 bt629.1).f1.f1⟩ : S37), (⟨(rd_T69 bt625.1 bt629.1).f2.f0, (rd_T69 bt625.1 bt629.1).f2.f1, (⟨(rd_T69 bt625.1 bt629.1).f2.f2.f0, (rd_T69 bt625.1 bt629.1).f2.f2.f1⟩ : S37), (rd_T69 bt625.1 bt629.1).f2.f3⟩ : S46), (rd_T69 bt625.1 bt629.1).f3, (rd_T69 bt625.1 bt629.1).f4⟩ : S69)), bt636.2)) else (none)) else (none))) else (if bt631.1 = 1 then ((spec_l2AddrBent.f k s0_0 bt631.2).bind fun bt639 => (if 0 ≤ bt629.1 then (if bt629.1 < (bt625.1.length : Int) then (some ((bt625.1.set (bt629.1 : Int).toNat (⟨(rd_T69 bt625.1 bt629.1).f0, (⟨bt639.1, bt639.2.1⟩ : S37), (⟨(rd_T69 bt625.1 bt629.1).f2.f0, (rd_T69 bt625.1 bt629.1).f2.f1, (⟨(rd_T69 bt625.1 bt629.1).f2.f2.f0, (rd_T69 bt625.1 bt629.1).f2.f2.f1⟩ : S37), (rd_T69 bt625.1 bt629.1).f2.f3⟩ : S46), (rd_T69 bt625.1 bt629.1).f3, (rd_T69 bt625.1 bt629.1).f4⟩ : S69)), bt639.2.2)) else (none)) else (none))) else (if bt631.1 = 2 then ((spec_l3Bent.f k s0_0 bt631.2).bind fun bt643 => (if 0 ≤ bt629.1 then (if bt629.1 < (bt625.1.length : Int) then (some ((bt625.1.set (bt629.1 : Int).toNat (⟨(rd_T69 bt625.1 bt629.1).f0, (⟨(rd_T69 bt625.1 bt629.1).f1.f0, (rd_T69 bt625.1 bt629.1).f1.f1⟩ : S37), (⟨bt643.1, bt643.2.1, (⟨bt643.2.2.1, bt643.2.2.2.1⟩ : S37), bt643.2.2.2.2.1⟩ : S46), (rd_T69 bt625.1 bt629.1).f3, (rd_T69 bt625.1 bt629.1).f4⟩ : S69)), bt643.2.2.2.2.2)) else (none)) else (none))) else (if bt631.1 = 3 then (spec_l4Bent.l0 k bt625.1 0 s0_0 bt631.2) else (if bt631.1 = 4 then (spec_l4Bent.l1 k bt625.1 s0_0 bt631.2) else (some (bt625.1, bt631.2))))))))))
theorem q41_1 {p : Prop} (h : p := by first | (with_reducible assumption) | assumption) : p := h
set_option maxHeartbeats 8000000 in
set_option maxRecDepth 100000 in
theorem spec_l4Bent.calls (k : Nat) (g : Nat) (s0_0 : List Int) (s0_1 : Int) (r1 : List (S69)) (r2 : Int) (w0 w : World) (hI : IsS116 w0 w g s0_0 s0_1) (hB : Below w0.heap.size w0 w) (h : spec_l4Bent.f k s0_0 s0_1 = some (r1, r2)) :
  Calls Try.prog 41 #[.pointer (some ⟨g, 0, none⟩)] w fun e w' => ∃ v0_ : Value, e = .returned (v0_) ∧ Kd.N k69 69 w' w.heap.size (fun k_ => (w.heap.size ≤ k_)) v0_ r1 ∧ IsS116 w0 w' g s0_0 r2 ∧ Below w0.heap.size w0 w' ∧ KeepBut w w' g none := by
 have hu37 := Try.underlying37
 have hu46 := Try.underlying46
 have hu69 := Try.underlying69
 have HI0 := z0 hI
 have HK := z0 (KeepBut.refl w g none)
 have HL := z0 hB.size
 clear hI
 have HW0 := z0 hB.size
 have HB := z0 hB
 clear hB
 have H : ((spec_l4Some.f k s0_0 s0_1).bind fun bt625 => (if (bt625.1.length : Int) = 0 then (some (bt625.1, bt625.2)) else ((spec_l12Rd_pick.f k s0_0 bt625.2 (bt625.1.length : Int)).bind fun bt629 => ((spec_l12Rd_pick.f k s0_0 bt629.2 50).bind fun bt631 => (if bt631.1 = 0 then ((spec_l12Rd_num.f k s0_0 bt631.2 (([0, 4, 1, 2, 3] : List Int))).bind fun bt636 => (if 0 ≤ bt629.1 then (if bt629.1 < (bt625.1.length : Int) then (some ((bt625.1.set (bt629.1 : Int).toNat (⟨bt636.1, (⟨(rd_T69 bt625.1 bt629.1).f1.f0, (rd_T69 bt625.1 bt629.1).f1.f1⟩ : S37), (⟨(rd_T69 bt625.1 bt629.1).f2.f0, (rd_T69 bt625.1 bt629.1).f2.f1, (⟨(rd_T69 bt625.1 bt629.1).f2.f2.f0, (rd_T69 bt625.1 bt629.1).f2.f2.f1⟩ : S37), (rd_T69 bt625.1 bt629.1).f2.f3⟩ : S46), (rd_T69 bt625.1 bt629.1).f3, (rd_T69 bt625.1 bt629.1).f4⟩ : S69)), bt636.2)) else (none)) else (none))) else (if bt631.1 = 1 then ((spec_l2AddrBent.f k s0_0 bt631.2).bind fun bt639 => (if 0 ≤ bt629.1 then (if bt629.1 < (bt625.1.length : Int) then (some ((bt625.1.set (bt629.1 : Int).toNat (⟨(rd_T69 bt625.1 bt629.1).f0, (⟨bt639.1, bt639.2.1⟩ : S37), (⟨(rd_T69 bt625.1 bt629.1).f2.f0, (rd_T69 bt625.1 bt629.1).f2.f1, (⟨(rd_T69 bt625.1 bt629.1).f2.f2.f0, (rd_T69 bt625.1 bt629.1).f2.f2.f1⟩ : S37), (rd_T69 bt625.1 bt629.1).f2.f3⟩ : S46), (rd_T69 bt625.1 bt629.1).f3, (rd_T69 bt625.1 bt629.1).f4⟩ : S69)), bt639.2.2)) else (none)) else (none))) else (if bt631.1 = 2 then ((spec_l3Bent.f k s0_0 bt631.2).bind fun bt643 => (if 0 ≤ bt629.1 then (if bt629.1 < (bt625.1.length : Int) then (some ((bt625.1.set (bt629.1 : Int).toNat (⟨(rd_T69 bt625.1 bt629.1).f0, (⟨(rd_T69 bt625.1 bt629.1).f1.f0, (rd_T69 bt625.1 bt629.1).f1.f1⟩ : S37), (⟨bt643.1, bt643.2.1, (⟨bt643.2.2.1, bt643.2.2.2.1⟩ : S37), bt643.2.2.2.2.1⟩ : S46), (rd_T69 bt625.1 bt629.1).f3, (rd_T69 bt625.1 bt629.1).f4⟩ : S69)), bt643.2.2.2.2.2)) else (none)) else (none))) else (if bt631.1 = 3 then (spec_l4Bent.l0 k bt625.1 0 s0_0 bt631.2) else (if bt631.1 = 4 then (spec_l4Bent.l1 k bt625.1 s0_0 bt631.2) else (some (bt625.1, bt631.2))))))))))) = some (r1, r2) := h
 clear h
 replace H := Option.bind_eq_some_iff.mp H
 obtain ⟨⟨t625, t628⟩, A20, H⟩ := H
 try dsimp only at H
 have A2 := z0 A20
 clear A20
 have HF3 := z0 H
 clear H
 go_enter Try.func41, Try.ntmps41
 go_upto_if 10 with (first | ((with_reducible refine gate_callee (f := 72) rfl ?_); refine goesL_ (some 7) rfl rfl Try.func72 (by kernel_rfl) rfl #[.pointer (some ⟨g, 0, none⟩)] rfl argx ?_; (with_reducible refine (spec_l4Some.calls k g s0_0 s0_1 t625 t628 w0 _ ?side1 ?side2 A2.out).mono ?_); (case side1 => exact mI116_1 HI0.out); (case side2 => exact mB116HI0 HB.out); rintro e w4 ⟨v626, rfl, ho0, hi, hb, hk⟩; refine ⟨_, rfl, ?_⟩; have n_ := az (Kd.N_lower (Kd.N_mono (ok' := fun k_ => (w.heap.size ≤ k_) ∧ k_ ≠ g) ho0 (fun k_ hk_ => ⟨(Nat.le_trans (kS HK.out) hk_), (IsS116.fresh (mI116_1 HI0.out) k_ hk_)⟩)) (kS HK.out)) <| az (KeepBut.trans (mKp HK.out) hk (.inl rfl)) <| az (hb) <| z0 (hi); clear HK HB HI0; obtain ⟨HO627, HK, HB, HI0⟩ := n_; clear hb hk hi ho0; obtain ⟨Ao5, co5, eo5⟩ := Kd.N_slice HO627.out; subst eo5))
 (try simp only [Act.put, List.setIfInBounds_toArray, List.set_cons_zero, List.set_cons_succ])
 have H := HF3.out
 clear HF3
 try clear c4
 by_cases c6 : (t625.length : Int) = 0
 ·rw [if_pos c6] at H
  have c6b0 : ((t625.length : Int) == 0) = true := beq_iff_eq.mpr c6
  have c6b1 : ((t625.length : Int) != 0) = false := bne_eq_false_iff_eq.mpr c6
  clear c6
  (first | rw [c6b0] | (simp only [i64_w, i32_w]; rw [c6b0]) | skip)
  simp only [Option.some.injEq, Prod.mk.injEq] at H
  obtain ⟨rfl, rfl⟩ := H
  go_wp2
  go_ret
  exact ⟨_, rfx, by (with_reducible repeat (first | apply Kd.N_alloc | apply Kd.N_drewN | apply Kd.N_drew)); exact Kd.N_mono HO627.out (fun _ hk => hk.1), mI116_1 HI0.out, mB116HI0 HB.out, mKp HK.out⟩
 ·rw [if_neg c6] at H
  have c6b0 : ((t625.length : Int) == 0) = false := beq_eq_false_iff_ne.mpr c6
  have c6b1 : ((t625.length : Int) != 0) = true := bne_iff_ne.mpr c6
  have c6b2 : ¬ (t625 = []) := fun h_ => c6 (by rw [h_]; rfl)
  (first | rw [c6b0] | (simp only [i64_w, i32_w]; rw [c6b0]) | skip)
  replace H := Option.bind_eq_some_iff.mp H
  obtain ⟨⟨t629, t630⟩, A70, H⟩ := H
  try dsimp only at H
  have A7 := z0 A70
  clear A70
  replace H := Option.bind_eq_some_iff.mp H
  obtain ⟨⟨t631, t632⟩, A80, H⟩ := H
  try dsimp only at H
  have A8 := z0 A80
  clear A80
  have HF9 := z0 H
  clear H
  go_upto_if 18 with (first | ((with_reducible refine gate_callee (f := 73) rfl ?_); refine goesL_ (some 15) rfl rfl Try.func73 (by kernel_rfl) rfl #[.pointer (some ⟨g, 0, none⟩), .int .i64 (t625.length : Int)] rfl argx ?_; (with_reducible refine (spec_l12Rd_pick.calls k g s0_0 t628 (t625.length : Int) t629 t630 w0 _ ?side1 ?side2 A7.out).mono ?_); (case side1 => exact mI116_1 HI0.out); (case side2 => exact mB116HI0 HB.out); rintro e w10 ⟨rfl, hi, hb, hk⟩; refine ⟨_, rfl, ?_⟩; have n_ := az (Kd.N_mono (Kd.N_keep (Kd.N_mono (ok := fun k_ => (((w.heap.size ≤ k_)) ∧ k_ ≠ g)) (mN HO627.out) (fun k_ hk_ => (⟨hk_, hk_.2⟩ : _ ∧ k_ ≠ g))) hk (fun _ h => h.2)) (fun _ h => h.1)) <| az (KeepBut.trans (mKp HK.out) hk (.inl rfl)) <| az (hb) <| z0 (hi); clear HO627 HK HB HI0; obtain ⟨HO627, HK, HB, HI0⟩ := n_; clear hb hk hi) | ((with_reducible refine gate_callee (f := 73) rfl ?_); refine goesL_ (some 17) rfl rfl Try.func73 (by kernel_rfl) rfl #[.pointer (some ⟨g, 0, none⟩), .int .i64 50] rfl argx ?_; (with_reducible refine (spec_l12Rd_pick.calls k g s0_0 t630 50 t631 t632 w0 _ ?side1 ?side2 A8.out).mono ?_); (case side1 => exact mI116_1 HI0.out); (case side2 => exact mB116HI0 HB.out); rintro e w11 ⟨rfl, hi, hb, hk⟩; refine ⟨_, rfl, ?_⟩; have n_ := az (Kd.N_mono (Kd.N_keep (Kd.N_mono (ok := fun k_ => (((w.heap.size ≤ k_)) ∧ k_ ≠ g)) (mN HO627.out) (fun k_ hk_ => (⟨hk_, hk_.2⟩ : _ ∧ k_ ≠ g))) hk (fun _ h => h.2)) (fun _ h => h.1)) <| az (KeepBut.trans (mKp HK.out) hk (.inl rfl)) <| az (hb) <| z0 (hi); clear HO627 HK HB HI0; obtain ⟨HO627, HK, HB, HI0⟩ := n_; clear hb hk hi))
  (try simp only [Act.put, List.setIfInBounds_toArray, List.set_cons_zero, List.set_cons_succ])
  have H := HF9.out
  clear HF9
  (try clear c4); (try clear c6); (try clear c6b0); (try clear c6b1); (try clear c6b2)
  by_cases c12 : t631 = 0
  ·rw [if_pos c12] at H
   have c12b0 : (t631 == 0) = true := beq_iff_eq.mpr c12
   have c12b1 : (t631 != 0) = false := bne_eq_false_iff_eq.mpr c12
   clear c12
   (first | rw [c12b0] | (simp only [i64_w, i32_w]; rw [c12b0]) | skip)
   obtain ⟨y633, hy633⟩ : ∃ y_ : List Int, y_ = (([0, 4, 1, 2, 3] : List Int)) := ⟨_, rfl⟩
   replace H : ((spec_l12Rd_num.f k s0_0 t632 y633).bind fun bt636 => (if 0 ≤ t629 then (if t629 < (t625.length : Int) then (some ((t625.set (t629 : Int).toNat (⟨bt636.1, (⟨(rd_T69 t625 t629).f1.f0, (rd_T69 t625 t629).f1.f1⟩ : S37), (⟨(rd_T69 t625 t629).f2.f0, (rd_T69 t625 t629).f2.f1, (⟨(rd_T69 t625 t629).f2.f2.f0, (rd_T69 t625 t629).f2.f2.f1⟩ : S37), (rd_T69 t625 t629).f2.f3⟩ : S46), (rd_T69 t625 t629).f3, (rd_T69 t625 t629).f4⟩ : S69)), bt636.2)) else (none)) else (none))) = some (r1, r2) := by first | (rw [hy633]; with_reducible exact H) | (have H2_ := (Option.bind_some _ _).symm.trans H; rw [hy633]; with_reducible exact H2_) | (have H2_ := (Option.bind_some _ _).symm.trans H; with_reducible exact H2_) | with_reducible exact H | (rw [hy633]; exact H) | exact H
   have Ny633 := z0 hy633
   clear hy633
   replace H := Option.bind_eq_some_iff.mp H
   obtain ⟨⟨t636, t637⟩, A130, H⟩ := H
   try dsimp only at H
   have A13 := z0 A130
   clear A130
   by_cases c14 : 0 ≤ t629
   ·rw [if_pos c14] at H
    have c14b0 : decide (0 ≤ t629) = true := decide_eq_true c14
    clear c14
    by_cases c15 : t629 < (t625.length : Int)
    ·rw [if_pos c15] at H
     have c15b0 : decide (t629 < (t625.length : Int)) = true := decide_eq_true c15
     clear c15
     obtain ⟨y638, hy638⟩ : ∃ y_ : List (S69), y_ = (t625.set (t629 : Int).toNat (⟨t636, (⟨(rd_T69 t625 t629).f1.f0, (rd_T69 t625 t629).f1.f1⟩ : S37), (⟨(rd_T69 t625 t629).f2.f0, (rd_T69 t625 t629).f2.f1, (⟨(rd_T69 t625 t629).f2.f2.f0, (rd_T69 t625 t629).f2.f2.f1⟩ : S37), (rd_T69 t625 t629).f2.f3⟩ : S46), (rd_T69 t625 t629).f3, (rd_T69 t625 t629).f4⟩ : S69)) := ⟨_, rfl⟩
     replace H : (some (y638, t637)) = some (r1, r2) := by first | (rw [hy638]; with_reducible exact H) | (have H2_ := (Option.bind_some _ _).symm.trans H; rw [hy638]; with_reducible exact H2_) | (have H2_ := (Option.bind_some _ _).symm.trans H; with_reducible exact H2_) | with_reducible exact H | (rw [hy638]; exact H) | exact H
     have Ny638 := z0 hy638
     clear hy638
     simp only [Option.some.injEq, Prod.mk.injEq] at H
     obtain ⟨rfl, rfl⟩ := H
     go_wp2_with (first | ((with_reducible refine gate_dst (N := 23) rfl ?_); refine Kd.R_lit (Kd.int .i64) _ 3 ?hg (N := 23) ?hd (xs := ([0, 4, 1, 2, 3] : List Int)) (inner := [.int .i64 0, .int .i64 4, .int .i64 1, .int .i64 2, .int .i64 3]) (ok := fun _ => True) (okp := fun _ => True) ?hr ?hp (fun _ hk => hk) trivial (Below.refl _ _) (Nat.le_refl _) (by simp) ?_; (case hd => rfl); (case hg => rfl); (case hr => first | (go_simp; done) | (go_simp; rfl)); (case hp => exact (Reps.one (show Kd.M (Kd.int .i64) _ _ _ 0 [.int .i64 0] from rfl) (Reps.one (show Kd.M (Kd.int .i64) _ _ _ 4 [.int .i64 4] from rfl) (Reps.one (show Kd.M (Kd.int .i64) _ _ _ 1 [.int .i64 1] from rfl) (Reps.one (show Kd.M (Kd.int .i64) _ _ _ 2 [.int .i64 2] from rfl) (Reps.one (show Kd.M (Kd.int .i64) _ _ _ 3 [.int .i64 3] from rfl) (Reps.none _ _))))))); intro v634 w17 ho18 hb hg_ hnew_; clear hg_ hnew_; (first | rw [← Ny633.out] at ho18 | (simp only [Int.reduceToNat] at ho18; rw [← Ny633.out] at ho18)); have n_ := az (Kd.N_elder' (mN HO627.out) (by first | exact Kd.R_base ho18 | exact Kd.R_base ho18) hb) <| az (Kd.R_lower (Kd.R_newM (M := fun k_ => (w.heap.size ≤ k_)) ho18 (kS HK.out) (fun k_ h_ => h_)) (kS HK.out)) <| az (IsS116.below (mI116_1 HI0.out) hb) <| az (KeepBut.trans (mKp HK.out) (KeepBut.of_below hb g none) (.inl rfl)) <| z0 (below_step (mB116HI0 HB.out) hb); clear HO627 HI0 HK HB; obtain ⟨HO627, HO635, HI0, HK, HB⟩ := n_; clear hb ho18; obtain ⟨Ao19, co19, eo19⟩ := Kd.R_slice HO635.out; subst eo19) | ((with_reducible refine gate_callee (f := 74) rfl ?_); refine goesL_ (some 24) rfl rfl Try.func74 (by kernel_rfl) rfl #[.pointer (some ⟨g, 0, none⟩), .slice Ao19 y633.length co19] rfl argx ?_; (with_reducible refine (spec_l12Rd_num.calls k g s0_0 t632 _ _ y633 t636 t637 w0 _ ?side1 ?side2 ?side3 ?side4 ?side5 A13.out).mono ?_); (case side1 => exact mI116_1 HI0.out); (case side2 => exact mB116HI0 HB.out); (case side3 => exact mC (Kd.R_reads' HO635.out).2.2); (case side4 => exact (Kd.R_reads' HO635.out).2.1); (case side5 => exact far_slice (IsS116.own_ne HI0.out HO635.out (by decide))); rintro e w20 ⟨rfl, hi, hb, hk⟩; refine ⟨_, rfl, ?_⟩; have n_ := az (Kd.N_mono (Kd.N_keep (Kd.N_mono (ok := fun k_ => ((((w.heap.size ≤ k_)) ∧ k_ ≠ g) ∧ nB k_ (.slice Ao19 y633.length co19))) (mN HO627.out) (fun k_ hk_ => (⟨hk_, hk_.1.2⟩ : _ ∧ k_ ≠ g))) hk (fun _ h => h.2)) (fun _ h => h.1)) <| az (Kd.R_mono (Kd.R_keep (IsS116.apart (show IsS116 w0 _ g s0_0 t632 from mI116_1 HI0.out) (mR HO635.out) (by decide)) hk (fun _ h => h.2)) (fun _ h => h.1)) <| az (KeepBut.trans (mKp HK.out) hk (.inl rfl)) <| az (hb) <| z0 (hi); clear HO627 HO635 HK HB HI0; obtain ⟨HO627, HO635, HK, HB, HI0⟩ := n_; clear hb hk hi; have p16 : 0 ≤ (t629 : Int) := of_decide_eq_true q41_1; have q16 : (t629 : Int) < ((t625.length : Int) : Int) := of_decide_eq_true q41_1; obtain ⟨go16, co16, eo16, gb16, gl16, cl16, HG16⟩ := Kd.N_form HO627.out (by omega); (first | cases eo16 | (injection eo16 with ea_ en_ ec_; (first | subst ea_ | (injection ea_ with ea_; subst ea_)); subst ec_; clear en_)); have GB16 := z0 gb16; have GG16 := z0 HG16; clear gb16 gl16 HG16; obtain ⟨ce16, hcl16, hM16, hcc16, hfr16⟩ := Kd.N_elem HO627.out z69 (t629 : Int) p16 q16; obtain ⟨ua16_7, uc16_7, ua16_8, uc16_8, ua16_9, uc16_9, rfl, ul16_7, ge16_7, ul16_8, ge16_8, ul16_9, ge16_9⟩ := k69_openF hM16; have hx16_0 : w20.cell? ⟨go16, (t629 : Int).toNat * 10, none⟩ = some (.int .i64 ((rd_T69 t625 t629).f0)) := hcc16 0 _ rfl; have hx16_1 : w20.cell? ⟨go16, (t629 : Int).toNat * 10 + 1, none⟩ = some (.int .i64 ((rd_T69 t625 t629).f1.f0)) := hcc16 1 _ rfl; have hx16_2 : w20.cell? ⟨go16, (t629 : Int).toNat * 10 + 2, none⟩ = some (.int .i64 ((rd_T69 t625 t629).f1.f1)) := hcc16 2 _ rfl; have hx16_3 : w20.cell? ⟨go16, (t629 : Int).toNat * 10 + 3, none⟩ = some (.int .i64 ((rd_T69 t625 t629).f2.f0)) := hcc16 3 _ rfl; have hx16_4 : w20.cell? ⟨go16, (t629 : Int).toNat * 10 + 4, none⟩ = some (.int .i64 ((rd_T69 t625 t629).f2.f1)) := hcc16 4 _ rfl; have hx16_5 : w20.cell? ⟨go16, (t629 : Int).toNat * 10 + 5, none⟩ = some (.int .i64 ((rd_T69 t625 t629).f2.f2.f0)) := hcc16 5 _ rfl; have hx16_6 : w20.cell? ⟨go16, (t629 : Int).toNat * 10 + 6, none⟩ = some (.int .i64 ((rd_T69 t625 t629).f2.f2.f1)) := hcc16 6 _ rfl; have hx16_7 : w20.cell? ⟨go16, (t629 : Int).toNat * 10 + 7, none⟩ = some (.slice ua16_7 ((rd_T69 t625 t629).f2.f3).length uc16_7) := hcc16 7 _ rfl; have hx16_8 : w20.cell? ⟨go16, (t629 : Int).toNat * 10 + 8, none⟩ = some (.slice ua16_8 ((rd_T69 t625 t629).f3).length uc16_8) := hcc16 8 _ rfl; have hx16_9 : w20.cell? ⟨go16, (t629 : Int).toNat * 10 + 9, none⟩ = some (.slice ua16_9 ((rd_T69 t625 t629).f4).length uc16_9) := hcc16 9 _ rfl; have hf16_0 : w20.frozen? ⟨go16, (t629 : Int).toNat * 10, none⟩ = false := hfr16 0; have hf16_1 : w20.frozen? ⟨go16, (t629 : Int).toNat * 10 + 1, none⟩ = false := hfr16 1; have hf16_2 : w20.frozen? ⟨go16, (t629 : Int).toNat * 10 + 2, none⟩ = false := hfr16 2; have hf16_3 : w20.frozen? ⟨go16, (t629 : Int).toNat * 10 + 3, none⟩ = false := hfr16 3; have hf16_4 : w20.frozen? ⟨go16, (t629 : Int).toNat * 10 + 4, none⟩ = false := hfr16 4; have hf16_5 : w20.frozen? ⟨go16, (t629 : Int).toNat * 10 + 5, none⟩ = false := hfr16 5; have hf16_6 : w20.frozen? ⟨go16, (t629 : Int).toNat * 10 + 6, none⟩ = false := hfr16 6; have hf16_7 : w20.frozen? ⟨go16, (t629 : Int).toNat * 10 + 7, none⟩ = false := hfr16 7; have hf16_8 : w20.frozen? ⟨go16, (t629 : Int).toNat * 10 + 8, none⟩ = false := hfr16 8; have hf16_9 : w20.frozen? ⟨go16, (t629 : Int).toNat * 10 + 9, none⟩ = false := hfr16 9; clear hcl16 hcc16 hfr16 hM16; replace p16 := eq_true p16; replace q16 := eq_true q16; have n_ := z0 (Kd.N_mono (ok' := (fun k_ => (w.heap.size ≤ k_) ∧ nB k_ (.slice Ao19 y633.length co19))) HO627.out (fun k_ hk => ⟨hk.1.1, hk.2⟩)); clear HO627; have HO627 := n_; clear n_; have HX21 := z0 (show Kd.N k69 69 w20 w.heap.size (fun k_ => (w.heap.size ≤ k_) ∧ nB k_ (.slice Ao19 y633.length co19)) (.slice (some ⟨go16, 0, none⟩) t625.length co5) t625 from (mN HO627.out)); obtain ⟨ce21, hcl21, hM21, hcc21, hfr21⟩ := Kd.N_elem HX21.out z69 (t629 : Int) (of_decide_eq_true q41_1) (by have h_ : (t629 : Int) < ((t625.length : Int) : Int) := of_decide_eq_true q41_1; first | exact h_ | (have e_ := (Kd.N_reads' HO627.out).1; omega) | simpa using h_); obtain ⟨ua21_7, uc21_7, ua21_8, uc21_8, ua21_9, uc21_9, rfl, ul21_7, ge21_7, ul21_8, ge21_8, ul21_9, ge21_9⟩ := k69_openF hM21; have HP21 := Kd.N_seg HX21.out (t629 : Int) (of_decide_eq_true q41_1) (by have h_ : (t629 : Int) < ((t625.length : Int) : Int) := of_decide_eq_true q41_1; first | exact h_ | (have e_ := (Kd.N_reads' HO627.out).1; omega) | simpa using h_) (seg := [.int .i64 t636]) (j := 0) hcl21 hcc21 (show 1 ≤ 10 from by decide) (x' := (⟨t636, (⟨(rd_T69 t625 t629).f1.f0, (rd_T69 t625 t629).f1.f1⟩ : S37), (⟨(rd_T69 t625 t629).f2.f0, (rd_T69 t625 t629).f2.f1, (⟨(rd_T69 t625 t629).f2.f2.f0, (rd_T69 t625 t629).f2.f2.f1⟩ : S37), (rd_T69 t625 t629).f2.f3⟩ : S46), (rd_T69 t625 t629).f3, (rd_T69 t625 t629).f4⟩ : S69)) (k69_mkF _ _ (⟨t636, (⟨(rd_T69 t625 t629).f1.f0, (rd_T69 t625 t629).f1.f1⟩ : S37), (⟨(rd_T69 t625 t629).f2.f0, (rd_T69 t625 t629).f2.f1, (⟨(rd_T69 t625 t629).f2.f2.f0, (rd_T69 t625 t629).f2.f2.f1⟩ : S37), (rd_T69 t625 t629).f2.f3⟩ : S46), (rd_T69 t625 t629).f3, (rd_T69 t625 t629).f4⟩ : S69) ul21_7 ge21_7 ul21_8 ge21_8 ul21_9 ge21_9) (fun _ hk => hk); have hx21_0 := hcc21 0 _ rfl; (try simp only [show (k69).sz = 10 from rfl, Nat.mul_one, Nat.add_zero] at hx21_0); have hf21_0 := hfr21 0; (try simp only [show (k69).sz = 10 from rfl, Nat.mul_one, Nat.add_zero] at hf21_0); clear hcl21 hcc21 hfr21 hM21) | ((with_reducible refine gate_store (t := 3) (p := 26) rfl ?_); refine store_event (t := 3) (p := 26) (v := ?vo_w22) (w1 := (w20.setCell ⟨go16, (t629 : Int).toNat * 10, none⟩ (.int .i64 t636))) ?hg ?ho ?hn ?hr ?_; (case ho => rfl); (case hg => rfl); (case hn => rfl); (case hr => first | (go_simp; done) | (go_simp; rfl)); intro w22 hw; have hg : w20.grownBy w22 (some go16) := (by rw [hw]; exact HP21.2); have hp_ : Kd.N k69 69 w22 w.heap.size (fun k_ => (w.heap.size ≤ k_) ∧ nB k_ (.slice Ao19 y633.length co19)) (.slice (some ⟨go16, 0, none⟩) t625.length co5) y638 := (by rw [hw, Ny638.out]; exact HP21.1); clear HP21; have n_ := az (IsS116.grown (mI116_1 HI0.out) hg (IsS116.own_neN HI0.out HO627.out (by decide))) <| az (hp_) <| az (Kd.R_over' (v := (.slice (some ⟨go16, 0, none⟩) t625.length co5)) (mR HO635.out) (Kd.N_typed HO627.out) (by decide) hg) <| az ((by rw [hw]; exact below_set (HB.out) (Nat.le_trans HL.out GB16.out) : Below w0.heap.size w0 w22)) <| z0 (KeepBut.trans (mKp HK.out) (KeepBut.of_grown hg g) (Kd.N_base2 HO627.out)); clear HI0 HO627 HO635 HB HK; obtain ⟨HI0, HO627, HO635, HB, HK⟩ := n_; clear hg hw hp_))
     go_ret
     exact ⟨_, rfx, by (with_reducible repeat (first | apply Kd.N_alloc | apply Kd.N_drewN | apply Kd.N_drew)); exact Kd.N_mono HO627.out (fun _ hk => hk.1), mI116_1 HI0.out, mB116HI0 HB.out, mKp HK.out⟩
    ·rw [if_neg c15] at H
     exact absurd H (by simp)
   ·rw [if_neg c14] at H
    exact absurd H (by simp)
  ·rw [if_neg c12] at H
   have c12b0 : (t631 == 0) = false := beq_eq_false_iff_ne.mpr c12
   have c12b1 : (t631 != 0) = true := bne_iff_ne.mpr c12
   (first | rw [c12b0] | (simp only [i64_w, i32_w]; rw [c12b0]) | skip)
   by_cases c23 : t631 = 1
   ·rw [if_pos c23] at H
    have c23b0 : (t631 == 1) = true := beq_iff_eq.mpr c23
    have c23b1 : (t631 != 1) = false := bne_eq_false_iff_eq.mpr c23
    clear c23
    replace H := Option.bind_eq_some_iff.mp H
    obtain ⟨⟨t639, t640, t641⟩, A240, H⟩ := H
    try dsimp only at H
    have A24 := z0 A240
    clear A240
    by_cases c25 : 0 ≤ t629
    ·rw [if_pos c25] at H
     have c25b0 : decide (0 ≤ t629) = true := decide_eq_true c25
     clear c25
     by_cases c26 : t629 < (t625.length : Int)
     ·rw [if_pos c26] at H
      have c26b0 : decide (t629 < (t625.length : Int)) = true := decide_eq_true c26
      clear c26
      obtain ⟨y642, hy642⟩ : ∃ y_ : List (S69), y_ = (t625.set (t629 : Int).toNat (⟨(rd_T69 t625 t629).f0, (⟨t639, t640⟩ : S37), (⟨(rd_T69 t625 t629).f2.f0, (rd_T69 t625 t629).f2.f1, (⟨(rd_T69 t625 t629).f2.f2.f0, (rd_T69 t625 t629).f2.f2.f1⟩ : S37), (rd_T69 t625 t629).f2.f3⟩ : S46), (rd_T69 t625 t629).f3, (rd_T69 t625 t629).f4⟩ : S69)) := ⟨_, rfl⟩
      replace H : (some (y642, t641)) = some (r1, r2) := by first | (rw [hy642]; with_reducible exact H) | (have H2_ := (Option.bind_some _ _).symm.trans H; rw [hy642]; with_reducible exact H2_) | (have H2_ := (Option.bind_some _ _).symm.trans H; with_reducible exact H2_) | with_reducible exact H | (rw [hy642]; exact H) | exact H
      have Ny642 := z0 hy642
      clear hy642
      simp only [Option.some.injEq, Prod.mk.injEq] at H
      obtain ⟨rfl, rfl⟩ := H
      go_wp2_with (first | ((with_reducible refine gate_callee (f := 75) rfl ?_); refine goesL_ (some 32) rfl rfl Try.func75 (by kernel_rfl) rfl #[.pointer (some ⟨g, 0, none⟩)] rfl argx ?_; (with_reducible refine (spec_l2AddrBent.calls k g s0_0 t632 t639 t640 t641 w0 _ ?side1 ?side2 A24.out).mono ?_); (case side1 => exact mI116_1 HI0.out); (case side2 => exact mB116HI0 HB.out); rintro e w28 ⟨rfl, hi, hb, hk⟩; refine ⟨_, rfl, ?_⟩; have n_ := az (Kd.N_mono (Kd.N_keep (Kd.N_mono (ok := fun k_ => (((w.heap.size ≤ k_)) ∧ k_ ≠ g)) (mN HO627.out) (fun k_ hk_ => (⟨hk_, hk_.2⟩ : _ ∧ k_ ≠ g))) hk (fun _ h => h.2)) (fun _ h => h.1)) <| az (KeepBut.trans (mKp HK.out) hk (.inl rfl)) <| az (hb) <| z0 (hi); clear HO627 HK HB HI0; obtain ⟨HO627, HK, HB, HI0⟩ := n_; clear hb hk hi; have p27 : 0 ≤ (t629 : Int) := of_decide_eq_true q41_1; have q27 : (t629 : Int) < ((t625.length : Int) : Int) := of_decide_eq_true q41_1; obtain ⟨go27, co27, eo27, gb27, gl27, cl27, HG27⟩ := Kd.N_form HO627.out (by omega); (first | cases eo27 | (injection eo27 with ea_ en_ ec_; (first | subst ea_ | (injection ea_ with ea_; subst ea_)); subst ec_; clear en_)); have GB27 := z0 gb27; have GG27 := z0 HG27; clear gb27 gl27 HG27; obtain ⟨ce27, hcl27, hM27, hcc27, hfr27⟩ := Kd.N_elem HO627.out z69 (t629 : Int) p27 q27; obtain ⟨ua27_7, uc27_7, ua27_8, uc27_8, ua27_9, uc27_9, rfl, ul27_7, ge27_7, ul27_8, ge27_8, ul27_9, ge27_9⟩ := k69_openF hM27; have hx27_0 : w28.cell? ⟨go27, (t629 : Int).toNat * 10, none⟩ = some (.int .i64 ((rd_T69 t625 t629).f0)) := hcc27 0 _ rfl; have hx27_1 : w28.cell? ⟨go27, (t629 : Int).toNat * 10 + 1, none⟩ = some (.int .i64 ((rd_T69 t625 t629).f1.f0)) := hcc27 1 _ rfl; have hx27_2 : w28.cell? ⟨go27, (t629 : Int).toNat * 10 + 2, none⟩ = some (.int .i64 ((rd_T69 t625 t629).f1.f1)) := hcc27 2 _ rfl; have hx27_3 : w28.cell? ⟨go27, (t629 : Int).toNat * 10 + 3, none⟩ = some (.int .i64 ((rd_T69 t625 t629).f2.f0)) := hcc27 3 _ rfl; have hx27_4 : w28.cell? ⟨go27, (t629 : Int).toNat * 10 + 4, none⟩ = some (.int .i64 ((rd_T69 t625 t629).f2.f1)) := hcc27 4 _ rfl; have hx27_5 : w28.cell? ⟨go27, (t629 : Int).toNat * 10 + 5, none⟩ = some (.int .i64 ((rd_T69 t625 t629).f2.f2.f0)) := hcc27 5 _ rfl; have hx27_6 : w28.cell? ⟨go27, (t629 : Int).toNat * 10 + 6, none⟩ = some (.int .i64 ((rd_T69 t625 t629).f2.f2.f1)) := hcc27 6 _ rfl; have hx27_7 : w28.cell? ⟨go27, (t629 : Int).toNat * 10 + 7, none⟩ = some (.slice ua27_7 ((rd_T69 t625 t629).f2.f3).length uc27_7) := hcc27 7 _ rfl; have hx27_8 : w28.cell? ⟨go27, (t629 : Int).toNat * 10 + 8, none⟩ = some (.slice ua27_8 ((rd_T69 t625 t629).f3).length uc27_8) := hcc27 8 _ rfl; have hx27_9 : w28.cell? ⟨go27, (t629 : Int).toNat * 10 + 9, none⟩ = some (.slice ua27_9 ((rd_T69 t625 t629).f4).length uc27_9) := hcc27 9 _ rfl; have hf27_0 : w28.frozen? ⟨go27, (t629 : Int).toNat * 10, none⟩ = false := hfr27 0; have hf27_1 : w28.frozen? ⟨go27, (t629 : Int).toNat * 10 + 1, none⟩ = false := hfr27 1; have hf27_2 : w28.frozen? ⟨go27, (t629 : Int).toNat * 10 + 2, none⟩ = false := hfr27 2; have hf27_3 : w28.frozen? ⟨go27, (t629 : Int).toNat * 10 + 3, none⟩ = false := hfr27 3; have hf27_4 : w28.frozen? ⟨go27, (t629 : Int).toNat * 10 + 4, none⟩ = false := hfr27 4; have hf27_5 : w28.frozen? ⟨go27, (t629 : Int).toNat * 10 + 5, none⟩ = false := hfr27 5; have hf27_6 : w28.frozen? ⟨go27, (t629 : Int).toNat * 10 + 6, none⟩ = false := hfr27 6; have hf27_7 : w28.frozen? ⟨go27, (t629 : Int).toNat * 10 + 7, none⟩ = false := hfr27 7; have hf27_8 : w28.frozen? ⟨go27, (t629 : Int).toNat * 10 + 8, none⟩ = false := hfr27 8; have hf27_9 : w28.frozen? ⟨go27, (t629 : Int).toNat * 10 + 9, none⟩ = false := hfr27 9; clear hcl27 hcc27 hfr27 hM27; replace p27 := eq_true p27; replace q27 := eq_true q27; have HX29 := z0 (show Kd.N k69 69 w28 w.heap.size (fun k_ => (w.heap.size ≤ k_) ∧ k_ ≠ g) (.slice (some ⟨go27, 0, none⟩) t625.length co5) t625 from (mN HO627.out)); obtain ⟨ce29, hcl29, hM29, hcc29, hfr29⟩ := Kd.N_elem HX29.out z69 (t629 : Int) (of_decide_eq_true q41_1) (by have h_ : (t629 : Int) < ((t625.length : Int) : Int) := of_decide_eq_true q41_1; first | exact h_ | (have e_ := (Kd.N_reads' HO627.out).1; omega) | simpa using h_); obtain ⟨ua29_7, uc29_7, ua29_8, uc29_8, ua29_9, uc29_9, rfl, ul29_7, ge29_7, ul29_8, ge29_8, ul29_9, ge29_9⟩ := k69_openF hM29; have HP29 := Kd.N_seg HX29.out (t629 : Int) (of_decide_eq_true q41_1) (by have h_ : (t629 : Int) < ((t625.length : Int) : Int) := of_decide_eq_true q41_1; first | exact h_ | (have e_ := (Kd.N_reads' HO627.out).1; omega) | simpa using h_) (seg := [.int .i64 t639, .int .i64 t640]) (j := 1) hcl29 hcc29 (show 3 ≤ 10 from by decide) (x' := (⟨(rd_T69 t625 t629).f0, (⟨t639, t640⟩ : S37), (⟨(rd_T69 t625 t629).f2.f0, (rd_T69 t625 t629).f2.f1, (⟨(rd_T69 t625 t629).f2.f2.f0, (rd_T69 t625 t629).f2.f2.f1⟩ : S37), (rd_T69 t625 t629).f2.f3⟩ : S46), (rd_T69 t625 t629).f3, (rd_T69 t625 t629).f4⟩ : S69)) (k69_mkF _ _ (⟨(rd_T69 t625 t629).f0, (⟨t639, t640⟩ : S37), (⟨(rd_T69 t625 t629).f2.f0, (rd_T69 t625 t629).f2.f1, (⟨(rd_T69 t625 t629).f2.f2.f0, (rd_T69 t625 t629).f2.f2.f1⟩ : S37), (rd_T69 t625 t629).f2.f3⟩ : S46), (rd_T69 t625 t629).f3, (rd_T69 t625 t629).f4⟩ : S69) ul29_7 ge29_7 ul29_8 ge29_8 ul29_9 ge29_9) (fun _ hk => hk); have hx29_1 := hcc29 1 _ rfl; (try simp only [show (k69).sz = 10 from rfl, Nat.mul_one, Nat.add_zero] at hx29_1); have hf29_1 := hfr29 1; (try simp only [show (k69).sz = 10 from rfl, Nat.mul_one, Nat.add_zero] at hf29_1); have hx29_2 := hcc29 2 _ rfl; (try simp only [show (k69).sz = 10 from rfl, Nat.mul_one, Nat.add_zero] at hx29_2); have hf29_2 := hfr29 2; (try simp only [show (k69).sz = 10 from rfl, Nat.mul_one, Nat.add_zero] at hf29_2); clear hcl29 hcc29 hfr29 hM29) | ((with_reducible refine gate_store (t := 37) (p := 34) rfl ?_); refine store_event (t := 37) (p := 34) (v := ?vo_w30) (w1 := ((w28.setCell ⟨go27, (t629 : Int).toNat * 10 + 1, none⟩ (.int .i64 t639)).setCell ⟨go27, (t629 : Int).toNat * 10 + 2, none⟩ (.int .i64 t640))) ?hg ?ho ?hn ?hr ?_; (case ho => rfl); (case hg => rfl); (case hn => rfl); (case hr => first | (go_simp; done) | (go_simp; rfl)); intro w30 hw; have hg : w28.grownBy w30 (some go27) := (by rw [hw]; exact HP29.2); have hp_ : Kd.N k69 69 w30 w.heap.size (fun k_ => (w.heap.size ≤ k_) ∧ k_ ≠ g) (.slice (some ⟨go27, 0, none⟩) t625.length co5) y642 := (by rw [hw, Ny642.out]; exact HP29.1); clear HP29; have n_ := az (IsS116.grown (mI116_1 HI0.out) hg (IsS116.own_neN HI0.out HO627.out (by decide))) <| az (hp_) <| az ((by rw [hw]; exact below_set (below_set (HB.out) (Nat.le_trans HL.out GB27.out)) (Nat.le_trans HL.out GB27.out) : Below w0.heap.size w0 w30)) <| z0 (KeepBut.trans (mKp HK.out) (KeepBut.of_grown hg g) (Kd.N_base2 HO627.out)); clear HI0 HO627 HB HK; obtain ⟨HI0, HO627, HB, HK⟩ := n_; clear hg hw hp_))
      go_ret
      exact ⟨_, rfx, by (with_reducible repeat (first | apply Kd.N_alloc | apply Kd.N_drewN | apply Kd.N_drew)); exact Kd.N_mono HO627.out (fun _ hk => hk.1), mI116_1 HI0.out, mB116HI0 HB.out, mKp HK.out⟩
     ·rw [if_neg c26] at H
      exact absurd H (by simp)
    ·rw [if_neg c25] at H
     exact absurd H (by simp)
   ·rw [if_neg c23] at H
    have c23b0 : (t631 == 1) = false := beq_eq_false_iff_ne.mpr c23
    have c23b1 : (t631 != 1) = true := bne_iff_ne.mpr c23
    by_cases c31 : t631 = 2
    ·rw [if_pos c31] at H
     have c31b0 : (t631 == 2) = true := beq_iff_eq.mpr c31
     have c31b1 : (t631 != 2) = false := bne_eq_false_iff_eq.mpr c31
     clear c31
     replace H := Option.bind_eq_some_iff.mp H
     obtain ⟨⟨t643, t644, t645, t646, t647, t650⟩, A320, H⟩ := H
     try dsimp only at H
     have A32 := z0 A320
     clear A320
     by_cases c33 : 0 ≤ t629
     ·rw [if_pos c33] at H
      have c33b0 : decide (0 ≤ t629) = true := decide_eq_true c33
      clear c33
      by_cases c34 : t629 < (t625.length : Int)
      ·rw [if_pos c34] at H
       have c34b0 : decide (t629 < (t625.length : Int)) = true := decide_eq_true c34
       clear c34
       obtain ⟨y651, hy651⟩ : ∃ y_ : List (S69), y_ = (t625.set (t629 : Int).toNat (⟨(rd_T69 t625 t629).f0, (⟨(rd_T69 t625 t629).f1.f0, (rd_T69 t625 t629).f1.f1⟩ : S37), (⟨t643, t644, (⟨t645, t646⟩ : S37), t647⟩ : S46), (rd_T69 t625 t629).f3, (rd_T69 t625 t629).f4⟩ : S69)) := ⟨_, rfl⟩
       replace H : (some (y651, t650)) = some (r1, r2) := by first | (rw [hy651]; with_reducible exact H) | (have H2_ := (Option.bind_some _ _).symm.trans H; rw [hy651]; with_reducible exact H2_) | (have H2_ := (Option.bind_some _ _).symm.trans H; with_reducible exact H2_) | with_reducible exact H | (rw [hy651]; exact H) | exact H
       have Ny651 := z0 hy651
       clear hy651
       simp only [Option.some.injEq, Prod.mk.injEq] at H
       obtain ⟨rfl, rfl⟩ := H
       go_wp2_with (first | ((with_reducible refine gate_callee (f := 46) rfl ?_); refine goesL_ (some 40) rfl rfl Try.func46 (by kernel_rfl) rfl #[.pointer (some ⟨g, 0, none⟩)] rfl argx ?_; (with_reducible refine (spec_l3Bent.calls k g s0_0 t632 t643 t644 t645 t646 t647 t650 w0 _ ?side1 ?side2 A32.out).mono ?_); (case side1 => exact mI116_1 HI0.out); (case side2 => exact mB116HI0 HB.out); rintro e w36 ⟨v648, rfl, ho0, hi, hb, hk⟩; refine ⟨_, rfl, ?_⟩; have n_ := az (Kd.N_mono (Kd.N_told (Kd.N_oldK (Kd.N_mono (ok := fun k_ => (((w.heap.size ≤ k_)) ∧ k_ ≠ g)) (mN HO627.out) (fun k_ hk_ => (⟨hk_, hk_.2⟩ : _ ∧ k_ ≠ g))) hk) (by first | exact Kd.N_base ho0 | exact Kd.R_base ho0)) (fun _ h_ => h_.1)) <| az (Kd.N_lower (Kd.N_mono (ok' := fun k_ => (w.heap.size ≤ k_) ∧ nB k_ (.slice Ao5 t625.length co5) ∧ k_ ≠ g) ho0 (fun k_ hk_ => ⟨(Nat.le_trans (kS HK.out) hk_), (Kd.fresh' (Kd.N_lt (mN HO627.out)) k_ hk_), (IsS116.fresh (mI116_1 HI0.out) k_ hk_)⟩)) (kS HK.out)) <| az (KeepBut.trans (mKp HK.out) hk (.inl rfl)) <| az (hb) <| z0 (hi); clear HO627 HK HB HI0; obtain ⟨HO627, HO649, HK, HB, HI0⟩ := n_; clear hb hk hi ho0; have p35 : 0 ≤ (t629 : Int) := of_decide_eq_true q41_1; have q35 : (t629 : Int) < ((t625.length : Int) : Int) := of_decide_eq_true q41_1; obtain ⟨go35, co35, eo35, gb35, gl35, cl35, HG35⟩ := Kd.N_form HO627.out (by omega); (first | cases eo35 | (injection eo35 with ea_ en_ ec_; (first | subst ea_ | (injection ea_ with ea_; subst ea_)); subst ec_; clear en_)); have GB35 := z0 gb35; have GG35 := z0 HG35; clear gb35 gl35 HG35; obtain ⟨ce35, hcl35, hM35, hcc35, hfr35⟩ := Kd.N_elem HO627.out z69 (t629 : Int) p35 q35; obtain ⟨ua35_7, uc35_7, ua35_8, uc35_8, ua35_9, uc35_9, rfl, ul35_7, ge35_7, ul35_8, ge35_8, ul35_9, ge35_9⟩ := k69_openF hM35; have hx35_0 : w36.cell? ⟨go35, (t629 : Int).toNat * 10, none⟩ = some (.int .i64 ((rd_T69 t625 t629).f0)) := hcc35 0 _ rfl; have hx35_1 : w36.cell? ⟨go35, (t629 : Int).toNat * 10 + 1, none⟩ = some (.int .i64 ((rd_T69 t625 t629).f1.f0)) := hcc35 1 _ rfl; have hx35_2 : w36.cell? ⟨go35, (t629 : Int).toNat * 10 + 2, none⟩ = some (.int .i64 ((rd_T69 t625 t629).f1.f1)) := hcc35 2 _ rfl; have hx35_3 : w36.cell? ⟨go35, (t629 : Int).toNat * 10 + 3, none⟩ = some (.int .i64 ((rd_T69 t625 t629).f2.f0)) := hcc35 3 _ rfl; have hx35_4 : w36.cell? ⟨go35, (t629 : Int).toNat * 10 + 4, none⟩ = some (.int .i64 ((rd_T69 t625 t629).f2.f1)) := hcc35 4 _ rfl; have hx35_5 : w36.cell? ⟨go35, (t629 : Int).toNat * 10 + 5, none⟩ = some (.int .i64 ((rd_T69 t625 t629).f2.f2.f0)) := hcc35 5 _ rfl; have hx35_6 : w36.cell? ⟨go35, (t629 : Int).toNat * 10 + 6, none⟩ = some (.int .i64 ((rd_T69 t625 t629).f2.f2.f1)) := hcc35 6 _ rfl; have hx35_7 : w36.cell? ⟨go35, (t629 : Int).toNat * 10 + 7, none⟩ = some (.slice ua35_7 ((rd_T69 t625 t629).f2.f3).length uc35_7) := hcc35 7 _ rfl; have hx35_8 : w36.cell? ⟨go35, (t629 : Int).toNat * 10 + 8, none⟩ = some (.slice ua35_8 ((rd_T69 t625 t629).f3).length uc35_8) := hcc35 8 _ rfl; have hx35_9 : w36.cell? ⟨go35, (t629 : Int).toNat * 10 + 9, none⟩ = some (.slice ua35_9 ((rd_T69 t625 t629).f4).length uc35_9) := hcc35 9 _ rfl; have hf35_0 : w36.frozen? ⟨go35, (t629 : Int).toNat * 10, none⟩ = false := hfr35 0; have hf35_1 : w36.frozen? ⟨go35, (t629 : Int).toNat * 10 + 1, none⟩ = false := hfr35 1; have hf35_2 : w36.frozen? ⟨go35, (t629 : Int).toNat * 10 + 2, none⟩ = false := hfr35 2; have hf35_3 : w36.frozen? ⟨go35, (t629 : Int).toNat * 10 + 3, none⟩ = false := hfr35 3; have hf35_4 : w36.frozen? ⟨go35, (t629 : Int).toNat * 10 + 4, none⟩ = false := hfr35 4; have hf35_5 : w36.frozen? ⟨go35, (t629 : Int).toNat * 10 + 5, none⟩ = false := hfr35 5; have hf35_6 : w36.frozen? ⟨go35, (t629 : Int).toNat * 10 + 6, none⟩ = false := hfr35 6; have hf35_7 : w36.frozen? ⟨go35, (t629 : Int).toNat * 10 + 7, none⟩ = false := hfr35 7; have hf35_8 : w36.frozen? ⟨go35, (t629 : Int).toNat * 10 + 8, none⟩ = false := hfr35 8; have hf35_9 : w36.frozen? ⟨go35, (t629 : Int).toNat * 10 + 9, none⟩ = false := hfr35 9; clear hcl35 hcc35 hfr35 hM35; replace p35 := eq_true p35; replace q35 := eq_true q35; have n_ := z0 (Kd.N_mono (ok' := (fun k_ => (w.heap.size ≤ k_) ∧ nB k_ v648)) HO627.out (fun k_ hk => ⟨hk.1.1, hk.2⟩)); clear HO627; have HO627 := n_; clear n_; obtain ⟨Ao39, co39, eo39⟩ := Kd.N_slice HO649.out; subst eo39; have HX37 := z0 (show Kd.N k69 69 w36 w.heap.size (fun k_ => (w.heap.size ≤ k_)) (.slice (some ⟨go35, 0, none⟩) t625.length co5) t625 from (by (with_reducible repeat (first | apply Kd.N_alloc | apply Kd.N_drewN | apply Kd.N_drew)); exact Kd.N_mono HO627.out (fun _ hk => hk.1))); obtain ⟨ce37, hcl37, hM37, hcc37, hfr37⟩ := Kd.N_elem HX37.out z69 (t629 : Int) (of_decide_eq_true q41_1) (by have h_ : (t629 : Int) < ((t625.length : Int) : Int) := of_decide_eq_true q41_1; first | exact h_ | (have e_ := (Kd.N_reads' HO627.out).1; omega) | simpa using h_); obtain ⟨ua37_7, uc37_7, ua37_8, uc37_8, ua37_9, uc37_9, rfl, ul37_7, ge37_7, ul37_8, ge37_8, ul37_9, ge37_9⟩ := k69_openF hM37; have HP37 := Kd.N_seg HX37.out (t629 : Int) (of_decide_eq_true q41_1) (by have h_ : (t629 : Int) < ((t625.length : Int) : Int) := of_decide_eq_true q41_1; first | exact h_ | (have e_ := (Kd.N_reads' HO627.out).1; omega) | simpa using h_) (seg := [.int .i64 t643, .int .i64 t644, .int .i64 t645, .int .i64 t646, .slice Ao39 t647.length co39]) (j := 3) hcl37 hcc37 (show 8 ≤ 10 from by decide) (x' := (⟨(rd_T69 t625 t629).f0, (⟨(rd_T69 t625 t629).f1.f0, (rd_T69 t625 t629).f1.f1⟩ : S37), (⟨t643, t644, (⟨t645, t646⟩ : S37), t647⟩ : S46), (rd_T69 t625 t629).f3, (rd_T69 t625 t629).f4⟩ : S69)) (k69_mkF _ _ (⟨(rd_T69 t625 t629).f0, (⟨(rd_T69 t625 t629).f1.f0, (rd_T69 t625 t629).f1.f1⟩ : S37), (⟨t643, t644, (⟨t645, t646⟩ : S37), t647⟩ : S46), (rd_T69 t625 t629).f3, (rd_T69 t625 t629).f4⟩ : S69) (Kd.N_reads' (Kd.N_mono (ok' := (fun k_ => ((fun k_ => (w.heap.size ≤ k_))) k_ ∧ k_ ≠ go35)) (HO649.out) (fun k_ hk => ⟨hk.1, fun e_ => (hk.2.1) (by rw [e_]; rfl)⟩))).2.1 (Kd.N_F (Kd.N_mono (ok' := (fun k_ => ((fun k_ => (w.heap.size ≤ k_))) k_ ∧ k_ ≠ go35)) (HO649.out) (fun k_ hk => ⟨hk.1, fun e_ => (hk.2.1) (by rw [e_]; rfl)⟩))) ul37_8 ge37_8 ul37_9 ge37_9) (fun _ hk => hk); have hx37_3 := hcc37 3 _ rfl; (try simp only [show (k69).sz = 10 from rfl, Nat.mul_one, Nat.add_zero] at hx37_3); have hf37_3 := hfr37 3; (try simp only [show (k69).sz = 10 from rfl, Nat.mul_one, Nat.add_zero] at hf37_3); have hx37_4 := hcc37 4 _ rfl; (try simp only [show (k69).sz = 10 from rfl, Nat.mul_one, Nat.add_zero] at hx37_4); have hf37_4 := hfr37 4; (try simp only [show (k69).sz = 10 from rfl, Nat.mul_one, Nat.add_zero] at hf37_4); have hx37_5 := hcc37 5 _ rfl; (try simp only [show (k69).sz = 10 from rfl, Nat.mul_one, Nat.add_zero] at hx37_5); have hf37_5 := hfr37 5; (try simp only [show (k69).sz = 10 from rfl, Nat.mul_one, Nat.add_zero] at hf37_5); have hx37_6 := hcc37 6 _ rfl; (try simp only [show (k69).sz = 10 from rfl, Nat.mul_one, Nat.add_zero] at hx37_6); have hf37_6 := hfr37 6; (try simp only [show (k69).sz = 10 from rfl, Nat.mul_one, Nat.add_zero] at hf37_6); have hx37_7 := hcc37 7 _ rfl; (try simp only [show (k69).sz = 10 from rfl, Nat.mul_one, Nat.add_zero] at hx37_7); have hf37_7 := hfr37 7; (try simp only [show (k69).sz = 10 from rfl, Nat.mul_one, Nat.add_zero] at hf37_7); clear hcl37 hcc37 hfr37 hM37) | ((with_reducible refine gate_store (t := 46) (p := 42) rfl ?_); refine store_event (t := 46) (p := 42) (v := ?vo_w38) (w1 := (((((w36.setCell ⟨go35, (t629 : Int).toNat * 10 + 3, none⟩ (.int .i64 t643)).setCell ⟨go35, (t629 : Int).toNat * 10 + 4, none⟩ (.int .i64 t644)).setCell ⟨go35, (t629 : Int).toNat * 10 + 5, none⟩ (.int .i64 t645)).setCell ⟨go35, (t629 : Int).toNat * 10 + 6, none⟩ (.int .i64 t646)).setCell ⟨go35, (t629 : Int).toNat * 10 + 7, none⟩ (.slice Ao39 t647.length co39))) ?hg ?ho ?hn ?hr ?_; (case ho => rfl); (case hg => rfl); (case hn => rfl); (case hr => first | (go_simp; done) | (go_simp; rfl)); intro w38 hw; have hg : w36.grownBy w38 (some go35) := (by rw [hw]; exact HP37.2); have hp_ : Kd.N k69 69 w38 w.heap.size (fun k_ => (w.heap.size ≤ k_)) (.slice (some ⟨go35, 0, none⟩) t625.length co5) y651 := (by rw [hw, Ny651.out]; exact HP37.1); clear HP37; have n_ := az (IsS116.grown (mI116_1 HI0.out) hg (IsS116.own_neN HI0.out HO627.out (by decide))) <| az (hp_) <| az ((by rw [hw]; exact below_set (below_set (below_set (below_set (below_set (HB.out) (Nat.le_trans HL.out GB35.out)) (Nat.le_trans HL.out GB35.out)) (Nat.le_trans HL.out GB35.out)) (Nat.le_trans HL.out GB35.out)) (Nat.le_trans HL.out GB35.out) : Below w0.heap.size w0 w38)) <| z0 (KeepBut.trans (mKp HK.out) (KeepBut.of_grown hg g) (Kd.N_base2 HO627.out)); clear HI0 HO627 HB HK HO649; obtain ⟨HI0, HO627, HB, HK⟩ := n_; clear hg hw hp_))
       go_ret
       exact ⟨_, rfx, mN HO627.out, mI116_1 HI0.out, mB116HI0 HB.out, mKp HK.out⟩
      ·rw [if_neg c34] at H
       exact absurd H (by simp)
     ·rw [if_neg c33] at H
      exact absurd H (by simp)
    ·rw [if_neg c31] at H
     have c31b0 : (t631 == 2) = false := beq_eq_false_iff_ne.mpr c31
     have c31b1 : (t631 != 2) = true := bne_iff_ne.mpr c31
     by_cases c40 : t631 = 3
     ·rw [if_pos c40] at H
      have c40b0 : (t631 == 3) = true := beq_iff_eq.mpr c40
      have c40b1 : (t631 != 3) = false := bne_eq_false_iff_eq.mpr c40
      clear c40
      have H' := z0 H
      clear H
      go_wp2
      go_loopg [3, 5] k (fun kq v3 v5 w' => ∃ (x3_1 : List (S69)) (x5_1 : Int) (x1001_1 : Int), v5 = .int .i64 x5_1 ∧ Aside0 (spec_l4Bent.l0 kq x3_1 x5_1 s0_0 x1001_1 = some (r1, r2)) ∧ Aside0 (kq ≤ k) ∧ Aside0 (Kd.N k69 69 w' w.heap.size (fun k_ => (w.heap.size ≤ k_) ∧ k_ ≠ g) v3 x3_1) ∧ Aside0 (IsS116 w0 w' g s0_0 x1001_1) ∧ Aside0 (KeepBut w w' g none) ∧ Aside0 (Below w0.heap.size w0 w'))
      case atStart => exact ⟨(t625), (0), (t632), rfy, H', ⟨Nat.le_refl _⟩, ⟨mN HO627.out⟩, ⟨mI116_1 HI0.out⟩, ⟨mKp HK.out⟩, ⟨mB116HI0 HB.out⟩⟩
      case round =>
       clear H'
       (try clear c4); (try clear c6); (try clear c6b0); (try clear c6b1); (try clear c6b2); (try clear c12); (try clear c12b0); (try clear c12b1); (try clear c14); (try clear c23); (try clear c23b0); (try clear c23b1); (try clear c25); (try clear c31); (try clear c31b0); (try clear c31b1); (try clear c33); (try clear c40); (try clear c40b0); (try clear c40b1)
       obtain ⟨x3_1, x5_1, x1001_1, rfl, HA, HK1, HO_3, HI0, HK, HB⟩ := hrel
       cases gk with
       | zero => exact absurd HA.out (by simp [spec_l4Bent.l0])
       | succ k1 =>
        have H := HA.out
        clear HA
        simp only [spec_l4Bent.l0] at H
        by_cases c41 : x5_1 < 4
        ·rw [if_pos c41] at H
         have c41b0 : decide (x5_1 < 4) = true := decide_eq_true c41
         clear c41
         replace H := Option.bind_eq_some_iff.mp H
         obtain ⟨⟨t652, t653, t654, t655, t656, t659⟩, A420, H⟩ := H
         try dsimp only at H
         have A42 := z0 A420
         clear A420
         obtain ⟨y660, hy660⟩ : ∃ y_ : List (S69), y_ = (([(⟨2, (⟨0, 0⟩ : S37), (⟨t652, t653, (⟨t654, t655⟩ : S37), t656⟩ : S46), x3_1, ([] : List (S69))⟩ : S69)] : List (S69))) := ⟨_, rfl⟩
         replace H : (spec_l4Bent.l0 k1 y660 (wrap64 (x5_1 + 1)) s0_0 t659) = some (r1, r2) := by first | (rw [hy660]; with_reducible exact H) | (have H2_ := (Option.bind_some _ _).symm.trans H; rw [hy660]; with_reducible exact H2_) | (have H2_ := (Option.bind_some _ _).symm.trans H; with_reducible exact H2_) | with_reducible exact H | (rw [hy660]; exact H) | exact H
         have Ny660 := z0 hy660
         clear hy660
         have H' := z0 H
         clear H
         go_wp2_with (first | ((with_reducible refine gate_callee (f := 76) rfl ?_); refine goesL_ (some 50) rfl rfl Try.func76 (by kernel_rfl) rfl #[.pointer (some ⟨g, 0, none⟩), .int .i64 1] rfl argx ?_; (with_reducible refine (spec_l3Expr.calls k1 g s0_0 x1001_1 1 t652 t653 t654 t655 t656 t659 w0 _ ?side1 ?side2 A42.out).mono ?_); (case side1 => exact mI116_1 HI0.out); (case side2 => exact mB116HI0 HB.out); rintro e w43 ⟨v657, rfl, ho0, hi, hb, hk⟩; refine ⟨_, rfl, ?_⟩; have n_ := az (Kd.N_mono (Kd.N_told (Kd.N_oldK (Kd.N_mono (ok := fun k_ => (((w.heap.size ≤ k_)) ∧ k_ ≠ g)) (mN HO_3.out) (fun k_ hk_ => (⟨hk_, hk_.2⟩ : _ ∧ k_ ≠ g))) hk) (by first | exact Kd.N_base ho0 | exact Kd.R_base ho0)) (fun _ h_ => h_.1)) <| az (Kd.N_lower (Kd.N_mono (ok' := fun k_ => (w.heap.size ≤ k_) ∧ nB k_ u3 ∧ k_ ≠ g) (Kd.R_N (Kd.R_bound ho0)) (fun k_ hk_ => ⟨(Nat.le_trans (kS HK.out) hk_.2.1), (Kd.fresh' (Kd.N_lt (mN HO_3.out)) k_ hk_.2.1), (IsS116.fresh (mI116_1 HI0.out) k_ hk_.2.1)⟩)) (kS HK.out)) <| az (KeepBut.trans (mKp HK.out) hk (.inl rfl)) <| az (hb) <| z0 (hi); clear HO_3 HK HB HI0; obtain ⟨HO_3, HO658, HK, HB, HI0⟩ := n_; clear hb hk hi ho0; obtain ⟨Ao44, co44, eo44⟩ := Kd.N_slice HO_3.out; subst eo44; obtain ⟨Ao45, co45, eo45⟩ := Kd.N_slice HO658.out; subst eo45) | ((with_reducible refine gate_dst (N := 53) rfl ?_); refine Kd.N_lit k69 _ 69 ?hg (N' := 53) ?hd (xs := ([(⟨2, (⟨0, 0⟩ : S37), (⟨t652, t653, (⟨t654, t655⟩ : S37), t656⟩ : S46), x3_1, ([] : List (S69))⟩ : S69)] : List (S69))) (inner := [.int .i64 2, .int .i64 0, .int .i64 0, .int .i64 t652, .int .i64 t653, .int .i64 t654, .int .i64 t655, .slice Ao45 t656.length co45, .slice Ao44 x3_1.length co44, .slice none 0 0]) (ok := (fun k_ => (w.heap.size ≤ k_) ∧ k_ ≠ g)) (okp := (fun k_ => (w.heap.size ≤ k_) ∧ k_ ≠ g)) ?hr ?hp (fun _ hk => hk) ((show ∀ k_, w43.heap.size ≤ k_ → (fun k_ => (w.heap.size ≤ k_) ∧ k_ ≠ g) k_ from fun k_ hk => ⟨(Nat.le_trans (kS HK.out) hk), IsS116.fresh (mI116_1 HI0.out) k_ hk⟩) _ (Nat.le_refl _)) (Below.refl _ _) (Nat.le_refl _) (by simp) ?_; (case hd => rfl); (case hg => rfl); (case hr => first | (go_simp; done) | (go_simp; rfl)); (case hp => exact (Reps.c10 (show Kd.FK k69 _ _ (⟨2, (⟨0, 0⟩ : S37), (⟨t652, t653, (⟨t654, t655⟩ : S37), t656⟩ : S46), x3_1, ([] : List (S69))⟩ : S69) [.int .i64 2, .int .i64 0, .int .i64 0, .int .i64 t652, .int .i64 t653, .int .i64 t654, .int .i64 t655, .slice Ao45 t656.length co45, .slice Ao44 x3_1.length co44, .slice none 0 0] from (k69_mkF _ _ (⟨2, (⟨0, 0⟩ : S37), (⟨t652, t653, (⟨t654, t655⟩ : S37), t656⟩ : S46), x3_1, ([] : List (S69))⟩ : S69) (Kd.N_reads' (Kd.N_mono (ok' := (fun k_ => (w.heap.size ≤ k_) ∧ k_ ≠ g)) (HO658.out) (fun k_ hk => ⟨hk.1, hk.2.2⟩))).2.1 (Kd.N_F (Kd.N_mono (ok' := (fun k_ => (w.heap.size ≤ k_) ∧ k_ ≠ g)) (HO658.out) (fun k_ hk => ⟨hk.1, hk.2.2⟩))) (Kd.N_reads' (Kd.N_mono (ok' := (fun k_ => (w.heap.size ≤ k_) ∧ k_ ≠ g)) (HO_3.out) (fun k_ hk => ⟨hk.1.1, hk.1.2⟩))).2.1 (Kd.N_F (Kd.N_mono (ok' := (fun k_ => (w.heap.size ≤ k_) ∧ k_ ≠ g)) (HO_3.out) (fun k_ hk => ⟨hk.1.1, hk.1.2⟩))) (Nat.le_refl _) (Kd.F_nil _ _ _))) (Reps.none _ _))); intro v661 w46 ho47 hb hg_ hnew_; clear hg_ hnew_; (first | rw [← Ny660.out] at ho47 | (simp only [Int.reduceToNat] at ho47; rw [← Ny660.out] at ho47)); have n_ := az (Kd.N_lower ho47 (kS HK.out)) <| az (IsS116.below (mI116_1 HI0.out) hb) <| az (KeepBut.trans (mKp HK.out) (KeepBut.of_below hb g none) (.inl rfl)) <| z0 (below_step (mB116HI0 HB.out) hb); clear HI0 HK HB HO658 HO_3; obtain ⟨HO662, HI0, HK, HB⟩ := n_; clear hb ho47))
         go_roundg k1
         case measure => have := HK1.out; omega
         case rel => exact ⟨(y660), (wrap64 (x5_1 + 1)), (t659), rfy, H', ⟨by have := HK1.out; omega⟩, ⟨mN HO662.out⟩, ⟨mI116_1 HI0.out⟩, ⟨mKp HK.out⟩, ⟨mB116HI0 HB.out⟩⟩
        ·rw [if_neg c41] at H
         have c41b0 : decide (x5_1 < 4) = false := decide_eq_false c41
         clear c41
         simp only [Option.some.injEq, Prod.mk.injEq] at H
         obtain ⟨rfl, rfl⟩ := H
         go_wp2
         go_ret
         exact ⟨_, rfx, by (with_reducible repeat (first | apply Kd.N_alloc | apply Kd.N_drewN | apply Kd.N_drew)); exact Kd.N_mono HO_3.out (fun _ hk => hk.1), mI116_1 HI0.out, mB116HI0 HB.out, mKp HK.out⟩
     ·rw [if_neg c40] at H
      have c40b0 : (t631 == 3) = false := beq_eq_false_iff_ne.mpr c40
      have c40b1 : (t631 != 3) = true := bne_iff_ne.mpr c40
      by_cases c48 : t631 = 4
      ·rw [if_pos c48] at H
       have c48b0 : (t631 == 4) = true := beq_iff_eq.mpr c48
       have c48b1 : (t631 != 4) = false := bne_eq_false_iff_eq.mpr c48
       clear c48
       have H' := z0 H
       clear H
       go_wp2
       go_loopg [3] k (fun kq v3 w' => ∃ (x3_1 : List (S69)) (x1001_1 : Int), Aside0 (spec_l4Bent.l1 kq x3_1 s0_0 x1001_1 = some (r1, r2)) ∧ Aside0 (kq ≤ k) ∧ Aside0 (Kd.N k69 69 w' w.heap.size (fun k_ => (w.heap.size ≤ k_) ∧ k_ ≠ g) v3 x3_1) ∧ Aside0 (IsS116 w0 w' g s0_0 x1001_1) ∧ Aside0 (KeepBut w w' g none) ∧ Aside0 (Below w0.heap.size w0 w'))
       case atStart => exact ⟨(t625), (t632), H', ⟨Nat.le_refl _⟩, ⟨mN HO627.out⟩, ⟨mI116_1 HI0.out⟩, ⟨mKp HK.out⟩, ⟨mB116HI0 HB.out⟩⟩
       case round =>
        clear H'
        (try clear c4); (try clear c6); (try clear c6b0); (try clear c6b1); (try clear c6b2); (try clear c12); (try clear c12b0); (try clear c12b1); (try clear c14); (try clear c23); (try clear c23b0); (try clear c23b1); (try clear c25); (try clear c31); (try clear c31b0); (try clear c31b1); (try clear c33); (try clear c40); (try clear c40b0); (try clear c40b1); (try clear c48); (try clear c48b0); (try clear c48b1)
        obtain ⟨x3_1, x1001_1, HA, HK1, HO_3, HI0, HK, HB⟩ := hrel
        cases gk with
        | zero => exact absurd HA.out (by simp [spec_l4Bent.l1])
        | succ k1 =>
         have H := HA.out
         clear HA
         simp only [spec_l4Bent.l1] at H
         by_cases c49 : (x3_1.length : Int) ≤ 16
         ·rw [if_pos c49] at H
          have c49b0 : decide ((x3_1.length : Int) ≤ 16) = true := decide_eq_true c49
          have c49b1 : decide (x3_1.length ≤ 16) = true := decide_eq_true (by omega)
          clear c49
          replace H := Option.bind_eq_some_iff.mp H
          obtain ⟨⟨t663, t664, t665⟩, A500, H⟩ := H
          try dsimp only at H
          have A50 := z0 A500
          clear A500
          replace H := Option.bind_eq_some_iff.mp H
          obtain ⟨⟨t666, t667, t668, t669, t670, t673⟩, A510, H⟩ := H
          try dsimp only at H
          have A51 := z0 A510
          clear A510
          by_cases c52 : x3_1.length < 1099511627776
          ·rw [if_pos c52] at H
           have LMc52 := z0 c52
           clear c52
           obtain ⟨y674, hy674⟩ : ∃ y_ : List (S69), y_ = (x3_1 ++ [(⟨1, (⟨t663, t664⟩ : S37), (⟨t666, t667, (⟨t668, t669⟩ : S37), t670⟩ : S46), ([] : List (S69)), ([] : List (S69))⟩ : S69)]) := ⟨_, rfl⟩
           replace H : (spec_l4Bent.l1 k1 y674 s0_0 t673) = some (r1, r2) := by first | (rw [hy674]; with_reducible exact H) | (have H2_ := (Option.bind_some _ _).symm.trans H; rw [hy674]; with_reducible exact H2_) | (have H2_ := (Option.bind_some _ _).symm.trans H; with_reducible exact H2_) | with_reducible exact H | (rw [hy674]; exact H) | exact H
           have Ny674 := z0 hy674
           clear hy674
           have H' := z0 H
           clear H
           obtain ⟨Ao53, co53, eo53⟩ := Kd.N_slice HO_3.out
           subst eo53
           go_wp2_with (first | ((with_reducible refine gate_callee (f := 77) rfl ?_); refine goesL_ (some 61) rfl rfl Try.func77 (by kernel_rfl) rfl #[.pointer (some ⟨g, 0, none⟩)] rfl argx ?_; (with_reducible refine (spec_l2To.calls k1 g s0_0 x1001_1 t663 t664 t665 w0 _ ?side1 ?side2 A50.out).mono ?_); (case side1 => exact mI116_1 HI0.out); (case side2 => exact mB116HI0 HB.out); rintro e w54 ⟨rfl, hi, hb, hk⟩; refine ⟨_, rfl, ?_⟩; have n_ := az (Kd.N_mono (Kd.N_keep (Kd.N_mono (ok := fun k_ => (((w.heap.size ≤ k_)) ∧ k_ ≠ g)) (mN HO_3.out) (fun k_ hk_ => (⟨hk_, hk_.2⟩ : _ ∧ k_ ≠ g))) hk (fun _ h => h.2)) (fun _ h => h.1)) <| az (KeepBut.trans (mKp HK.out) hk (.inl rfl)) <| az (hb) <| z0 (hi); clear HO_3 HK HB HI0; obtain ⟨HO_3, HK, HB, HI0⟩ := n_; clear hb hk hi) | ((with_reducible refine gate_callee (f := 76) rfl ?_); refine goesL_ (some 63) rfl rfl Try.func76 (by kernel_rfl) rfl #[.pointer (some ⟨g, 0, none⟩), .int .i64 1] rfl argx ?_; (with_reducible refine (spec_l3Expr.calls k1 g s0_0 t665 1 t666 t667 t668 t669 t670 t673 w0 _ ?side1 ?side2 A51.out).mono ?_); (case side1 => exact mI116_1 HI0.out); (case side2 => exact mB116HI0 HB.out); rintro e w55 ⟨v671, rfl, ho0, hi, hb, hk⟩; refine ⟨_, rfl, ?_⟩; have n_ := az (Kd.N_mono (Kd.N_told (Kd.N_oldK (Kd.N_mono (ok := fun k_ => (((w.heap.size ≤ k_)) ∧ k_ ≠ g)) (mN HO_3.out) (fun k_ hk_ => (⟨hk_, hk_.2⟩ : _ ∧ k_ ≠ g))) hk) (by first | exact Kd.N_base ho0 | exact Kd.R_base ho0)) (fun _ h_ => h_.1)) <| az (Kd.N_lower (Kd.N_mono (ok' := fun k_ => (w.heap.size ≤ k_) ∧ nB k_ (.slice Ao53 x3_1.length co53) ∧ k_ ≠ g) (Kd.R_N (Kd.R_bound ho0)) (fun k_ hk_ => ⟨(Nat.le_trans (kS HK.out) hk_.2.1), (Kd.fresh' (Kd.N_lt (mN HO_3.out)) k_ hk_.2.1), (IsS116.fresh (mI116_1 HI0.out) k_ hk_.2.1)⟩)) (kS HK.out)) <| az (KeepBut.trans (mKp HK.out) hk (.inl rfl)) <| az (hb) <| z0 (hi); clear HO_3 HK HB HI0; obtain ⟨HO_3, HO672, HK, HB, HI0⟩ := n_; clear hb hk hi ho0; obtain ⟨Ao56, co56, eo56⟩ := Kd.N_slice HO672.out; subst eo56) | ((with_reducible refine gate_builtin (b := .append) (xs := #[.tmp 59, .tmp 65]) rfl ?_); at_builtin; refine Kd.N_append k69 w.heap.size rfl (.tmp 59) (.tmp 65) 26 69 (.agg #[(.int .i64 0), (.int .i64 0), (.int .i64 0), (.int .i64 0), (.int .i64 0), (.int .i64 0), (.int .i64 0), (.slice none 0 0), (.slice none 0 0), (.slice none 0 0)]) 128 rfl Try.underlying26 info69 rfl (by decide) (by omega) (.slice Ao53 x3_1.length co53) x3_1 (⟨1, (⟨t663, t664⟩ : S37), (⟨t666, t667, (⟨t668, t669⟩ : S37), t670⟩ : S46), ([] : List (S69)), ([] : List (S69))⟩ : S69) [.int .i64 1, .int .i64 t663, .int .i64 t664, .int .i64 t666, .int .i64 t667, .int .i64 t668, .int .i64 t669, .slice Ao56 t670.length co56, .slice none 0 0, .slice none 0 0] (fun k_ => (w.heap.size ≤ k_) ∧ k_ ≠ g) (fun k_ => ((fun k_ => (w.heap.size ≤ k_) ∧ k_ ≠ g)) k_ ∧ nB k_ (.slice Ao53 x3_1.length co53)) rfl rfl ?aP (fun _ hk => hk) ?aF ?aO (Below.refl _ _) ?aS ?aL ?_; (case aP => exact (k69_mkF _ _ (⟨1, (⟨t663, t664⟩ : S37), (⟨t666, t667, (⟨t668, t669⟩ : S37), t670⟩ : S46), ([] : List (S69)), ([] : List (S69))⟩ : S69) (Kd.N_reads' (Kd.N_mono (ok' := (fun k_ => ((fun k_ => (w.heap.size ≤ k_) ∧ k_ ≠ g)) k_ ∧ nB k_ (.slice Ao53 x3_1.length co53))) (HO672.out) (fun k_ hk => ⟨⟨hk.1, hk.2.2⟩, hk.2.1⟩))).2.1 (Kd.N_F (Kd.N_mono (ok' := (fun k_ => ((fun k_ => (w.heap.size ≤ k_) ∧ k_ ≠ g)) k_ ∧ nB k_ (.slice Ao53 x3_1.length co53))) (HO672.out) (fun k_ hk => ⟨⟨hk.1, hk.2.2⟩, hk.2.1⟩))) (Nat.le_refl _) (Kd.F_nil _ _ _) (Nat.le_refl _) (Kd.F_nil _ _ _))); (case aF => exact (fun k_ hk => ⟨(Nat.le_trans (kS HK.out) hk), IsS116.fresh (mI116_1 HI0.out) k_ hk⟩)); (case aO => exact (by (with_reducible repeat (first | apply Kd.N_alloc | apply Kd.N_drewN | apply Kd.N_drew)); exact Kd.N_mono HO_3.out (fun _ hk => ⟨hk.1.1, hk.1.2⟩))); (case aS => exact (kS HK.out)); (case aL => have := LMc52.out; omega); intro v675 w57 ho hb hg hat; rw [← Ny674.out] at ho; have n_ := az (IsS116.grown (mI116_1 HI0.out) hg (IsS116.own_neN HI0.out HO_3.out (by decide))) <| az (below_weaken (mB116HI0 HB.out) HL.out hb) <| az (KeepBut.trans (mKp HK.out) (KeepBut.of_grown hg g) (Kd.N_base2 HO_3.out)) <| z0 (ho); clear HI0 HB HK HO_3 HO672; obtain ⟨HI0, HB, HK, HO676⟩ := n_; clear ho hb hg hat))
           go_roundg k1
           case measure => have := HK1.out; omega
           case rel => exact ⟨(y674), (t673), H', ⟨by have := HK1.out; omega⟩, ⟨mN HO676.out⟩, ⟨mI116_1 HI0.out⟩, ⟨mKp HK.out⟩, ⟨mB116HI0 HB.out⟩⟩
          ·rw [if_neg c52] at H
           exact absurd H (by simp)
         ·rw [if_neg c49] at H
          have c49b0 : decide ((x3_1.length : Int) ≤ 16) = false := decide_eq_false c49
          have c49b1 : decide (x3_1.length ≤ 16) = false := decide_eq_false (by omega)
          clear c49
          simp only [Option.some.injEq, Prod.mk.injEq] at H
          obtain ⟨rfl, rfl⟩ := H
          obtain ⟨Ao58, co58, eo58⟩ := Kd.N_slice HO_3.out
          subst eo58
          go_wp2
          go_ret
          exact ⟨_, rfx, by (with_reducible repeat (first | apply Kd.N_alloc | apply Kd.N_drewN | apply Kd.N_drew)); exact Kd.N_mono HO_3.out (fun _ hk => hk.1), mI116_1 HI0.out, mB116HI0 HB.out, mKp HK.out⟩
      ·rw [if_neg c48] at H
       have c48b0 : (t631 == 4) = false := beq_eq_false_iff_ne.mpr c48
       have c48b1 : (t631 != 4) = true := bne_iff_ne.mpr c48
       simp only [Option.some.injEq, Prod.mk.injEq] at H
       obtain ⟨rfl, rfl⟩ := H
       go_wp2
       go_ret
       exact ⟨_, rfx, by (with_reducible repeat (first | apply Kd.N_alloc | apply Kd.N_drewN | apply Kd.N_drew)); exact Kd.N_mono HO627.out (fun _ hk => hk.1), mI116_1 HI0.out, mB116HI0 HB.out, mKp HK.out⟩

/-! ### spec_l12Open: function 42 -/
def spec_l12Open.f (l0 : List Int) : Option (List Int × Int) := if (l0.length : Int) > 2000 then (if 2000 ≤ (l0.length : Int) then (some (l0.take 2000, 0)) else (none)) else (some (l0, 0))
set_option maxHeartbeats 8000000 in
set_option maxRecDepth 100000 in
theorem spec_l12Open.calls (A0 : Option Addr) (c0 : Nat) (l0 : List Int) (r1 : List Int) (r2 : Int) (w0 w : World) (hB : Below w0.heap.size w0 w) (hr0 : Kd.C (Kd.int .u8) w0 A0 l0.length l0) (hc0 : l0.length ≤ c0) (h : spec_l12Open.f l0 = some (r1, r2)) :
  Calls Try.prog 42 #[.slice A0 l0.length c0] w fun e w' => ∃ g_ : Nat, e = .returned (.pointer (some ⟨g_, 0, none⟩)) ∧ IsS116 w0 w' g_ r1 r2 ∧ Below w0.heap.size w0 w' ∧ Below w.heap.size w w' := by
 have hu116 := Try.underlying116
 have HR0 := z0 hr0
 have HC0 := z0 hc0
 clear hr0 hc0
 have HBW := z0 (Below.refl w.heap.size w)
 have HW0 := z0 hB.size
 have HB := z0 hB
 clear hB
 have H : (if (l0.length : Int) > 2000 then (if 2000 ≤ (l0.length : Int) then (some (l0.take 2000, 0)) else (none)) else (some (l0, 0))) = some (r1, r2) := h
 clear h
 by_cases c2 : (l0.length : Int) > 2000
 ·rw [if_pos c2] at H
  have c2b0 : decide (2000 < (l0.length : Int)) = true := decide_eq_true c2
  have c2b1 : decide (2000 < l0.length) = true := decide_eq_true (by omega)
  clear c2
  by_cases c3 : 2000 ≤ (l0.length : Int)
  ·rw [if_pos c3] at H
   have c3b0 := eq_true c3
   have c3b1 : decide (2000 ≤ (l0.length : Int)) = true := decide_eq_true c3
   clear c3
   simp only [Option.some.injEq, Prod.mk.injEq] at H
   obtain ⟨rfl, rfl⟩ := H
   obtain ⟨i04, hi04, _, hsz4, _⟩ := info_parts info5
   obtain ⟨hcut4, hA4, hC4⟩ := print_take_of (P := Try.prog) (Value.int .u8) 0 33 5 .i64 Try.underlying33 hi04 hsz4 A0 c0 l0 2000 (by omega) (of_decide_eq_true (by first | (with_reducible assumption) | assumption)) HC0.out
   have HR677 := z0 (Kd.C_of_reads (h1 := fun _ => rfl) (hA4 _ (Kd.reads_of_C HR0.out)))
   have HC677 := z0 hC4
   clear hA4 hC4 hi04 hsz4
   go_enter Try.func42, Try.ntmps42
   go_wp2_with (first | ((with_reducible refine gate_dst (N := 10) rfl ?_); refine box_event ?hg (N := 10) ?hd (cs := #[.slice A0 (l0.take 2000).length c0, .int .i64 0]) (t := 116) ?hr ?_; (case hd => rfl); (case hg => rfl); (case hr => first | (go_simp; done) | (go_simp; rfl)); intro gb678 hg w5 hbox hb; have n_ := az (below_step HBW.out hb) <| az (below_step (mB HB.out) hb) <| az (hbox) <| az ((by rw [hg]; exact (below_size (mB HBW.out)) : w.heap.size ≤ gb678)) <| z0 ((Nat.le_trans HW0.out (by rw [hg]; exact (below_size (mB HBW.out)) : w.heap.size ≤ gb678) : w0.heap.size ≤ gb678)); clear HBW HB; obtain ⟨HBW, HB, BK678, GW678, GE678⟩ := n_; clear hb hbox hg))
   go_ret
   exact ⟨_, rfl, (show IsS116 w0 _ gb678 (l0.take 2000) 0 from ⟨_, _, mK BK678.out, GE678.out, HR677.out⟩), mB HB.out, mB HBW.out⟩
  ·rw [if_neg c3] at H
   exact absurd H (by simp)
 ·rw [if_neg c2] at H
  have c2b0 : decide (2000 < (l0.length : Int)) = false := decide_eq_false c2
  have c2b1 : decide (2000 < l0.length) = false := decide_eq_false (by omega)
  clear c2
  simp only [Option.some.injEq, Prod.mk.injEq] at H
  obtain ⟨rfl, rfl⟩ := H
  go_enter Try.func42, Try.ntmps42
  go_wp2_with (first | ((with_reducible refine gate_dst (N := 10) rfl ?_); refine box_event ?hg (N := 10) ?hd (cs := #[.slice A0 l0.length c0, .int .i64 0]) (t := 116) ?hr ?_; (case hd => rfl); (case hg => rfl); (case hr => first | (go_simp; done) | (go_simp; rfl)); intro gb679 hg w6 hbox hb; have n_ := az (below_step HBW.out hb) <| az (below_step (mB HB.out) hb) <| az (hbox) <| az ((by rw [hg]; exact (below_size (mB HBW.out)) : w.heap.size ≤ gb679)) <| z0 ((Nat.le_trans HW0.out (by rw [hg]; exact (below_size (mB HBW.out)) : w.heap.size ≤ gb679) : w0.heap.size ≤ gb679)); clear HBW HB; obtain ⟨HBW, HB, BK679, GW679, GE679⟩ := n_; clear hb hbox hg))
  go_ret
  exact ⟨_, rfl, (show IsS116 w0 _ gb679 l0 0 from ⟨_, _, mK BK679.out, GE679.out, HR0.out⟩), mB HB.out, mB HBW.out⟩

/-! ### spec_DrawCodeOf: function 17 -/
def spec_DrawCodeOf.f (k : Nat) (l0 : List Int) : Option ((List (S69))) := (spec_l12Open.f l0).bind fun bt680 => ((spec_l4Bent.f k bt680.1 bt680.2).bind fun bt683 => (some bt683.1))
set_option maxHeartbeats 8000000 in
set_option maxRecDepth 100000 in
theorem spec_DrawCodeOf.calls (k : Nat) (A0 : Option Addr) (c0 : Nat) (l0 : List Int) (r : List (S69)) (w : World) (hr0 : Kd.C (Kd.int .u8) w A0 l0.length l0) (hc0 : l0.length ≤ c0) (h : spec_DrawCodeOf.f k l0 = some r) :
  Calls Try.prog 17 #[.slice A0 l0.length c0] w fun e w' => ∃ v0_ : Value, e = .returned (v0_) ∧ Kd.N k69 69 w' w.heap.size (fun k_ => (w.heap.size ≤ k_)) v0_ r ∧ Below w.heap.size w w' := by
 have HR0 := z0 hr0
 have HC0 := z0 hc0
 clear hr0 hc0
 have HB := z0 (Below.refl w.heap.size w)
 have H : ((spec_l12Open.f l0).bind fun bt680 => ((spec_l4Bent.f k bt680.1 bt680.2).bind fun bt683 => (some bt683.1))) = some r := h
 clear h
 replace H := Option.bind_eq_some_iff.mp H
 obtain ⟨⟨t680, t681⟩, A20, H⟩ := H
 try dsimp only at H
 have A2 := z0 A20
 clear A20
 replace H := Option.bind_eq_some_iff.mp H
 obtain ⟨⟨t683, t686⟩, A30, H⟩ := H
 try dsimp only at H
 have A3 := z0 A30
 clear A30
 obtain rfl := Option.some.inj H
 go_enter Try.func17, Try.ntmps17
 go_wp2_with (first | ((with_reducible refine gate_callee (f := 42) rfl ?_); refine goesL_ (some 4) rfl rfl Try.func42 (by kernel_rfl) rfl #[.slice A0 l0.length c0] rfl argx ?_; (with_reducible refine (spec_l12Open.calls _ _ l0 t680 t681 w _ ?side1 ?side2 ?side3 A2.out).mono ?_); (case side1 => exact mB HB.out); (case side2 => exact HR0.out); (case side3 => exact HC0.out); rintro e w4 ⟨g682, rfl, hi, hb, hb2⟩; refine ⟨_, rfl, ?_⟩; have n_ := az (hb) <| z0 (hi); clear HB; obtain ⟨HB, HI682⟩ := n_; clear hb hb2 hi) | ((with_reducible refine gate_callee (f := 41) rfl ?_); refine goesL_ (some 5) rfl rfl Try.func41 (by kernel_rfl) rfl #[.pointer (some ⟨g682, 0, none⟩)] rfl argx ?_; (with_reducible refine (spec_l4Bent.calls k g682 t680 t681 t683 t686 w _ ?side1 ?side2 A3.out).mono ?_); (case side1 => exact mI116_1 HI682.out); (case side2 => exact mB116HI682 HB.out); rintro e w5 ⟨v684, rfl, ho0, hi, hb, hk⟩; refine ⟨_, rfl, ?_⟩; have n_ := az (Kd.N_lower (Kd.N_mono (ok' := fun k_ => (w.heap.size ≤ k_) ∧ k_ ≠ g682) ho0 (fun k_ hk_ => ⟨(Nat.le_trans (below_size (mB116HI682 HB.out)) hk_), (IsS116.fresh (mI116_1 HI682.out) k_ hk_)⟩)) (below_size (mB116HI682 HB.out))) <| az (hb) <| z0 (hi); clear HB HI682; obtain ⟨HO685, HB, HI682⟩ := n_; clear hb hk hi ho0))
 go_ret
 exact ⟨_, rfx, by (with_reducible repeat (first | apply Kd.N_alloc | apply Kd.N_drewN | apply Kd.N_drew)); exact Kd.N_mono HO685.out (fun _ hk => hk.1), mB116HI682 HB.out⟩

end Go.Proofs.Ytddnijmgipffeaa.B
namespace Go.Proofs.Ytddnijmgipffeaa.B
open Go.RowKit Go.Proofs.YtddnijmgipffeaaW.PrintWords Go.Proofs.YtddnijmgipffeaaW.PrintLast Go.Proofs.YtddnijmgipffeaaW.PrintMore
attribute [local go_sem] max2_int min2_int max_two min_two max_three min_three max_four min_four   -- for this text's walks alone
set_option linter.unusedVariables false
set_option linter.unusedSimpArgs false

attribute [local go_sem high] eqA39
/-! ### impl_Ins: function 43 -/
def impl_Ins.l0 : Nat → List (S39) → List (S39) → Int → Int → Option (Bool)
 | 0, _, _, _, _ => none
 | k + 1, x0, x1, x12, x13 => if x13 < x12 then (if 0 ≤ x13 then (if x13 < (x0.length : Int) then (if x13 < (x1.length : Int) then (if (!(((rd_T39 x0 x13).f0) == ((rd_T39 x1 x13).f0)) || (!(((rd_T39 x0 x13).f1) == ((rd_T39 x1 x13).f1)) || ((!(((rd_T39 x0 x13).f2.f0) == ((rd_T39 x1 x13).f2.f0)) || (!(((rd_T39 x0 x13).f2.f1) == ((rd_T39 x1 x13).f2.f1))))))) = true then (some false) else (impl_Ins.l0 k x0 x1 x12 (wrap64 (x13 + 1)))) else (none)) else (none)) else (none)) else (some true)
def impl_Ins.f (k : Nat) (l0 : List (S39)) (l1 : List (S39)) : Option (Bool) := if (l0.length : Int) = (l1.length : Int) then (impl_Ins.l0 k l0 l1 (l0.length : Int) 0) else (some false)
set_option maxHeartbeats 8000000 in
set_option maxRecDepth 100000 in
theorem impl_Ins.calls (k : Nat) (A0 : Option Addr) (c0 : Nat) (l0 : List (S39)) (A1 : Option Addr) (c1 : Nat) (l1 : List (S39)) (r : Bool) (w : World) (hr0 : Kd.C k39 w A0 l0.length l0) (hc0 : l0.length ≤ c0) (hr1 : Kd.C k39 w A1 l1.length l1) (hc1 : l1.length ≤ c1) (h : impl_Ins.f k l0 l1 = some r) :
  Calls Try.prog 43 #[.slice A0 l0.length c0, .slice A1 l1.length c1] w fun e w' => e = .returned (.bool r) ∧ Drawn0 w w' := by
 have hu39 := Try.underlying39
 have HR0 := z0 hr0
 have HC0 := z0 hc0
 clear hr0 hc0
 have HR1 := z0 hr1
 have HC1 := z0 hc1
 clear hr1 hc1
 have H : (if (l0.length : Int) = (l1.length : Int) then (impl_Ins.l0 k l0 l1 (l0.length : Int) 0) else (some false)) = some r := h
 clear h
 by_cases c3 : (l0.length : Int) = (l1.length : Int)
 ·rw [if_pos c3] at H
  have c3b0 : ((l0.length : Int) == (l1.length : Int)) = true := beq_iff_eq.mpr c3
  have c3b1 : ((l0.length : Int) != (l1.length : Int)) = false := bne_eq_false_iff_eq.mpr c3
  have c3b2 : (l0.length == l1.length) = true := by first | simpa using c3 | (simp at c3 ⊢; omega)
  clear c3
  have H' := z0 H
  clear H
  go_enter Try.func43, Try.ntmps43
  go_wp2
  repeat (go_quiet (fail); try go_wp2)
  go_loopg [13] k (fun kq v13 w' => ∃ (x13_1 : Int), v13 = .int .i64 x13_1 ∧ Aside0 (impl_Ins.l0 kq l0 l1 (l0.length : Int) x13_1 = some r) ∧ Aside0 (kq ≤ k) ∧ Drawn0 w w')
  case atStart => exact ⟨(0), rfy, H', ⟨Nat.le_refl _⟩, by repeat (first | exact Drawn0.refl _ | apply Drawn0.step)⟩
  case round =>
   clear H'
   (try clear c1); (try clear c3); (try clear c3b0); (try clear c3b1); (try clear c3b2)
   obtain ⟨x13_1, rfl, HA, HK1, ⟨m1, rfl⟩⟩ := hrel
   cases gk with
   | zero => exact absurd HA.out (by simp [impl_Ins.l0])
   | succ k1 =>
    have H := HA.out
    clear HA
    simp only [impl_Ins.l0] at H
    by_cases c4 : x13_1 < (l0.length : Int)
    ·rw [if_pos c4] at H
     have c4b0 : decide (x13_1 < (l0.length : Int)) = true := decide_eq_true c4
     clear c4
     by_cases c5 : 0 ≤ x13_1
     ·rw [if_pos c5] at H
      have c5b0 : decide (0 ≤ x13_1) = true := decide_eq_true c5
      clear c5
      by_cases c6 : x13_1 < (l0.length : Int)
      ·rw [if_pos c6] at H
       have c6b0 : decide (x13_1 < (l0.length : Int)) = true := decide_eq_true c6
       clear c6
       by_cases c7 : x13_1 < (l1.length : Int)
       ·rw [if_pos c7] at H
        have c7b0 : decide (x13_1 < (l1.length : Int)) = true := decide_eq_true c7
        clear c7
        by_cases c8 : (!(((rd_T39 l0 x13_1).f0) == ((rd_T39 l1 x13_1).f0)) || (!(((rd_T39 l0 x13_1).f1) == ((rd_T39 l1 x13_1).f1)) || ((!(((rd_T39 l0 x13_1).f2.f0) == ((rd_T39 l1 x13_1).f2.f0)) || (!(((rd_T39 l0 x13_1).f2.f1) == ((rd_T39 l1 x13_1).f2.f1))))))) = true
        ·rw [if_pos c8] at H
         have c8b0 : (!(((rd_T39 l0 x13_1).f0) == ((rd_T39 l1 x13_1).f0)) || (!(((rd_T39 l0 x13_1).f1) == ((rd_T39 l1 x13_1).f1)) || ((!(((rd_T39 l0 x13_1).f2.f0) == ((rd_T39 l1 x13_1).f2.f0)) || (!(((rd_T39 l0 x13_1).f2.f1) == ((rd_T39 l1 x13_1).f2.f1))))))) = true := c8
         clear c8
         obtain rfl := Option.some.inj H
         have p687 : 0 ≤ (x13_1 : Int) := of_decide_eq_true (by first | (with_reducible assumption) | assumption)
         have q687 : x13_1 < (l0.length : Int) := of_decide_eq_true (by first | (with_reducible assumption) | assumption)
         obtain ⟨ad687, e687, hx687_0, hx687_1, hx687_2, hx687_3⟩ := at_T39 HR0.out x13_1 p687 q687
         cases e687
         replace p687 := eq_true p687
         replace q687 := eq_true q687
         have p688 : 0 ≤ (x13_1 : Int) := of_decide_eq_true (by first | (with_reducible assumption) | assumption)
         have q688 : x13_1 < (l1.length : Int) := of_decide_eq_true (by first | (with_reducible assumption) | assumption)
         obtain ⟨ad688, e688, hx688_0, hx688_1, hx688_2, hx688_3⟩ := at_T39 HR1.out x13_1 p688 q688
         cases e688
         replace p688 := eq_true p688
         replace q688 := eq_true q688
         go_wp2
         repeat (go_quiet (fail); try go_wp2)
         go_ret
         exact ⟨by first | rfl | (simp; done) | (simp [*]; done), by repeat (first | exact Drawn0.refl _ | apply Drawn0.step)⟩
        ·rw [if_neg c8] at H
         have c8b0 : (!(((rd_T39 l0 x13_1).f0) == ((rd_T39 l1 x13_1).f0)) || (!(((rd_T39 l0 x13_1).f1) == ((rd_T39 l1 x13_1).f1)) || ((!(((rd_T39 l0 x13_1).f2.f0) == ((rd_T39 l1 x13_1).f2.f0)) || (!(((rd_T39 l0 x13_1).f2.f1) == ((rd_T39 l1 x13_1).f2.f1))))))) = false := by simpa using c8
         clear c8
         have H' := z0 H
         clear H
         have p687 : 0 ≤ (x13_1 : Int) := of_decide_eq_true (by first | (with_reducible assumption) | assumption)
         have q687 : x13_1 < (l0.length : Int) := of_decide_eq_true (by first | (with_reducible assumption) | assumption)
         obtain ⟨ad687, e687, hx687_0, hx687_1, hx687_2, hx687_3⟩ := at_T39 HR0.out x13_1 p687 q687
         cases e687
         replace p687 := eq_true p687
         replace q687 := eq_true q687
         have p688 : 0 ≤ (x13_1 : Int) := of_decide_eq_true (by first | (with_reducible assumption) | assumption)
         have q688 : x13_1 < (l1.length : Int) := of_decide_eq_true (by first | (with_reducible assumption) | assumption)
         obtain ⟨ad688, e688, hx688_0, hx688_1, hx688_2, hx688_3⟩ := at_T39 HR1.out x13_1 p688 q688
         cases e688
         replace p688 := eq_true p688
         replace q688 := eq_true q688
         go_wp2
         repeat (go_quiet (fail); try go_wp2)
         go_roundg k1
         case measure => have := HK1.out; omega
         case rel => exact ⟨(wrap64 (x13_1 + 1)), rfy, H', ⟨by have := HK1.out; omega⟩, by repeat (first | exact Drawn0.refl _ | apply Drawn0.step)⟩
       ·rw [if_neg c7] at H
        exact absurd H (by simp)
      ·rw [if_neg c6] at H
       exact absurd H (by simp)
     ·rw [if_neg c5] at H
      exact absurd H (by simp)
    ·rw [if_neg c4] at H
     have c4b0 : decide (x13_1 < (l0.length : Int)) = false := decide_eq_false c4
     clear c4
     obtain rfl := Option.some.inj H
     go_wp2
     repeat (go_quiet (fail); try go_wp2)
     go_ret
     exact ⟨by first | rfl | (simp; done) | (simp [*]; done), by repeat (first | exact Drawn0.refl _ | apply Drawn0.step)⟩
 ·rw [if_neg c3] at H
  have c3b0 : ((l0.length : Int) == (l1.length : Int)) = false := beq_eq_false_iff_ne.mpr c3
  have c3b1 : ((l0.length : Int) != (l1.length : Int)) = true := bne_iff_ne.mpr c3
  have c3b2 : (l0.length == l1.length) = false := by first | simpa using c3 | (simp at c3 ⊢; omega)
  obtain rfl := Option.some.inj H
  go_enter Try.func43, Try.ntmps43
  go_wp2
  repeat (go_quiet (fail); try go_wp2)
  go_ret
  exact ⟨by first | rfl | (simp; done) | (simp [*]; done), by repeat (first | exact Drawn0.refl _ | apply Drawn0.step)⟩

end Go.Proofs.Ytddnijmgipffeaa.B
namespace Go.Proofs.Ytddnijmgipffeaa.B
open Go.RowKit Go.Proofs.YtddnijmgipffeaaW.PrintWords Go.Proofs.YtddnijmgipffeaaW.PrintLast Go.Proofs.YtddnijmgipffeaaW.PrintMore
attribute [local go_sem] max2_int min2_int max_two min_two max_three min_three max_four min_four   -- for this text's walks alone
set_option linter.unusedVariables false
set_option linter.unusedSimpArgs false

/-! ### impl_CodeSame: function 18 -/
def impl_CodeSame.f (k : Nat) (l0 : List (S39)) (l1 : List (S39)) : Option (Bool) := (impl_Ins.f k l0 l1).bind fun t689 => (some t689)
set_option maxHeartbeats 8000000 in
set_option maxRecDepth 100000 in
theorem impl_CodeSame.calls (k : Nat) (A0 : Option Addr) (c0 : Nat) (l0 : List (S39)) (A1 : Option Addr) (c1 : Nat) (l1 : List (S39)) (r : Bool) (w : World) (hr0 : Kd.C k39 w A0 l0.length l0) (hc0 : l0.length ≤ c0) (hr1 : Kd.C k39 w A1 l1.length l1) (hc1 : l1.length ≤ c1) (h : impl_CodeSame.f k l0 l1 = some r) :
  Calls Try.prog 18 #[.slice A0 l0.length c0, .slice A1 l1.length c1] w fun e w' => e = .returned (.bool r) ∧ Drawn0 w w' := by
 have HR0 := z0 hr0
 have HC0 := z0 hc0
 clear hr0 hc0
 have HR1 := z0 hr1
 have HC1 := z0 hc1
 clear hr1 hc1
 have H : ((impl_Ins.f k l0 l1).bind fun t689 => (some t689)) = some r := h
 clear h
 replace H := Option.bind_eq_some_iff.mp H
 obtain ⟨t689, A30, H⟩ := H
 try dsimp only at H
 have A3 := z0 A30
 clear A30
 obtain rfl := Option.some.inj H
 go_enter Try.func18, Try.ntmps18
 go_wp2_with (first | ((with_reducible refine gate_callee (f := 43) rfl ?_); refine goesL_ (some 7) rfl rfl Try.func43 (by kernel_rfl) rfl #[.slice A0 l0.length c0, .slice A1 l1.length c1] rfl argx ?_; (with_reducible refine (impl_Ins.calls k _ _ l0 _ _ l1 t689 _ ?side1 ?side2 ?side3 ?side4 A3.out).mono ?_); (case side1 => exact mC HR0.out); (case side2 => exact HC0.out); (case side3 => exact mC HR1.out); (case side4 => exact HC1.out); rintro e w' ⟨rfl, ⟨nd, rfl⟩⟩; refine ⟨_, rfl, ?_⟩))
 go_ret
 exact ⟨by first | rfl | (simp; done) | (simp [*]; done), by repeat (first | exact Drawn0.refl _ | apply Drawn0.step)⟩

end Go.Proofs.Ytddnijmgipffeaa.B
