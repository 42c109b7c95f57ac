/- Printed functions of this seat, in one text. -/
import Derived.Test.YtddnijmgipffeaaB0
import Derived.Test.YtddnijmgipffeaaSq
import Derived.Test.YtddnijmgipffeaaPkC
import Derived.Test.YtddnijmgipffeaaPkA
namespace Go.Proofs.Ytddnijmgipffeaa.B
open Go.RowKit Go.Proofs.YtddnijmgipffeaaW.PrintWords Go.Proofs.YtddnijmgipffeaaW.PrintLast Go.Proofs.YtddnijmgipffeaaW.PrintMore
attribute [local go_sem] max2_int min2_int max_two min_two max_three min_three max_four min_four   -- for this text's walks alone
set_option linter.unusedVariables false
set_option linter.unusedSimpArgs false

/-! ### spec_l5One: function 63 -/
/-! ### spec_l5Of: function 34 -/
mutual
def spec_l5One.f : Nat → Int → Int → Int → Int → Int → Int → Int → List (S46) → List (S69) → List (S69) → Int → Option ((List (S39)))
 | 0, _, _, _, _, _, _, _, _, _, _, _ => none
 | k + 1, a0_0, a0_1, a0_2, a0_3, a0_4, a0_5, a0_6, l0_7, l0_8, l0_9, a1 => (spec_l5Expr.f k a0_3 a0_4 a0_5 a0_6 l0_7).bind fun t173 => (if a0_0 = 1 then (if t173.length < 4398046511104 then (some (t173 ++ [(⟨3, 0, (⟨a0_1, a0_2⟩ : S37)⟩ : S39)])) else (none)) else (if a0_0 = 3 then ((spec_l5Of.f k l0_8 (wrap64 (a1 + (wrap64 ((t173.length : Int) + 1))))).bind fun t179 => (if t173.length < 4398046511104 then ((some (t173 ++ [(⟨6, wrap64 ((wrap64 ((wrap64 (a1 + (wrap64 ((t173.length : Int) + 1)))) + (t179.length : Int))) + 1), (⟨0, 0⟩ : S37)⟩ : S39)] : List (S39))).bind fun y182 => (if y182.length + t179.length < 4398046511104 then ((some (y182 ++ t179 : List (S39))).bind fun y185 => (if y185.length < 4398046511104 then (some (y185 ++ [(⟨8, a1, (⟨0, 0⟩ : S37)⟩ : S39)])) else (none))) else (none))) else (none))) else ((spec_l5Of.f k l0_8 (wrap64 (a1 + (wrap64 ((t173.length : Int) + 1))))).bind fun t191 => ((spec_l5Of.f k l0_9 (wrap64 ((wrap64 ((wrap64 (a1 + (wrap64 ((t173.length : Int) + 1)))) + (t191.length : Int))) + 1))).bind fun t194 => (if t173.length < 4398046511104 then ((some (t173 ++ [(⟨6, wrap64 ((wrap64 ((wrap64 (a1 + (wrap64 ((t173.length : Int) + 1)))) + (t191.length : Int))) + 1), (⟨0, 0⟩ : S37)⟩ : S39)] : List (S39))).bind fun y197 => (if y197.length + t191.length < 4398046511104 then ((some (y197 ++ t191 : List (S39))).bind fun y200 => (if y200.length < 4398046511104 then ((some (y200 ++ [(⟨7, wrap64 ((wrap64 ((wrap64 ((wrap64 (a1 + (wrap64 ((t173.length : Int) + 1)))) + (t191.length : Int))) + 1)) + (t194.length : Int)), (⟨0, 0⟩ : S37)⟩ : S39)] : List (S39))).bind fun y203 => (if y203.length + t194.length < 4398046511104 then (some (y203 ++ t194)) else (none))) else (none))) else (none))) else (none))))))
def spec_l5Of.l0 : Nat → List (S69) → Int → List (S39) → Int → Option ((List (S39)))
 | 0, _, _, _, _ => none
 | k + 1, x0, x1, x5, x6 => if x6 < (x0.length : Int) then (if 0 ≤ x6 then ((spec_l5One.f k ((rd_T69 x0 x6).f0) ((rd_T69 x0 x6).f1.f0) ((rd_T69 x0 x6).f1.f1) ((rd_T69 x0 x6).f2.f0) ((rd_T69 x0 x6).f2.f1) ((rd_T69 x0 x6).f2.f2.f0) ((rd_T69 x0 x6).f2.f2.f1) ((rd_T69 x0 x6).f2.f3) ((rd_T69 x0 x6).f3) ((rd_T69 x0 x6).f4) (wrap64 (x1 + (x5.length : Int)))).bind fun t213 => (if x5.length + t213.length < 4398046511104 then (spec_l5Of.l0 k x0 x1 (x5 ++ t213) (wrap64 (x6 + 1))) else (none))) else (none)) else (some x5)
def spec_l5Of.f : Nat → List (S69) → Int → Option ((List (S39)))
 | 0, _, _ => none
 | k + 1, l0, a1 => spec_l5Of.l0 k l0 a1 (([] : List (S39))) 0
end
theorem spec_l5One.mono_g : ∀ k, (∀ y0 y1 y2 y3 y4 y5 y6 y7 y8 y9 y10, LeO (spec_l5One.f k y0 y1 y2 y3 y4 y5 y6 y7 y8 y9 y10) (spec_l5One.f (k + 1) y0 y1 y2 y3 y4 y5 y6 y7 y8 y9 y10)) ∧ (∀ y0 y1, LeO (spec_l5Of.f k y0 y1) (spec_l5Of.f (k + 1) y0 y1)) ∧ (∀ y0 y1 y2 y3, LeO (spec_l5Of.l0 k y0 y1 y2 y3) (spec_l5Of.l0 (k + 1) y0 y1 y2 y3))
 | 0 => ⟨fun _ _ _ _ _ _ _ _ _ _ _ r h => by simp [spec_l5One.f] at h, fun _ _ r h => by simp [spec_l5Of.f] at h, fun _ _ _ _ r h => by simp [spec_l5Of.l0] at h⟩
 | k + 1 => by
  obtain ⟨ih0, ih1, ih2⟩ := spec_l5One.mono_g k
  refine ⟨?_, ?_, ?_⟩
  ·intro y0 y1 y2 y3 y4 y5 y6 y7 y8 y9 y10
   unfold spec_l5One.f
   repeat' first
   | (with_reducible exact ih0 _ _ _ _ _ _ _ _ _ _ _)
   | (with_reducible exact ih1 _ _)
   | (with_reducible exact ih2 _ _ _ _)
   | (with_reducible exact spec_l5Expr.mono _ _ _ _ _ _)
   | (with_reducible exact LeO.refl _)
   | (with_reducible exact LeO.none _)
   | (with_reducible refine LeO.ite ?_ ?_)
   | (with_reducible refine LeO.bind ?_ (fun _ => ?_))
   | exact ih0 _ _ _ _ _ _ _ _ _ _ _
   | exact ih1 _ _
   | exact ih2 _ _ _ _
   | exact spec_l5Expr.mono _ _ _ _ _ _
   | exact LeO.none _
   | refine LeO.ite ?_ ?_
   | refine LeO.bind ?_ (fun _ => ?_)
  ·intro y0 y1
   unfold spec_l5Of.f
   repeat' first
   | (with_reducible exact ih0 _ _ _ _ _ _ _ _ _ _ _)
   | (with_reducible exact ih1 _ _)
   | (with_reducible exact ih2 _ _ _ _)
   | (with_reducible exact spec_l5Expr.mono _ _ _ _ _ _)
   | (with_reducible exact LeO.refl _)
   | (with_reducible exact LeO.none _)
   | (with_reducible refine LeO.ite ?_ ?_)
   | (with_reducible refine LeO.bind ?_ (fun _ => ?_))
   | exact ih0 _ _ _ _ _ _ _ _ _ _ _
   | exact ih1 _ _
   | exact ih2 _ _ _ _
   | exact spec_l5Expr.mono _ _ _ _ _ _
   | exact LeO.none _
   | refine LeO.ite ?_ ?_
   | refine LeO.bind ?_ (fun _ => ?_)
  ·intro y0 y1 y2 y3
   unfold spec_l5Of.l0
   repeat' first
   | (with_reducible exact ih0 _ _ _ _ _ _ _ _ _ _ _)
   | (with_reducible exact ih1 _ _)
   | (with_reducible exact ih2 _ _ _ _)
   | (with_reducible exact spec_l5Expr.mono _ _ _ _ _ _)
   | (with_reducible exact LeO.refl _)
   | (with_reducible exact LeO.none _)
   | (with_reducible refine LeO.ite ?_ ?_)
   | (with_reducible refine LeO.bind ?_ (fun _ => ?_))
   | exact ih0 _ _ _ _ _ _ _ _ _ _ _
   | exact ih1 _ _
   | exact ih2 _ _ _ _
   | exact spec_l5Expr.mono _ _ _ _ _ _
   | exact LeO.none _
   | refine LeO.ite ?_ ?_
   | refine LeO.bind ?_ (fun _ => ?_)
theorem spec_l5Of.mono : ∀ a0 a1 k, LeO (spec_l5Of.f k a0 a1) (spec_l5Of.f (k + 1) a0 a1) := by
 intro a0 a1 k
 obtain ⟨ih0, ih1, ih2⟩ := spec_l5One.mono_g k
 exact ih1 a0 a1
set_option maxHeartbeats 8000000 in
set_option maxRecDepth 100000 in
theorem spec_l5One.calls_of (k : Nat)
  (ihg63 : ∀ m_, m_ < k → ∀ (a0_0 : Int) (a0_1 : Int) (a0_2 : Int) (a0_3 : Int) (a0_4 : Int) (a0_5 : Int) (a0_6 : Int) (A0_7 : Option Addr) (c0_7 : Nat) (l0_7 : List (S46)) (A0_8 : Option Addr) (c0_8 : Nat) (l0_8 : List (S69)) (A0_9 : Option Addr) (c0_9 : Nat) (l0_9 : List (S69)) (a1 : Int) (r : List (S39)) (w : World) (hr0_7 : Kd.C k46 w A0_7 l0_7.length l0_7) (hc0_7 : l0_7.length ≤ c0_7) (hr0_8 : Kd.C k69 w A0_8 l0_8.length l0_8) (hc0_8 : l0_8.length ≤ c0_8) (hr0_9 : Kd.C k69 w A0_9 l0_9.length l0_9) (hc0_9 : l0_9.length ≤ c0_9) (h : spec_l5One.f m_ a0_0 a0_1 a0_2 a0_3 a0_4 a0_5 a0_6 l0_7 l0_8 l0_9 a1 = some r),
  Calls Try.prog 63 #[.agg #[.int .i64 a0_0, .int .i64 a0_1, .int .i64 a0_2, .int .i64 a0_3, .int .i64 a0_4, .int .i64 a0_5, .int .i64 a0_6, .slice A0_7 l0_7.length c0_7, .slice A0_8 l0_8.length c0_8, .slice A0_9 l0_9.length c0_9], .int .i64 a1] w fun e w' => ∃ v0_ : Value, e = .returned (v0_) ∧ Kd.R k39 39 w' w.heap.size (fun _ => True) v0_ r ∧ Below w.heap.size w w')
  (ihg34 : ∀ m_, m_ < k → ∀ (A0 : Option Addr) (c0 : Nat) (l0 : List (S69)) (a1 : Int) (r : List (S39)) (w : World) (hr0 : Kd.C k69 w A0 l0.length l0) (hc0 : l0.length ≤ c0) (h : spec_l5Of.f m_ l0 a1 = some r),
  Calls Try.prog 34 #[.slice A0 l0.length c0, .int .i64 a1] w fun e w' => ∃ v0_ : Value, e = .returned (v0_) ∧ Kd.R k39 39 w' w.heap.size (fun _ => True) v0_ r ∧ Below w.heap.size w w') : ∀ (a0_0 : Int) (a0_1 : Int) (a0_2 : Int) (a0_3 : Int) (a0_4 : Int) (a0_5 : Int) (a0_6 : Int) (A0_7 : Option Addr) (c0_7 : Nat) (l0_7 : List (S46)) (A0_8 : Option Addr) (c0_8 : Nat) (l0_8 : List (S69)) (A0_9 : Option Addr) (c0_9 : Nat) (l0_9 : List (S69)) (a1 : Int) (r : List (S39)) (w : World) (hr0_7 : Kd.C k46 w A0_7 l0_7.length l0_7) (hc0_7 : l0_7.length ≤ c0_7) (hr0_8 : Kd.C k69 w A0_8 l0_8.length l0_8) (hc0_8 : l0_8.length ≤ c0_8) (hr0_9 : Kd.C k69 w A0_9 l0_9.length l0_9) (hc0_9 : l0_9.length ≤ c0_9) (h : spec_l5One.f k a0_0 a0_1 a0_2 a0_3 a0_4 a0_5 a0_6 l0_7 l0_8 l0_9 a1 = some r),
  Calls Try.prog 63 #[.agg #[.int .i64 a0_0, .int .i64 a0_1, .int .i64 a0_2, .int .i64 a0_3, .int .i64 a0_4, .int .i64 a0_5, .int .i64 a0_6, .slice A0_7 l0_7.length c0_7, .slice A0_8 l0_8.length c0_8, .slice A0_9 l0_9.length c0_9], .int .i64 a1] w fun e w' => ∃ v0_ : Value, e = .returned (v0_) ∧ Kd.R k39 39 w' w.heap.size (fun _ => True) v0_ r ∧ Below w.heap.size w w' := by
 intro a0_0 a0_1 a0_2 a0_3 a0_4 a0_5 a0_6 A0_7 c0_7 l0_7 A0_8 c0_8 l0_8 A0_9 c0_9 l0_9 a1 r w hr0_7 hc0_7 hr0_8 hc0_8 hr0_9 hc0_9 h
 cases k with
 | zero => exact absurd h (by simp [spec_l5One.f])
 | succ k =>
 simp only [spec_l5One.f] at h
 have hu69 := Try.underlying69
 have hu46 := Try.underlying46
 have hu37 := Try.underlying37
 have hu39 := Try.underlying39
 have HR0_7 := z0 hr0_7
 have HC0_7 := z0 hc0_7
 clear hr0_7 hc0_7
 have HR0_8 := z0 hr0_8
 have HC0_8 := z0 hc0_8
 clear hr0_8 hc0_8
 have HR0_9 := z0 hr0_9
 have HC0_9 := z0 hc0_9
 clear hr0_9 hc0_9
 have HB := z0 (Below.refl w.heap.size w)
 have H : ((spec_l5Expr.f k a0_3 a0_4 a0_5 a0_6 l0_7).bind fun t173 => (if a0_0 = 1 then (if t173.length < 4398046511104 then (some (t173 ++ [(⟨3, 0, (⟨a0_1, a0_2⟩ : S37)⟩ : S39)])) else (none)) else (if a0_0 = 3 then ((spec_l5Of.f k l0_8 (wrap64 (a1 + (wrap64 ((t173.length : Int) + 1))))).bind fun t179 => (if t173.length < 4398046511104 then ((some (t173 ++ [(⟨6, wrap64 ((wrap64 ((wrap64 (a1 + (wrap64 ((t173.length : Int) + 1)))) + (t179.length : Int))) + 1), (⟨0, 0⟩ : S37)⟩ : S39)] : List (S39))).bind fun y182 => (if y182.length + t179.length < 4398046511104 then ((some (y182 ++ t179 : List (S39))).bind fun y185 => (if y185.length < 4398046511104 then (some (y185 ++ [(⟨8, a1, (⟨0, 0⟩ : S37)⟩ : S39)])) else (none))) else (none))) else (none))) else ((spec_l5Of.f k l0_8 (wrap64 (a1 + (wrap64 ((t173.length : Int) + 1))))).bind fun t191 => ((spec_l5Of.f k l0_9 (wrap64 ((wrap64 ((wrap64 (a1 + (wrap64 ((t173.length : Int) + 1)))) + (t191.length : Int))) + 1))).bind fun t194 => (if t173.length < 4398046511104 then ((some (t173 ++ [(⟨6, wrap64 ((wrap64 ((wrap64 (a1 + (wrap64 ((t173.length : Int) + 1)))) + (t191.length : Int))) + 1), (⟨0, 0⟩ : S37)⟩ : S39)] : List (S39))).bind fun y197 => (if y197.length + t191.length < 4398046511104 then ((some (y197 ++ t191 : List (S39))).bind fun y200 => (if y200.length < 4398046511104 then ((some (y200 ++ [(⟨7, wrap64 ((wrap64 ((wrap64 ((wrap64 (a1 + (wrap64 ((t173.length : Int) + 1)))) + (t191.length : Int))) + 1)) + (t194.length : Int)), (⟨0, 0⟩ : S37)⟩ : S39)] : List (S39))).bind fun y203 => (if y203.length + t194.length < 4398046511104 then (some (y203 ++ t194)) else (none))) else (none))) else (none))) else (none))))))) = some r := h
 clear h
 replace H := Option.bind_eq_some_iff.mp H
 obtain ⟨t173, A30, H⟩ := H
 replace H : (if a0_0 = 1 then (if t173.length < 4398046511104 then (some (t173 ++ [(⟨3, 0, (⟨a0_1, a0_2⟩ : S37)⟩ : S39)])) else (none)) else (if a0_0 = 3 then ((spec_l5Of.f k l0_8 (wrap64 (a1 + (wrap64 ((t173.length : Int) + 1))))).bind fun t179 => (if t173.length < 4398046511104 then ((some (t173 ++ [(⟨6, wrap64 ((wrap64 ((wrap64 (a1 + (wrap64 ((t173.length : Int) + 1)))) + (t179.length : Int))) + 1), (⟨0, 0⟩ : S37)⟩ : S39)] : List (S39))).bind fun y182 => (if y182.length + t179.length < 4398046511104 then ((some (y182 ++ t179 : List (S39))).bind fun y185 => (if y185.length < 4398046511104 then (some (y185 ++ [(⟨8, a1, (⟨0, 0⟩ : S37)⟩ : S39)])) else (none))) else (none))) else (none))) else ((spec_l5Of.f k l0_8 (wrap64 (a1 + (wrap64 ((t173.length : Int) + 1))))).bind fun t191 => ((spec_l5Of.f k l0_9 (wrap64 ((wrap64 ((wrap64 (a1 + (wrap64 ((t173.length : Int) + 1)))) + (t191.length : Int))) + 1))).bind fun t194 => (if t173.length < 4398046511104 then ((some (t173 ++ [(⟨6, wrap64 ((wrap64 ((wrap64 (a1 + (wrap64 ((t173.length : Int) + 1)))) + (t191.length : Int))) + 1), (⟨0, 0⟩ : S37)⟩ : S39)] : List (S39))).bind fun y197 => (if y197.length + t191.length < 4398046511104 then ((some (y197 ++ t191 : List (S39))).bind fun y200 => (if y200.length < 4398046511104 then ((some (y200 ++ [(⟨7, wrap64 ((wrap64 ((wrap64 ((wrap64 (a1 + (wrap64 ((t173.length : Int) + 1)))) + (t191.length : Int))) + 1)) + (t194.length : Int)), (⟨0, 0⟩ : S37)⟩ : S39)] : List (S39))).bind fun y203 => (if y203.length + t194.length < 4398046511104 then (some (y203 ++ t194)) else (none))) else (none))) else (none))) else (none)))))) = some r := H
 have A3 := z0 A30
 clear A30
 have HF4 := z0 H
 clear H
 go_enter Try.func63, Try.ntmps63
 go_upto_if 15 with (first | ((with_reducible refine gate_dst (N := 2) rfl ?_); refine box_event ?hg (N := 2) ?hd (cs := #[.int .i64 a0_0, .int .i64 a0_1, .int .i64 a0_2, .int .i64 a0_3, .int .i64 a0_4, .int .i64 a0_5, .int .i64 a0_6, .slice A0_7 l0_7.length c0_7, .slice A0_8 l0_8.length c0_8, .slice A0_9 l0_9.length c0_9]) (t := 69) ?hr ?_; (case hd => rfl); (case hg => rfl); (case hr => first | (go_simp; done) | (go_simp; rfl)); intro gb172 hg w5 hbox hb; have n0_ := z0 (below_step (mB HB.out) hb); have n1_ := z0 (hbox); have n2_ := z0 ((by rw [hg]; exact (below_size (mB HB.out)) : w.heap.size ≤ gb172)); have n3_ := z0 ((by rw [hg]; exact (below_size (mB HB.out)) : w.heap.size ≤ gb172)); clear HB; have HB := n0_; have BK172 := n1_; have GW172 := n2_; have GE172 := n3_; clear n0_ n1_ n2_ n3_; clear hb hbox hg; obtain ⟨hcz6_0, hcz6_1, hcz6_2, hcz6_3, hcz6_4, hcz6_5, hcz6_6, hcz6_7, hcz6_8, hcz6_9, hfz6_0, hfz6_1, hfz6_2, hfz6_3, hfz6_4, hfz6_5, hfz6_6, hfz6_7, hfz6_8, hfz6_9⟩ := cel10 BK172.out) | ((with_reducible refine gate_callee (f := 98) rfl ?_); refine goesL_ (some 12) rfl rfl Try.func98 (by kernel_rfl) rfl #[.agg #[.int .i64 a0_3, .int .i64 a0_4, .int .i64 a0_5, .int .i64 a0_6, .slice A0_7 l0_7.length c0_7]] rfl argx ?_; (with_reducible refine (spec_l5Expr.calls k a0_3 a0_4 a0_5 a0_6 _ _ l0_7 t173 _ ?side1 ?side2 A3.out).mono ?_); (case side1 => exact mC (Kd.C_below HR0_7.out HB.out)); (case side2 => exact HC0_7.out); rintro e w7 ⟨v174, rfl, ho0, hb⟩; refine ⟨_, rfl, ?_⟩; have n0_ := z0 (Kd.R_lower ho0 (below_size (mB HB.out))); have n1_ := z0 (blk_below (g := gb172) (o := .cells #[.int .i64 a0_0, .int .i64 a0_1, .int .i64 a0_2, .int .i64 a0_3, .int .i64 a0_4, .int .i64 a0_5, .int .i64 a0_6, .slice A0_7 l0_7.length c0_7, .slice A0_8 l0_8.length c0_8, .slice A0_9 l0_9.length c0_9] 69 (0, 0)) (mK BK172.out) hb); have n2_ := z0 (below_step (mB HB.out) hb); clear BK172; clear HB; have HO175 := n0_; have BK172 := n1_; have HB := n2_; clear n0_ n1_ n2_; (try clear hb); (try clear hb2); (try clear hk); (try clear hi); (try clear ho0); obtain ⟨hcz8_0, hcz8_1, hcz8_2, hcz8_3, hcz8_4, hcz8_5, hcz8_6, hcz8_7, hcz8_8, hcz8_9, hfz8_0, hfz8_1, hfz8_2, hfz8_3, hfz8_4, hfz8_5, hfz8_6, hfz8_7, hfz8_8, hfz8_9⟩ := cel10 BK172.out))
 (try simp only [Act.put, List.setIfInBounds_toArray, List.set_cons_zero, List.set_cons_succ])
 have H := HF4.out
 clear HF4
 (try clear c6); (try clear p6); (try clear hcz6_0); (try clear hcz6_1); (try clear hcz6_2); (try clear hcz6_3); (try clear hcz6_4); (try clear hcz6_5); (try clear hcz6_6); (try clear hcz6_7); (try clear hcz6_8); (try clear hcz6_9); (try clear hcz8_0); (try clear hcz8_1); (try clear hcz8_2); (try clear hcz8_3); (try clear hcz8_4); (try clear hcz8_5); (try clear hcz8_6); (try clear hcz8_7); (try clear hcz8_8); (try clear hcz8_9); (try clear hfz6_0); (try clear hfz6_1); (try clear hfz6_2); (try clear hfz6_3); (try clear hfz6_4); (try clear hfz6_5); (try clear hfz6_6); (try clear hfz6_7); (try clear hfz6_8); (try clear hfz6_9); (try clear hfz8_0); (try clear hfz8_1); (try clear hfz8_2); (try clear hfz8_3); (try clear hfz8_4); (try clear hfz8_5); (try clear hfz8_6); (try clear hfz8_7); (try clear hfz8_8); (try clear hfz8_9)
 by_cases c9 : a0_0 = 1
 ·rw [if_pos c9] at H
  have c9b0 : (a0_0 == 1) = true := beq_iff_eq.mpr c9
  have c9b1 : (a0_0 != 1) = false := bne_eq_false_iff_eq.mpr c9
  clear c9
  (first | rw [c9b0] | (simp only [i64_w, i32_w]; rw [c9b0]) | skip)
  by_cases c10 : t173.length < 4398046511104
  ·rw [if_pos c10] at H
   have LMc10 := z0 c10
   clear c10
   obtain ⟨y176, hy176⟩ : ∃ y_ : List (S39), y_ = (t173 ++ [(⟨3, 0, (⟨a0_1, a0_2⟩ : S37)⟩ : S39)]) := ⟨_, rfl⟩
   replace H : (some y176) = some r := by first | (rw [hy176]; with_reducible exact H) | (have H2_ := (Option.bind_some _ _).symm.trans H; rw [hy176]; with_reducible exact H2_) | (have H2_ := (Option.bind_some _ _).symm.trans H; with_reducible exact H2_) | with_reducible exact H | (rw [hy176]; exact H) | exact H
   have Ny176 := z0 hy176
   clear hy176
   obtain rfl := Option.some.inj H
   obtain ⟨hcz11_0, hcz11_1, hcz11_2, hcz11_3, hcz11_4, hcz11_5, hcz11_6, hcz11_7, hcz11_8, hcz11_9, hfz11_0, hfz11_1, hfz11_2, hfz11_3, hfz11_4, hfz11_5, hfz11_6, hfz11_7, hfz11_8, hfz11_9⟩ := cel10 BK172.out
   go_wp2_with (first | ((with_reducible refine gate_builtin (b := .append) (xs := #[.tmp 16, .tmp 20]) rfl ?_); at_builtin; refine Kd.R_append k39 (w0 := w) w.heap.size rfl (.tmp 16) (.tmp 20) 24 39 (.agg #[(.int .i64 0), (.int .i64 0), (.int .i64 0), (.int .i64 0)]) 32 rfl Try.underlying24 info39 rfl (by decide) (by omega) v174 t173 (⟨3, 0, (⟨a0_1, a0_2⟩ : S37)⟩ : S39) [.int .i64 3, .int .i64 0, .int .i64 a0_1, .int .i64 a0_2] (fun _ => True) (fun _ => False) rfl rfl ?aP (fun _ hk => hk.elim) ?aF ?aO ?aB ?aS ?aL ?_; (case aP => exact k39_mkM _ _ _ (⟨3, 0, (⟨a0_1, a0_2⟩ : S37)⟩ : S39)); (case aB => exact (mB HB.out)); (case aF => exact (fun _ _ => trivial)); (case aO => exact (mR HO175.out)); (case aS => exact (below_size (mB HB.out))); (case aL => have := LMc10.out; omega); intro v177 w12 ho hb hg hat; rw [← Ny176.out] at ho; have n0_ := z0 (blk_grown (g := gb172) (o := .cells #[.int .i64 a0_0, .int .i64 a0_1, .int .i64 a0_2, .int .i64 a0_3, .int .i64 a0_4, .int .i64 a0_5, .int .i64 a0_6, .slice A0_7 l0_7.length c0_7, .slice A0_8 l0_8.length c0_8, .slice A0_9 l0_9.length c0_9] 69 (0, 0)) (mK BK172.out) hg (Kd.R_ne HO175.out BK172.out (by decide))); have n1_ := z0 (hb); have n2_ := z0 (ho); clear BK172; clear HB; clear HO175; have BK172 := n0_; have HB := n1_; have HO178 := n2_; clear n0_ n1_ n2_; clear ho hb hg hat))
   go_ret
   exact ⟨_, rfx, mR HO178.out, mB HB.out⟩
  ·rw [if_neg c10] at H
   exact absurd H (by simp)
 ·rw [if_neg c9] at H
  have c9b0 : (a0_0 == 1) = false := beq_eq_false_iff_ne.mpr c9
  have c9b1 : (a0_0 != 1) = true := bne_iff_ne.mpr c9
  (first | rw [c9b0] | (simp only [i64_w, i32_w]; rw [c9b0]) | skip)
  by_cases c13 : a0_0 = 3
  ·rw [if_pos c13] at H
   have c13b0 : (a0_0 == 3) = true := beq_iff_eq.mpr c13
   have c13b1 : (a0_0 != 3) = false := bne_eq_false_iff_eq.mpr c13
   clear c13
   replace H := Option.bind_eq_some_iff.mp H
   obtain ⟨t179, A140, H⟩ := H
   replace H : (if t173.length < 4398046511104 then ((some (t173 ++ [(⟨6, wrap64 ((wrap64 ((wrap64 (a1 + (wrap64 ((t173.length : Int) + 1)))) + (t179.length : Int))) + 1), (⟨0, 0⟩ : S37)⟩ : S39)] : List (S39))).bind fun y182 => (if y182.length + t179.length < 4398046511104 then ((some (y182 ++ t179 : List (S39))).bind fun y185 => (if y185.length < 4398046511104 then (some (y185 ++ [(⟨8, a1, (⟨0, 0⟩ : S37)⟩ : S39)])) else (none))) else (none))) else (none)) = some r := H
   have A14 := z0 A140
   clear A140
   by_cases c15 : t173.length < 4398046511104
   ·rw [if_pos c15] at H
    have LMc15 := z0 c15
    clear c15
    obtain ⟨y182, hy182⟩ : ∃ y_ : List (S39), y_ = (t173 ++ [(⟨6, wrap64 ((wrap64 ((wrap64 (a1 + (wrap64 ((t173.length : Int) + 1)))) + (t179.length : Int))) + 1), (⟨0, 0⟩ : S37)⟩ : S39)]) := ⟨_, rfl⟩
    replace H : (if y182.length + t179.length < 4398046511104 then ((some (y182 ++ t179 : List (S39))).bind fun y185 => (if y185.length < 4398046511104 then (some (y185 ++ [(⟨8, a1, (⟨0, 0⟩ : S37)⟩ : S39)])) else (none))) else (none)) = some r := by first | (rw [hy182]; with_reducible exact H) | (have H2_ := (Option.bind_some _ _).symm.trans H; rw [hy182]; with_reducible exact H2_) | (have H2_ := (Option.bind_some _ _).symm.trans H; with_reducible exact H2_) | with_reducible exact H | (rw [hy182]; exact H) | exact H
    have Ny182 := z0 hy182
    clear hy182
    by_cases c16 : y182.length + t179.length < 4398046511104
    ·rw [if_pos c16] at H
     have LMc16 := z0 c16
     clear c16
     obtain ⟨y185, hy185⟩ : ∃ y_ : List (S39), y_ = (y182 ++ t179) := ⟨_, rfl⟩
     replace H : (if y185.length < 4398046511104 then (some (y185 ++ [(⟨8, a1, (⟨0, 0⟩ : S37)⟩ : S39)])) else (none)) = some r := by first | (rw [hy185]; with_reducible exact H) | (have H2_ := (Option.bind_some _ _).symm.trans H; rw [hy185]; with_reducible exact H2_) | (have H2_ := (Option.bind_some _ _).symm.trans H; with_reducible exact H2_) | with_reducible exact H | (rw [hy185]; exact H) | exact H
     have Ny185 := z0 hy185
     clear hy185
     by_cases c17 : y185.length < 4398046511104
     ·rw [if_pos c17] at H
      have LMc17 := z0 c17
      clear c17
      obtain ⟨y188, hy188⟩ : ∃ y_ : List (S39), y_ = (y185 ++ [(⟨8, a1, (⟨0, 0⟩ : S37)⟩ : S39)]) := ⟨_, rfl⟩
      replace H : (some y188) = some r := by first | (rw [hy188]; with_reducible exact H) | (have H2_ := (Option.bind_some _ _).symm.trans H; rw [hy188]; with_reducible exact H2_) | (have H2_ := (Option.bind_some _ _).symm.trans H; with_reducible exact H2_) | with_reducible exact H | (rw [hy188]; exact H) | exact H
      have Ny188 := z0 hy188
      clear hy188
      obtain rfl := Option.some.inj H
      obtain ⟨Ao18, co18, eo18⟩ := Kd.R_slice HO175.out
      subst eo18
      obtain ⟨hcz19_0, hcz19_1, hcz19_2, hcz19_3, hcz19_4, hcz19_5, hcz19_6, hcz19_7, hcz19_8, hcz19_9, hfz19_0, hfz19_1, hfz19_2, hfz19_3, hfz19_4, hfz19_5, hfz19_6, hfz19_7, hfz19_8, hfz19_9⟩ := cel10 BK172.out
      go_wp2_with (first | ((with_reducible refine gate_callee (f := 34) rfl ?_); refine goesL_ (some 33) rfl rfl Try.func34 (by kernel_rfl) rfl #[.slice A0_8 l0_8.length c0_8, .int .i64 (wrap64 (a1 + (wrap64 ((t173.length : Int) + 1))))] rfl argx ?_; (with_reducible refine (ihg34 k (by omega) _ _ l0_8 (wrap64 (a1 + (wrap64 ((t173.length : Int) + 1)))) t179 _ ?side1 ?side2 A14.out).mono ?_); (case side1 => exact mC (Kd.C_below HR0_8.out HB.out)); (case side2 => exact HC0_8.out); rintro e w20 ⟨v180, rfl, ho0, hb⟩; refine ⟨_, rfl, ?_⟩; have n0_ := z0 (Kd.R_elder' (mR HO175.out) (by first | exact Kd.R_base ho0 | exact Kd.R_base ho0) hb); have n1_ := z0 (Kd.R_lower (Kd.R_new' ho0 (Kd.R_lt (mR HO175.out))) (below_size (mB HB.out))); have n2_ := z0 (blk_below (g := gb172) (o := .cells #[.int .i64 a0_0, .int .i64 a0_1, .int .i64 a0_2, .int .i64 a0_3, .int .i64 a0_4, .int .i64 a0_5, .int .i64 a0_6, .slice A0_7 l0_7.length c0_7, .slice A0_8 l0_8.length c0_8, .slice A0_9 l0_9.length c0_9] 69 (0, 0)) (mK BK172.out) hb); have n3_ := z0 (below_step (mB HB.out) hb); clear HO175; clear BK172; clear HB; have HO175 := n0_; have HO181 := n1_; have BK172 := n2_; have HB := n3_; clear n0_ n1_ n2_ n3_; (try clear hb); (try clear hb2); (try clear hk); (try clear hi); (try clear ho0); obtain ⟨Ao21, co21, eo21⟩ := Kd.R_slice HO181.out; subst eo21) | ((with_reducible refine gate_builtin (b := .append) (xs := #[.tmp 34, .tmp 43]) rfl ?_); at_builtin; refine Kd.R_append k39 (w0 := w) w.heap.size rfl (.tmp 34) (.tmp 43) 24 39 (.agg #[(.int .i64 0), (.int .i64 0), (.int .i64 0), (.int .i64 0)]) 32 rfl Try.underlying24 info39 rfl (by decide) (by omega) (.slice Ao18 t173.length co18) t173 (⟨6, wrap64 ((wrap64 ((wrap64 (a1 + (wrap64 ((t173.length : Int) + 1)))) + (t179.length : Int))) + 1), (⟨0, 0⟩ : S37)⟩ : S39) [.int .i64 6, .int .i64 (wrap64 ((wrap64 ((wrap64 (a1 + (wrap64 ((t173.length : Int) + 1)))) + (t179.length : Int))) + 1)), .int .i64 0, .int .i64 0] (fun k_ => nB k_ (.slice Ao21 t179.length co21)) (fun _ => False) rfl rfl ?aP (fun _ hk => hk.elim) ?aF ?aO ?aB ?aS ?aL ?_; (case aP => exact k39_mkM _ _ _ (⟨6, wrap64 ((wrap64 ((wrap64 (a1 + (wrap64 ((t173.length : Int) + 1)))) + (t179.length : Int))) + 1), (⟨0, 0⟩ : S37)⟩ : S39)); (case aB => exact (mB HB.out)); (case aF => exact (fun k_ hk => Kd.fresh' (Kd.R_lt (mR HO181.out)) k_ hk)); (case aO => exact (by (with_reducible repeat (first | apply Kd.R_alloc | apply Kd.R_drewN | apply Kd.R_drew)); exact Kd.R_mono HO175.out (fun _ hk => hk.2))); (case aS => exact (below_size (mB HB.out))); (case aL => have := LMc15.out; omega); intro v183 w22 ho hb hg hat; rw [← Ny182.out] at ho; have n0_ := z0 (blk_grown (g := gb172) (o := .cells #[.int .i64 a0_0, .int .i64 a0_1, .int .i64 a0_2, .int .i64 a0_3, .int .i64 a0_4, .int .i64 a0_5, .int .i64 a0_6, .slice A0_7 l0_7.length c0_7, .slice A0_8 l0_8.length c0_8, .slice A0_9 l0_9.length c0_9] 69 (0, 0)) (mK BK172.out) hg (Kd.R_ne HO175.out BK172.out (by decide))); have n1_ := z0 (Kd.R_after (ok := (fun _ => True)) (mR HO181.out) hg hat); have n2_ := z0 (hb); have n3_ := z0 (ho); clear BK172; clear HO181; clear HB; clear HO175; have BK172 := n0_; have HO181 := n1_; have HB := n2_; have HO184 := n3_; clear n0_ n1_ n2_ n3_; clear ho hb hg hat) | ((with_reducible refine gate_builtin (b := .append) (xs := #[.tmp 45, .tmp 46]) rfl ?_); at_builtin; refine Kd.R_append_rows k39 (w0 := w) w.heap.size rfl (.tmp 45) (.tmp 46) 24 39 (.agg #[(.int .i64 0), (.int .i64 0), (.int .i64 0), (.int .i64 0)]) 32 rfl Try.underlying24 info39 rfl (by decide) (by omega) v183 y182 t179 _ _ _ (fun k_ => nB k_ (.slice Ao21 t179.length co21)) (fun _ => False) rfl rfl ?aO ?aR (fun _ _ h => h) (fun _ h => h.elim) ?aF ?aB ?aS ?aL ?_; (case aR => exact mC (Kd.R_reads' HO181.out).2.2); (case aB => exact (mB HB.out)); (case aF => exact (fun k_ hk => Kd.fresh' (Kd.R_lt (mR HO181.out)) k_ hk)); (case aO => exact (mR HO184.out)); (case aS => exact (below_size (mB HB.out))); (case aL => have := LMc16.out; omega); intro v186 w23 ho hb hg hat; rw [← Ny185.out] at ho; have n0_ := z0 (blk_grown (g := gb172) (o := .cells #[.int .i64 a0_0, .int .i64 a0_1, .int .i64 a0_2, .int .i64 a0_3, .int .i64 a0_4, .int .i64 a0_5, .int .i64 a0_6, .slice A0_7 l0_7.length c0_7, .slice A0_8 l0_8.length c0_8, .slice A0_9 l0_9.length c0_9] 69 (0, 0)) (mK BK172.out) hg (Kd.R_ne HO184.out BK172.out (by decide))); have n1_ := z0 (Kd.R_after (ok := (fun _ => True)) (mR HO181.out) hg hat); have n2_ := z0 (hb); have n3_ := z0 (ho); clear BK172; clear HO181; clear HB; clear HO184; have BK172 := n0_; have HO181 := n1_; have HB := n2_; have HO187 := n3_; clear n0_ n1_ n2_ n3_; clear ho hb hg hat) | ((with_reducible refine gate_builtin (b := .append) (xs := #[.tmp 47, .tmp 50]) rfl ?_); at_builtin; refine Kd.R_append k39 (w0 := w) w.heap.size rfl (.tmp 47) (.tmp 50) 24 39 (.agg #[(.int .i64 0), (.int .i64 0), (.int .i64 0), (.int .i64 0)]) 32 rfl Try.underlying24 info39 rfl (by decide) (by omega) v186 y185 (⟨8, a1, (⟨0, 0⟩ : S37)⟩ : S39) [.int .i64 8, .int .i64 a1, .int .i64 0, .int .i64 0] (fun k_ => nB k_ (.slice Ao21 t179.length co21)) (fun _ => False) rfl rfl ?aP (fun _ hk => hk.elim) ?aF ?aO ?aB ?aS ?aL ?_; (case aP => exact k39_mkM _ _ _ (⟨8, a1, (⟨0, 0⟩ : S37)⟩ : S39)); (case aB => exact (mB HB.out)); (case aF => exact (fun k_ hk => Kd.fresh' (Kd.R_lt (mR HO181.out)) k_ hk)); (case aO => exact (mR HO187.out)); (case aS => exact (below_size (mB HB.out))); (case aL => have := LMc17.out; omega); intro v189 w24 ho hb hg hat; rw [← Ny188.out] at ho; have n0_ := z0 (blk_grown (g := gb172) (o := .cells #[.int .i64 a0_0, .int .i64 a0_1, .int .i64 a0_2, .int .i64 a0_3, .int .i64 a0_4, .int .i64 a0_5, .int .i64 a0_6, .slice A0_7 l0_7.length c0_7, .slice A0_8 l0_8.length c0_8, .slice A0_9 l0_9.length c0_9] 69 (0, 0)) (mK BK172.out) hg (Kd.R_ne HO187.out BK172.out (by decide))); have n1_ := z0 (Kd.R_after (ok := (fun _ => True)) (mR HO181.out) hg hat); have n2_ := z0 (hb); have n3_ := z0 (ho); clear BK172; clear HO181; clear HB; clear HO187; have BK172 := n0_; have HO181 := n1_; have HB := n2_; have HO190 := n3_; clear n0_ n1_ n2_ n3_; clear ho hb hg hat))
      go_ret
      exact ⟨_, rfx, by (with_reducible repeat (first | apply Kd.R_alloc | apply Kd.R_drewN | apply Kd.R_drew)); exact Kd.R_mono HO190.out (fun _ hk => trivial), mB HB.out⟩
     ·rw [if_neg c17] at H
      exact absurd H (by simp)
    ·rw [if_neg c16] at H
     exact absurd H (by simp)
   ·rw [if_neg c15] at H
    exact absurd H (by simp)
  ·rw [if_neg c13] at H
   have c13b0 : (a0_0 == 3) = false := beq_eq_false_iff_ne.mpr c13
   have c13b1 : (a0_0 != 3) = true := bne_iff_ne.mpr c13
   replace H := Option.bind_eq_some_iff.mp H
   obtain ⟨t191, A250, H⟩ := H
   replace H : ((spec_l5Of.f k l0_9 (wrap64 ((wrap64 ((wrap64 (a1 + (wrap64 ((t173.length : Int) + 1)))) + (t191.length : Int))) + 1))).bind fun t194 => (if t173.length < 4398046511104 then ((some (t173 ++ [(⟨6, wrap64 ((wrap64 ((wrap64 (a1 + (wrap64 ((t173.length : Int) + 1)))) + (t191.length : Int))) + 1), (⟨0, 0⟩ : S37)⟩ : S39)] : List (S39))).bind fun y197 => (if y197.length + t191.length < 4398046511104 then ((some (y197 ++ t191 : List (S39))).bind fun y200 => (if y200.length < 4398046511104 then ((some (y200 ++ [(⟨7, wrap64 ((wrap64 ((wrap64 ((wrap64 (a1 + (wrap64 ((t173.length : Int) + 1)))) + (t191.length : Int))) + 1)) + (t194.length : Int)), (⟨0, 0⟩ : S37)⟩ : S39)] : List (S39))).bind fun y203 => (if y203.length + t194.length < 4398046511104 then (some (y203 ++ t194)) else (none))) else (none))) else (none))) else (none))) = some r := H
   have A25 := z0 A250
   clear A250
   replace H := Option.bind_eq_some_iff.mp H
   obtain ⟨t194, A260, H⟩ := H
   replace H : (if t173.length < 4398046511104 then ((some (t173 ++ [(⟨6, wrap64 ((wrap64 ((wrap64 (a1 + (wrap64 ((t173.length : Int) + 1)))) + (t191.length : Int))) + 1), (⟨0, 0⟩ : S37)⟩ : S39)] : List (S39))).bind fun y197 => (if y197.length + t191.length < 4398046511104 then ((some (y197 ++ t191 : List (S39))).bind fun y200 => (if y200.length < 4398046511104 then ((some (y200 ++ [(⟨7, wrap64 ((wrap64 ((wrap64 ((wrap64 (a1 + (wrap64 ((t173.length : Int) + 1)))) + (t191.length : Int))) + 1)) + (t194.length : Int)), (⟨0, 0⟩ : S37)⟩ : S39)] : List (S39))).bind fun y203 => (if y203.length + t194.length < 4398046511104 then (some (y203 ++ t194)) else (none))) else (none))) else (none))) else (none)) = some r := H
   have A26 := z0 A260
   clear A260
   by_cases c27 : t173.length < 4398046511104
   ·rw [if_pos c27] at H
    have LMc27 := z0 c27
    clear c27
    obtain ⟨y197, hy197⟩ : ∃ y_ : List (S39), y_ = (t173 ++ [(⟨6, wrap64 ((wrap64 ((wrap64 (a1 + (wrap64 ((t173.length : Int) + 1)))) + (t191.length : Int))) + 1), (⟨0, 0⟩ : S37)⟩ : S39)]) := ⟨_, rfl⟩
    replace H : (if y197.length + t191.length < 4398046511104 then ((some (y197 ++ t191 : List (S39))).bind fun y200 => (if y200.length < 4398046511104 then ((some (y200 ++ [(⟨7, wrap64 ((wrap64 ((wrap64 ((wrap64 (a1 + (wrap64 ((t173.length : Int) + 1)))) + (t191.length : Int))) + 1)) + (t194.length : Int)), (⟨0, 0⟩ : S37)⟩ : S39)] : List (S39))).bind fun y203 => (if y203.length + t194.length < 4398046511104 then (some (y203 ++ t194)) else (none))) else (none))) else (none)) = some r := by first | (rw [hy197]; with_reducible exact H) | (have H2_ := (Option.bind_some _ _).symm.trans H; rw [hy197]; with_reducible exact H2_) | (have H2_ := (Option.bind_some _ _).symm.trans H; with_reducible exact H2_) | with_reducible exact H | (rw [hy197]; exact H) | exact H
    have Ny197 := z0 hy197
    clear hy197
    by_cases c28 : y197.length + t191.length < 4398046511104
    ·rw [if_pos c28] at H
     have LMc28 := z0 c28
     clear c28
     obtain ⟨y200, hy200⟩ : ∃ y_ : List (S39), y_ = (y197 ++ t191) := ⟨_, rfl⟩
     replace H : (if y200.length < 4398046511104 then ((some (y200 ++ [(⟨7, wrap64 ((wrap64 ((wrap64 ((wrap64 (a1 + (wrap64 ((t173.length : Int) + 1)))) + (t191.length : Int))) + 1)) + (t194.length : Int)), (⟨0, 0⟩ : S37)⟩ : S39)] : List (S39))).bind fun y203 => (if y203.length + t194.length < 4398046511104 then (some (y203 ++ t194)) else (none))) else (none)) = some r := by first | (rw [hy200]; with_reducible exact H) | (have H2_ := (Option.bind_some _ _).symm.trans H; rw [hy200]; with_reducible exact H2_) | (have H2_ := (Option.bind_some _ _).symm.trans H; with_reducible exact H2_) | with_reducible exact H | (rw [hy200]; exact H) | exact H
     have Ny200 := z0 hy200
     clear hy200
     by_cases c29 : y200.length < 4398046511104
     ·rw [if_pos c29] at H
      have LMc29 := z0 c29
      clear c29
      obtain ⟨y203, hy203⟩ : ∃ y_ : List (S39), y_ = (y200 ++ [(⟨7, wrap64 ((wrap64 ((wrap64 ((wrap64 (a1 + (wrap64 ((t173.length : Int) + 1)))) + (t191.length : Int))) + 1)) + (t194.length : Int)), (⟨0, 0⟩ : S37)⟩ : S39)]) := ⟨_, rfl⟩
      replace H : (if y203.length + t194.length < 4398046511104 then (some (y203 ++ t194)) else (none)) = some r := by first | (rw [hy203]; with_reducible exact H) | (have H2_ := (Option.bind_some _ _).symm.trans H; rw [hy203]; with_reducible exact H2_) | (have H2_ := (Option.bind_some _ _).symm.trans H; with_reducible exact H2_) | with_reducible exact H | (rw [hy203]; exact H) | exact H
      have Ny203 := z0 hy203
      clear hy203
      by_cases c30 : y203.length + t194.length < 4398046511104
      ·rw [if_pos c30] at H
       have LMc30 := z0 c30
       clear c30
       obtain ⟨y206, hy206⟩ : ∃ y_ : List (S39), y_ = (y203 ++ t194) := ⟨_, rfl⟩
       replace H : (some y206) = some r := by first | (rw [hy206]; with_reducible exact H) | (have H2_ := (Option.bind_some _ _).symm.trans H; rw [hy206]; with_reducible exact H2_) | (have H2_ := (Option.bind_some _ _).symm.trans H; with_reducible exact H2_) | with_reducible exact H | (rw [hy206]; exact H) | exact H
       have Ny206 := z0 hy206
       clear hy206
       obtain rfl := Option.some.inj H
       obtain ⟨Ao31, co31, eo31⟩ := Kd.R_slice HO175.out
       subst eo31
       obtain ⟨hcz32_0, hcz32_1, hcz32_2, hcz32_3, hcz32_4, hcz32_5, hcz32_6, hcz32_7, hcz32_8, hcz32_9, hfz32_0, hfz32_1, hfz32_2, hfz32_3, hfz32_4, hfz32_5, hfz32_6, hfz32_7, hfz32_8, hfz32_9⟩ := cel10 BK172.out
       go_wp2_with (first | ((with_reducible refine gate_callee (f := 34) rfl ?_); refine goesL_ (some 57) rfl rfl Try.func34 (by kernel_rfl) rfl #[.slice A0_8 l0_8.length c0_8, .int .i64 (wrap64 (a1 + (wrap64 ((t173.length : Int) + 1))))] rfl argx ?_; (with_reducible refine (ihg34 k (by omega) _ _ l0_8 (wrap64 (a1 + (wrap64 ((t173.length : Int) + 1)))) t191 _ ?side1 ?side2 A25.out).mono ?_); (case side1 => exact mC (Kd.C_below HR0_8.out HB.out)); (case side2 => exact HC0_8.out); rintro e w33 ⟨v192, rfl, ho0, hb⟩; refine ⟨_, rfl, ?_⟩; have n0_ := z0 (Kd.R_elder' (mR HO175.out) (by first | exact Kd.R_base ho0 | exact Kd.R_base ho0) hb); have n1_ := z0 (Kd.R_lower (Kd.R_new' ho0 (Kd.R_lt (mR HO175.out))) (below_size (mB HB.out))); have n2_ := z0 (blk_below (g := gb172) (o := .cells #[.int .i64 a0_0, .int .i64 a0_1, .int .i64 a0_2, .int .i64 a0_3, .int .i64 a0_4, .int .i64 a0_5, .int .i64 a0_6, .slice A0_7 l0_7.length c0_7, .slice A0_8 l0_8.length c0_8, .slice A0_9 l0_9.length c0_9] 69 (0, 0)) (mK BK172.out) hb); have n3_ := z0 (below_step (mB HB.out) hb); clear HO175; clear BK172; clear HB; have HO175 := n0_; have HO193 := n1_; have BK172 := n2_; have HB := n3_; clear n0_ n1_ n2_ n3_; (try clear hb); (try clear hb2); (try clear hk); (try clear hi); (try clear ho0); obtain ⟨hcz34_0, hcz34_1, hcz34_2, hcz34_3, hcz34_4, hcz34_5, hcz34_6, hcz34_7, hcz34_8, hcz34_9, hfz34_0, hfz34_1, hfz34_2, hfz34_3, hfz34_4, hfz34_5, hfz34_6, hfz34_7, hfz34_8, hfz34_9⟩ := cel10 BK172.out; obtain ⟨Ao35, co35, eo35⟩ := Kd.R_slice HO193.out; subst eo35) | ((with_reducible refine gate_callee (f := 34) rfl ?_); refine goesL_ (some 67) rfl rfl Try.func34 (by kernel_rfl) rfl #[.slice A0_9 l0_9.length c0_9, .int .i64 (wrap64 ((wrap64 ((wrap64 (a1 + (wrap64 ((t173.length : Int) + 1)))) + (t191.length : Int))) + 1))] rfl argx ?_; (with_reducible refine (ihg34 k (by omega) _ _ l0_9 (wrap64 ((wrap64 ((wrap64 (a1 + (wrap64 ((t173.length : Int) + 1)))) + (t191.length : Int))) + 1)) t194 _ ?side1 ?side2 A26.out).mono ?_); (case side1 => exact mC (Kd.C_below HR0_9.out HB.out)); (case side2 => exact HC0_9.out); rintro e w36 ⟨v195, rfl, ho0, hb⟩; refine ⟨_, rfl, ?_⟩; have n0_ := z0 (Kd.R_elder' (mR HO175.out) (by first | exact Kd.R_base ho0 | exact Kd.R_base ho0) hb); have n1_ := z0 (Kd.R_elder' (mR HO193.out) (by first | exact Kd.R_base ho0 | exact Kd.R_base ho0) hb); have n2_ := z0 (Kd.R_lower (Kd.R_new' (Kd.R_new' ho0 (Kd.R_lt (mR HO175.out))) (Kd.R_lt (mR HO193.out))) (below_size (mB HB.out))); have n3_ := z0 (blk_below (g := gb172) (o := .cells #[.int .i64 a0_0, .int .i64 a0_1, .int .i64 a0_2, .int .i64 a0_3, .int .i64 a0_4, .int .i64 a0_5, .int .i64 a0_6, .slice A0_7 l0_7.length c0_7, .slice A0_8 l0_8.length c0_8, .slice A0_9 l0_9.length c0_9] 69 (0, 0)) (mK BK172.out) hb); have n4_ := z0 (below_step (mB HB.out) hb); clear HO175; clear HO193; clear BK172; clear HB; have HO175 := n0_; have HO193 := n1_; have HO196 := n2_; have BK172 := n3_; have HB := n4_; clear n0_ n1_ n2_ n3_ n4_; (try clear hb); (try clear hb2); (try clear hk); (try clear hi); (try clear ho0)) | ((with_reducible refine gate_builtin (b := .append) (xs := #[.tmp 68, .tmp 77]) rfl ?_); at_builtin; refine Kd.R_append k39 (w0 := w) w.heap.size rfl (.tmp 68) (.tmp 77) 24 39 (.agg #[(.int .i64 0), (.int .i64 0), (.int .i64 0), (.int .i64 0)]) 32 rfl Try.underlying24 info39 rfl (by decide) (by omega) (.slice Ao31 t173.length co31) t173 (⟨6, wrap64 ((wrap64 ((wrap64 (a1 + (wrap64 ((t173.length : Int) + 1)))) + (t191.length : Int))) + 1), (⟨0, 0⟩ : S37)⟩ : S39) [.int .i64 6, .int .i64 (wrap64 ((wrap64 ((wrap64 (a1 + (wrap64 ((t173.length : Int) + 1)))) + (t191.length : Int))) + 1)), .int .i64 0, .int .i64 0] (fun k_ => nB k_ (.slice Ao35 t191.length co35) ∧ nB k_ v195) (fun _ => False) rfl rfl ?aP (fun _ hk => hk.elim) ?aF ?aO ?aB ?aS ?aL ?_; (case aP => exact k39_mkM _ _ _ (⟨6, wrap64 ((wrap64 ((wrap64 (a1 + (wrap64 ((t173.length : Int) + 1)))) + (t191.length : Int))) + 1), (⟨0, 0⟩ : S37)⟩ : S39)); (case aB => exact (mB HB.out)); (case aF => exact (fun k_ hk => ⟨Kd.fresh' (Kd.R_lt (mR HO193.out)) k_ hk, Kd.fresh' (Kd.R_lt (mR HO196.out)) k_ hk⟩)); (case aO => exact (by (with_reducible repeat (first | apply Kd.R_alloc | apply Kd.R_drewN | apply Kd.R_drew)); exact Kd.R_mono HO175.out (fun _ hk => ⟨hk.1.2, hk.2⟩))); (case aS => exact (below_size (mB HB.out))); (case aL => have := LMc27.out; omega); intro v198 w37 ho hb hg hat; rw [← Ny197.out] at ho; have n0_ := z0 (blk_grown (g := gb172) (o := .cells #[.int .i64 a0_0, .int .i64 a0_1, .int .i64 a0_2, .int .i64 a0_3, .int .i64 a0_4, .int .i64 a0_5, .int .i64 a0_6, .slice A0_7 l0_7.length c0_7, .slice A0_8 l0_8.length c0_8, .slice A0_9 l0_9.length c0_9] 69 (0, 0)) (mK BK172.out) hg (Kd.R_ne HO175.out BK172.out (by decide))); have n1_ := z0 (Kd.R_after (ok := (fun k_ => nB k_ v195)) (by (with_reducible repeat (first | apply Kd.R_alloc | apply Kd.R_drewN | apply Kd.R_drew)); exact Kd.R_mono HO193.out (fun _ hk => ⟨hk.2, hk.1.2⟩)) hg hat); have n2_ := z0 (Kd.R_after (ok := (fun k_ => nB k_ (.slice Ao35 t191.length co35))) (by (with_reducible repeat (first | apply Kd.R_alloc | apply Kd.R_drewN | apply Kd.R_drew)); exact Kd.R_mono HO196.out (fun _ hk => ⟨hk.2, hk.1.2⟩)) hg hat); have n3_ := z0 (hb); have n4_ := z0 (ho); clear BK172; clear HO193; clear HO196; clear HB; clear HO175; have BK172 := n0_; have HO193 := n1_; have HO196 := n2_; have HB := n3_; have HO199 := n4_; clear n0_ n1_ n2_ n3_ n4_; clear ho hb hg hat) | ((with_reducible refine gate_builtin (b := .append) (xs := #[.tmp 79, .tmp 80]) rfl ?_); at_builtin; refine Kd.R_append_rows k39 (w0 := w) w.heap.size rfl (.tmp 79) (.tmp 80) 24 39 (.agg #[(.int .i64 0), (.int .i64 0), (.int .i64 0), (.int .i64 0)]) 32 rfl Try.underlying24 info39 rfl (by decide) (by omega) v198 y197 t191 _ _ _ (fun k_ => nB k_ (.slice Ao35 t191.length co35) ∧ nB k_ v195) (fun _ => False) rfl rfl ?aO ?aR (fun _ _ h => h) (fun _ h => h.elim) ?aF ?aB ?aS ?aL ?_; (case aR => exact mC (Kd.R_reads' HO193.out).2.2); (case aB => exact (mB HB.out)); (case aF => exact (fun k_ hk => ⟨Kd.fresh' (Kd.R_lt (mR HO193.out)) k_ hk, Kd.fresh' (Kd.R_lt (mR HO196.out)) k_ hk⟩)); (case aO => exact (mR HO199.out)); (case aS => exact (below_size (mB HB.out))); (case aL => have := LMc28.out; omega); intro v201 w38 ho hb hg hat; rw [← Ny200.out] at ho; have n0_ := z0 (blk_grown (g := gb172) (o := .cells #[.int .i64 a0_0, .int .i64 a0_1, .int .i64 a0_2, .int .i64 a0_3, .int .i64 a0_4, .int .i64 a0_5, .int .i64 a0_6, .slice A0_7 l0_7.length c0_7, .slice A0_8 l0_8.length c0_8, .slice A0_9 l0_9.length c0_9] 69 (0, 0)) (mK BK172.out) hg (Kd.R_ne HO199.out BK172.out (by decide))); have n1_ := z0 (Kd.R_after (ok := (fun k_ => nB k_ v195)) (mR HO193.out) hg hat); have n2_ := z0 (Kd.R_after (ok := (fun k_ => nB k_ (.slice Ao35 t191.length co35))) (mR HO196.out) hg hat); have n3_ := z0 (hb); have n4_ := z0 (ho); clear BK172; clear HO193; clear HO196; clear HB; clear HO199; have BK172 := n0_; have HO193 := n1_; have HO196 := n2_; have HB := n3_; have HO202 := n4_; clear n0_ n1_ n2_ n3_ n4_; clear ho hb hg hat; obtain ⟨Ao39, co39, eo39⟩ := Kd.R_slice HO196.out; subst eo39) | ((with_reducible refine gate_builtin (b := .append) (xs := #[.tmp 81, .tmp 93]) rfl ?_); at_builtin; refine Kd.R_append k39 (w0 := w) w.heap.size rfl (.tmp 81) (.tmp 93) 24 39 (.agg #[(.int .i64 0), (.int .i64 0), (.int .i64 0), (.int .i64 0)]) 32 rfl Try.underlying24 info39 rfl (by decide) (by omega) v201 y200 (⟨7, wrap64 ((wrap64 ((wrap64 ((wrap64 (a1 + (wrap64 ((t173.length : Int) + 1)))) + (t191.length : Int))) + 1)) + (t194.length : Int)), (⟨0, 0⟩ : S37)⟩ : S39) [.int .i64 7, .int .i64 (wrap64 ((wrap64 ((wrap64 ((wrap64 (a1 + (wrap64 ((t173.length : Int) + 1)))) + (t191.length : Int))) + 1)) + (t194.length : Int))), .int .i64 0, .int .i64 0] (fun k_ => nB k_ (.slice Ao35 t191.length co35) ∧ nB k_ (.slice Ao39 t194.length co39)) (fun _ => False) rfl rfl ?aP (fun _ hk => hk.elim) ?aF ?aO ?aB ?aS ?aL ?_; (case aP => exact k39_mkM _ _ _ (⟨7, wrap64 ((wrap64 ((wrap64 ((wrap64 (a1 + (wrap64 ((t173.length : Int) + 1)))) + (t191.length : Int))) + 1)) + (t194.length : Int)), (⟨0, 0⟩ : S37)⟩ : S39)); (case aB => exact (mB HB.out)); (case aF => exact (fun k_ hk => ⟨Kd.fresh' (Kd.R_lt (mR HO193.out)) k_ hk, Kd.fresh' (Kd.R_lt (mR HO196.out)) k_ hk⟩)); (case aO => exact (mR HO202.out)); (case aS => exact (below_size (mB HB.out))); (case aL => have := LMc29.out; omega); intro v204 w40 ho hb hg hat; rw [← Ny203.out] at ho; have n0_ := z0 (blk_grown (g := gb172) (o := .cells #[.int .i64 a0_0, .int .i64 a0_1, .int .i64 a0_2, .int .i64 a0_3, .int .i64 a0_4, .int .i64 a0_5, .int .i64 a0_6, .slice A0_7 l0_7.length c0_7, .slice A0_8 l0_8.length c0_8, .slice A0_9 l0_9.length c0_9] 69 (0, 0)) (mK BK172.out) hg (Kd.R_ne HO202.out BK172.out (by decide))); have n1_ := z0 (Kd.R_after (ok := (fun k_ => nB k_ (.slice Ao39 t194.length co39))) (mR HO193.out) hg hat); have n2_ := z0 (Kd.R_after (ok := (fun k_ => nB k_ (.slice Ao35 t191.length co35))) (mR HO196.out) hg hat); have n3_ := z0 (hb); have n4_ := z0 (ho); clear BK172; clear HO193; clear HO196; clear HB; clear HO202; have BK172 := n0_; have HO193 := n1_; have HO196 := n2_; have HB := n3_; have HO205 := n4_; clear n0_ n1_ n2_ n3_ n4_; clear ho hb hg hat) | ((with_reducible refine gate_builtin (b := .append) (xs := #[.tmp 95, .tmp 96]) rfl ?_); at_builtin; refine Kd.R_append_rows k39 (w0 := w) w.heap.size rfl (.tmp 95) (.tmp 96) 24 39 (.agg #[(.int .i64 0), (.int .i64 0), (.int .i64 0), (.int .i64 0)]) 32 rfl Try.underlying24 info39 rfl (by decide) (by omega) v204 y203 t194 _ _ _ (fun k_ => nB k_ (.slice Ao35 t191.length co35) ∧ nB k_ (.slice Ao39 t194.length co39)) (fun _ => False) rfl rfl ?aO ?aR (fun _ _ h => h) (fun _ h => h.elim) ?aF ?aB ?aS ?aL ?_; (case aR => exact mC (Kd.R_reads' HO196.out).2.2); (case aB => exact (mB HB.out)); (case aF => exact (fun k_ hk => ⟨Kd.fresh' (Kd.R_lt (mR HO193.out)) k_ hk, Kd.fresh' (Kd.R_lt (mR HO196.out)) k_ hk⟩)); (case aO => exact (mR HO205.out)); (case aS => exact (below_size (mB HB.out))); (case aL => have := LMc30.out; omega); intro v207 w41 ho hb hg hat; rw [← Ny206.out] at ho; have n0_ := z0 (blk_grown (g := gb172) (o := .cells #[.int .i64 a0_0, .int .i64 a0_1, .int .i64 a0_2, .int .i64 a0_3, .int .i64 a0_4, .int .i64 a0_5, .int .i64 a0_6, .slice A0_7 l0_7.length c0_7, .slice A0_8 l0_8.length c0_8, .slice A0_9 l0_9.length c0_9] 69 (0, 0)) (mK BK172.out) hg (Kd.R_ne HO205.out BK172.out (by decide))); have n1_ := z0 (Kd.R_after (ok := (fun k_ => nB k_ (.slice Ao39 t194.length co39))) (mR HO193.out) hg hat); have n2_ := z0 (Kd.R_after (ok := (fun k_ => nB k_ (.slice Ao35 t191.length co35))) (mR HO196.out) hg hat); have n3_ := z0 (hb); have n4_ := z0 (ho); clear BK172; clear HO193; clear HO196; clear HB; clear HO205; have BK172 := n0_; have HO193 := n1_; have HO196 := n2_; have HB := n3_; have HO208 := n4_; clear n0_ n1_ n2_ n3_ n4_; clear ho hb hg hat))
       go_ret
       exact ⟨_, rfx, by (with_reducible repeat (first | apply Kd.R_alloc | apply Kd.R_drewN | apply Kd.R_drew)); exact Kd.R_mono HO208.out (fun _ hk => trivial), mB HB.out⟩
      ·rw [if_neg c30] at H
       exact absurd H (by simp)
     ·rw [if_neg c29] at H
      exact absurd H (by simp)
    ·rw [if_neg c28] at H
     exact absurd H (by simp)
   ·rw [if_neg c27] at H
    exact absurd H (by simp)
set_option maxHeartbeats 8000000 in
set_option maxRecDepth 100000 in
theorem spec_l5Of.calls_of (k : Nat)
  (ihg63 : ∀ m_, m_ < k → ∀ (a0_0 : Int) (a0_1 : Int) (a0_2 : Int) (a0_3 : Int) (a0_4 : Int) (a0_5 : Int) (a0_6 : Int) (A0_7 : Option Addr) (c0_7 : Nat) (l0_7 : List (S46)) (A0_8 : Option Addr) (c0_8 : Nat) (l0_8 : List (S69)) (A0_9 : Option Addr) (c0_9 : Nat) (l0_9 : List (S69)) (a1 : Int) (r : List (S39)) (w : World) (hr0_7 : Kd.C k46 w A0_7 l0_7.length l0_7) (hc0_7 : l0_7.length ≤ c0_7) (hr0_8 : Kd.C k69 w A0_8 l0_8.length l0_8) (hc0_8 : l0_8.length ≤ c0_8) (hr0_9 : Kd.C k69 w A0_9 l0_9.length l0_9) (hc0_9 : l0_9.length ≤ c0_9) (h : spec_l5One.f m_ a0_0 a0_1 a0_2 a0_3 a0_4 a0_5 a0_6 l0_7 l0_8 l0_9 a1 = some r),
  Calls Try.prog 63 #[.agg #[.int .i64 a0_0, .int .i64 a0_1, .int .i64 a0_2, .int .i64 a0_3, .int .i64 a0_4, .int .i64 a0_5, .int .i64 a0_6, .slice A0_7 l0_7.length c0_7, .slice A0_8 l0_8.length c0_8, .slice A0_9 l0_9.length c0_9], .int .i64 a1] w fun e w' => ∃ v0_ : Value, e = .returned (v0_) ∧ Kd.R k39 39 w' w.heap.size (fun _ => True) v0_ r ∧ Below w.heap.size w w')
  (ihg34 : ∀ m_, m_ < k → ∀ (A0 : Option Addr) (c0 : Nat) (l0 : List (S69)) (a1 : Int) (r : List (S39)) (w : World) (hr0 : Kd.C k69 w A0 l0.length l0) (hc0 : l0.length ≤ c0) (h : spec_l5Of.f m_ l0 a1 = some r),
  Calls Try.prog 34 #[.slice A0 l0.length c0, .int .i64 a1] w fun e w' => ∃ v0_ : Value, e = .returned (v0_) ∧ Kd.R k39 39 w' w.heap.size (fun _ => True) v0_ r ∧ Below w.heap.size w w') : ∀ (A0 : Option Addr) (c0 : Nat) (l0 : List (S69)) (a1 : Int) (r : List (S39)) (w : World) (hr0 : Kd.C k69 w A0 l0.length l0) (hc0 : l0.length ≤ c0) (h : spec_l5Of.f k l0 a1 = some r),
  Calls Try.prog 34 #[.slice A0 l0.length c0, .int .i64 a1] w fun e w' => ∃ v0_ : Value, e = .returned (v0_) ∧ Kd.R k39 39 w' w.heap.size (fun _ => True) v0_ r ∧ Below w.heap.size w w' := by
 intro A0 c0 l0 a1 r w hr0 hc0 h
 cases k with
 | zero => exact absurd h (by simp [spec_l5Of.f])
 | succ k =>
 simp only [spec_l5Of.f] at h
 have hu69 := Try.underlying69
 have HR0 := z0 hr0
 have HC0 := z0 hc0
 clear hr0 hc0
 have HB := z0 (Below.refl w.heap.size w)
 have H : (spec_l5Of.l0 k l0 a1 (([] : List (S39))) 0) = some r := h
 clear h
 obtain ⟨y209, hy209⟩ : ∃ y_ : List (S39), y_ = (([] : List (S39))) := ⟨_, rfl⟩
 replace H : (spec_l5Of.l0 k l0 a1 y209 0) = some r := by first | (rw [hy209]; with_reducible exact H) | (have H2_ := (Option.bind_some _ _).symm.trans H; rw [hy209]; with_reducible exact H2_) | (have H2_ := (Option.bind_some _ _).symm.trans H; with_reducible exact H2_) | with_reducible exact H | (rw [hy209]; exact H) | exact H
 have Ny209 := z0 hy209
 clear hy209
 have H' := z0 H
 clear H
 go_enter Try.func34, Try.ntmps34
 go_wp2_with (first | ((with_reducible refine gate_dst (N := 7) rfl ?_); refine Kd.R_lit k39 _ 39 ?hg (N := 7) ?hd (xs := ([] : List (S39))) (inner := []) (ok := fun _ => True) (okp := fun _ => True) ?hr ?hp (fun _ hk => hk) trivial (Below.refl _ _) (Nat.le_refl _) (by simp) ?_; (case hd => rfl); (case hg => rfl); (case hr => first | (go_simp; done) | (go_simp; rfl)); (case hp => exact (Reps.none _ _)); intro v210 w3 ho4 hb hg_ hnew_; clear hg_ hnew_; (first | rw [← Ny209.out] at ho4 | (simp only [Int.reduceToNat] at ho4; rw [← Ny209.out] at ho4)); have n0_ := z0 (Kd.R_lower ho4 (below_size (mB HB.out))); have n1_ := z0 (below_step (mB HB.out) hb); clear HB; have HO211 := n0_; have HB := n1_; clear n0_ n1_; clear hb ho4))
 go_loopg [5, 6] k (fun kq v5 v6 w' => ∃ (x5_1 : List (S39)) (x6_1 : Int), v6 = .int .i64 x6_1 ∧ Aside0 (spec_l5Of.l0 kq l0 a1 x5_1 x6_1 = some r) ∧ Aside0 (kq ≤ k) ∧ Aside0 (Kd.R k39 39 w' w.heap.size (fun _ => True) v5 x5_1) ∧ Aside0 (Below w.heap.size w w'))
 case atStart => exact ⟨(y209), (0), rfy, H', ⟨Nat.le_refl _⟩, ⟨mR HO211.out⟩, ⟨mB HB.out⟩⟩
 case round =>
  clear H'
  (try clear p2); (try clear c3)
  obtain ⟨x5_1, x6_1, rfl, HA, HK1, HO_5, HB⟩ := hrel
  cases gk with
  | zero => exact absurd HA.out (by simp [spec_l5Of.l0])
  | succ k1 =>
   have H := HA.out
   clear HA
   simp only [spec_l5Of.l0] at H
   by_cases c5 : x6_1 < (l0.length : Int)
   ·rw [if_pos c5] at H
    have c5b0 : decide (x6_1 < (l0.length : Int)) = true := decide_eq_true c5
    clear c5
    by_cases c6 : 0 ≤ x6_1
    ·rw [if_pos c6] at H
     have c6b0 : decide (0 ≤ x6_1) = true := decide_eq_true c6
     clear c6
     replace H := Option.bind_eq_some_iff.mp H
     obtain ⟨t213, A70, H⟩ := H
     replace H : (if x5_1.length + t213.length < 4398046511104 then (spec_l5Of.l0 k1 l0 a1 (x5_1 ++ t213) (wrap64 (x6_1 + 1))) else (none)) = some r := H
     have A7 := z0 A70
     clear A70
     by_cases c8 : x5_1.length + t213.length < 4398046511104
     ·rw [if_pos c8] at H
      have LMc8 := z0 c8
      clear c8
      obtain ⟨y216, hy216⟩ : ∃ y_ : List (S39), y_ = (x5_1 ++ t213) := ⟨_, rfl⟩
      replace H : (spec_l5Of.l0 k1 l0 a1 y216 (wrap64 (x6_1 + 1))) = some r := by first | (rw [hy216]; with_reducible exact H) | (have H2_ := (Option.bind_some _ _).symm.trans H; rw [hy216]; with_reducible exact H2_) | (have H2_ := (Option.bind_some _ _).symm.trans H; with_reducible exact H2_) | with_reducible exact H | (rw [hy216]; exact H) | exact H
      have Ny216 := z0 hy216
      clear hy216
      have H' := z0 H
      clear H
      have p212 : 0 ≤ (x6_1 : Int) := of_decide_eq_true (by first | (with_reducible assumption) | assumption)
      have q212 : x6_1 < (l0.length : Int) := of_decide_eq_true (by first | (with_reducible assumption) | assumption)
      obtain ⟨ad212, A212_7, c212_7, A212_8, c212_8, A212_9, c212_9, e212, hx212_0, hx212_1, hx212_2, hx212_3, hx212_4, hx212_5, hx212_6, hx212_7, hx212_8, hx212_9, hl212_7, hi212_7, hl212_8, hi212_8, hl212_9, hi212_9⟩ := at_T69 HR0.out x6_1 p212 q212
      cases e212
      replace hx212_0 := (HB.out.cell (World.block_lt_of_cell? w _ hx212_0)).trans hx212_0
      replace hx212_1 := (HB.out.cell (World.block_lt_of_cell? w _ hx212_1)).trans hx212_1
      replace hx212_2 := (HB.out.cell (World.block_lt_of_cell? w _ hx212_2)).trans hx212_2
      replace hx212_3 := (HB.out.cell (World.block_lt_of_cell? w _ hx212_3)).trans hx212_3
      replace hx212_4 := (HB.out.cell (World.block_lt_of_cell? w _ hx212_4)).trans hx212_4
      replace hx212_5 := (HB.out.cell (World.block_lt_of_cell? w _ hx212_5)).trans hx212_5
      replace hx212_6 := (HB.out.cell (World.block_lt_of_cell? w _ hx212_6)).trans hx212_6
      replace hx212_7 := (HB.out.cell (World.block_lt_of_cell? w _ hx212_7)).trans hx212_7
      replace hx212_8 := (HB.out.cell (World.block_lt_of_cell? w _ hx212_8)).trans hx212_8
      replace hx212_9 := (HB.out.cell (World.block_lt_of_cell? w _ hx212_9)).trans hx212_9
      have HR212_7 := z0 hi212_7
      have HC212_7 := z0 hl212_7
      clear hi212_7 hl212_7
      have HR212_8 := z0 hi212_8
      have HC212_8 := z0 hl212_8
      clear hi212_8 hl212_8
      have HR212_9 := z0 hi212_9
      have HC212_9 := z0 hl212_9
      clear hi212_9 hl212_9
      replace p212 := eq_true p212
      replace q212 := eq_true q212
      obtain ⟨Ao9, co9, eo9⟩ := Kd.R_slice HO_5.out
      subst eo9
      go_wp2_with (first | ((with_reducible refine gate_callee (f := 63) rfl ?_); refine goesL_ (some 23) rfl rfl Try.func63 (by kernel_rfl) rfl #[.agg #[.int .i64 ((rd_T69 l0 x6_1).f0), .int .i64 ((rd_T69 l0 x6_1).f1.f0), .int .i64 ((rd_T69 l0 x6_1).f1.f1), .int .i64 ((rd_T69 l0 x6_1).f2.f0), .int .i64 ((rd_T69 l0 x6_1).f2.f1), .int .i64 ((rd_T69 l0 x6_1).f2.f2.f0), .int .i64 ((rd_T69 l0 x6_1).f2.f2.f1), .slice A212_7 ((rd_T69 l0 x6_1).f2.f3).length c212_7, .slice A212_8 ((rd_T69 l0 x6_1).f3).length c212_8, .slice A212_9 ((rd_T69 l0 x6_1).f4).length c212_9], .int .i64 (wrap64 (a1 + (x5_1.length : Int)))] rfl argx ?_; (with_reducible refine (ihg63 k1 (by have := HK1.out; omega) ((rd_T69 l0 x6_1).f0) ((rd_T69 l0 x6_1).f1.f0) ((rd_T69 l0 x6_1).f1.f1) ((rd_T69 l0 x6_1).f2.f0) ((rd_T69 l0 x6_1).f2.f1) ((rd_T69 l0 x6_1).f2.f2.f0) ((rd_T69 l0 x6_1).f2.f2.f1) _ _ ((rd_T69 l0 x6_1).f2.f3) _ _ ((rd_T69 l0 x6_1).f3) _ _ ((rd_T69 l0 x6_1).f4) (wrap64 (a1 + (x5_1.length : Int))) t213 _ ?side1 ?side2 ?side3 ?side4 ?side5 ?side6 A7.out).mono ?_); (case side1 => exact mC (Kd.C_below HR212_7.out HB.out)); (case side2 => exact HC212_7.out); (case side3 => exact mC (Kd.C_below HR212_8.out HB.out)); (case side4 => exact HC212_8.out); (case side5 => exact mC (Kd.C_below HR212_9.out HB.out)); (case side6 => exact HC212_9.out); rintro e w10 ⟨v214, rfl, ho0, hb⟩; refine ⟨_, rfl, ?_⟩; have n0_ := z0 (Kd.R_elder' (mR HO_5.out) (by first | exact Kd.R_base ho0 | exact Kd.R_base ho0) hb); have n1_ := z0 (Kd.R_lower (Kd.R_new' ho0 (Kd.R_lt (mR HO_5.out))) (below_size (mB HB.out))); have n2_ := z0 (below_step (mB HB.out) hb); clear HO_5; clear HB; have HO_5 := n0_; have HO215 := n1_; have HB := n2_; clear n0_ n1_ n2_; (try clear hb); (try clear hb2); (try clear hk); (try clear hi); (try clear ho0); obtain ⟨Ao12, co12, eo12⟩ := Kd.R_slice HO215.out; subst eo12) | ((with_reducible refine gate_builtin (b := .append) (xs := #[.tmp 14, .tmp 23]) rfl ?_); at_builtin; refine Kd.R_append_rows k39 (w0 := w) w.heap.size rfl (.tmp 14) (.tmp 23) 24 39 (.agg #[(.int .i64 0), (.int .i64 0), (.int .i64 0), (.int .i64 0)]) 32 rfl Try.underlying24 info39 rfl (by decide) (by omega) (.slice Ao9 x5_1.length co9) x5_1 t213 _ _ _ (fun k_ => nB k_ (.slice Ao12 t213.length co12)) (fun _ => False) rfl rfl ?aO ?aR (fun _ _ h => h) (fun _ h => h.elim) ?aF ?aB ?aS ?aL ?_; (case aR => exact mC (Kd.R_reads' HO215.out).2.2); (case aB => exact (mB HB.out)); (case aF => exact (fun k_ hk => Kd.fresh' (Kd.R_lt (mR HO215.out)) k_ hk)); (case aO => exact (by (with_reducible repeat (first | apply Kd.R_alloc | apply Kd.R_drewN | apply Kd.R_drew)); exact Kd.R_mono HO_5.out (fun _ hk => hk.2))); (case aS => exact (below_size (mB HB.out))); (case aL => have := LMc8.out; omega); intro v217 w11 ho hb hg hat; rw [← Ny216.out] at ho; have n0_ := z0 (Kd.R_after (ok := (fun _ => True)) (mR HO215.out) hg hat); have n1_ := z0 (hb); have n2_ := z0 (ho); clear HO215; clear HB; clear HO_5; have HO215 := n0_; have HB := n1_; have HO218 := n2_; clear n0_ n1_ n2_; clear ho hb hg hat))
      go_roundg k1
      case measure => have := HK1.out; omega
      case rel => exact ⟨(y216), (wrap64 (x6_1 + 1)), rfy, H', ⟨by have := HK1.out; omega⟩, ⟨by (with_reducible repeat (first | apply Kd.R_alloc | apply Kd.R_drewN | apply Kd.R_drew)); exact Kd.R_mono HO218.out (fun _ hk => trivial)⟩, ⟨mB HB.out⟩⟩
     ·rw [if_neg c8] at H
      exact absurd H (by simp)
    ·rw [if_neg c6] at H
     exact absurd H (by simp)
   ·rw [if_neg c5] at H
    have c5b0 : decide (x6_1 < (l0.length : Int)) = false := decide_eq_false c5
    clear c5
    obtain rfl := Option.some.inj H
    go_wp2
    go_ret
    exact ⟨_, rfx, mR HO_5.out, mB HB.out⟩
theorem spec_l5One.calls_g (k : Nat) : (∀ (a0_0 : Int) (a0_1 : Int) (a0_2 : Int) (a0_3 : Int) (a0_4 : Int) (a0_5 : Int) (a0_6 : Int) (A0_7 : Option Addr) (c0_7 : Nat) (l0_7 : List (S46)) (A0_8 : Option Addr) (c0_8 : Nat) (l0_8 : List (S69)) (A0_9 : Option Addr) (c0_9 : Nat) (l0_9 : List (S69)) (a1 : Int) (r : List (S39)) (w : World) (hr0_7 : Kd.C k46 w A0_7 l0_7.length l0_7) (hc0_7 : l0_7.length ≤ c0_7) (hr0_8 : Kd.C k69 w A0_8 l0_8.length l0_8) (hc0_8 : l0_8.length ≤ c0_8) (hr0_9 : Kd.C k69 w A0_9 l0_9.length l0_9) (hc0_9 : l0_9.length ≤ c0_9) (h : spec_l5One.f k a0_0 a0_1 a0_2 a0_3 a0_4 a0_5 a0_6 l0_7 l0_8 l0_9 a1 = some r),
  Calls Try.prog 63 #[.agg #[.int .i64 a0_0, .int .i64 a0_1, .int .i64 a0_2, .int .i64 a0_3, .int .i64 a0_4, .int .i64 a0_5, .int .i64 a0_6, .slice A0_7 l0_7.length c0_7, .slice A0_8 l0_8.length c0_8, .slice A0_9 l0_9.length c0_9], .int .i64 a1] w fun e w' => ∃ v0_ : Value, e = .returned (v0_) ∧ Kd.R k39 39 w' w.heap.size (fun _ => True) v0_ r ∧ Below w.heap.size w w') ∧ (∀ (A0 : Option Addr) (c0 : Nat) (l0 : List (S69)) (a1 : Int) (r : List (S39)) (w : World) (hr0 : Kd.C k69 w A0 l0.length l0) (hc0 : l0.length ≤ c0) (h : spec_l5Of.f k l0 a1 = some r),
  Calls Try.prog 34 #[.slice A0 l0.length c0, .int .i64 a1] w fun e w' => ∃ v0_ : Value, e = .returned (v0_) ∧ Kd.R k39 39 w' w.heap.size (fun _ => True) v0_ r ∧ Below w.heap.size w w') := by
 induction k using Nat.strongRecOn with
 | _ k ih => exact ⟨spec_l5One.calls_of k (fun m_ h_ => (ih m_ h_).1) (fun m_ h_ => (ih m_ h_).2), spec_l5Of.calls_of k (fun m_ h_ => (ih m_ h_).1) (fun m_ h_ => (ih m_ h_).2)⟩
theorem spec_l5One.calls (k : Nat) : ∀ (a0_0 : Int) (a0_1 : Int) (a0_2 : Int) (a0_3 : Int) (a0_4 : Int) (a0_5 : Int) (a0_6 : Int) (A0_7 : Option Addr) (c0_7 : Nat) (l0_7 : List (S46)) (A0_8 : Option Addr) (c0_8 : Nat) (l0_8 : List (S69)) (A0_9 : Option Addr) (c0_9 : Nat) (l0_9 : List (S69)) (a1 : Int) (r : List (S39)) (w : World) (hr0_7 : Kd.C k46 w A0_7 l0_7.length l0_7) (hc0_7 : l0_7.length ≤ c0_7) (hr0_8 : Kd.C k69 w A0_8 l0_8.length l0_8) (hc0_8 : l0_8.length ≤ c0_8) (hr0_9 : Kd.C k69 w A0_9 l0_9.length l0_9) (hc0_9 : l0_9.length ≤ c0_9) (h : spec_l5One.f k a0_0 a0_1 a0_2 a0_3 a0_4 a0_5 a0_6 l0_7 l0_8 l0_9 a1 = some r),
  Calls Try.prog 63 #[.agg #[.int .i64 a0_0, .int .i64 a0_1, .int .i64 a0_2, .int .i64 a0_3, .int .i64 a0_4, .int .i64 a0_5, .int .i64 a0_6, .slice A0_7 l0_7.length c0_7, .slice A0_8 l0_8.length c0_8, .slice A0_9 l0_9.length c0_9], .int .i64 a1] w fun e w' => ∃ v0_ : Value, e = .returned (v0_) ∧ Kd.R k39 39 w' w.heap.size (fun _ => True) v0_ r ∧ Below w.heap.size w w' := (spec_l5One.calls_g k).1
theorem spec_l5Of.calls (k : Nat) : ∀ (A0 : Option Addr) (c0 : Nat) (l0 : List (S69)) (a1 : Int) (r : List (S39)) (w : World) (hr0 : Kd.C k69 w A0 l0.length l0) (hc0 : l0.length ≤ c0) (h : spec_l5Of.f k l0 a1 = some r),
  Calls Try.prog 34 #[.slice A0 l0.length c0, .int .i64 a1] w fun e w' => ∃ v0_ : Value, e = .returned (v0_) ∧ Kd.R k39 39 w' w.heap.size (fun _ => True) v0_ r ∧ Below w.heap.size w w' := (spec_l5One.calls_g k).2

end Go.Proofs.Ytddnijmgipffeaa.B
namespace Go.Proofs.Ytddnijmgipffeaa.B
open Go.RowKit Go.Proofs.YtddnijmgipffeaaW.PrintWords Go.Proofs.YtddnijmgipffeaaW.PrintLast Go.Proofs.YtddnijmgipffeaaW.PrintMore
attribute [local go_sem] max2_int min2_int max_two min_two max_three min_three max_four min_four   -- for this text's walks alone
set_option linter.unusedVariables false
set_option linter.unusedSimpArgs false

/-! ### spec_CodeOf: function 9 -/
def spec_CodeOf.f (k : Nat) (l0 : List (S69)) : Option ((List (S39))) := (spec_StmtsOk.f k l0).bind fun t219 => (if t219 = true then ((spec_l5Of.f k l0 0).bind fun t220 => (some t220)) else (some (([] : List (S39)))))
set_option maxHeartbeats 8000000 in
set_option maxRecDepth 100000 in
theorem spec_CodeOf.calls (k : Nat) (A0 : Option Addr) (c0 : Nat) (l0 : List (S69)) (r : List (S39)) (w : World) (hr0 : Kd.C k69 w A0 l0.length l0) (hc0 : l0.length ≤ c0) (h : spec_CodeOf.f k l0 = some r) :
  Calls Try.prog 9 #[.slice A0 l0.length c0] w fun e w' => ∃ v0_ : Value, e = .returned (v0_) ∧ Kd.R k39 39 w' w.heap.size (fun _ => True) v0_ r ∧ Below w.heap.size w w' := by
 have HR0 := z0 hr0
 have HC0 := z0 hc0
 clear hr0 hc0
 have HB := z0 (Below.refl w.heap.size w)
 have H : ((spec_StmtsOk.f k l0).bind fun t219 => (if t219 = true then ((spec_l5Of.f k l0 0).bind fun t220 => (some t220)) else (some (([] : List (S39)))))) = some r := h
 clear h
 replace H := Option.bind_eq_some_iff.mp H
 obtain ⟨t219, A20, H⟩ := H
 replace H : (if t219 = true then ((spec_l5Of.f k l0 0).bind fun t220 => (some t220)) else (some (([] : List (S39))))) = some r := H
 have A2 := z0 A20
 clear A20
 have HF3 := z0 H
 clear H
 go_enter Try.func9, Try.ntmps9
 go_upto_if 5 with (first | ((with_reducible refine gate_callee (f := 19) rfl ?_); refine goesL_ (some 4) rfl rfl Try.func19 (by kernel_rfl) rfl #[.slice A0 l0.length c0] rfl argx ?_; (with_reducible refine (spec_StmtsOk.calls k _ _ l0 t219 _ ?side1 ?side2 A2.out).mono ?_); (case side1 => exact mC HR0.out); (case side2 => exact HC0.out); rintro e w4 ⟨rfl, hb⟩; refine ⟨_, rfl, ?_⟩; have n0_ := z0 (below_step (mB HB.out) hb); clear HB; have HB := n0_; clear n0_; (try clear hb); (try clear hb2); (try clear hk); (try clear hi)))
 (try simp only [Act.put, List.setIfInBounds_toArray, List.set_cons_zero, List.set_cons_succ])
 have H := HF3.out
 clear HF3
 try clear c1
 by_cases c5 : t219 = true
 ·subst c5
  have H1 : ((spec_l5Of.f k l0 0).bind fun t220 => (some t220)) = some r := by rw [if_pos rfl] at H; exact H
  clear H
  have H := H1
  clear H1
  replace H := Option.bind_eq_some_iff.mp H
  obtain ⟨t220, A60, H⟩ := H
  replace H : (some t220) = some r := H
  have A6 := z0 A60
  clear A60
  obtain rfl := Option.some.inj H
  go_wp2_with (first | ((with_reducible refine gate_callee (f := 34) rfl ?_); refine goesL_ (some 8) rfl rfl Try.func34 (by kernel_rfl) rfl #[.slice A0 l0.length c0, .int .i64 0] rfl argx ?_; (with_reducible refine (spec_l5Of.calls k _ _ l0 0 t220 _ ?side1 ?side2 A6.out).mono ?_); (case side1 => exact mC (Kd.C_below HR0.out HB.out)); (case side2 => exact HC0.out); rintro e w7 ⟨v221, rfl, ho0, hb⟩; refine ⟨_, rfl, ?_⟩; have n0_ := z0 (Kd.R_lower ho0 (below_size (mB HB.out))); have n1_ := z0 (below_step (mB HB.out) hb); clear HB; have HO222 := n0_; have HB := n1_; clear n0_ n1_; (try clear hb); (try clear hb2); (try clear hk); (try clear hi); (try clear ho0)))
  go_ret
  exact ⟨_, rfx, mR HO222.out, mB HB.out⟩
 ·replace c5 := Bool.eq_false_iff.mpr c5
  subst c5
  have H1 : (some (([] : List (S39)))) = some r := by rw [if_neg (show ¬ (false = true) by decide)] at H; exact H
  clear H
  have H := H1
  clear H1
  obtain ⟨y223, hy223⟩ : ∃ y_ : List (S39), y_ = (([] : List (S39))) := ⟨_, rfl⟩
  replace H : (some y223) = some r := by first | (rw [hy223]; with_reducible exact H) | (have H2_ := (Option.bind_some _ _).symm.trans H; rw [hy223]; with_reducible exact H2_) | (have H2_ := (Option.bind_some _ _).symm.trans H; with_reducible exact H2_) | with_reducible exact H | (rw [hy223]; exact H) | exact H
  have Ny223 := z0 hy223
  clear hy223
  obtain rfl := Option.some.inj H
  go_wp2_with (first | ((with_reducible refine gate_dst (N := 6) rfl ?_); refine Kd.R_lit k39 _ 39 ?hg (N := 6) ?hd (xs := ([] : List (S39))) (inner := []) (ok := fun _ => True) (okp := fun _ => True) ?hr ?hp (fun _ hk => hk) trivial (Below.refl _ _) (Nat.le_refl _) (by simp) ?_; (case hd => rfl); (case hg => rfl); (case hr => first | (go_simp; done) | (go_simp; rfl)); (case hp => exact (Reps.none _ _)); intro v224 w8 ho9 hb hg_ hnew_; clear hg_ hnew_; (first | rw [← Ny223.out] at ho9 | (simp only [Int.reduceToNat] at ho9; rw [← Ny223.out] at ho9)); have n0_ := z0 (Kd.R_lower ho9 (below_size (mB HB.out))); have n1_ := z0 (below_step (mB HB.out) hb); clear HB; have HO225 := n0_; have HB := n1_; clear n0_ n1_; clear hb ho9))
  go_ret
  exact ⟨_, rfx, mR HO225.out, mB HB.out⟩

end Go.Proofs.Ytddnijmgipffeaa.B
namespace Go.Proofs.Ytddnijmgipffeaa.B
open Go.RowKit Go.Proofs.YtddnijmgipffeaaW.PrintWords Go.Proofs.YtddnijmgipffeaaW.PrintLast Go.Proofs.YtddnijmgipffeaaW.PrintMore
attribute [local go_sem] max2_int min2_int max_two min_two max_three min_three max_four min_four   -- for this text's walks alone
set_option linter.unusedVariables false
set_option linter.unusedSimpArgs false

/-! ### laws_eqIns: function 38 -/
def laws_eqIns.f (a0_0 : Int) (a0_1 : Int) (a0_2 : Int) (a0_3 : Int) (a1_0 : Int) (a1_1 : Int) (a1_2 : Int) (a1_3 : Int) : Option (Bool) := if a0_0 = a1_0 then (if a0_1 = a1_1 then ((laws_eqAddr.f a0_2 a0_3 a1_2 a1_3).bind fun t298 => (if t298 = true then (some true) else (some false))) else (some false)) else (some false)
set_option maxHeartbeats 8000000 in
set_option maxRecDepth 100000 in
theorem laws_eqIns.calls (a0_0 : Int) (a0_1 : Int) (a0_2 : Int) (a0_3 : Int) (a1_0 : Int) (a1_1 : Int) (a1_2 : Int) (a1_3 : Int) (r : Bool) (w : World) (h : laws_eqIns.f a0_0 a0_1 a0_2 a0_3 a1_0 a1_1 a1_2 a1_3 = some r) :
  Calls Try.prog 38 #[.agg #[.int .i64 a0_0, .int .i64 a0_1, .int .i64 a0_2, .int .i64 a0_3], .agg #[.int .i64 a1_0, .int .i64 a1_1, .int .i64 a1_2, .int .i64 a1_3]] w fun e w' => e = .returned (.bool r) ∧ Below w.heap.size w w' := by
 have hu39 := Try.underlying39
 have hu37 := Try.underlying37
 have HB := z0 (Below.refl w.heap.size w)
 have H : (if a0_0 = a1_0 then (if a0_1 = a1_1 then ((laws_eqAddr.f a0_2 a0_3 a1_2 a1_3).bind fun t298 => (if t298 = true then (some true) else (some false))) else (some false)) else (some false)) = some r := h
 clear h
 have HF3 := z0 H
 clear H
 go_enter Try.func38, Try.ntmps38
 go_upto_if 9 with (first | ((with_reducible refine gate_dst (N := 2) rfl ?_); refine box_event ?hg (N := 2) ?hd (cs := #[.int .i64 a0_0, .int .i64 a0_1, .int .i64 a0_2, .int .i64 a0_3]) (t := 39) ?hr ?_; (case hd => rfl); (case hg => rfl); (case hr => first | (go_simp; done) | (go_simp; rfl)); intro gb296 hg w4 hbox hb; have n0_ := z0 (below_step (mB HB.out) hb); have n1_ := z0 (hbox); have n2_ := z0 ((by rw [hg]; exact (below_size (mB HB.out)) : w.heap.size ≤ gb296)); have n3_ := z0 ((by rw [hg]; exact (below_size (mB HB.out)) : w.heap.size ≤ gb296)); clear HB; have HB := n0_; have BK296 := n1_; have GW296 := n2_; have GE296 := n3_; clear n0_ n1_ n2_ n3_; clear hb hbox hg) | ((with_reducible refine gate_dst (N := 3) rfl ?_); refine box_event ?hg (N := 3) ?hd (cs := #[.int .i64 a1_0, .int .i64 a1_1, .int .i64 a1_2, .int .i64 a1_3]) (t := 39) ?hr ?_; (case hd => rfl); (case hg => rfl); (case hr => first | (go_simp; done) | (go_simp; rfl)); intro gb297 hg w5 hbox hb; have n0_ := z0 (blk_below (g := gb296) (o := .cells #[.int .i64 a0_0, .int .i64 a0_1, .int .i64 a0_2, .int .i64 a0_3] 39 (0, 0)) (mK BK296.out) hb); have n1_ := z0 (below_step (mB HB.out) hb); have n2_ := z0 (hbox); have n3_ := z0 ((by rw [hg]; exact (below_size (mB HB.out)) : w.heap.size ≤ gb297)); have n4_ := z0 ((by rw [hg]; exact (below_size (mB HB.out)) : w.heap.size ≤ gb297)); have n5_ := z0 ((by rw [hg]; exact Nat.ne_of_lt (blk_lt (g := gb296) (o := .cells #[.int .i64 a0_0, .int .i64 a0_1, .int .i64 a0_2, .int .i64 a0_3] 39 (0, 0)) (mK BK296.out)) : gb296 ≠ gb297)); have n6_ := z0 ((by rw [hg]; exact Nat.ne_of_gt (blk_lt (g := gb296) (o := .cells #[.int .i64 a0_0, .int .i64 a0_1, .int .i64 a0_2, .int .i64 a0_3] 39 (0, 0)) (mK BK296.out)) : gb297 ≠ gb296)); clear BK296; clear HB; have BK296 := n0_; have HB := n1_; have BK297 := n2_; have GW297 := n3_; have GE297 := n4_; have NB296_297 := n5_; have NB297_296 := n6_; clear n0_ n1_ n2_ n3_ n4_ n5_ n6_; clear hb hbox hg; have hnb6 := NB296_297.out; have hnc6 := NB297_296.out; obtain ⟨hcz7_0, hcz7_1, hcz7_2, hcz7_3, hfz7_0, hfz7_1, hfz7_2, hfz7_3⟩ := cel4 BK296.out; obtain ⟨hcz8_0, hcz8_1, hcz8_2, hcz8_3, hfz8_0, hfz8_1, hfz8_2, hfz8_3⟩ := cel4 BK297.out))
 (try simp only [Act.put, List.setIfInBounds_toArray, List.set_cons_zero, List.set_cons_succ])
 have H := HF3.out
 clear HF3
 (try clear c3); (try clear c6); (try clear hcz7_0); (try clear hcz7_1); (try clear hcz7_2); (try clear hcz7_3); (try clear hcz8_0); (try clear hcz8_1); (try clear hcz8_2); (try clear hcz8_3); (try clear hfz7_0); (try clear hfz7_1); (try clear hfz7_2); (try clear hfz7_3); (try clear hfz8_0); (try clear hfz8_1); (try clear hfz8_2); (try clear hfz8_3)
 by_cases c9 : a0_0 = a1_0
 ·rw [if_pos c9] at H
  have c9b0 : (a0_0 == a1_0) = true := beq_iff_eq.mpr c9
  have c9b1 : (a0_0 != a1_0) = false := bne_eq_false_iff_eq.mpr c9
  clear c9
  (first | rw [c9b0] | (simp only [i64_w, i32_w]; rw [c9b0]) | skip)
  by_cases c10 : a0_1 = a1_1
  ·rw [if_pos c10] at H
   have c10b0 : (a0_1 == a1_1) = true := beq_iff_eq.mpr c10
   have c10b1 : (a0_1 != a1_1) = false := bne_eq_false_iff_eq.mpr c10
   clear c10
   replace H := Option.bind_eq_some_iff.mp H
   obtain ⟨t298, A110, H⟩ := H
   replace H : (if t298 = true then (some true) else (some false)) = some r := H
   have A11 := z0 A110
   clear A110
   have HF12 := z0 H
   clear H
   have hnb13 := NB296_297.out
   have hnc13 := NB297_296.out
   obtain ⟨hcz14_0, hcz14_1, hcz14_2, hcz14_3, hfz14_0, hfz14_1, hfz14_2, hfz14_3⟩ := cel4 BK296.out
   obtain ⟨hcz15_0, hcz15_1, hcz15_2, hcz15_3, hfz15_0, hfz15_1, hfz15_2, hfz15_3⟩ := cel4 BK297.out
   go_upto_if 20 with (first | ((with_reducible refine gate_callee (f := 70) rfl ?_); refine goesL_ (some 19) rfl rfl Try.func70 (by kernel_rfl) rfl #[.agg #[.int .i64 a0_2, .int .i64 a0_3], .agg #[.int .i64 a1_2, .int .i64 a1_3]] rfl argx ?_; (with_reducible refine (laws_eqAddr.calls a0_2 a0_3 a1_2 a1_3 t298 _ A11.out).mono ?_); rintro e w16 ⟨rfl, hb⟩; refine ⟨_, rfl, ?_⟩; have n0_ := z0 (blk_below (g := gb296) (o := .cells #[.int .i64 a0_0, .int .i64 a0_1, .int .i64 a0_2, .int .i64 a0_3] 39 (0, 0)) (mK BK296.out) hb); have n1_ := z0 (blk_below (g := gb297) (o := .cells #[.int .i64 a1_0, .int .i64 a1_1, .int .i64 a1_2, .int .i64 a1_3] 39 (0, 0)) (mK BK297.out) hb); have n2_ := z0 (below_step (mB HB.out) hb); clear BK296; clear BK297; clear HB; have BK296 := n0_; have BK297 := n1_; have HB := n2_; clear n0_ n1_ n2_; (try clear hb); (try clear hb2); (try clear hk); (try clear hi)))
   (try simp only [Act.put, List.setIfInBounds_toArray, List.set_cons_zero, List.set_cons_succ])
   have H := HF12.out
   clear HF12
   (try clear c1); (try clear c3); (try clear c6); (try clear c7); (try clear c9); (try clear c9b0); (try clear c9b1); (try clear c10); (try clear c10b0); (try clear c10b1); (try clear c13); (try clear hcz14_0); (try clear hcz14_1); (try clear hcz14_2); (try clear hcz14_3); (try clear hcz15_0); (try clear hcz15_1); (try clear hcz15_2); (try clear hcz15_3); (try clear hcz7_0); (try clear hcz7_1); (try clear hcz7_2); (try clear hcz7_3); (try clear hcz8_0); (try clear hcz8_1); (try clear hcz8_2); (try clear hcz8_3); (try clear hfz14_0); (try clear hfz14_1); (try clear hfz14_2); (try clear hfz14_3); (try clear hfz15_0); (try clear hfz15_1); (try clear hfz15_2); (try clear hfz15_3); (try clear hfz7_0); (try clear hfz7_1); (try clear hfz7_2); (try clear hfz7_3); (try clear hfz8_0); (try clear hfz8_1); (try clear hfz8_2); (try clear hfz8_3)
   by_cases c17 : t298 = true
   ·subst c17
    have H1 : (some true) = some r := by rw [if_pos rfl] at H; exact H
    clear H
    have H := H1
    clear H1
    obtain rfl := Option.some.inj H
    go_wp2
    go_ret
    exact ⟨rfx, mB HB.out⟩
   ·replace c17 := Bool.eq_false_iff.mpr c17
    subst c17
    have H1 : (some false) = some r := by rw [if_neg (show ¬ (false = true) by decide)] at H; exact H
    clear H
    have H := H1
    clear H1
    obtain rfl := Option.some.inj H
    go_wp2
    go_ret
    exact ⟨rfx, mB HB.out⟩
  ·rw [if_neg c10] at H
   have c10b0 : (a0_1 == a1_1) = false := beq_eq_false_iff_ne.mpr c10
   have c10b1 : (a0_1 != a1_1) = true := bne_iff_ne.mpr c10
   obtain rfl := Option.some.inj H
   have hnb18 := NB296_297.out
   have hnc18 := NB297_296.out
   obtain ⟨hcz19_0, hcz19_1, hcz19_2, hcz19_3, hfz19_0, hfz19_1, hfz19_2, hfz19_3⟩ := cel4 BK296.out
   obtain ⟨hcz20_0, hcz20_1, hcz20_2, hcz20_3, hfz20_0, hfz20_1, hfz20_2, hfz20_3⟩ := cel4 BK297.out
   go_wp2
   go_ret
   exact ⟨rfx, mB HB.out⟩
 ·rw [if_neg c9] at H
  have c9b0 : (a0_0 == a1_0) = false := beq_eq_false_iff_ne.mpr c9
  have c9b1 : (a0_0 != a1_0) = true := bne_iff_ne.mpr c9
  (first | rw [c9b0] | (simp only [i64_w, i32_w]; rw [c9b0]) | skip)
  obtain rfl := Option.some.inj H
  go_wp2
  go_ret
  exact ⟨rfx, mB HB.out⟩

end Go.Proofs.Ytddnijmgipffeaa.B
namespace Go.Proofs.Ytddnijmgipffeaa.B
open Go.RowKit Go.Proofs.YtddnijmgipffeaaW.PrintWords Go.Proofs.YtddnijmgipffeaaW.PrintLast Go.Proofs.YtddnijmgipffeaaW.PrintMore
attribute [local go_sem] max2_int min2_int max_two min_two max_three min_three max_four min_four   -- for this text's walks alone
set_option linter.unusedVariables false
set_option linter.unusedSimpArgs false

/-! ### laws_eqInsS: function 12 -/
def laws_eqInsS.l0 : Nat → List (S39) → List (S39) → Int → Option (Bool)
 | 0, _, _, _ => none
 | k + 1, x0, x1, x5 => if x5 < (x0.length : Int) then (if 0 ≤ x5 then (if x5 < (x1.length : Int) then ((laws_eqIns.f ((rd_T39 x0 x5).f0) ((rd_T39 x0 x5).f1) ((rd_T39 x0 x5).f2.f0) ((rd_T39 x0 x5).f2.f1) ((rd_T39 x1 x5).f0) ((rd_T39 x1 x5).f1) ((rd_T39 x1 x5).f2.f0) ((rd_T39 x1 x5).f2.f1)).bind fun t301 => (if t301 = true then (laws_eqInsS.l0 k x0 x1 (wrap64 (x5 + 1))) else (some false))) else (none)) else (none)) else (some true)
def laws_eqInsS.f (k : Nat) (l0 : List (S39)) (l1 : List (S39)) : Option (Bool) := if (l0.length : Int) = (l1.length : Int) then (laws_eqInsS.l0 k l0 l1 0) else (some false)
def laws_eqInsS.T6 : Bool × List (List Nat × List Nat) := (true, [([], []), ([], []), ([0, 1], [0, 1]), ([2], [2]), ([], []), ([], []), ([4, 5], [4, 5]), ([6], [6]), ([3, 7], [3, 7]), ([8], [8])])
def laws_eqInsS.B6 : List Nat := [0, 0, 3, 7, 0, 0, 48, 112, 255, 511]
theorem laws_eqInsS.tab6 : rtab .any (opsOf Try.f12 6) = laws_eqInsS.T6 := by kernel_rfl
theorem laws_eqInsS.bits6 : waitsOk laws_eqInsS.T6.2 laws_eqInsS.B6 = true := by kernel_rfl
set_option maxHeartbeats 8000000 in
set_option maxRecDepth 100000 in
theorem laws_eqInsS.calls (k : Nat) (A0 : Option Addr) (c0 : Nat) (l0 : List (S39)) (A1 : Option Addr) (c1 : Nat) (l1 : List (S39)) (r : Bool) (w : World) (hr0 : Kd.C k39 w A0 l0.length l0) (hc0 : l0.length ≤ c0) (hr1 : Kd.C k39 w A1 l1.length l1) (hc1 : l1.length ≤ c1) (h : laws_eqInsS.f k l0 l1 = some r) :
  Calls Try.prog 12 #[.slice A0 l0.length c0, .slice A1 l1.length c1] w fun e w' => e = .returned (.bool r) ∧ Below w.heap.size w w' := by
 have hu39 := Try.underlying39
 have HR0 := z0 hr0
 have HC0 := z0 hc0
 clear hr0 hc0
 have HR1 := z0 hr1
 have HC1 := z0 hc1
 clear hr1 hc1
 have HB := z0 (Below.refl w.heap.size w)
 have H : (if (l0.length : Int) = (l1.length : Int) then (laws_eqInsS.l0 k l0 l1 0) else (some false)) = some r := h
 clear h
 by_cases c3 : (l0.length : Int) = (l1.length : Int)
 ·rw [if_pos c3] at H
  have c3b0 : ((l0.length : Int) == (l1.length : Int)) = true := beq_iff_eq.mpr c3
  have c3b1 : ((l0.length : Int) != (l1.length : Int)) = false := bne_eq_false_iff_eq.mpr c3
  have c3b2 : (l0.length == l1.length) = true := by first | simpa using c3 | (simp at c3 ⊢; omega)
  clear c3
  have H' := z0 H
  clear H
  go_enter Try.func12, Try.ntmps12
  go_wp2
  go_loopg [5] k (fun kq v5 w' => ∃ (x5_1 : Int), v5 = .int .i64 x5_1 ∧ Aside0 (laws_eqInsS.l0 kq l0 l1 x5_1 = some r) ∧ Aside0 (kq ≤ k) ∧ Aside0 (Below w.heap.size w w'))
  case atStart => exact ⟨(0), rfy, H', ⟨Nat.le_refl _⟩, ⟨mB HB.out⟩⟩
  case round =>
   clear H'
   (try clear c1); (try clear p2); (try clear c3); (try clear c3b0); (try clear c3b1); (try clear c3b2)
   obtain ⟨x5_1, rfl, HA, HK1, HB⟩ := hrel
   cases gk with
   | zero => exact absurd HA.out (by simp [laws_eqInsS.l0])
   | succ k1 =>
    have H := HA.out
    clear HA
    simp only [laws_eqInsS.l0] at H
    by_cases c4 : x5_1 < (l0.length : Int)
    ·rw [if_pos c4] at H
     have c4b0 : decide (x5_1 < (l0.length : Int)) = true := decide_eq_true c4
     clear c4
     by_cases c5 : 0 ≤ x5_1
     ·rw [if_pos c5] at H
      have c5b0 : decide (0 ≤ x5_1) = true := decide_eq_true c5
      clear c5
      by_cases c6 : x5_1 < (l1.length : Int)
      ·rw [if_pos c6] at H
       have c6b0 : decide (x5_1 < (l1.length : Int)) = true := decide_eq_true c6
       clear c6
       replace H := Option.bind_eq_some_iff.mp H
       obtain ⟨t301, A70, H⟩ := H
       replace H : (if t301 = true then (laws_eqInsS.l0 k1 l0 l1 (wrap64 (x5_1 + 1))) else (some false)) = some r := H
       have A7 := z0 A70
       clear A70
       have HF8 := z0 H
       clear H
       try go_wp2
       have n0_ := z0 (below_drew1 HB.out)
       clear HB
       have HB := n0_
       clear n0_
       have p299 : 0 ≤ (x5_1 : Int) := of_decide_eq_true (by first | (with_reducible assumption) | assumption)
       have q299 : x5_1 < (l0.length : Int) := of_decide_eq_true (by first | (with_reducible assumption) | assumption)
       obtain ⟨ad299, e299, hx299_0, hx299_1, hx299_2, hx299_3⟩ := at_T39 HR0.out x5_1 p299 q299
       have hw299_3 := hx299_3
       have hw299_2 := hx299_2
       have hw299_1 := hx299_1
       have hw299_0 := hx299_0
       cases e299
       replace hx299_0 := (HB.out.cell (World.block_lt_of_cell? w _ hx299_0)).trans hx299_0
       replace hx299_1 := (HB.out.cell (World.block_lt_of_cell? w _ hx299_1)).trans hx299_1
       replace hx299_2 := (HB.out.cell (World.block_lt_of_cell? w _ hx299_2)).trans hx299_2
       replace hx299_3 := (HB.out.cell (World.block_lt_of_cell? w _ hx299_3)).trans hx299_3
       replace p299 := eq_true p299
       replace q299 := eq_true q299
       have p300 : 0 ≤ (x5_1 : Int) := of_decide_eq_true (by first | (with_reducible assumption) | assumption)
       have q300 : x5_1 < (l1.length : Int) := of_decide_eq_true (by first | (with_reducible assumption) | assumption)
       obtain ⟨ad300, e300, hx300_0, hx300_1, hx300_2, hx300_3⟩ := at_T39 HR1.out x5_1 p300 q300
       have hw300_3 := hx300_3
       have hw300_2 := hx300_2
       have hw300_1 := hx300_1
       have hw300_0 := hx300_0
       cases e300
       replace hx300_0 := (HB.out.cell (World.block_lt_of_cell? w _ hx300_0)).trans hx300_0
       replace hx300_1 := (HB.out.cell (World.block_lt_of_cell? w _ hx300_1)).trans hx300_1
       replace hx300_2 := (HB.out.cell (World.block_lt_of_cell? w _ hx300_2)).trans hx300_2
       replace hx300_3 := (HB.out.cell (World.block_lt_of_cell? w _ hx300_3)).trans hx300_3
       replace p300 := eq_true p300
       replace q300 := eq_true q300
       refine start_ (n := 10) (S := fun w' => w'.cell? (ad299.add ((x5_1).toNat * 4)) = some (.int .i64 ((rd_T39 l0 x5_1).f0)) ∧ w'.cell? ⟨(ad299.add ((x5_1).toNat * 4)).block, (ad299.add ((x5_1).toNat * 4)).off + 1, none⟩ = some (.int .i64 ((rd_T39 l0 x5_1).f1)) ∧ w'.cell? ⟨(ad299.add ((x5_1).toNat * 4)).block, (ad299.add ((x5_1).toNat * 4)).off + 2, none⟩ = some (.int .i64 ((rd_T39 l0 x5_1).f2.f0)) ∧ w'.cell? ⟨(ad299.add ((x5_1).toNat * 4)).block, (ad299.add ((x5_1).toNat * 4)).off + 3, none⟩ = some (.int .i64 ((rd_T39 l0 x5_1).f2.f1)) ∧ w'.cell? (ad300.add ((x5_1).toNat * 4)) = some (.int .i64 ((rd_T39 l1 x5_1).f0)) ∧ w'.cell? ⟨(ad300.add ((x5_1).toNat * 4)).block, (ad300.add ((x5_1).toNat * 4)).off + 1, none⟩ = some (.int .i64 ((rd_T39 l1 x5_1).f1)) ∧ w'.cell? ⟨(ad300.add ((x5_1).toNat * 4)).block, (ad300.add ((x5_1).toNat * 4)).off + 2, none⟩ = some (.int .i64 ((rd_T39 l1 x5_1).f2.f0)) ∧ w'.cell? ⟨(ad300.add ((x5_1).toNat * 4)).block, (ad300.add ((x5_1).toNat * 4)).off + 3, none⟩ = some (.int .i64 ((rd_T39 l1 x5_1).f2.f1))) (ds := []) #[false, false, false, false, false, false, false, false, false, false] (by kernel_rfl) rfl rfl ⟨((HB.out.cell (World.block_lt_of_cell? w _ hw299_0)).trans hw299_0), ((HB.out.cell (World.block_lt_of_cell? w _ hw299_1)).trans hw299_1), ((HB.out.cell (World.block_lt_of_cell? w _ hw299_2)).trans hw299_2), ((HB.out.cell (World.block_lt_of_cell? w _ hw299_3)).trans hw299_3), ((HB.out.cell (World.block_lt_of_cell? w _ hw300_0)).trans hw300_0), ((HB.out.cell (World.block_lt_of_cell? w _ hw300_1)).trans hw300_1), ((HB.out.cell (World.block_lt_of_cell? w _ hw300_2)).trans hw300_2), ((HB.out.cell (World.block_lt_of_cell? w _ hw300_3)).trans hw300_3)⟩ (fun hHeld => ?_); refine with_tabW laws_eqInsS.tab6 laws_eqInsS.bits6 (fun HT_ HW_ => ?_)
       generalize wr.drew = w9 at HB hx299_0 hx299_1 hx299_2 hx299_3 hx300_0 hx300_1 hx300_2 hx300_3 hHeld ⊢
       refine pure_ (i := 0) (N := some 17) (v := ?_) (a' := ?_) #[true, false, false, false, false, false, false, false, false, false] rfl rfl (any_of HT_.out (by kernel_rfl)) (fun _ _ _ h => h) (Or.inl ⟨by rfl, ?_⟩) ?_ ?_
       rotate_left
       ·intro w'
        go_simp
        with_reducible rfl
       rotate_left
       ·simp only [Act.put, List.setIfInBounds_toArray, List.set_cons_zero, List.set_cons_succ, i64_w, i32_w]
        rfl
       refine pure_ (i := 1) (N := some 18) (v := ?_) (a' := ?_) #[true, true, false, false, false, false, false, false, false, false] rfl rfl (any_of HT_.out (by kernel_rfl)) (fun _ _ _ h => h) (Or.inl ⟨by rfl, ?_⟩) ?_ ?_
       rotate_left
       ·intro w'
        go_simp
        with_reducible rfl
       rotate_left
       ·simp only [Act.put, List.setIfInBounds_toArray, List.set_cons_zero, List.set_cons_succ, i64_w, i32_w]
        rfl
       refine pure_ (i := 2) (N := some 19) (v := ?_) (a' := ?_) #[true, true, true, false, false, false, false, false, false, false] rfl rfl (any_of HT_.out (by kernel_rfl)) (fun _ _ _ h => h) (Or.inl ⟨by rfl, ?_⟩) ?_ ?_
       rotate_left
       ·intro w'
        go_simp
        with_reducible rfl
       rotate_left
       ·simp only [Act.put, List.setIfInBounds_toArray, List.set_cons_zero, List.set_cons_succ, i64_w, i32_w]
        rfl
       refine pure_ (i := 4) (N := some 21) (v := ?_) (a' := ?_) #[true, true, true, false, true, false, false, false, false, false] rfl rfl (any_of HT_.out (by kernel_rfl)) (fun _ _ _ h => h) (Or.inl ⟨by rfl, ?_⟩) ?_ ?_
       rotate_left
       ·intro w'
        go_simp
        with_reducible rfl
       rotate_left
       ·simp only [Act.put, List.setIfInBounds_toArray, List.set_cons_zero, List.set_cons_succ, i64_w, i32_w]
        rfl
       refine pure_ (i := 5) (N := some 22) (v := ?_) (a' := ?_) #[true, true, true, false, true, true, false, false, false, false] rfl rfl (any_of HT_.out (by kernel_rfl)) (fun _ _ _ h => h) (Or.inl ⟨by rfl, ?_⟩) ?_ ?_
       rotate_left
       ·intro w'
        go_simp
        with_reducible rfl
       rotate_left
       ·simp only [Act.put, List.setIfInBounds_toArray, List.set_cons_zero, List.set_cons_succ, i64_w, i32_w]
        rfl
       refine pure_ (i := 6) (N := some 23) (v := ?_) (a' := ?_) #[true, true, true, false, true, true, true, false, false, false] rfl rfl (any_of HT_.out (by kernel_rfl)) (fun _ _ _ h => h) (Or.inl ⟨by rfl, ?_⟩) ?_ ?_
       rotate_left
       ·intro w'
        go_simp
        with_reducible rfl
       rotate_left
       ·simp only [Act.put, List.setIfInBounds_toArray, List.set_cons_zero, List.set_cons_succ, i64_w, i32_w]
        rfl
       refine take_ (i := 3) (N := some 20) (v := ?_) (a' := ?_) #[true, true, true, true, true, true, true, false, false, false] rfl rfl (take_ofW HT_.out HW_.out (by kernel_rfl)) (fun _ _ _ h => h) (Or.inl ⟨by rfl, ?_⟩) hHeld ?_ ?_
       rotate_left
       ·rintro w' ⟨s0, s1, s2, s3, s4, s5, s6, s7⟩
        go_simp
        with_reducible rfl
       rotate_left
       ·simp only [Act.put, List.setIfInBounds_toArray, List.set_cons_zero, List.set_cons_succ, i64_w, i32_w]
        rfl
       refine take_ (i := 7) (N := some 24) (v := ?_) (a' := ?_) #[true, true, true, true, true, true, true, true, false, false] rfl rfl (take_ofW HT_.out HW_.out (by kernel_rfl)) (fun _ _ _ h => h) (Or.inl ⟨by rfl, ?_⟩) hHeld ?_ ?_
       rotate_left
       ·rintro w' ⟨s0, s1, s2, s3, s4, s5, s6, s7⟩
        go_simp
        with_reducible rfl
       rotate_left
       ·simp only [Act.put, List.setIfInBounds_toArray, List.set_cons_zero, List.set_cons_succ, i64_w, i32_w]
        rfl
       refine one_ (i := 8) (N := some 25) #[true, true, true, true, true, true, true, true, true, false] rfl rfl (one_of HT_.out (by kernel_rfl)) (by decide) (fun K hK => ?_)
       refine goes_ Try.func38 (by kernel_rfl) rfl #[.agg #[.int .i64 ((rd_T39 l0 x5_1).f0), .int .i64 ((rd_T39 l0 x5_1).f1), .int .i64 ((rd_T39 l0 x5_1).f2.f0), .int .i64 ((rd_T39 l0 x5_1).f2.f1)], .agg #[.int .i64 ((rd_T39 l1 x5_1).f0), .int .i64 ((rd_T39 l1 x5_1).f1), .int .i64 ((rd_T39 l1 x5_1).f2.f0), .int .i64 ((rd_T39 l1 x5_1).f2.f1)]] (by rfl) rfl rfl argx ?_
       with_reducible refine (laws_eqIns.calls ((rd_T39 l0 x5_1).f0) ((rd_T39 l0 x5_1).f1) ((rd_T39 l0 x5_1).f2.f0) ((rd_T39 l0 x5_1).f2.f1) ((rd_T39 l1 x5_1).f0) ((rd_T39 l1 x5_1).f1) ((rd_T39 l1 x5_1).f2.f0) ((rd_T39 l1 x5_1).f2.f1) t301 _ A7.out).mono ?_
       rintro e w10 ⟨rfl, hb⟩
       refine ⟨_, rfl, ?_⟩
       have n0_ := z0 (below_step (mB HB.out) hb)
       clear HB
       have HB := n0_
       clear n0_
       (try clear hb)
       (try clear hb2)
       (try clear hk)
       (try clear hi)
       refine hK.out _ _ ⟨((HB.out.cell (World.block_lt_of_cell? w _ hw299_0)).trans hw299_0), ((HB.out.cell (World.block_lt_of_cell? w _ hw299_1)).trans hw299_1), ((HB.out.cell (World.block_lt_of_cell? w _ hw299_2)).trans hw299_2), ((HB.out.cell (World.block_lt_of_cell? w _ hw299_3)).trans hw299_3), ((HB.out.cell (World.block_lt_of_cell? w _ hw300_0)).trans hw300_0), ((HB.out.cell (World.block_lt_of_cell? w _ hw300_1)).trans hw300_1), ((HB.out.cell (World.block_lt_of_cell? w _ hw300_2)).trans hw300_2), ((HB.out.cell (World.block_lt_of_cell? w _ hw300_3)).trans hw300_3)⟩ (fun hHeld => ?_)
       clear hK K
       refine norm_ (a' := ?_) ?_ ?_
       rotate_left
       ·show Act.put _ (some 25) _ = _
        simp only [Act.put, List.setIfInBounds_toArray, List.set_cons_zero, List.set_cons_succ, i64_w, i32_w]
        rfl
       refine pure_ (i := 9) (N := some 26) (v := ?_) (a' := ?_) #[true, true, true, true, true, true, true, true, true, true] rfl rfl (any_of HT_.out (by kernel_rfl)) (fun _ _ _ h => h) (Or.inl ⟨by rfl, ?_⟩) ?_ ?_
       rotate_left
       ·intro w'
        go_simp
        with_reducible rfl
       rotate_left
       ·simp only [Act.put, List.setIfInBounds_toArray, List.set_cons_zero, List.set_cons_succ, i64_w, i32_w]
        rfl
       refine done_ (done_of HT_.out (by kernel_rfl)) ?_
       go_upto_if 26 with (fail)
       have H := HF8.out
       clear HF8
       (try clear c1); (try clear p2); (try clear q2); (try clear hx2); (try clear c3); (try clear c3b0); (try clear c3b1); (try clear c3b2); (try clear p3); (try clear q3); (try clear hx3); (try clear c4); (try clear c4b0); (try clear c5); (try clear c5b0); (try clear c6); (try clear c6b0); (try clear p6); (try clear hx299_0); (try clear hx299_1); (try clear hx299_2); (try clear hx299_3); (try clear hx300_0); (try clear hx300_1); (try clear hx300_2); (try clear hx300_3); (try clear p2); (try clear p299); (try clear p300); (try clear q299); (try clear q300)
       by_cases c11 : t301 = true
       ·subst c11
        have H1 : (laws_eqInsS.l0 k1 l0 l1 (wrap64 (x5_1 + 1))) = some r := by rw [if_pos rfl] at H; exact H
        clear H
        have H := H1
        clear H1
        have H' := z0 H
        clear H
        go_wp2
        go_roundg k1
        case measure => have := HK1.out; omega
        case rel => exact ⟨(wrap64 (x5_1 + 1)), rfy, H', ⟨by have := HK1.out; omega⟩, ⟨mB HB.out⟩⟩
       ·replace c11 := Bool.eq_false_iff.mpr c11
        subst c11
        have H1 : (some false) = some r := by rw [if_neg (show ¬ (false = true) by decide)] at H; exact H
        clear H
        have H := H1
        clear H1
        obtain rfl := Option.some.inj H
        go_wp2
        go_ret
        exact ⟨rfx, mB HB.out⟩
      ·rw [if_neg c6] at H
       exact absurd H (by simp)
     ·rw [if_neg c5] at H
      exact absurd H (by simp)
    ·rw [if_neg c4] at H
     have c4b0 : decide (x5_1 < (l0.length : Int)) = false := decide_eq_false c4
     clear c4
     obtain rfl := Option.some.inj H
     go_wp2
     go_ret
     exact ⟨rfx, mB HB.out⟩
 ·rw [if_neg c3] at H
  have c3b0 : ((l0.length : Int) == (l1.length : Int)) = false := beq_eq_false_iff_ne.mpr c3
  have c3b1 : ((l0.length : Int) != (l1.length : Int)) = true := bne_iff_ne.mpr c3
  have c3b2 : (l0.length == l1.length) = false := by first | simpa using c3 | (simp at c3 ⊢; omega)
  obtain rfl := Option.some.inj H
  go_enter Try.func12, Try.ntmps12
  go_wp2
  go_ret
  exact ⟨rfx, mB HB.out⟩

end Go.Proofs.Ytddnijmgipffeaa.B
namespace Go.Proofs.Ytddnijmgipffeaa.B
open Go.RowKit Go.Proofs.YtddnijmgipffeaaW.PrintWords Go.Proofs.YtddnijmgipffeaaW.PrintLast Go.Proofs.YtddnijmgipffeaaW.PrintMore
attribute [local go_sem] max2_int min2_int max_two min_two max_three min_three max_four min_four   -- for this text's walks alone
set_option linter.unusedVariables false
set_option linter.unusedSimpArgs false

/-! ### laws_heldInsS: function 16 -/
def laws_heldInsS.l0 : Nat → List (S39) → Int → Int → Option (Int)
 | 0, _, _, _ => none
 | k + 1, x0, x1, x5 => if x5 < (x0.length : Int) then (if 0 ≤ x5 then (if ((rd_T39 x0 x5).f0) = x1 then (if ((rd_T39 x0 x5).f1) = (wrap64 (x1 + 1)) then (if ((rd_T39 x0 x5).f2.f0) = (wrap64 ((wrap64 (x1 + 1)) + 1)) then (if ((rd_T39 x0 x5).f2.f1) = (wrap64 ((wrap64 ((wrap64 (x1 + 1)) + 1)) + 1)) then (laws_heldInsS.l0 k x0 (wrap64 ((wrap64 ((wrap64 ((wrap64 (x1 + 1)) + 1)) + 1)) + 1)) (wrap64 (x5 + 1))) else (some (-1))) else (some (-1))) else (some (-1))) else (some (-1))) else (none)) else (some x1)
def laws_heldInsS.f (k : Nat) (l0 : List (S39)) (a1 : Int) : Option (Int) := laws_heldInsS.l0 k l0 a1 0
set_option maxHeartbeats 8000000 in
set_option maxRecDepth 100000 in
theorem laws_heldInsS.calls (k : Nat) (A0 : Option Addr) (c0 : Nat) (l0 : List (S39)) (a1 : Int) (r : Int) (w : World) (hr0 : Kd.C k39 w A0 l0.length l0) (hc0 : l0.length ≤ c0) (h : laws_heldInsS.f k l0 a1 = some r) :
  Calls Try.prog 16 #[.slice A0 l0.length c0, .int .i64 a1] w fun e w' => e = .returned (.int .i64 r) ∧ Drawn0 w w' := by
 have HR0 := z0 hr0
 have HC0 := z0 hc0
 clear hr0 hc0
 have H : (laws_heldInsS.l0 k l0 a1 0) = some r := h
 clear h
 have H' := z0 H
 clear H
 go_enter Try.func16, Try.ntmps16
 go_wp2
 go_loopg [1, 5] k (fun kq v1 v5 w' => ∃ (x1_1 : Int) (x5_1 : Int), v1 = .int .i64 x1_1 ∧ v5 = .int .i64 x5_1 ∧ Aside0 (laws_heldInsS.l0 kq l0 x1_1 x5_1 = some r) ∧ Aside0 (kq ≤ k) ∧ Drawn0 w w')
 case atStart => exact ⟨(a1), (0), rfy, rfy, H', ⟨Nat.le_refl _⟩, by repeat (first | exact Drawn0.refl _ | apply Drawn0.step)⟩
 case round =>
  clear H'
  (try clear c1); (try clear p2)
  obtain ⟨x1_1, x5_1, rfl, rfl, HA, HK1, ⟨m1, rfl⟩⟩ := hrel
  cases gk with
  | zero => exact absurd HA.out (by simp [laws_heldInsS.l0])
  | succ k1 =>
   have H := HA.out
   clear HA
   simp only [laws_heldInsS.l0] at H
   by_cases c3 : x5_1 < (l0.length : Int)
   ·rw [if_pos c3] at H
    have c3b0 : decide (x5_1 < (l0.length : Int)) = true := decide_eq_true c3
    clear c3
    by_cases c4 : 0 ≤ x5_1
    ·rw [if_pos c4] at H
     have c4b0 : decide (0 ≤ x5_1) = true := decide_eq_true c4
     clear c4
     by_cases c5 : ((rd_T39 l0 x5_1).f0) = x1_1
     ·rw [if_pos c5] at H
      have c5b0 : (((rd_T39 l0 x5_1).f0) == x1_1) = true := beq_iff_eq.mpr c5
      have c5b1 : (((rd_T39 l0 x5_1).f0) != x1_1) = false := bne_eq_false_iff_eq.mpr c5
      clear c5
      by_cases c6 : ((rd_T39 l0 x5_1).f1) = (wrap64 (x1_1 + 1))
      ·rw [if_pos c6] at H
       have c6b0 : (((rd_T39 l0 x5_1).f1) == (wrap64 (x1_1 + 1))) = true := beq_iff_eq.mpr c6
       have c6b1 : (((rd_T39 l0 x5_1).f1) != (wrap64 (x1_1 + 1))) = false := bne_eq_false_iff_eq.mpr c6
       clear c6
       by_cases c7 : ((rd_T39 l0 x5_1).f2.f0) = (wrap64 ((wrap64 (x1_1 + 1)) + 1))
       ·rw [if_pos c7] at H
        have c7b0 : (((rd_T39 l0 x5_1).f2.f0) == (wrap64 ((wrap64 (x1_1 + 1)) + 1))) = true := beq_iff_eq.mpr c7
        have c7b1 : (((rd_T39 l0 x5_1).f2.f0) != (wrap64 ((wrap64 (x1_1 + 1)) + 1))) = false := bne_eq_false_iff_eq.mpr c7
        clear c7
        by_cases c8 : ((rd_T39 l0 x5_1).f2.f1) = (wrap64 ((wrap64 ((wrap64 (x1_1 + 1)) + 1)) + 1))
        ·rw [if_pos c8] at H
         have c8b0 : (((rd_T39 l0 x5_1).f2.f1) == (wrap64 ((wrap64 ((wrap64 (x1_1 + 1)) + 1)) + 1))) = true := beq_iff_eq.mpr c8
         have c8b1 : (((rd_T39 l0 x5_1).f2.f1) != (wrap64 ((wrap64 ((wrap64 (x1_1 + 1)) + 1)) + 1))) = false := bne_eq_false_iff_eq.mpr c8
         clear c8
         have H' := z0 H
         clear H
         have p321 : 0 ≤ (x5_1 : Int) := of_decide_eq_true (by first | (with_reducible assumption) | assumption)
         have q321 : x5_1 < (l0.length : Int) := of_decide_eq_true (by first | (with_reducible assumption) | assumption)
         obtain ⟨ad321, e321, hx321_0, hx321_1, hx321_2, hx321_3⟩ := at_T39 HR0.out x5_1 p321 q321
         cases e321
         replace p321 := eq_true p321
         replace q321 := eq_true q321
         have p322 : 0 ≤ (x5_1 : Int) := of_decide_eq_true (by first | (with_reducible assumption) | assumption)
         have q322 : x5_1 < (l0.length : Int) := of_decide_eq_true (by first | (with_reducible assumption) | assumption)
         obtain ⟨ad322, e322, hx322_0, hx322_1, hx322_2, hx322_3⟩ := at_T39 HR0.out x5_1 p322 q322
         obtain rfl : ad321 = ad322 := (by injection e322)
         replace p322 := eq_true p322
         replace q322 := eq_true q322
         have p323 : 0 ≤ (x5_1 : Int) := of_decide_eq_true (by first | (with_reducible assumption) | assumption)
         have q323 : x5_1 < (l0.length : Int) := of_decide_eq_true (by first | (with_reducible assumption) | assumption)
         obtain ⟨ad323, e323, hx323_0, hx323_1, hx323_2, hx323_3⟩ := at_T39 HR0.out x5_1 p323 q323
         obtain rfl : ad321 = ad323 := (by injection e323)
         replace p323 := eq_true p323
         replace q323 := eq_true q323
         have p324 : 0 ≤ (x5_1 : Int) := of_decide_eq_true (by first | (with_reducible assumption) | assumption)
         have q324 : x5_1 < (l0.length : Int) := of_decide_eq_true (by first | (with_reducible assumption) | assumption)
         obtain ⟨ad324, e324, hx324_0, hx324_1, hx324_2, hx324_3⟩ := at_T39 HR0.out x5_1 p324 q324
         obtain rfl : ad321 = ad324 := (by injection e324)
         replace p324 := eq_true p324
         replace q324 := eq_true q324
         go_wp2
         go_roundg k1
         case measure => have := HK1.out; omega
         case rel => exact ⟨(wrap64 ((wrap64 ((wrap64 ((wrap64 (x1_1 + 1)) + 1)) + 1)) + 1)), (wrap64 (x5_1 + 1)), rfy, rfy, H', ⟨by have := HK1.out; omega⟩, by repeat (first | exact Drawn0.refl _ | apply Drawn0.step)⟩
        ·rw [if_neg c8] at H
         have c8b0 : (((rd_T39 l0 x5_1).f2.f1) == (wrap64 ((wrap64 ((wrap64 (x1_1 + 1)) + 1)) + 1))) = false := beq_eq_false_iff_ne.mpr c8
         have c8b1 : (((rd_T39 l0 x5_1).f2.f1) != (wrap64 ((wrap64 ((wrap64 (x1_1 + 1)) + 1)) + 1))) = true := bne_iff_ne.mpr c8
         obtain rfl := Option.some.inj H
         have p321 : 0 ≤ (x5_1 : Int) := of_decide_eq_true (by first | (with_reducible assumption) | assumption)
         have q321 : x5_1 < (l0.length : Int) := of_decide_eq_true (by first | (with_reducible assumption) | assumption)
         obtain ⟨ad321, e321, hx321_0, hx321_1, hx321_2, hx321_3⟩ := at_T39 HR0.out x5_1 p321 q321
         cases e321
         replace p321 := eq_true p321
         replace q321 := eq_true q321
         have p322 : 0 ≤ (x5_1 : Int) := of_decide_eq_true (by first | (with_reducible assumption) | assumption)
         have q322 : x5_1 < (l0.length : Int) := of_decide_eq_true (by first | (with_reducible assumption) | assumption)
         obtain ⟨ad322, e322, hx322_0, hx322_1, hx322_2, hx322_3⟩ := at_T39 HR0.out x5_1 p322 q322
         obtain rfl : ad321 = ad322 := (by injection e322)
         replace p322 := eq_true p322
         replace q322 := eq_true q322
         have p323 : 0 ≤ (x5_1 : Int) := of_decide_eq_true (by first | (with_reducible assumption) | assumption)
         have q323 : x5_1 < (l0.length : Int) := of_decide_eq_true (by first | (with_reducible assumption) | assumption)
         obtain ⟨ad323, e323, hx323_0, hx323_1, hx323_2, hx323_3⟩ := at_T39 HR0.out x5_1 p323 q323
         obtain rfl : ad321 = ad323 := (by injection e323)
         replace p323 := eq_true p323
         replace q323 := eq_true q323
         have p324 : 0 ≤ (x5_1 : Int) := of_decide_eq_true (by first | (with_reducible assumption) | assumption)
         have q324 : x5_1 < (l0.length : Int) := of_decide_eq_true (by first | (with_reducible assumption) | assumption)
         obtain ⟨ad324, e324, hx324_0, hx324_1, hx324_2, hx324_3⟩ := at_T39 HR0.out x5_1 p324 q324
         obtain rfl : ad321 = ad324 := (by injection e324)
         replace p324 := eq_true p324
         replace q324 := eq_true q324
         go_wp2
         go_ret
         exact ⟨by first | rfl | (simp; done) | (simp [*]; done), by repeat (first | exact Drawn0.refl _ | apply Drawn0.step)⟩
       ·rw [if_neg c7] at H
        have c7b0 : (((rd_T39 l0 x5_1).f2.f0) == (wrap64 ((wrap64 (x1_1 + 1)) + 1))) = false := beq_eq_false_iff_ne.mpr c7
        have c7b1 : (((rd_T39 l0 x5_1).f2.f0) != (wrap64 ((wrap64 (x1_1 + 1)) + 1))) = true := bne_iff_ne.mpr c7
        obtain rfl := Option.some.inj H
        have p321 : 0 ≤ (x5_1 : Int) := of_decide_eq_true (by first | (with_reducible assumption) | assumption)
        have q321 : x5_1 < (l0.length : Int) := of_decide_eq_true (by first | (with_reducible assumption) | assumption)
        obtain ⟨ad321, e321, hx321_0, hx321_1, hx321_2, hx321_3⟩ := at_T39 HR0.out x5_1 p321 q321
        cases e321
        replace p321 := eq_true p321
        replace q321 := eq_true q321
        have p322 : 0 ≤ (x5_1 : Int) := of_decide_eq_true (by first | (with_reducible assumption) | assumption)
        have q322 : x5_1 < (l0.length : Int) := of_decide_eq_true (by first | (with_reducible assumption) | assumption)
        obtain ⟨ad322, e322, hx322_0, hx322_1, hx322_2, hx322_3⟩ := at_T39 HR0.out x5_1 p322 q322
        obtain rfl : ad321 = ad322 := (by injection e322)
        replace p322 := eq_true p322
        replace q322 := eq_true q322
        have p323 : 0 ≤ (x5_1 : Int) := of_decide_eq_true (by first | (with_reducible assumption) | assumption)
        have q323 : x5_1 < (l0.length : Int) := of_decide_eq_true (by first | (with_reducible assumption) | assumption)
        obtain ⟨ad323, e323, hx323_0, hx323_1, hx323_2, hx323_3⟩ := at_T39 HR0.out x5_1 p323 q323
        obtain rfl : ad321 = ad323 := (by injection e323)
        replace p323 := eq_true p323
        replace q323 := eq_true q323
        go_wp2
        go_ret
        exact ⟨by first | rfl | (simp; done) | (simp [*]; done), by repeat (first | exact Drawn0.refl _ | apply Drawn0.step)⟩
      ·rw [if_neg c6] at H
       have c6b0 : (((rd_T39 l0 x5_1).f1) == (wrap64 (x1_1 + 1))) = false := beq_eq_false_iff_ne.mpr c6
       have c6b1 : (((rd_T39 l0 x5_1).f1) != (wrap64 (x1_1 + 1))) = true := bne_iff_ne.mpr c6
       obtain rfl := Option.some.inj H
       have p321 : 0 ≤ (x5_1 : Int) := of_decide_eq_true (by first | (with_reducible assumption) | assumption)
       have q321 : x5_1 < (l0.length : Int) := of_decide_eq_true (by first | (with_reducible assumption) | assumption)
       obtain ⟨ad321, e321, hx321_0, hx321_1, hx321_2, hx321_3⟩ := at_T39 HR0.out x5_1 p321 q321
       cases e321
       replace p321 := eq_true p321
       replace q321 := eq_true q321
       have p322 : 0 ≤ (x5_1 : Int) := of_decide_eq_true (by first | (with_reducible assumption) | assumption)
       have q322 : x5_1 < (l0.length : Int) := of_decide_eq_true (by first | (with_reducible assumption) | assumption)
       obtain ⟨ad322, e322, hx322_0, hx322_1, hx322_2, hx322_3⟩ := at_T39 HR0.out x5_1 p322 q322
       obtain rfl : ad321 = ad322 := (by injection e322)
       replace p322 := eq_true p322
       replace q322 := eq_true q322
       go_wp2
       go_ret
       exact ⟨by first | rfl | (simp; done) | (simp [*]; done), by repeat (first | exact Drawn0.refl _ | apply Drawn0.step)⟩
     ·rw [if_neg c5] at H
      have c5b0 : (((rd_T39 l0 x5_1).f0) == x1_1) = false := beq_eq_false_iff_ne.mpr c5
      have c5b1 : (((rd_T39 l0 x5_1).f0) != x1_1) = true := bne_iff_ne.mpr c5
      obtain rfl := Option.some.inj H
      have p321 : 0 ≤ (x5_1 : Int) := of_decide_eq_true (by first | (with_reducible assumption) | assumption)
      have q321 : x5_1 < (l0.length : Int) := of_decide_eq_true (by first | (with_reducible assumption) | assumption)
      obtain ⟨ad321, e321, hx321_0, hx321_1, hx321_2, hx321_3⟩ := at_T39 HR0.out x5_1 p321 q321
      cases e321
      replace p321 := eq_true p321
      replace q321 := eq_true q321
      go_wp2
      go_ret
      exact ⟨by first | rfl | (simp; done) | (simp [*]; done), by repeat (first | exact Drawn0.refl _ | apply Drawn0.step)⟩
    ·rw [if_neg c4] at H
     exact absurd H (by simp)
   ·rw [if_neg c3] at H
    have c3b0 : decide (x5_1 < (l0.length : Int)) = false := decide_eq_false c3
    clear c3
    obtain rfl := Option.some.inj H
    go_wp2
    go_ret
    exact ⟨by first | rfl | (simp; done) | (simp [*]; done), by repeat (first | exact Drawn0.refl _ | apply Drawn0.step)⟩

end Go.Proofs.Ytddnijmgipffeaa.B
