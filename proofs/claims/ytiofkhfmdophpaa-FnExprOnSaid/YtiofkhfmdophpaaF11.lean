-- printed by base.py (this claim's tool) over the kit's print
import Derived.Test.YtiofkhfmdophpaaB0
import Derived.Test.YtiofkhfmdophpaaSq
import Derived.Test.YtiofkhfmdophpaaPkA
import Derived.Test.YtiofkhfmdophpaaZOk
import Derived.Test.YtiofkhfmdophpaaZOf
import Derived.Test.YtiofkhfmdophpaaPkD
namespace Go.Proofs.Ytiofkhfmdophpaa.B
open Go.RowKit Go.Proofs.YtiofkhfmdophpaaW.PrintWords Go.Proofs.YtiofkhfmdophpaaW.PrintLast Go.Proofs.YtiofkhfmdophpaaW.PrintMore
attribute [local go_sem] max2_int min2_int max_two min_two max_three min_three max_four min_four   -- for this text's walks alone
set_option linter.unusedVariables false
set_option linter.unusedSimpArgs false

/-! ### laws_FnExprOn: function 11 -/
mutual
def laws_FnExprOn.j0 : Nat → Int → Bool → Int → Int → Int → Int → List (S32) → List Int → List Int → List Int → Option (Bool)
 | 0, _, _, _, _, _, _, _, _, _, _ => none
 | k + 1, x5, x33, x1079000, x1079001, x1079002, x1079003, x1079004, x1080000, x1080001, x1080002 => if x33 = true then (some false) else ((laws_wqNot.f x1079000 x1079001 x1079002 x1079003 x1079004).bind fun bt1082 => ((laws_wqNot.f bt1082.1 bt1082.2.1 bt1082.2.2.1 bt1082.2.2.2.1 bt1082.2.2.2.2).bind fun bt1089 => ((spec_ExprOk.f k bt1089.1 bt1089.2.1 bt1089.2.2.1 bt1089.2.2.2.1 bt1089.2.2.2.2).bind fun t1097 => (if t1097 = true then ((spec_MemOk.f k x1080000 x1080001 x1080002).bind fun t1098 => (laws_FnExprOn.j1 k x5 (!t1098) x1079000 x1079001 x1079002 x1079003 x1079004 x1080000 x1080001 x1080002 bt1089.1 bt1089.2.1 bt1089.2.2.1 bt1089.2.2.2.1 bt1089.2.2.2.2)) else (laws_FnExprOn.j1 k x5 true x1079000 x1079001 x1079002 x1079003 x1079004 x1080000 x1080001 x1080002 bt1089.1 bt1089.2.1 bt1089.2.2.1 bt1089.2.2.2.1 bt1089.2.2.2.2)))))
def laws_FnExprOn.j1 : Nat → Int → Bool → Int → Int → Int → Int → List (S32) → List Int → List Int → List Int → Int → Int → Int → Int → List (S32) → Option (Bool)
 | 0, _, _, _, _, _, _, _, _, _, _, _, _, _, _, _ => none
 | k + 1, x5, x44, x1079000, x1079001, x1079002, x1079003, x1079004, x1080000, x1080001, x1080002, x1097000, x1097001, x1097002, x1097003, x1097004 => if x44 = true then (some true) else ((impl_ExprOf.f x1097000 x1097001 x1097002 x1097003 x1097004 x1080000 x1080001 x1080002).bind fun t1099 => ((impl_NumOn.f x5).bind fun t1100 => ((impl_NumIs.f t1100).bind fun t1101 => (if t1099 = t1101 then ((laws_wqNot.f x1079000 x1079001 x1079002 x1079003 x1079004).bind fun bt1102 => ((laws_wqTwo.f 9 x1079000 x1079001 x1079002 x1079003 x1079004 bt1102.1 bt1102.2.1 bt1102.2.2.1 bt1102.2.2.2.1 bt1102.2.2.2.2).bind fun bt1109 => ((impl_ExprOf.f bt1109.1 bt1109.2.1 bt1109.2.2.1 bt1109.2.2.2.1 bt1109.2.2.2.2 x1080000 x1080001 x1080002).bind fun t1116 => (if t1116 = 1 then (some true) else ((laws_wqNot.f x1079000 x1079001 x1079002 x1079003 x1079004).bind fun bt1117 => ((laws_wqTwo.f 9 x1079000 x1079001 x1079002 x1079003 x1079004 bt1117.1 bt1117.2.1 bt1117.2.2.1 bt1117.2.2.2.1 bt1117.2.2.2.2).bind fun bt1124 => ((impl_ExprOk.f bt1124.1 bt1124.2.1 bt1124.2.2.1 bt1124.2.2.2.1 bt1124.2.2.2.2).bind fun t1131 => (some (!t1131))))))))) else ((laws_wqNot.f x1079000 x1079001 x1079002 x1079003 x1079004).bind fun bt1132 => ((laws_wqTwo.f 9 x1079000 x1079001 x1079002 x1079003 x1079004 bt1132.1 bt1132.2.1 bt1132.2.2.1 bt1132.2.2.2.1 bt1132.2.2.2.2).bind fun bt1139 => ((impl_ExprOk.f bt1139.1 bt1139.2.1 bt1139.2.2.1 bt1139.2.2.2.1 bt1139.2.2.2.2).bind fun t1146 => (some (!t1146)))))))))
end
def laws_FnExprOn.f (k : Nat) (l0 : List Int) : Option (Bool) := if (l0.length : Int) > 1048576 then (some true) else ((spec_DrawExprOf.f k l0).bind fun bt1062 => ((impl_ExprOf.f bt1062.1 bt1062.2.1 bt1062.2.2.1 bt1062.2.2.2.1 bt1062.2.2.2.2.1 bt1062.2.2.2.2.2.1 bt1062.2.2.2.2.2.2.1 bt1062.2.2.2.2.2.2.2).bind fun t1080 => ((spec_ExprOf.f k bt1062.1 bt1062.2.1 bt1062.2.2.1 bt1062.2.2.2.1 bt1062.2.2.2.2.1 bt1062.2.2.2.2.2.1 bt1062.2.2.2.2.2.2.1 bt1062.2.2.2.2.2.2.2).bind fun t1081 => (if t1080 = t1081 then (if bt1062.1 ≥ 6 then (if t1080 = 0 then (laws_FnExprOn.j0 k t1080 false bt1062.1 bt1062.2.1 bt1062.2.2.1 bt1062.2.2.2.1 bt1062.2.2.2.2.1 bt1062.2.2.2.2.2.1 bt1062.2.2.2.2.2.2.1 bt1062.2.2.2.2.2.2.2) else (laws_FnExprOn.j0 k t1080 (t1080 != 1) bt1062.1 bt1062.2.1 bt1062.2.2.1 bt1062.2.2.2.1 bt1062.2.2.2.2.1 bt1062.2.2.2.2.2.1 bt1062.2.2.2.2.2.2.1 bt1062.2.2.2.2.2.2.2)) else (laws_FnExprOn.j0 k t1080 false bt1062.1 bt1062.2.1 bt1062.2.2.1 bt1062.2.2.2.1 bt1062.2.2.2.2.1 bt1062.2.2.2.2.2.1 bt1062.2.2.2.2.2.2.1 bt1062.2.2.2.2.2.2.2)) else (some false)))))
def laws_FnExprOn.T12 : Bool × List (List Nat × List Nat) := (true, [([], []), ([], []), ([0, 1], [0, 1]), ([], []), ([3, 2], [3]), ([4, 4], [4]), ([2, 5], [2, 5]), ([6, 5], [6]), ([7], [7]), ([7], [7]), ([9, 7, 7], [7, 9]), ([8, 10, 10, 7], [7, 8, 10]), ([7], [7]), ([11, 12, 11, 7], [7, 11, 12]), ([13, 7], [7, 13]), ([7, 14], [7, 14]), ([15, 13], [15]), ([16], [16]), ([16], [16]), ([18, 16, 16], [16, 18]), ([17, 19, 19, 16], [16, 17, 19]), ([20, 20, 16], [16, 20]), ([21, 16], [16, 21]), ([16, 22], [16, 22]), ([23, 21, 0, 1, 2, 3, 4, 5, 6, 7, 8, 9, 10, 11, 12, 13, 14, 15, 16, 17, 18, 19, 20, 21, 22, 23], [23])])
def laws_FnExprOn.B12 : List Nat := [0, 0, 3, 0, 15, 31, 63, 127, 255, 255, 767, 2047, 255, 8191, 16383, 32767, 65535, 131071, 131071, 393215, 1048575, 2097151, 4194303, 8388607, 16777215]
theorem laws_FnExprOn.tab12 : rtab .any (opsOf Try.f11 12) = laws_FnExprOn.T12 := by kernel_rfl
theorem laws_FnExprOn.bits12 : waitsOk laws_FnExprOn.T12.2 laws_FnExprOn.B12 = true := by kernel_rfl
set_option maxHeartbeats 8000000 in
set_option maxRecDepth 100000 in
theorem laws_FnExprOn.calls (k : Nat) (A0 : Option Addr) (c0 : Nat) (l0 : List Int) (r : Bool) (w : World) (hr0 : Kd.C (Kd.int .u8) w A0 l0.length l0) (hc0 : l0.length ≤ c0) (h : laws_FnExprOn.f k l0 = some r) :
  Calls Try.prog 11 #[.slice A0 l0.length c0] w fun e w' => e = .returned (.bool r) ∧ Below w.heap.size w w' := by
 have hu32 := Try.underlying32
 have hu44 := Try.underlying44
 have HR0 := z0 hr0
 have HC0 := z0 hc0
 clear hr0 hc0
 have HB := z0 (Below.refl w.heap.size w)
 have H : (if (l0.length : Int) > 1048576 then (some true) else ((spec_DrawExprOf.f k l0).bind fun bt1062 => ((impl_ExprOf.f bt1062.1 bt1062.2.1 bt1062.2.2.1 bt1062.2.2.2.1 bt1062.2.2.2.2.1 bt1062.2.2.2.2.2.1 bt1062.2.2.2.2.2.2.1 bt1062.2.2.2.2.2.2.2).bind fun t1080 => ((spec_ExprOf.f k bt1062.1 bt1062.2.1 bt1062.2.2.1 bt1062.2.2.2.1 bt1062.2.2.2.2.1 bt1062.2.2.2.2.2.1 bt1062.2.2.2.2.2.2.1 bt1062.2.2.2.2.2.2.2).bind fun t1081 => (if t1080 = t1081 then (if bt1062.1 ≥ 6 then (if t1080 = 0 then (laws_FnExprOn.j0 k t1080 false bt1062.1 bt1062.2.1 bt1062.2.2.1 bt1062.2.2.2.1 bt1062.2.2.2.2.1 bt1062.2.2.2.2.2.1 bt1062.2.2.2.2.2.2.1 bt1062.2.2.2.2.2.2.2) else (laws_FnExprOn.j0 k t1080 (t1080 != 1) bt1062.1 bt1062.2.1 bt1062.2.2.1 bt1062.2.2.2.1 bt1062.2.2.2.2.1 bt1062.2.2.2.2.2.1 bt1062.2.2.2.2.2.2.1 bt1062.2.2.2.2.2.2.2)) else (laws_FnExprOn.j0 k t1080 false bt1062.1 bt1062.2.1 bt1062.2.2.1 bt1062.2.2.2.1 bt1062.2.2.2.2.1 bt1062.2.2.2.2.2.1 bt1062.2.2.2.2.2.2.1 bt1062.2.2.2.2.2.2.2)) else (some false)))))) = some r := h
 clear h
 by_cases c2 : (l0.length : Int) > 1048576
 ·rw [if_pos c2] at H
  have c2b0 : decide (1048576 < (l0.length : Int)) = true := decide_eq_true c2
  have c2b1 : decide (1048576 < l0.length) = true := decide_eq_true (by omega)
  clear c2
  obtain rfl := Option.some.inj H
  go_enter Try.func11, Try.ntmps11
  go_wp2
  go_ret
  exact ⟨rfx, mB HB.out⟩
 ·rw [if_neg c2] at H
  have c2b0 : decide (1048576 < (l0.length : Int)) = false := decide_eq_false c2
  have c2b1 : decide (1048576 < l0.length) = false := decide_eq_false (by omega)
  clear c2
  replace H := Option.bind_eq_some_iff.mp H
  obtain ⟨⟨t1062, t1063, t1064, t1065, t1066, t1069, t1072, t1075⟩, A30, H⟩ := H
  replace H : ((impl_ExprOf.f t1062 t1063 t1064 t1065 t1066 t1069 t1072 t1075).bind fun t1080 => ((spec_ExprOf.f k t1062 t1063 t1064 t1065 t1066 t1069 t1072 t1075).bind fun t1081 => (if t1080 = t1081 then (if t1062 ≥ 6 then (if t1080 = 0 then (laws_FnExprOn.j0 k t1080 false t1062 t1063 t1064 t1065 t1066 t1069 t1072 t1075) else (laws_FnExprOn.j0 k t1080 (t1080 != 1) t1062 t1063 t1064 t1065 t1066 t1069 t1072 t1075)) else (laws_FnExprOn.j0 k t1080 false t1062 t1063 t1064 t1065 t1066 t1069 t1072 t1075)) else (some false)))) = some r := H
  have A3 := z0 A30
  clear A30
  replace H := Option.bind_eq_some_iff.mp H
  obtain ⟨t1080, A40, H⟩ := H
  replace H : ((spec_ExprOf.f k t1062 t1063 t1064 t1065 t1066 t1069 t1072 t1075).bind fun t1081 => (if t1080 = t1081 then (if t1062 ≥ 6 then (if t1080 = 0 then (laws_FnExprOn.j0 k t1080 false t1062 t1063 t1064 t1065 t1066 t1069 t1072 t1075) else (laws_FnExprOn.j0 k t1080 (t1080 != 1) t1062 t1063 t1064 t1065 t1066 t1069 t1072 t1075)) else (laws_FnExprOn.j0 k t1080 false t1062 t1063 t1064 t1065 t1066 t1069 t1072 t1075)) else (some false))) = some r := H
  have A4 := z0 A40
  clear A40
  replace H := Option.bind_eq_some_iff.mp H
  obtain ⟨t1081, A50, H⟩ := H
  replace H : (if t1080 = t1081 then (if t1062 ≥ 6 then (if t1080 = 0 then (laws_FnExprOn.j0 k t1080 false t1062 t1063 t1064 t1065 t1066 t1069 t1072 t1075) else (laws_FnExprOn.j0 k t1080 (t1080 != 1) t1062 t1063 t1064 t1065 t1066 t1069 t1072 t1075)) else (laws_FnExprOn.j0 k t1080 false t1062 t1063 t1064 t1065 t1066 t1069 t1072 t1075)) else (some false)) = some r := H
  have A5 := z0 A50
  clear A50
  have HF6 := z0 H
  clear H
  go_enter Try.func11, Try.ntmps11
  go_upto_if 22 with (first | ((with_reducible refine gate_callee (f := 36) rfl ?_); refine goesL_ (some 12) rfl rfl Try.func36 (by kernel_rfl) rfl #[.slice A0 l0.length c0] rfl argx ?_; (with_reducible refine (spec_DrawExprOf.calls k _ _ l0 t1062 t1063 t1064 t1065 t1066 t1069 t1072 t1075 _ ?side1 ?side2 A3.out).mono ?_); (case side1 => exact mC HR0.out); (case side2 => exact HC0.out); rintro e w7 ⟨v1067, v1070, v1073, v1076, rfl, ho0, ho1, ho2, ho3, hb⟩; refine ⟨_, rfl, ?_⟩; have n0_ := z0 (Kd.N_lower (Kd.N_mono (ok' := fun k_ => nB k_ v1070 ∧ nB k_ v1073 ∧ nB k_ v1076) ho0 (fun k_ hk_ => ⟨hk_.2.1, hk_.2.2.1, hk_.2.2.2⟩)) (below_size (mB HB.out))); have n1_ := z0 (Kd.R_lower (Kd.R_mono (ok' := fun k_ => nB k_ v1073 ∧ nB k_ v1076) ho1 (fun _ hk_ => hk_.2)) (below_size (mB HB.out))); have n2_ := z0 (Kd.R_lower (Kd.R_mono (ok' := fun k_ => nB k_ v1070 ∧ nB k_ v1076) ho2 (fun _ hk_ => hk_.2)) (below_size (mB HB.out))); have n3_ := z0 (Kd.R_lower (Kd.R_mono (ok' := fun k_ => nB k_ v1070 ∧ nB k_ v1073) ho3 (fun _ hk_ => hk_.2)) (below_size (mB HB.out))); have n4_ := z0 (below_step (mB HB.out) hb); clear HB; have HO1068 := n0_; have HO1071 := n1_; have HO1074 := n2_; have HO1077 := n3_; have HB := n4_; clear n0_ n1_ n2_ n3_ n4_; (try clear hb); (try clear hb2); (try clear hk); (try clear hi); (try clear ho0); (try clear ho1); (try clear ho2); (try clear ho3)) | ((with_reducible refine gate_dst (N := 3) rfl ?_); refine box_event ?hg (N := 3) ?hd (cs := #[.int .i64 0, .int .i64 0, .int .i64 0, .int .i64 0, .slice none 0 0]) (t := 32) ?hr ?_; (case hd => rfl); (case hg => rfl); (case hr => first | (go_simp; done) | (go_simp; rfl)); intro gb1078 hg w8 hbox hb; have n0_ := z0 (Kd.N_below (Kd.N_elderB (mN HO1068.out) gb1078 (Nat.le_of_eq hg.symm)) hb); have n1_ := z0 (Kd.R_below (mR HO1071.out) hb); have n2_ := z0 (Kd.R_below (mR HO1074.out) hb); have n3_ := z0 (Kd.R_below (mR HO1077.out) hb); have n4_ := z0 (below_step (mB HB.out) hb); have n5_ := z0 (hbox); have n6_ := z0 ((by rw [hg]; exact (below_size (mB HB.out)) : w.heap.size ≤ gb1078)); have n7_ := z0 ((by rw [hg]; exact (below_size (mB HB.out)) : w.heap.size ≤ gb1078)); clear HO1068; clear HO1071; clear HO1074; clear HO1077; clear HB; have HO1068 := n0_; have HO1071 := n1_; have HO1074 := n2_; have HO1077 := n3_; have HB := n4_; have BK1078 := n5_; have GW1078 := n6_; have GE1078 := n7_; clear n0_ n1_ n2_ n3_ n4_ n5_ n6_ n7_; clear hb hbox hg) | ((with_reducible refine gate_dst (N := 4) rfl ?_); refine box_event ?hg (N := 4) ?hd (cs := #[.slice none 0 0, .slice none 0 0, .slice none 0 0]) (t := 44) ?hr ?_; (case hd => rfl); (case hg => rfl); (case hr => first | (go_simp; done) | (go_simp; rfl)); intro gb1079 hg w9 hbox hb; have n0_ := z0 (Kd.N_below (Kd.N_elderB (mN HO1068.out) gb1079 (Nat.le_of_eq hg.symm)) hb); have n1_ := z0 (Kd.R_below (mR HO1071.out) hb); have n2_ := z0 (Kd.R_below (mR HO1074.out) hb); have n3_ := z0 (Kd.R_below (mR HO1077.out) hb); have n4_ := z0 (blk_below (g := gb1078) (o := .cells #[.int .i64 0, .int .i64 0, .int .i64 0, .int .i64 0, .slice none 0 0] 32 (0, 0)) (mK BK1078.out) hb); have n5_ := z0 (below_step (mB HB.out) hb); have n6_ := z0 (hbox); have n7_ := z0 ((by rw [hg]; exact (below_size (mB HB.out)) : w.heap.size ≤ gb1079)); have n8_ := z0 ((by rw [hg]; exact (below_size (mB HB.out)) : w.heap.size ≤ gb1079)); have n9_ := z0 ((by rw [hg]; exact Nat.ne_of_lt (blk_lt (g := gb1078) (o := .cells #[.int .i64 0, .int .i64 0, .int .i64 0, .int .i64 0, .slice none 0 0] 32 (0, 0)) (mK BK1078.out)) : gb1078 ≠ gb1079)); have n10_ := z0 ((by rw [hg]; exact Nat.ne_of_gt (blk_lt (g := gb1078) (o := .cells #[.int .i64 0, .int .i64 0, .int .i64 0, .int .i64 0, .slice none 0 0] 32 (0, 0)) (mK BK1078.out)) : gb1079 ≠ gb1078)); clear HO1068; clear HO1071; clear HO1074; clear HO1077; clear BK1078; clear HB; have HO1068 := n0_; have HO1071 := n1_; have HO1074 := n2_; have HO1077 := n3_; have BK1078 := n4_; have HB := n5_; have BK1079 := n6_; have GW1079 := n7_; have GE1079 := n8_; have NB1078_1079 := n9_; have NB1079_1078 := n10_; clear n0_ n1_ n2_ n3_ n4_ n5_ n6_ n7_ n8_ n9_ n10_; clear hb hbox hg; have hnb10 := NB1078_1079.out; have hnc10 := NB1079_1078.out; obtain ⟨hcz11_0, hcz11_1, hcz11_2, hcz11_3, hcz11_4, hfz11_0, hfz11_1, hfz11_2, hfz11_3, hfz11_4⟩ := cel5 BK1078.out; obtain ⟨Ao12, co12, eo12⟩ := Kd.N_slice HO1068.out; subst eo12; obtain ⟨Ao13, co13, eo13⟩ := Kd.R_slice HO1071.out; subst eo13; obtain ⟨hcz14_0, hcz14_1, hcz14_2, hfz14_0, hfz14_1, hfz14_2⟩ := cel3 BK1079.out; obtain ⟨Ao15, co15, eo15⟩ := Kd.R_slice HO1074.out; subst eo15; obtain ⟨Ao16, co16, eo16⟩ := Kd.R_slice HO1077.out; subst eo16) | ((with_reducible refine gate_callee (f := 26) rfl ?_); refine goesL_ (some 17) rfl rfl Try.func26 (by kernel_rfl) rfl #[.agg #[.int .i64 t1062, .int .i64 t1063, .int .i64 t1064, .int .i64 t1065, .slice Ao12 t1066.length co12], .agg #[.slice Ao13 t1069.length co13, .slice Ao15 t1072.length co15, .slice Ao16 t1075.length co16]] rfl argx ?_; (with_reducible refine (impl_ExprOf.calls t1062 t1063 t1064 t1065 _ _ t1066 _ _ t1069 _ _ t1072 _ _ t1075 t1080 _ ?side1 ?side2 ?side3 ?side4 ?side5 ?side6 ?side7 ?side8 A4.out).mono ?_); (case side1 => refine (Kd.N_reads' (e := 32) (base := w.heap.size) (ok := fun k_ => (((nB k_ (.slice Ao13 t1069.length co13) ∧ (nB k_ (.slice Ao15 t1072.length co15) ∧ nB k_ (.slice Ao16 t1075.length co16))) ∧ k_ ≠ gb1078) ∧ k_ ≠ gb1079)) (n := t1066.length) (c := co12) ?_).2.2; exact (by (with_reducible repeat (first | apply Kd.N_alloc | apply Kd.N_drewN | apply Kd.N_drew)); exact (Kd.N_mono (Kd.N_mono (Kd.N_far (p := ⟨gb1079, 2, none⟩) (Kd.N_far (p := ⟨gb1079, 1, none⟩) (Kd.N_far (p := ⟨gb1079, 0, none⟩) (Kd.N_far (p := ⟨gb1078, 4, none⟩) (Kd.N_far (p := ⟨gb1078, 3, none⟩) (Kd.N_far (p := ⟨gb1078, 2, none⟩) (Kd.N_far (p := ⟨gb1078, 1, none⟩) (Kd.N_far (p := ⟨gb1078, 0, none⟩) (Kd.N_mono (Kd.N_mono HO1068.out (fun k_ hk => (⟨hk, hk.1.2⟩ : _ ∧ k_ ≠ gb1078))) (fun k_ hk => (⟨hk, hk.1.2⟩ : _ ∧ k_ ≠ gb1079))) (fun _ hk => hk.1.2) (.int .i64 t1062)) (fun _ hk => hk.1.2) (.int .i64 t1063)) (fun _ hk => hk.1.2) (.int .i64 t1064)) (fun _ hk => hk.1.2) (.int .i64 t1065)) (fun _ hk => hk.1.2) (.slice Ao12 t1066.length co12)) (fun _ hk => hk.2) (.slice Ao13 t1069.length co13)) (fun _ hk => hk.2) (.slice Ao15 t1072.length co15)) (fun _ hk => hk.2) (.slice Ao16 t1075.length co16)) (fun _ h_ => h_.1)) (fun _ h_ => h_.1)))); (case side2 => exact (Kd.N_reads' HO1068.out).2.1); (case side3 => refine (Kd.R_reads' (e := 3) (base := w.heap.size) (ok := fun k_ => (nB k_ (.slice Ao15 t1072.length co15) ∧ nB k_ (.slice Ao16 t1075.length co16))) (n := t1069.length) (c := co13) ?_).2.2; exact (by (with_reducible repeat (first | apply Kd.R_alloc | apply Kd.R_drewN | apply Kd.R_drew)); exact (Kd.R_mono (Kd.R_mono (Kd.R_far (p := ⟨gb1079, 2, none⟩) (Kd.R_far (p := ⟨gb1079, 1, none⟩) (Kd.R_far (p := ⟨gb1079, 0, none⟩) (Kd.R_far (p := ⟨gb1078, 4, none⟩) (Kd.R_far (p := ⟨gb1078, 3, none⟩) (Kd.R_far (p := ⟨gb1078, 2, none⟩) (Kd.R_far (p := ⟨gb1078, 1, none⟩) (Kd.R_far (p := ⟨gb1078, 0, none⟩) (Kd.R_types (Kd.R_types HO1071.out BK1078.out (by decide)) BK1079.out (by decide)) (fun _ hk => hk.1.2) (.int .i64 t1062)) (fun _ hk => hk.1.2) (.int .i64 t1063)) (fun _ hk => hk.1.2) (.int .i64 t1064)) (fun _ hk => hk.1.2) (.int .i64 t1065)) (fun _ hk => hk.1.2) (.slice Ao12 t1066.length co12)) (fun _ hk => hk.2) (.slice Ao13 t1069.length co13)) (fun _ hk => hk.2) (.slice Ao15 t1072.length co15)) (fun _ hk => hk.2) (.slice Ao16 t1075.length co16)) (fun _ h_ => h_.1)) (fun _ h_ => h_.1)))); (case side4 => exact (Kd.R_reads' HO1071.out).2.1); (case side5 => refine (Kd.R_reads' (e := 3) (base := w.heap.size) (ok := fun k_ => (nB k_ (.slice Ao13 t1069.length co13) ∧ nB k_ (.slice Ao16 t1075.length co16))) (n := t1072.length) (c := co15) ?_).2.2; exact (by (with_reducible repeat (first | apply Kd.R_alloc | apply Kd.R_drewN | apply Kd.R_drew)); exact (Kd.R_mono (Kd.R_mono (Kd.R_far (p := ⟨gb1079, 2, none⟩) (Kd.R_far (p := ⟨gb1079, 1, none⟩) (Kd.R_far (p := ⟨gb1079, 0, none⟩) (Kd.R_far (p := ⟨gb1078, 4, none⟩) (Kd.R_far (p := ⟨gb1078, 3, none⟩) (Kd.R_far (p := ⟨gb1078, 2, none⟩) (Kd.R_far (p := ⟨gb1078, 1, none⟩) (Kd.R_far (p := ⟨gb1078, 0, none⟩) (Kd.R_types (Kd.R_types HO1074.out BK1078.out (by decide)) BK1079.out (by decide)) (fun _ hk => hk.1.2) (.int .i64 t1062)) (fun _ hk => hk.1.2) (.int .i64 t1063)) (fun _ hk => hk.1.2) (.int .i64 t1064)) (fun _ hk => hk.1.2) (.int .i64 t1065)) (fun _ hk => hk.1.2) (.slice Ao12 t1066.length co12)) (fun _ hk => hk.2) (.slice Ao13 t1069.length co13)) (fun _ hk => hk.2) (.slice Ao15 t1072.length co15)) (fun _ hk => hk.2) (.slice Ao16 t1075.length co16)) (fun _ h_ => h_.1)) (fun _ h_ => h_.1)))); (case side6 => exact (Kd.R_reads' HO1074.out).2.1); (case side7 => refine (Kd.R_reads' (e := 3) (base := w.heap.size) (ok := fun k_ => (nB k_ (.slice Ao13 t1069.length co13) ∧ nB k_ (.slice Ao15 t1072.length co15))) (n := t1075.length) (c := co16) ?_).2.2; exact (by (with_reducible repeat (first | apply Kd.R_alloc | apply Kd.R_drewN | apply Kd.R_drew)); exact (Kd.R_mono (Kd.R_mono (Kd.R_far (p := ⟨gb1079, 2, none⟩) (Kd.R_far (p := ⟨gb1079, 1, none⟩) (Kd.R_far (p := ⟨gb1079, 0, none⟩) (Kd.R_far (p := ⟨gb1078, 4, none⟩) (Kd.R_far (p := ⟨gb1078, 3, none⟩) (Kd.R_far (p := ⟨gb1078, 2, none⟩) (Kd.R_far (p := ⟨gb1078, 1, none⟩) (Kd.R_far (p := ⟨gb1078, 0, none⟩) (Kd.R_types (Kd.R_types HO1077.out BK1078.out (by decide)) BK1079.out (by decide)) (fun _ hk => hk.1.2) (.int .i64 t1062)) (fun _ hk => hk.1.2) (.int .i64 t1063)) (fun _ hk => hk.1.2) (.int .i64 t1064)) (fun _ hk => hk.1.2) (.int .i64 t1065)) (fun _ hk => hk.1.2) (.slice Ao12 t1066.length co12)) (fun _ hk => hk.2) (.slice Ao13 t1069.length co13)) (fun _ hk => hk.2) (.slice Ao15 t1072.length co15)) (fun _ hk => hk.2) (.slice Ao16 t1075.length co16)) (fun _ h_ => h_.1)) (fun _ h_ => h_.1)))); (case side8 => exact (Kd.R_reads' HO1077.out).2.1); rintro e w17 ⟨rfl, hb⟩; refine ⟨_, rfl, ?_⟩; have n0_ := z0 (Kd.N_below (by (with_reducible repeat (first | apply Kd.N_alloc | apply Kd.N_drewN | apply Kd.N_drew)); exact (Kd.N_mono (Kd.N_mono (Kd.N_far (p := ⟨gb1079, 2, none⟩) (Kd.N_far (p := ⟨gb1079, 1, none⟩) (Kd.N_far (p := ⟨gb1079, 0, none⟩) (Kd.N_far (p := ⟨gb1078, 4, none⟩) (Kd.N_far (p := ⟨gb1078, 3, none⟩) (Kd.N_far (p := ⟨gb1078, 2, none⟩) (Kd.N_far (p := ⟨gb1078, 1, none⟩) (Kd.N_far (p := ⟨gb1078, 0, none⟩) (Kd.N_mono (Kd.N_mono HO1068.out (fun k_ hk => (⟨hk, hk.1.2⟩ : _ ∧ k_ ≠ gb1078))) (fun k_ hk => (⟨hk, hk.1.2⟩ : _ ∧ k_ ≠ gb1079))) (fun _ hk => hk.1.2) (.int .i64 t1062)) (fun _ hk => hk.1.2) (.int .i64 t1063)) (fun _ hk => hk.1.2) (.int .i64 t1064)) (fun _ hk => hk.1.2) (.int .i64 t1065)) (fun _ hk => hk.1.2) (.slice Ao12 t1066.length co12)) (fun _ hk => hk.2) (.slice Ao13 t1069.length co13)) (fun _ hk => hk.2) (.slice Ao15 t1072.length co15)) (fun _ hk => hk.2) (.slice Ao16 t1075.length co16)) (fun _ h_ => h_.1)) (fun _ h_ => h_.1))) hb); have n1_ := z0 (Kd.R_below (by (with_reducible repeat (first | apply Kd.R_alloc | apply Kd.R_drewN | apply Kd.R_drew)); exact (Kd.R_mono (Kd.R_mono (Kd.R_far (p := ⟨gb1079, 2, none⟩) (Kd.R_far (p := ⟨gb1079, 1, none⟩) (Kd.R_far (p := ⟨gb1079, 0, none⟩) (Kd.R_far (p := ⟨gb1078, 4, none⟩) (Kd.R_far (p := ⟨gb1078, 3, none⟩) (Kd.R_far (p := ⟨gb1078, 2, none⟩) (Kd.R_far (p := ⟨gb1078, 1, none⟩) (Kd.R_far (p := ⟨gb1078, 0, none⟩) (Kd.R_types (Kd.R_types HO1071.out BK1078.out (by decide)) BK1079.out (by decide)) (fun _ hk => hk.1.2) (.int .i64 t1062)) (fun _ hk => hk.1.2) (.int .i64 t1063)) (fun _ hk => hk.1.2) (.int .i64 t1064)) (fun _ hk => hk.1.2) (.int .i64 t1065)) (fun _ hk => hk.1.2) (.slice Ao12 t1066.length co12)) (fun _ hk => hk.2) (.slice Ao13 t1069.length co13)) (fun _ hk => hk.2) (.slice Ao15 t1072.length co15)) (fun _ hk => hk.2) (.slice Ao16 t1075.length co16)) (fun _ h_ => h_.1)) (fun _ h_ => h_.1))) hb); have n2_ := z0 (Kd.R_below (by (with_reducible repeat (first | apply Kd.R_alloc | apply Kd.R_drewN | apply Kd.R_drew)); exact (Kd.R_mono (Kd.R_mono (Kd.R_far (p := ⟨gb1079, 2, none⟩) (Kd.R_far (p := ⟨gb1079, 1, none⟩) (Kd.R_far (p := ⟨gb1079, 0, none⟩) (Kd.R_far (p := ⟨gb1078, 4, none⟩) (Kd.R_far (p := ⟨gb1078, 3, none⟩) (Kd.R_far (p := ⟨gb1078, 2, none⟩) (Kd.R_far (p := ⟨gb1078, 1, none⟩) (Kd.R_far (p := ⟨gb1078, 0, none⟩) (Kd.R_types (Kd.R_types HO1074.out BK1078.out (by decide)) BK1079.out (by decide)) (fun _ hk => hk.1.2) (.int .i64 t1062)) (fun _ hk => hk.1.2) (.int .i64 t1063)) (fun _ hk => hk.1.2) (.int .i64 t1064)) (fun _ hk => hk.1.2) (.int .i64 t1065)) (fun _ hk => hk.1.2) (.slice Ao12 t1066.length co12)) (fun _ hk => hk.2) (.slice Ao13 t1069.length co13)) (fun _ hk => hk.2) (.slice Ao15 t1072.length co15)) (fun _ hk => hk.2) (.slice Ao16 t1075.length co16)) (fun _ h_ => h_.1)) (fun _ h_ => h_.1))) hb); have n3_ := z0 (Kd.R_below (by (with_reducible repeat (first | apply Kd.R_alloc | apply Kd.R_drewN | apply Kd.R_drew)); exact (Kd.R_mono (Kd.R_mono (Kd.R_far (p := ⟨gb1079, 2, none⟩) (Kd.R_far (p := ⟨gb1079, 1, none⟩) (Kd.R_far (p := ⟨gb1079, 0, none⟩) (Kd.R_far (p := ⟨gb1078, 4, none⟩) (Kd.R_far (p := ⟨gb1078, 3, none⟩) (Kd.R_far (p := ⟨gb1078, 2, none⟩) (Kd.R_far (p := ⟨gb1078, 1, none⟩) (Kd.R_far (p := ⟨gb1078, 0, none⟩) (Kd.R_types (Kd.R_types HO1077.out BK1078.out (by decide)) BK1079.out (by decide)) (fun _ hk => hk.1.2) (.int .i64 t1062)) (fun _ hk => hk.1.2) (.int .i64 t1063)) (fun _ hk => hk.1.2) (.int .i64 t1064)) (fun _ hk => hk.1.2) (.int .i64 t1065)) (fun _ hk => hk.1.2) (.slice Ao12 t1066.length co12)) (fun _ hk => hk.2) (.slice Ao13 t1069.length co13)) (fun _ hk => hk.2) (.slice Ao15 t1072.length co15)) (fun _ hk => hk.2) (.slice Ao16 t1075.length co16)) (fun _ h_ => h_.1)) (fun _ h_ => h_.1))) hb); have n4_ := z0 (blk_below (g := gb1078) (o := .cells #[.int .i64 t1062, .int .i64 t1063, .int .i64 t1064, .int .i64 t1065, .slice Ao12 t1066.length co12] 32 (0, 0)) (by (with_reducible repeat (first | refine blk_drewN ?_ _ | refine blk_drew ?_ | refine blk_alloc ?_ _)); refine blk_far ?_ NB1078_1079.out _; (with_reducible repeat (first | refine blk_drewN ?_ _ | refine blk_drew ?_ | refine blk_alloc ?_ _)); refine blk_far ?_ NB1078_1079.out _; (with_reducible repeat (first | refine blk_drewN ?_ _ | refine blk_drew ?_ | refine blk_alloc ?_ _)); refine blk_far ?_ NB1078_1079.out _; (with_reducible repeat (first | refine blk_drewN ?_ _ | refine blk_drew ?_ | refine blk_alloc ?_ _)); refine blk_put (cs := #[.int .i64 t1062, .int .i64 t1063, .int .i64 t1064, .int .i64 t1065, .slice none 0 0]) ?_ 4 _ rfl; (with_reducible repeat (first | refine blk_drewN ?_ _ | refine blk_drew ?_ | refine blk_alloc ?_ _)); refine blk_put (cs := #[.int .i64 t1062, .int .i64 t1063, .int .i64 t1064, .int .i64 0, .slice none 0 0]) ?_ 3 _ rfl; (with_reducible repeat (first | refine blk_drewN ?_ _ | refine blk_drew ?_ | refine blk_alloc ?_ _)); refine blk_put (cs := #[.int .i64 t1062, .int .i64 t1063, .int .i64 0, .int .i64 0, .slice none 0 0]) ?_ 2 _ rfl; (with_reducible repeat (first | refine blk_drewN ?_ _ | refine blk_drew ?_ | refine blk_alloc ?_ _)); refine blk_put (cs := #[.int .i64 t1062, .int .i64 0, .int .i64 0, .int .i64 0, .slice none 0 0]) ?_ 1 _ rfl; (with_reducible repeat (first | refine blk_drewN ?_ _ | refine blk_drew ?_ | refine blk_alloc ?_ _)); refine blk_put (cs := #[.int .i64 0, .int .i64 0, .int .i64 0, .int .i64 0, .slice none 0 0]) ?_ 0 _ rfl; (with_reducible repeat (first | refine blk_drewN ?_ _ | refine blk_drew ?_ | refine blk_alloc ?_ _)); exact BK1078.out) hb); have n5_ := z0 (blk_below (g := gb1079) (o := .cells #[.slice Ao13 t1069.length co13, .slice Ao15 t1072.length co15, .slice Ao16 t1075.length co16] 44 (0, 0)) (by (with_reducible repeat (first | refine blk_drewN ?_ _ | refine blk_drew ?_ | refine blk_alloc ?_ _)); refine blk_put (cs := #[.slice Ao13 t1069.length co13, .slice Ao15 t1072.length co15, .slice none 0 0]) ?_ 2 _ rfl; (with_reducible repeat (first | refine blk_drewN ?_ _ | refine blk_drew ?_ | refine blk_alloc ?_ _)); refine blk_put (cs := #[.slice Ao13 t1069.length co13, .slice none 0 0, .slice none 0 0]) ?_ 1 _ rfl; (with_reducible repeat (first | refine blk_drewN ?_ _ | refine blk_drew ?_ | refine blk_alloc ?_ _)); refine blk_put (cs := #[.slice none 0 0, .slice none 0 0, .slice none 0 0]) ?_ 0 _ rfl; (with_reducible repeat (first | refine blk_drewN ?_ _ | refine blk_drew ?_ | refine blk_alloc ?_ _)); refine blk_far ?_ NB1079_1078.out _; (with_reducible repeat (first | refine blk_drewN ?_ _ | refine blk_drew ?_ | refine blk_alloc ?_ _)); refine blk_far ?_ NB1079_1078.out _; (with_reducible repeat (first | refine blk_drewN ?_ _ | refine blk_drew ?_ | refine blk_alloc ?_ _)); refine blk_far ?_ NB1079_1078.out _; (with_reducible repeat (first | refine blk_drewN ?_ _ | refine blk_drew ?_ | refine blk_alloc ?_ _)); refine blk_far ?_ NB1079_1078.out _; (with_reducible repeat (first | refine blk_drewN ?_ _ | refine blk_drew ?_ | refine blk_alloc ?_ _)); refine blk_far ?_ NB1079_1078.out _; (with_reducible repeat (first | refine blk_drewN ?_ _ | refine blk_drew ?_ | refine blk_alloc ?_ _)); exact BK1079.out) hb); have n6_ := z0 (below_step (mB HB.out) hb); clear HO1068; clear HO1071; clear HO1074; clear HO1077; clear BK1078; clear BK1079; clear HB; have HO1068 := n0_; have HO1071 := n1_; have HO1074 := n2_; have HO1077 := n3_; have BK1078 := n4_; have BK1079 := n5_; have HB := n6_; clear n0_ n1_ n2_ n3_ n4_ n5_ n6_; (try clear hb); (try clear hb2); (try clear hk); (try clear hi); obtain ⟨hcz18_0, hcz18_1, hcz18_2, hcz18_3, hcz18_4, hfz18_0, hfz18_1, hfz18_2, hfz18_3, hfz18_4⟩ := cel5 BK1078.out; obtain ⟨hcz19_0, hcz19_1, hcz19_2, hfz19_0, hfz19_1, hfz19_2⟩ := cel3 BK1079.out) | ((with_reducible refine gate_callee (f := 24) rfl ?_); refine goesL_ (some 21) rfl rfl Try.func24 (by kernel_rfl) rfl #[.agg #[.int .i64 t1062, .int .i64 t1063, .int .i64 t1064, .int .i64 t1065, .slice Ao12 t1066.length co12], .agg #[.slice Ao13 t1069.length co13, .slice Ao15 t1072.length co15, .slice Ao16 t1075.length co16]] rfl argx ?_; (with_reducible refine (spec_ExprOf.calls k t1062 t1063 t1064 t1065 _ _ t1066 _ _ t1069 _ _ t1072 _ _ t1075 t1081 _ ?side1 ?side2 ?side3 ?side4 ?side5 ?side6 ?side7 ?side8 A5.out).mono ?_); (case side1 => exact mC (Kd.N_reads' HO1068.out).2.2); (case side2 => exact (Kd.N_reads' HO1068.out).2.1); (case side3 => exact mC (Kd.R_reads' HO1071.out).2.2); (case side4 => exact (Kd.R_reads' HO1071.out).2.1); (case side5 => exact mC (Kd.R_reads' HO1074.out).2.2); (case side6 => exact (Kd.R_reads' HO1074.out).2.1); (case side7 => exact mC (Kd.R_reads' HO1077.out).2.2); (case side8 => exact (Kd.R_reads' HO1077.out).2.1); rintro e w20 ⟨rfl, hb⟩; refine ⟨_, rfl, ?_⟩; have n0_ := z0 (Kd.N_below (mN HO1068.out) hb); have n1_ := z0 (Kd.R_below (mR HO1071.out) hb); have n2_ := z0 (Kd.R_below (mR HO1074.out) hb); have n3_ := z0 (Kd.R_below (mR HO1077.out) hb); have n4_ := z0 (blk_below (g := gb1078) (o := .cells #[.int .i64 t1062, .int .i64 t1063, .int .i64 t1064, .int .i64 t1065, .slice Ao12 t1066.length co12] 32 (0, 0)) (mK BK1078.out) hb); have n5_ := z0 (blk_below (g := gb1079) (o := .cells #[.slice Ao13 t1069.length co13, .slice Ao15 t1072.length co15, .slice Ao16 t1075.length co16] 44 (0, 0)) (mK BK1079.out) hb); have n6_ := z0 (below_step (mB HB.out) hb); clear HO1068; clear HO1071; clear HO1074; clear HO1077; clear BK1078; clear BK1079; clear HB; have HO1068 := n0_; have HO1071 := n1_; have HO1074 := n2_; have HO1077 := n3_; have BK1078 := n4_; have BK1079 := n5_; have HB := n6_; clear n0_ n1_ n2_ n3_ n4_ n5_ n6_; (try clear hb); (try clear hb2); (try clear hk); (try clear hi)))
  (try simp only [Act.put, List.setIfInBounds_toArray, List.set_cons_zero, List.set_cons_succ])
  have H := HF6.out
  clear HF6
  (try clear c1); (try clear c2); (try clear c2b0); (try clear c2b1); (try clear p2); (try clear c3); (try clear c10); (try clear c11); (try clear hcz11_0); (try clear hcz11_1); (try clear hcz11_2); (try clear hcz11_3); (try clear hcz11_4); (try clear hcz14_0); (try clear hcz14_1); (try clear hcz14_2); (try clear hcz18_0); (try clear hcz18_1); (try clear hcz18_2); (try clear hcz18_3); (try clear hcz18_4); (try clear hcz19_0); (try clear hcz19_1); (try clear hcz19_2); (try clear hfz11_0); (try clear hfz11_1); (try clear hfz11_2); (try clear hfz11_3); (try clear hfz11_4); (try clear hfz14_0); (try clear hfz14_1); (try clear hfz14_2); (try clear hfz18_0); (try clear hfz18_1); (try clear hfz18_2); (try clear hfz18_3); (try clear hfz18_4); (try clear hfz19_0); (try clear hfz19_1); (try clear hfz19_2)
  by_cases c21 : t1080 = t1081
  ·rw [if_pos c21] at H
   have c21b0 : (t1080 == t1081) = true := beq_iff_eq.mpr c21
   have c21b1 : (t1080 != t1081) = false := bne_eq_false_iff_eq.mpr c21
   clear c21
   (first | rw [c21b0] | (simp only [i64_w, i32_w]; rw [c21b0]) | skip)
   have HC22 := z0 H
   clear H
   go_upto_region 7 with (fail)
   go_cut [33] (fun v33 wc => ∃ (kq : Nat) (x33_21 : Bool), v33 = .bool x33_21 ∧ Aside0 (laws_FnExprOn.j0 kq t1080 x33_21 t1062 t1063 t1064 t1065 t1066 t1069 t1072 t1075 = some r) ∧ Aside0 (kq ≤ k) ∧ Aside0 (Kd.N k32 32 wc w.heap.size (fun k_ => some k_ ≠ ((.slice Ao13 t1069.length co13) : Value).ownBlock ∧ some k_ ≠ ((.slice Ao15 t1072.length co15) : Value).ownBlock ∧ some k_ ≠ ((.slice Ao16 t1075.length co16) : Value).ownBlock ∧ k_ ≠ gb1078 ∧ k_ ≠ gb1079) (.slice Ao12 t1066.length co12) t1066) ∧ Aside0 (Kd.R (Kd.int .i64) 3 wc w.heap.size (fun k_ => some k_ ≠ ((.slice Ao15 t1072.length co15) : Value).ownBlock ∧ some k_ ≠ ((.slice Ao16 t1075.length co16) : Value).ownBlock) (.slice Ao13 t1069.length co13) t1069) ∧ Aside0 (Kd.R (Kd.int .i64) 3 wc w.heap.size (fun k_ => some k_ ≠ ((.slice Ao13 t1069.length co13) : Value).ownBlock ∧ some k_ ≠ ((.slice Ao16 t1075.length co16) : Value).ownBlock) (.slice Ao15 t1072.length co15) t1072) ∧ Aside0 (Kd.R (Kd.int .i64) 3 wc w.heap.size (fun k_ => some k_ ≠ ((.slice Ao13 t1069.length co13) : Value).ownBlock ∧ some k_ ≠ ((.slice Ao15 t1072.length co15) : Value).ownBlock) (.slice Ao16 t1075.length co16) t1075) ∧ Aside0 (wc.heap[gb1078]? = some (.cells #[.int .i64 t1062, .int .i64 t1063, .int .i64 t1064, .int .i64 t1065, (.slice Ao12 t1066.length co12)] 32 (0, 0))) ∧ Aside0 (wc.heap[gb1079]? = some (.cells #[(.slice Ao13 t1069.length co13), (.slice Ao15 t1072.length co15), (.slice Ao16 t1075.length co16)] 44 (0, 0))) ∧ Aside0 (Below w.heap.size w wc))
   case first =>
    have H := HC22.out
    clear HC22
    by_cases c23 : t1062 ≥ 6
    ·rw [if_pos c23] at H
     have c23b0 : decide (6 ≤ t1062) = true := decide_eq_true c23
     clear c23
     (first | rw [c23b0] | (simp only [i64_w, i32_w]; rw [c23b0]) | skip)
     by_cases c24 : t1080 = 0
     ·rw [if_pos c24] at H
      have c24b0 : (t1080 == 0) = true := beq_iff_eq.mpr c24
      have c24b1 : (t1080 != 0) = false := bne_eq_false_iff_eq.mpr c24
      clear c24
      have H' := z0 H
      clear H
      have hnb25 := NB1078_1079.out
      have hnc25 := NB1079_1078.out
      obtain ⟨hcz26_0, hcz26_1, hcz26_2, hcz26_3, hcz26_4, hfz26_0, hfz26_1, hfz26_2, hfz26_3, hfz26_4⟩ := cel5 BK1078.out
      go_wp2
      go_meet
      case rel => exact ⟨_, (false), rfy, H', ⟨by first | omega | exact Nat.le_refl _⟩, ⟨by (with_reducible repeat (first | apply Kd.N_alloc | apply Kd.N_drewN | apply Kd.N_drew)); exact Kd.N_mono HO1068.out (fun _ hk => ⟨hk.1.1.1, ⟨hk.1.1.2.1, ⟨hk.1.1.2.2, ⟨hk.1.2, hk.2⟩⟩⟩⟩)⟩, ⟨mR HO1071.out⟩, ⟨mR HO1074.out⟩, ⟨mR HO1077.out⟩, ⟨mK BK1078.out⟩, ⟨mK BK1079.out⟩, ⟨mB HB.out⟩⟩
     ·rw [if_neg c24] at H
      have c24b0 : (t1080 == 0) = false := beq_eq_false_iff_ne.mpr c24
      have c24b1 : (t1080 != 0) = true := bne_iff_ne.mpr c24
      have H' := z0 H
      clear H
      have hnb27 := NB1078_1079.out
      have hnc27 := NB1079_1078.out
      obtain ⟨hcz28_0, hcz28_1, hcz28_2, hcz28_3, hcz28_4, hfz28_0, hfz28_1, hfz28_2, hfz28_3, hfz28_4⟩ := cel5 BK1078.out
      go_wp2
      go_meet
      case rel => exact ⟨_, ((t1080 != 1)), rfy, H', ⟨by first | omega | exact Nat.le_refl _⟩, ⟨by (with_reducible repeat (first | apply Kd.N_alloc | apply Kd.N_drewN | apply Kd.N_drew)); exact Kd.N_mono HO1068.out (fun _ hk => ⟨hk.1.1.1, ⟨hk.1.1.2.1, ⟨hk.1.1.2.2, ⟨hk.1.2, hk.2⟩⟩⟩⟩)⟩, ⟨mR HO1071.out⟩, ⟨mR HO1074.out⟩, ⟨mR HO1077.out⟩, ⟨mK BK1078.out⟩, ⟨mK BK1079.out⟩, ⟨mB HB.out⟩⟩
    ·rw [if_neg c23] at H
     have c23b0 : decide (6 ≤ t1062) = false := decide_eq_false c23
     clear c23
     (first | rw [c23b0] | (simp only [i64_w, i32_w]; rw [c23b0]) | skip)
     have H' := z0 H
     clear H
     have hnb29 := NB1078_1079.out
     have hnc29 := NB1079_1078.out
     obtain ⟨hcz30_0, hcz30_1, hcz30_2, hcz30_3, hcz30_4, hfz30_0, hfz30_1, hfz30_2, hfz30_3, hfz30_4⟩ := cel5 BK1078.out
     go_wp2
     go_meet
     case rel => exact ⟨_, (false), rfy, H', ⟨by first | omega | exact Nat.le_refl _⟩, ⟨by (with_reducible repeat (first | apply Kd.N_alloc | apply Kd.N_drewN | apply Kd.N_drew)); exact Kd.N_mono HO1068.out (fun _ hk => ⟨hk.1.1.1, ⟨hk.1.1.2.1, ⟨hk.1.1.2.2, ⟨hk.1.2, hk.2⟩⟩⟩⟩)⟩, ⟨mR HO1071.out⟩, ⟨mR HO1074.out⟩, ⟨mR HO1077.out⟩, ⟨mK BK1078.out⟩, ⟨mK BK1079.out⟩, ⟨mB HB.out⟩⟩
   case rest =>
    clear HC22
    (try clear c1); (try clear c2); (try clear c2b0); (try clear c2b1); (try clear p2); (try clear c3); (try clear c10); (try clear c11); (try clear c21); (try clear c21b0); (try clear c21b1); (try clear c23); (try clear c23b0); (try clear c24); (try clear c24b0); (try clear c24b1); (try clear c25); (try clear c26); (try clear c27); (try clear c29); (try clear hcz11_0); (try clear hcz11_1); (try clear hcz11_2); (try clear hcz11_3); (try clear hcz11_4); (try clear hcz14_0); (try clear hcz14_1); (try clear hcz14_2); (try clear hcz18_0); (try clear hcz18_1); (try clear hcz18_2); (try clear hcz18_3); (try clear hcz18_4); (try clear hcz19_0); (try clear hcz19_1); (try clear hcz19_2); (try clear hcz26_0); (try clear hcz26_1); (try clear hcz26_2); (try clear hcz26_3); (try clear hcz26_4); (try clear hcz28_0); (try clear hcz28_1); (try clear hcz28_2); (try clear hcz28_3); (try clear hcz28_4); (try clear hcz30_0); (try clear hcz30_1); (try clear hcz30_2); (try clear hcz30_3); (try clear hcz30_4); (try clear hfz11_0); (try clear hfz11_1); (try clear hfz11_2); (try clear hfz11_3); (try clear hfz11_4); (try clear hfz14_0); (try clear hfz14_1); (try clear hfz14_2); (try clear hfz18_0); (try clear hfz18_1); (try clear hfz18_2); (try clear hfz18_3); (try clear hfz18_4); (try clear hfz19_0); (try clear hfz19_1); (try clear hfz19_2); (try clear hfz26_0); (try clear hfz26_1); (try clear hfz26_2); (try clear hfz26_3); (try clear hfz26_4); (try clear hfz28_0); (try clear hfz28_1); (try clear hfz28_2); (try clear hfz28_3); (try clear hfz28_4); (try clear hfz30_0); (try clear hfz30_1); (try clear hfz30_2); (try clear hfz30_3); (try clear hfz30_4); (try clear p2)
    obtain ⟨kq, x33_21, rfl, HA, HJ21, HO_1079004, HO_1080000, HO_1080001, HO_1080002, BK1078, BK1079, HB⟩ := hcut
    cases kq with
    | zero => exact absurd HA.out (by simp [laws_FnExprOn.j0])
    | succ kj21 =>
     have H := HA.out
     clear HA
     simp only [laws_FnExprOn.j0] at H
     by_cases c31 : x33_21 = true
     ·subst c31
      have H1 : (some false) = some r := by rw [if_pos rfl] at H; exact H
      clear H
      have H := H1
      clear H1
      obtain rfl := Option.some.inj H
      go_wp2
      go_ret
      exact ⟨rfx, mB HB.out⟩
     ·replace c31 := Bool.eq_false_iff.mpr c31
      subst c31
      have H1 : ((laws_wqNot.f t1062 t1063 t1064 t1065 t1066).bind fun bt1082 => ((laws_wqNot.f bt1082.1 bt1082.2.1 bt1082.2.2.1 bt1082.2.2.2.1 bt1082.2.2.2.2).bind fun bt1089 => ((spec_ExprOk.f kj21 bt1089.1 bt1089.2.1 bt1089.2.2.1 bt1089.2.2.2.1 bt1089.2.2.2.2).bind fun t1097 => (if t1097 = true then ((spec_MemOk.f kj21 t1069 t1072 t1075).bind fun t1098 => (laws_FnExprOn.j1 kj21 t1080 (!t1098) t1062 t1063 t1064 t1065 t1066 t1069 t1072 t1075 bt1089.1 bt1089.2.1 bt1089.2.2.1 bt1089.2.2.2.1 bt1089.2.2.2.2)) else (laws_FnExprOn.j1 kj21 t1080 true t1062 t1063 t1064 t1065 t1066 t1069 t1072 t1075 bt1089.1 bt1089.2.1 bt1089.2.2.1 bt1089.2.2.2.1 bt1089.2.2.2.2))))) = some r := by rw [if_neg (show ¬ (false = true) by decide)] at H; exact H
      clear H
      have H := H1
      clear H1
      replace H := Option.bind_eq_some_iff.mp H
      obtain ⟨⟨t1082, t1083, t1084, t1085, t1086⟩, A320, H⟩ := H
      replace H : ((laws_wqNot.f t1082 t1083 t1084 t1085 t1086).bind fun bt1089 => ((spec_ExprOk.f kj21 bt1089.1 bt1089.2.1 bt1089.2.2.1 bt1089.2.2.2.1 bt1089.2.2.2.2).bind fun t1097 => (if t1097 = true then ((spec_MemOk.f kj21 t1069 t1072 t1075).bind fun t1098 => (laws_FnExprOn.j1 kj21 t1080 (!t1098) t1062 t1063 t1064 t1065 t1066 t1069 t1072 t1075 bt1089.1 bt1089.2.1 bt1089.2.2.1 bt1089.2.2.2.1 bt1089.2.2.2.2)) else (laws_FnExprOn.j1 kj21 t1080 true t1062 t1063 t1064 t1065 t1066 t1069 t1072 t1075 bt1089.1 bt1089.2.1 bt1089.2.2.1 bt1089.2.2.2.1 bt1089.2.2.2.2)))) = some r := H
      have A32 := z0 A320
      clear A320
      replace H := Option.bind_eq_some_iff.mp H
      obtain ⟨⟨t1089, t1090, t1091, t1092, t1093⟩, A330, H⟩ := H
      replace H : ((spec_ExprOk.f kj21 t1089 t1090 t1091 t1092 t1093).bind fun t1097 => (if t1097 = true then ((spec_MemOk.f kj21 t1069 t1072 t1075).bind fun t1098 => (laws_FnExprOn.j1 kj21 t1080 (!t1098) t1062 t1063 t1064 t1065 t1066 t1069 t1072 t1075 t1089 t1090 t1091 t1092 t1093)) else (laws_FnExprOn.j1 kj21 t1080 true t1062 t1063 t1064 t1065 t1066 t1069 t1072 t1075 t1089 t1090 t1091 t1092 t1093))) = some r := H
      have A33 := z0 A330
      clear A330
      have HC34 := z0 H
      clear H
      have hnb35 := NB1078_1079.out
      have hnc35 := NB1079_1078.out
      obtain ⟨hcz36_0, hcz36_1, hcz36_2, hcz36_3, hcz36_4, hfz36_0, hfz36_1, hfz36_2, hfz36_3, hfz36_4⟩ := cel5 BK1078.out
      go_upto_region 10 with (first | ((with_reducible refine gate_callee (f := 38) rfl ?_); refine goesL_ (some 35) rfl rfl Try.func38 (by kernel_rfl) rfl #[.agg #[.int .i64 t1062, .int .i64 t1063, .int .i64 t1064, .int .i64 t1065, .slice Ao12 t1066.length co12]] rfl argx ?_; (with_reducible refine (laws_wqNot.calls t1062 t1063 t1064 t1065 (fun k_ => (nB k_ (.slice Ao13 t1069.length co13) ∧ (nB k_ (.slice Ao15 t1072.length co15) ∧ (nB k_ (.slice Ao16 t1075.length co16) ∧ (k_ ≠ gb1078 ∧ k_ ≠ gb1079))))) _ _ t1066 t1082 t1083 t1084 t1085 t1086 _ ?side1 A32.out).mono ?_); (case side1 => exact Kd.N_V (HO_1079004.out)); rintro e w37 ⟨v1087, rfl, ho0, hb⟩; refine ⟨_, rfl, ?_⟩; have n0_ := z0 (Kd.N_elder' (mN HO_1079004.out) (by first | exact Kd.N_base ho0 | exact Kd.R_base ho0) hb); have n1_ := z0 (Kd.R_below (mR HO_1080000.out) hb); have n2_ := z0 (Kd.R_below (mR HO_1080001.out) hb); have n3_ := z0 (Kd.R_below (mR HO_1080002.out) hb); have n4_ := z0 (Kd.N_lower (Kd.N_mono (ok' := fun k_ => nB k_ (.slice Ao13 t1069.length co13) ∧ nB k_ (.slice Ao15 t1072.length co15) ∧ nB k_ (.slice Ao16 t1075.length co16) ∧ k_ ≠ gb1078 ∧ k_ ≠ gb1079) ho0 (fun k_ hk_ => ⟨Or.elim hk_ (fun hs_ => hs_.1) (fun hn_ => (Kd.fresh' (Kd.R_lt (mR HO_1080000.out)) k_ hn_)), Or.elim hk_ (fun hs_ => hs_.2.1) (fun hn_ => (Kd.fresh' (Kd.R_lt (mR HO_1080001.out)) k_ hn_)), Or.elim hk_ (fun hs_ => hs_.2.2.1) (fun hn_ => (Kd.fresh' (Kd.R_lt (mR HO_1080002.out)) k_ hn_)), Or.elim hk_ (fun hs_ => hs_.2.2.2.1) (fun hn_ => (Kd.freshB (g := gb1078) (o := .cells #[.int .i64 t1062, .int .i64 t1063, .int .i64 t1064, .int .i64 t1065, .slice Ao12 t1066.length co12] 32 (0, 0)) (mK BK1078.out) k_ hn_)), Or.elim hk_ (fun hs_ => hs_.2.2.2.2) (fun hn_ => (Kd.freshB (g := gb1079) (o := .cells #[.slice Ao13 t1069.length co13, .slice Ao15 t1072.length co15, .slice Ao16 t1075.length co16] 44 (0, 0)) (mK BK1079.out) k_ hn_))⟩)) (below_size (mB HB.out))); have n5_ := z0 (blk_below (g := gb1078) (o := .cells #[.int .i64 t1062, .int .i64 t1063, .int .i64 t1064, .int .i64 t1065, .slice Ao12 t1066.length co12] 32 (0, 0)) (mK BK1078.out) hb); have n6_ := z0 (blk_below (g := gb1079) (o := .cells #[.slice Ao13 t1069.length co13, .slice Ao15 t1072.length co15, .slice Ao16 t1075.length co16] 44 (0, 0)) (mK BK1079.out) hb); have n7_ := z0 (below_step (mB HB.out) hb); clear HO_1079004; clear HO_1080000; clear HO_1080001; clear HO_1080002; clear BK1078; clear BK1079; clear HB; have HO_1079004 := n0_; have HO_1080000 := n1_; have HO_1080001 := n2_; have HO_1080002 := n3_; have HO1088 := n4_; have BK1078 := n5_; have BK1079 := n6_; have HB := n7_; clear n0_ n1_ n2_ n3_ n4_ n5_ n6_ n7_; (try clear hb); (try clear hb2); (try clear hk); (try clear hi); (try clear ho0); obtain ⟨Ao38, co38, eo38⟩ := Kd.N_slice HO1088.out; subst eo38) | ((with_reducible refine gate_callee (f := 38) rfl ?_); refine goesL_ (some 36) rfl rfl Try.func38 (by kernel_rfl) rfl #[.agg #[.int .i64 t1082, .int .i64 t1083, .int .i64 t1084, .int .i64 t1085, .slice Ao38 t1086.length co38]] rfl argx ?_; (with_reducible refine (laws_wqNot.calls t1082 t1083 t1084 t1085 (fun k_ => (nB k_ (.slice Ao13 t1069.length co13) ∧ (nB k_ (.slice Ao15 t1072.length co15) ∧ (nB k_ (.slice Ao16 t1075.length co16) ∧ (k_ ≠ gb1078 ∧ k_ ≠ gb1079))))) _ _ t1086 t1089 t1090 t1091 t1092 t1093 _ ?side1 A33.out).mono ?_); (case side1 => exact Kd.N_V (HO1088.out)); rintro e w39 ⟨v1094, rfl, ho0, hb⟩; refine ⟨_, rfl, ?_⟩; have n0_ := z0 (Kd.N_elder' (mN HO_1079004.out) (by first | exact Kd.N_base ho0 | exact Kd.R_base ho0) hb); have n1_ := z0 (Kd.R_below (mR HO_1080000.out) hb); have n2_ := z0 (Kd.R_below (mR HO_1080001.out) hb); have n3_ := z0 (Kd.R_below (mR HO_1080002.out) hb); have n4_ := z0 (Kd.N_elder' (mN HO1088.out) (by first | exact Kd.N_base ho0 | exact Kd.R_base ho0) hb); have n5_ := z0 (Kd.N_lower (Kd.N_mono (ok' := fun k_ => nB k_ (.slice Ao13 t1069.length co13) ∧ nB k_ (.slice Ao15 t1072.length co15) ∧ nB k_ (.slice Ao16 t1075.length co16) ∧ k_ ≠ gb1078 ∧ k_ ≠ gb1079) ho0 (fun k_ hk_ => ⟨Or.elim hk_ (fun hs_ => hs_.1) (fun hn_ => (Kd.fresh' (Kd.R_lt (mR HO_1080000.out)) k_ hn_)), Or.elim hk_ (fun hs_ => hs_.2.1) (fun hn_ => (Kd.fresh' (Kd.R_lt (mR HO_1080001.out)) k_ hn_)), Or.elim hk_ (fun hs_ => hs_.2.2.1) (fun hn_ => (Kd.fresh' (Kd.R_lt (mR HO_1080002.out)) k_ hn_)), Or.elim hk_ (fun hs_ => hs_.2.2.2.1) (fun hn_ => (Kd.freshB (g := gb1078) (o := .cells #[.int .i64 t1062, .int .i64 t1063, .int .i64 t1064, .int .i64 t1065, .slice Ao12 t1066.length co12] 32 (0, 0)) (mK BK1078.out) k_ hn_)), Or.elim hk_ (fun hs_ => hs_.2.2.2.2) (fun hn_ => (Kd.freshB (g := gb1079) (o := .cells #[.slice Ao13 t1069.length co13, .slice Ao15 t1072.length co15, .slice Ao16 t1075.length co16] 44 (0, 0)) (mK BK1079.out) k_ hn_))⟩)) (below_size (mB HB.out))); have n6_ := z0 (blk_below (g := gb1078) (o := .cells #[.int .i64 t1062, .int .i64 t1063, .int .i64 t1064, .int .i64 t1065, .slice Ao12 t1066.length co12] 32 (0, 0)) (mK BK1078.out) hb); have n7_ := z0 (blk_below (g := gb1079) (o := .cells #[.slice Ao13 t1069.length co13, .slice Ao15 t1072.length co15, .slice Ao16 t1075.length co16] 44 (0, 0)) (mK BK1079.out) hb); have n8_ := z0 (below_step (mB HB.out) hb); clear HO_1079004; clear HO_1080000; clear HO_1080001; clear HO_1080002; clear HO1088; clear BK1078; clear BK1079; clear HB; have HO_1079004 := n0_; have HO_1080000 := n1_; have HO_1080001 := n2_; have HO_1080002 := n3_; have HO1088 := n4_; have HO1095 := n5_; have BK1078 := n6_; have BK1079 := n7_; have HB := n8_; clear n0_ n1_ n2_ n3_ n4_ n5_ n6_ n7_ n8_; (try clear hb); (try clear hb2); (try clear hk); (try clear hi); (try clear ho0)) | ((with_reducible refine gate_dst (N := 6) rfl ?_); refine box_event ?hg (N := 6) ?hd (cs := #[.int .i64 0, .int .i64 0, .int .i64 0, .int .i64 0, .slice none 0 0]) (t := 32) ?hr ?_; (case hd => rfl); (case hg => rfl); (case hr => first | (go_simp; done) | (go_simp; rfl)); intro gb1096 hg w40 hbox hb; have n0_ := z0 (Kd.N_below (Kd.N_elderB (mN HO_1079004.out) gb1096 (Nat.le_of_eq hg.symm)) hb); have n1_ := z0 (Kd.R_below (mR HO_1080000.out) hb); have n2_ := z0 (Kd.R_below (mR HO_1080001.out) hb); have n3_ := z0 (Kd.R_below (mR HO_1080002.out) hb); have n4_ := z0 (Kd.N_below (Kd.N_elderB (mN HO1088.out) gb1096 (Nat.le_of_eq hg.symm)) hb); have n5_ := z0 (Kd.N_below (Kd.N_elderB (mN HO1095.out) gb1096 (Nat.le_of_eq hg.symm)) hb); have n6_ := z0 (blk_below (g := gb1078) (o := .cells #[.int .i64 t1062, .int .i64 t1063, .int .i64 t1064, .int .i64 t1065, .slice Ao12 t1066.length co12] 32 (0, 0)) (mK BK1078.out) hb); have n7_ := z0 (blk_below (g := gb1079) (o := .cells #[.slice Ao13 t1069.length co13, .slice Ao15 t1072.length co15, .slice Ao16 t1075.length co16] 44 (0, 0)) (mK BK1079.out) hb); have n8_ := z0 (below_step (mB HB.out) hb); have n9_ := z0 (hbox); have n10_ := z0 ((by rw [hg]; exact (below_size (mB HB.out)) : w.heap.size ≤ gb1096)); have n11_ := z0 ((by rw [hg]; exact (below_size (mB HB.out)) : w.heap.size ≤ gb1096)); have n12_ := z0 ((by rw [hg]; exact Nat.ne_of_lt (blk_lt (g := gb1078) (o := .cells #[.int .i64 t1062, .int .i64 t1063, .int .i64 t1064, .int .i64 t1065, .slice Ao12 t1066.length co12] 32 (0, 0)) (mK BK1078.out)) : gb1078 ≠ gb1096)); have n13_ := z0 ((by rw [hg]; exact Nat.ne_of_gt (blk_lt (g := gb1078) (o := .cells #[.int .i64 t1062, .int .i64 t1063, .int .i64 t1064, .int .i64 t1065, .slice Ao12 t1066.length co12] 32 (0, 0)) (mK BK1078.out)) : gb1096 ≠ gb1078)); have n14_ := z0 ((by rw [hg]; exact Nat.ne_of_lt (blk_lt (g := gb1079) (o := .cells #[.slice Ao13 t1069.length co13, .slice Ao15 t1072.length co15, .slice Ao16 t1075.length co16] 44 (0, 0)) (mK BK1079.out)) : gb1079 ≠ gb1096)); have n15_ := z0 ((by rw [hg]; exact Nat.ne_of_gt (blk_lt (g := gb1079) (o := .cells #[.slice Ao13 t1069.length co13, .slice Ao15 t1072.length co15, .slice Ao16 t1075.length co16] 44 (0, 0)) (mK BK1079.out)) : gb1096 ≠ gb1079)); clear HO_1079004; clear HO_1080000; clear HO_1080001; clear HO_1080002; clear HO1088; clear HO1095; clear BK1078; clear BK1079; clear HB; have HO_1079004 := n0_; have HO_1080000 := n1_; have HO_1080001 := n2_; have HO_1080002 := n3_; have HO1088 := n4_; have HO1095 := n5_; have BK1078 := n6_; have BK1079 := n7_; have HB := n8_; have BK1096 := n9_; have GW1096 := n10_; have GE1096 := n11_; have NB1078_1096 := n12_; have NB1096_1078 := n13_; have NB1079_1096 := n14_; have NB1096_1079 := n15_; clear n0_ n1_ n2_ n3_ n4_ n5_ n6_ n7_ n8_ n9_ n10_ n11_ n12_ n13_ n14_ n15_; clear hb hbox hg; have hnb41 := NB1096_1078.out; have hnc41 := NB1078_1096.out; have hnb42 := NB1096_1079.out; have hnc42 := NB1079_1096.out; obtain ⟨hcz43_0, hcz43_1, hcz43_2, hcz43_3, hcz43_4, hfz43_0, hfz43_1, hfz43_2, hfz43_3, hfz43_4⟩ := cel5 BK1096.out; obtain ⟨Ao44, co44, eo44⟩ := Kd.N_slice HO1095.out; subst eo44))
      (try simp only [Act.put, List.setIfInBounds_toArray, List.set_cons_zero, List.set_cons_succ])
      go_cut [44] (fun v44 wc => ∃ (kq : Nat) (x44_33 : Bool), v44 = .bool x44_33 ∧ Aside0 (laws_FnExprOn.j1 kq t1080 x44_33 t1062 t1063 t1064 t1065 t1066 t1069 t1072 t1075 t1089 t1090 t1091 t1092 t1093 = some r) ∧ Aside0 (kq ≤ kj21) ∧ Aside0 (Kd.N k32 32 wc w.heap.size (fun k_ => some k_ ≠ ((.slice Ao13 t1069.length co13) : Value).ownBlock ∧ some k_ ≠ ((.slice Ao15 t1072.length co15) : Value).ownBlock ∧ some k_ ≠ ((.slice Ao16 t1075.length co16) : Value).ownBlock ∧ some k_ ≠ ((.slice Ao44 t1093.length co44) : Value).ownBlock ∧ k_ ≠ gb1078 ∧ k_ ≠ gb1079 ∧ k_ ≠ gb1096) (.slice Ao12 t1066.length co12) t1066) ∧ Aside0 (Kd.R (Kd.int .i64) 3 wc w.heap.size (fun k_ => some k_ ≠ ((.slice Ao15 t1072.length co15) : Value).ownBlock ∧ some k_ ≠ ((.slice Ao16 t1075.length co16) : Value).ownBlock) (.slice Ao13 t1069.length co13) t1069) ∧ Aside0 (Kd.R (Kd.int .i64) 3 wc w.heap.size (fun k_ => some k_ ≠ ((.slice Ao13 t1069.length co13) : Value).ownBlock ∧ some k_ ≠ ((.slice Ao16 t1075.length co16) : Value).ownBlock) (.slice Ao15 t1072.length co15) t1072) ∧ Aside0 (Kd.R (Kd.int .i64) 3 wc w.heap.size (fun k_ => some k_ ≠ ((.slice Ao13 t1069.length co13) : Value).ownBlock ∧ some k_ ≠ ((.slice Ao15 t1072.length co15) : Value).ownBlock) (.slice Ao16 t1075.length co16) t1075) ∧ Aside0 (Kd.N k32 32 wc w.heap.size (fun k_ => some k_ ≠ ((.slice Ao13 t1069.length co13) : Value).ownBlock ∧ some k_ ≠ ((.slice Ao15 t1072.length co15) : Value).ownBlock ∧ some k_ ≠ ((.slice Ao16 t1075.length co16) : Value).ownBlock ∧ k_ ≠ gb1078 ∧ k_ ≠ gb1079 ∧ k_ ≠ gb1096) (.slice Ao44 t1093.length co44) t1093) ∧ Aside0 (wc.heap[gb1078]? = some (.cells #[.int .i64 t1062, .int .i64 t1063, .int .i64 t1064, .int .i64 t1065, (.slice Ao12 t1066.length co12)] 32 (0, 0))) ∧ Aside0 (wc.heap[gb1079]? = some (.cells #[(.slice Ao13 t1069.length co13), (.slice Ao15 t1072.length co15), (.slice Ao16 t1075.length co16)] 44 (0, 0))) ∧ Aside0 (wc.heap[gb1096]? = some (.cells #[.int .i64 t1089, .int .i64 t1090, .int .i64 t1091, .int .i64 t1092, (.slice Ao44 t1093.length co44)] 32 (0, 0))) ∧ Aside0 (Below w.heap.size w wc))
      case first =>
       have H := HC34.out
       clear HC34
       replace H := Option.bind_eq_some_iff.mp H
       obtain ⟨t1097, A450, H⟩ := H
       replace H : (if t1097 = true then ((spec_MemOk.f kj21 t1069 t1072 t1075).bind fun t1098 => (laws_FnExprOn.j1 kj21 t1080 (!t1098) t1062 t1063 t1064 t1065 t1066 t1069 t1072 t1075 t1089 t1090 t1091 t1092 t1093)) else (laws_FnExprOn.j1 kj21 t1080 true t1062 t1063 t1064 t1065 t1066 t1069 t1072 t1075 t1089 t1090 t1091 t1092 t1093)) = some r := H
       have A45 := z0 A450
       clear A450
       by_cases c46 : t1097 = true
       ·subst c46
        have H1 : ((spec_MemOk.f kj21 t1069 t1072 t1075).bind fun t1098 => (laws_FnExprOn.j1 kj21 t1080 (!t1098) t1062 t1063 t1064 t1065 t1066 t1069 t1072 t1075 t1089 t1090 t1091 t1092 t1093)) = some r := by rw [if_pos rfl] at H; exact H
        clear H
        have H := H1
        clear H1
        replace H := Option.bind_eq_some_iff.mp H
        obtain ⟨t1098, A470, H⟩ := H
        replace H : (laws_FnExprOn.j1 kj21 t1080 (!t1098) t1062 t1063 t1064 t1065 t1066 t1069 t1072 t1075 t1089 t1090 t1091 t1092 t1093) = some r := H
        have A47 := z0 A470
        clear A470
        have H' := z0 H
        clear H
        have hnb48 := NB1096_1078.out
        have hnc48 := NB1078_1096.out
        have hnb49 := NB1096_1079.out
        have hnc49 := NB1079_1096.out
        obtain ⟨hcz50_0, hcz50_1, hcz50_2, hcz50_3, hcz50_4, hfz50_0, hfz50_1, hfz50_2, hfz50_3, hfz50_4⟩ := cel5 BK1096.out
        go_wp2_with (first | ((with_reducible refine gate_callee (f := 16) rfl ?_); refine goesL_ (some 38) rfl rfl Try.func16 (by kernel_rfl) rfl #[.agg #[.int .i64 t1089, .int .i64 t1090, .int .i64 t1091, .int .i64 t1092, .slice Ao44 t1093.length co44]] rfl argx ?_; (with_reducible refine (spec_ExprOk.calls kj21 t1089 t1090 t1091 t1092 _ _ t1093 true _ ?side1 ?side2 A45.out).mono ?_); (case side1 => refine (Kd.N_reads' (e := 32) (base := w.heap.size) (ok := fun k_ => ((nB k_ (.slice Ao13 t1069.length co13) ∧ (nB k_ (.slice Ao15 t1072.length co15) ∧ (nB k_ (.slice Ao16 t1075.length co16) ∧ (k_ ≠ gb1078 ∧ k_ ≠ gb1079)))) ∧ k_ ≠ gb1096)) (n := t1093.length) (c := co44) ?_).2.2; exact (by (with_reducible repeat (first | apply Kd.N_alloc | apply Kd.N_drewN | apply Kd.N_drew)); exact (Kd.N_mono (Kd.N_far (p := ⟨gb1096, 4, none⟩) (Kd.N_far (p := ⟨gb1096, 3, none⟩) (Kd.N_far (p := ⟨gb1096, 2, none⟩) (Kd.N_far (p := ⟨gb1096, 1, none⟩) (Kd.N_far (p := ⟨gb1096, 0, none⟩) (Kd.N_mono HO1095.out (fun k_ hk => (⟨hk, hk.2⟩ : _ ∧ k_ ≠ gb1096))) (fun _ hk => hk.2) (.int .i64 t1089)) (fun _ hk => hk.2) (.int .i64 t1090)) (fun _ hk => hk.2) (.int .i64 t1091)) (fun _ hk => hk.2) (.int .i64 t1092)) (fun _ hk => hk.2) (.slice Ao44 t1093.length co44)) (fun _ h_ => h_.1)))); (case side2 => exact (Kd.N_reads' HO1095.out).2.1); rintro e w51 ⟨rfl, hb⟩; refine ⟨_, rfl, ?_⟩; have n0_ := z0 (Kd.N_below (by (with_reducible repeat (first | apply Kd.N_alloc | apply Kd.N_drewN | apply Kd.N_drew)); exact (Kd.N_mono (Kd.N_far (p := ⟨gb1096, 4, none⟩) (Kd.N_far (p := ⟨gb1096, 3, none⟩) (Kd.N_far (p := ⟨gb1096, 2, none⟩) (Kd.N_far (p := ⟨gb1096, 1, none⟩) (Kd.N_far (p := ⟨gb1096, 0, none⟩) (Kd.N_mono HO_1079004.out (fun k_ hk => (⟨hk, hk.2⟩ : _ ∧ k_ ≠ gb1096))) (fun _ hk => hk.2) (.int .i64 t1089)) (fun _ hk => hk.2) (.int .i64 t1090)) (fun _ hk => hk.2) (.int .i64 t1091)) (fun _ hk => hk.2) (.int .i64 t1092)) (fun _ hk => hk.2) (.slice Ao44 t1093.length co44)) (fun _ h_ => h_.1))) hb); have n1_ := z0 (Kd.R_below (by (with_reducible repeat (first | apply Kd.R_alloc | apply Kd.R_drewN | apply Kd.R_drew)); exact (Kd.R_mono (Kd.R_far (p := ⟨gb1096, 4, none⟩) (Kd.R_far (p := ⟨gb1096, 3, none⟩) (Kd.R_far (p := ⟨gb1096, 2, none⟩) (Kd.R_far (p := ⟨gb1096, 1, none⟩) (Kd.R_far (p := ⟨gb1096, 0, none⟩) (Kd.R_types HO_1080000.out BK1096.out (by decide)) (fun _ hk => hk.2) (.int .i64 t1089)) (fun _ hk => hk.2) (.int .i64 t1090)) (fun _ hk => hk.2) (.int .i64 t1091)) (fun _ hk => hk.2) (.int .i64 t1092)) (fun _ hk => hk.2) (.slice Ao44 t1093.length co44)) (fun _ h_ => h_.1))) hb); have n2_ := z0 (Kd.R_below (by (with_reducible repeat (first | apply Kd.R_alloc | apply Kd.R_drewN | apply Kd.R_drew)); exact (Kd.R_mono (Kd.R_far (p := ⟨gb1096, 4, none⟩) (Kd.R_far (p := ⟨gb1096, 3, none⟩) (Kd.R_far (p := ⟨gb1096, 2, none⟩) (Kd.R_far (p := ⟨gb1096, 1, none⟩) (Kd.R_far (p := ⟨gb1096, 0, none⟩) (Kd.R_types HO_1080001.out BK1096.out (by decide)) (fun _ hk => hk.2) (.int .i64 t1089)) (fun _ hk => hk.2) (.int .i64 t1090)) (fun _ hk => hk.2) (.int .i64 t1091)) (fun _ hk => hk.2) (.int .i64 t1092)) (fun _ hk => hk.2) (.slice Ao44 t1093.length co44)) (fun _ h_ => h_.1))) hb); have n3_ := z0 (Kd.R_below (by (with_reducible repeat (first | apply Kd.R_alloc | apply Kd.R_drewN | apply Kd.R_drew)); exact (Kd.R_mono (Kd.R_far (p := ⟨gb1096, 4, none⟩) (Kd.R_far (p := ⟨gb1096, 3, none⟩) (Kd.R_far (p := ⟨gb1096, 2, none⟩) (Kd.R_far (p := ⟨gb1096, 1, none⟩) (Kd.R_far (p := ⟨gb1096, 0, none⟩) (Kd.R_types HO_1080002.out BK1096.out (by decide)) (fun _ hk => hk.2) (.int .i64 t1089)) (fun _ hk => hk.2) (.int .i64 t1090)) (fun _ hk => hk.2) (.int .i64 t1091)) (fun _ hk => hk.2) (.int .i64 t1092)) (fun _ hk => hk.2) (.slice Ao44 t1093.length co44)) (fun _ h_ => h_.1))) hb); have n4_ := z0 (Kd.N_below (by (with_reducible repeat (first | apply Kd.N_alloc | apply Kd.N_drewN | apply Kd.N_drew)); exact (Kd.N_mono (Kd.N_far (p := ⟨gb1096, 4, none⟩) (Kd.N_far (p := ⟨gb1096, 3, none⟩) (Kd.N_far (p := ⟨gb1096, 2, none⟩) (Kd.N_far (p := ⟨gb1096, 1, none⟩) (Kd.N_far (p := ⟨gb1096, 0, none⟩) (Kd.N_mono HO1088.out (fun k_ hk => (⟨hk, hk.2⟩ : _ ∧ k_ ≠ gb1096))) (fun _ hk => hk.2) (.int .i64 t1089)) (fun _ hk => hk.2) (.int .i64 t1090)) (fun _ hk => hk.2) (.int .i64 t1091)) (fun _ hk => hk.2) (.int .i64 t1092)) (fun _ hk => hk.2) (.slice Ao44 t1093.length co44)) (fun _ h_ => h_.1))) hb); have n5_ := z0 (Kd.N_below (by (with_reducible repeat (first | apply Kd.N_alloc | apply Kd.N_drewN | apply Kd.N_drew)); exact (Kd.N_mono (Kd.N_far (p := ⟨gb1096, 4, none⟩) (Kd.N_far (p := ⟨gb1096, 3, none⟩) (Kd.N_far (p := ⟨gb1096, 2, none⟩) (Kd.N_far (p := ⟨gb1096, 1, none⟩) (Kd.N_far (p := ⟨gb1096, 0, none⟩) (Kd.N_mono HO1095.out (fun k_ hk => (⟨hk, hk.2⟩ : _ ∧ k_ ≠ gb1096))) (fun _ hk => hk.2) (.int .i64 t1089)) (fun _ hk => hk.2) (.int .i64 t1090)) (fun _ hk => hk.2) (.int .i64 t1091)) (fun _ hk => hk.2) (.int .i64 t1092)) (fun _ hk => hk.2) (.slice Ao44 t1093.length co44)) (fun _ h_ => h_.1))) hb); have n6_ := z0 (blk_below (g := gb1078) (o := .cells #[.int .i64 t1062, .int .i64 t1063, .int .i64 t1064, .int .i64 t1065, .slice Ao12 t1066.length co12] 32 (0, 0)) (by (with_reducible repeat (first | refine blk_drewN ?_ _ | refine blk_drew ?_ | refine blk_alloc ?_ _)); refine blk_far ?_ NB1078_1096.out _; (with_reducible repeat (first | refine blk_drewN ?_ _ | refine blk_drew ?_ | refine blk_alloc ?_ _)); refine blk_far ?_ NB1078_1096.out _; (with_reducible repeat (first | refine blk_drewN ?_ _ | refine blk_drew ?_ | refine blk_alloc ?_ _)); refine blk_far ?_ NB1078_1096.out _; (with_reducible repeat (first | refine blk_drewN ?_ _ | refine blk_drew ?_ | refine blk_alloc ?_ _)); refine blk_far ?_ NB1078_1096.out _; (with_reducible repeat (first | refine blk_drewN ?_ _ | refine blk_drew ?_ | refine blk_alloc ?_ _)); refine blk_far ?_ NB1078_1096.out _; (with_reducible repeat (first | refine blk_drewN ?_ _ | refine blk_drew ?_ | refine blk_alloc ?_ _)); exact BK1078.out) hb); have n7_ := z0 (blk_below (g := gb1079) (o := .cells #[.slice Ao13 t1069.length co13, .slice Ao15 t1072.length co15, .slice Ao16 t1075.length co16] 44 (0, 0)) (by (with_reducible repeat (first | refine blk_drewN ?_ _ | refine blk_drew ?_ | refine blk_alloc ?_ _)); refine blk_far ?_ NB1079_1096.out _; (with_reducible repeat (first | refine blk_drewN ?_ _ | refine blk_drew ?_ | refine blk_alloc ?_ _)); refine blk_far ?_ NB1079_1096.out _; (with_reducible repeat (first | refine blk_drewN ?_ _ | refine blk_drew ?_ | refine blk_alloc ?_ _)); refine blk_far ?_ NB1079_1096.out _; (with_reducible repeat (first | refine blk_drewN ?_ _ | refine blk_drew ?_ | refine blk_alloc ?_ _)); refine blk_far ?_ NB1079_1096.out _; (with_reducible repeat (first | refine blk_drewN ?_ _ | refine blk_drew ?_ | refine blk_alloc ?_ _)); refine blk_far ?_ NB1079_1096.out _; (with_reducible repeat (first | refine blk_drewN ?_ _ | refine blk_drew ?_ | refine blk_alloc ?_ _)); exact BK1079.out) hb); have n8_ := z0 (blk_below (g := gb1096) (o := .cells #[.int .i64 t1089, .int .i64 t1090, .int .i64 t1091, .int .i64 t1092, .slice Ao44 t1093.length co44] 32 (0, 0)) (by (with_reducible repeat (first | refine blk_drewN ?_ _ | refine blk_drew ?_ | refine blk_alloc ?_ _)); refine blk_put (cs := #[.int .i64 t1089, .int .i64 t1090, .int .i64 t1091, .int .i64 t1092, .slice none 0 0]) ?_ 4 _ rfl; (with_reducible repeat (first | refine blk_drewN ?_ _ | refine blk_drew ?_ | refine blk_alloc ?_ _)); refine blk_put (cs := #[.int .i64 t1089, .int .i64 t1090, .int .i64 t1091, .int .i64 0, .slice none 0 0]) ?_ 3 _ rfl; (with_reducible repeat (first | refine blk_drewN ?_ _ | refine blk_drew ?_ | refine blk_alloc ?_ _)); refine blk_put (cs := #[.int .i64 t1089, .int .i64 t1090, .int .i64 0, .int .i64 0, .slice none 0 0]) ?_ 2 _ rfl; (with_reducible repeat (first | refine blk_drewN ?_ _ | refine blk_drew ?_ | refine blk_alloc ?_ _)); refine blk_put (cs := #[.int .i64 t1089, .int .i64 0, .int .i64 0, .int .i64 0, .slice none 0 0]) ?_ 1 _ rfl; (with_reducible repeat (first | refine blk_drewN ?_ _ | refine blk_drew ?_ | refine blk_alloc ?_ _)); refine blk_put (cs := #[.int .i64 0, .int .i64 0, .int .i64 0, .int .i64 0, .slice none 0 0]) ?_ 0 _ rfl; (with_reducible repeat (first | refine blk_drewN ?_ _ | refine blk_drew ?_ | refine blk_alloc ?_ _)); exact BK1096.out) hb); have n9_ := z0 (below_step (mB HB.out) hb); clear HO_1079004; clear HO_1080000; clear HO_1080001; clear HO_1080002; clear HO1088; clear HO1095; clear BK1078; clear BK1079; clear BK1096; clear HB; have HO_1079004 := n0_; have HO_1080000 := n1_; have HO_1080001 := n2_; have HO_1080002 := n3_; have HO1088 := n4_; have HO1095 := n5_; have BK1078 := n6_; have BK1079 := n7_; have BK1096 := n8_; have HB := n9_; clear n0_ n1_ n2_ n3_ n4_ n5_ n6_ n7_ n8_ n9_; (try clear hb); (try clear hb2); (try clear hk); (try clear hi); have hnb52 := NB1079_1078.out; have hnc52 := NB1078_1079.out; obtain ⟨hcz53_0, hcz53_1, hcz53_2, hfz53_0, hfz53_1, hfz53_2⟩ := cel3 BK1079.out) | (go_at_call 39; (with_reducible refine (spec_MemOk.calls kj21 _ _ t1069 _ _ t1072 _ _ t1075 t1098 _ ?side1 ?side2 ?side3 ?side4 ?side5 ?side6 A47.out).mono ?_); (case side1 => exact mC (Kd.R_reads' HO_1080000.out).2.2); (case side2 => exact (Kd.R_reads' HO_1080000.out).2.1); (case side3 => exact mC (Kd.R_reads' HO_1080001.out).2.2); (case side4 => exact (Kd.R_reads' HO_1080001.out).2.1); (case side5 => exact mC (Kd.R_reads' HO_1080002.out).2.2); (case side6 => exact (Kd.R_reads' HO_1080002.out).2.1); rintro e w54 ⟨rfl, hb⟩; have n0_ := z0 (Kd.N_below (mN HO_1079004.out) hb); have n1_ := z0 (Kd.R_below (mR HO_1080000.out) hb); have n2_ := z0 (Kd.R_below (mR HO_1080001.out) hb); have n3_ := z0 (Kd.R_below (mR HO_1080002.out) hb); have n4_ := z0 (Kd.N_below (mN HO1088.out) hb); have n5_ := z0 (Kd.N_below (mN HO1095.out) hb); have n6_ := z0 (blk_below (g := gb1078) (o := .cells #[.int .i64 t1062, .int .i64 t1063, .int .i64 t1064, .int .i64 t1065, .slice Ao12 t1066.length co12] 32 (0, 0)) (mK BK1078.out) hb); have n7_ := z0 (blk_below (g := gb1079) (o := .cells #[.slice Ao13 t1069.length co13, .slice Ao15 t1072.length co15, .slice Ao16 t1075.length co16] 44 (0, 0)) (mK BK1079.out) hb); have n8_ := z0 (blk_below (g := gb1096) (o := .cells #[.int .i64 t1089, .int .i64 t1090, .int .i64 t1091, .int .i64 t1092, .slice Ao44 t1093.length co44] 32 (0, 0)) (mK BK1096.out) hb); have n9_ := z0 (below_step (mB HB.out) hb); clear HO_1079004; clear HO_1080000; clear HO_1080001; clear HO_1080002; clear HO1088; clear HO1095; clear BK1078; clear BK1079; clear BK1096; clear HB; have HO_1079004 := n0_; have HO_1080000 := n1_; have HO_1080001 := n2_; have HO_1080002 := n3_; have HO1088 := n4_; have HO1095 := n5_; have BK1078 := n6_; have BK1079 := n7_; have BK1096 := n8_; have HB := n9_; clear n0_ n1_ n2_ n3_ n4_ n5_ n6_ n7_ n8_ n9_; (try clear hb); (try clear hb2); (try clear hk); (try clear hi)))
        go_meet
        case rel => exact ⟨_, (!t1098), rfy, H', ⟨by have := HJ21.out; first | omega | exact Nat.le_refl _⟩, ⟨by (with_reducible repeat (first | apply Kd.N_alloc | apply Kd.N_drewN | apply Kd.N_drew)); exact Kd.N_mono HO_1079004.out (fun _ hk => ⟨hk.1.1.1.1, ⟨hk.1.1.1.2.1, ⟨hk.1.1.1.2.2.1, ⟨hk.1.2, ⟨hk.1.1.1.2.2.2.1, ⟨hk.1.1.1.2.2.2.2, hk.2⟩⟩⟩⟩⟩⟩)⟩, ⟨mR HO_1080000.out⟩, ⟨mR HO_1080001.out⟩, ⟨mR HO_1080002.out⟩, ⟨by (with_reducible repeat (first | apply Kd.N_alloc | apply Kd.N_drewN | apply Kd.N_drew)); exact Kd.N_mono HO1095.out (fun _ hk => ⟨hk.1.1, ⟨hk.1.2.1, ⟨hk.1.2.2.1, ⟨hk.1.2.2.2.1, ⟨hk.1.2.2.2.2, hk.2⟩⟩⟩⟩⟩)⟩, ⟨mK BK1078.out⟩, ⟨mK BK1079.out⟩, ⟨mK BK1096.out⟩, ⟨mB HB.out⟩⟩
       ·replace c46 := Bool.eq_false_iff.mpr c46
        subst c46
        have H1 : (laws_FnExprOn.j1 kj21 t1080 true t1062 t1063 t1064 t1065 t1066 t1069 t1072 t1075 t1089 t1090 t1091 t1092 t1093) = some r := by rw [if_neg (show ¬ (false = true) by decide)] at H; exact H
        clear H
        have H := H1
        clear H1
        have H' := z0 H
        clear H
        have hnb55 := NB1096_1078.out
        have hnc55 := NB1078_1096.out
        have hnb56 := NB1096_1079.out
        have hnc56 := NB1079_1096.out
        obtain ⟨hcz57_0, hcz57_1, hcz57_2, hcz57_3, hcz57_4, hfz57_0, hfz57_1, hfz57_2, hfz57_3, hfz57_4⟩ := cel5 BK1096.out
        go_wp2_with (first | ((with_reducible refine gate_callee (f := 16) rfl ?_); refine goesL_ (some 38) rfl rfl Try.func16 (by kernel_rfl) rfl #[.agg #[.int .i64 t1089, .int .i64 t1090, .int .i64 t1091, .int .i64 t1092, .slice Ao44 t1093.length co44]] rfl argx ?_; (with_reducible refine (spec_ExprOk.calls kj21 t1089 t1090 t1091 t1092 _ _ t1093 false _ ?side1 ?side2 A45.out).mono ?_); (case side1 => refine (Kd.N_reads' (e := 32) (base := w.heap.size) (ok := fun k_ => ((nB k_ (.slice Ao13 t1069.length co13) ∧ (nB k_ (.slice Ao15 t1072.length co15) ∧ (nB k_ (.slice Ao16 t1075.length co16) ∧ (k_ ≠ gb1078 ∧ k_ ≠ gb1079)))) ∧ k_ ≠ gb1096)) (n := t1093.length) (c := co44) ?_).2.2; exact (by (with_reducible repeat (first | apply Kd.N_alloc | apply Kd.N_drewN | apply Kd.N_drew)); exact (Kd.N_mono (Kd.N_far (p := ⟨gb1096, 4, none⟩) (Kd.N_far (p := ⟨gb1096, 3, none⟩) (Kd.N_far (p := ⟨gb1096, 2, none⟩) (Kd.N_far (p := ⟨gb1096, 1, none⟩) (Kd.N_far (p := ⟨gb1096, 0, none⟩) (Kd.N_mono HO1095.out (fun k_ hk => (⟨hk, hk.2⟩ : _ ∧ k_ ≠ gb1096))) (fun _ hk => hk.2) (.int .i64 t1089)) (fun _ hk => hk.2) (.int .i64 t1090)) (fun _ hk => hk.2) (.int .i64 t1091)) (fun _ hk => hk.2) (.int .i64 t1092)) (fun _ hk => hk.2) (.slice Ao44 t1093.length co44)) (fun _ h_ => h_.1)))); (case side2 => exact (Kd.N_reads' HO1095.out).2.1); rintro e w58 ⟨rfl, hb⟩; refine ⟨_, rfl, ?_⟩; have n0_ := z0 (Kd.N_below (by (with_reducible repeat (first | apply Kd.N_alloc | apply Kd.N_drewN | apply Kd.N_drew)); exact (Kd.N_mono (Kd.N_far (p := ⟨gb1096, 4, none⟩) (Kd.N_far (p := ⟨gb1096, 3, none⟩) (Kd.N_far (p := ⟨gb1096, 2, none⟩) (Kd.N_far (p := ⟨gb1096, 1, none⟩) (Kd.N_far (p := ⟨gb1096, 0, none⟩) (Kd.N_mono HO_1079004.out (fun k_ hk => (⟨hk, hk.2⟩ : _ ∧ k_ ≠ gb1096))) (fun _ hk => hk.2) (.int .i64 t1089)) (fun _ hk => hk.2) (.int .i64 t1090)) (fun _ hk => hk.2) (.int .i64 t1091)) (fun _ hk => hk.2) (.int .i64 t1092)) (fun _ hk => hk.2) (.slice Ao44 t1093.length co44)) (fun _ h_ => h_.1))) hb); have n1_ := z0 (Kd.R_below (by (with_reducible repeat (first | apply Kd.R_alloc | apply Kd.R_drewN | apply Kd.R_drew)); exact (Kd.R_mono (Kd.R_far (p := ⟨gb1096, 4, none⟩) (Kd.R_far (p := ⟨gb1096, 3, none⟩) (Kd.R_far (p := ⟨gb1096, 2, none⟩) (Kd.R_far (p := ⟨gb1096, 1, none⟩) (Kd.R_far (p := ⟨gb1096, 0, none⟩) (Kd.R_types HO_1080000.out BK1096.out (by decide)) (fun _ hk => hk.2) (.int .i64 t1089)) (fun _ hk => hk.2) (.int .i64 t1090)) (fun _ hk => hk.2) (.int .i64 t1091)) (fun _ hk => hk.2) (.int .i64 t1092)) (fun _ hk => hk.2) (.slice Ao44 t1093.length co44)) (fun _ h_ => h_.1))) hb); have n2_ := z0 (Kd.R_below (by (with_reducible repeat (first | apply Kd.R_alloc | apply Kd.R_drewN | apply Kd.R_drew)); exact (Kd.R_mono (Kd.R_far (p := ⟨gb1096, 4, none⟩) (Kd.R_far (p := ⟨gb1096, 3, none⟩) (Kd.R_far (p := ⟨gb1096, 2, none⟩) (Kd.R_far (p := ⟨gb1096, 1, none⟩) (Kd.R_far (p := ⟨gb1096, 0, none⟩) (Kd.R_types HO_1080001.out BK1096.out (by decide)) (fun _ hk => hk.2) (.int .i64 t1089)) (fun _ hk => hk.2) (.int .i64 t1090)) (fun _ hk => hk.2) (.int .i64 t1091)) (fun _ hk => hk.2) (.int .i64 t1092)) (fun _ hk => hk.2) (.slice Ao44 t1093.length co44)) (fun _ h_ => h_.1))) hb); have n3_ := z0 (Kd.R_below (by (with_reducible repeat (first | apply Kd.R_alloc | apply Kd.R_drewN | apply Kd.R_drew)); exact (Kd.R_mono (Kd.R_far (p := ⟨gb1096, 4, none⟩) (Kd.R_far (p := ⟨gb1096, 3, none⟩) (Kd.R_far (p := ⟨gb1096, 2, none⟩) (Kd.R_far (p := ⟨gb1096, 1, none⟩) (Kd.R_far (p := ⟨gb1096, 0, none⟩) (Kd.R_types HO_1080002.out BK1096.out (by decide)) (fun _ hk => hk.2) (.int .i64 t1089)) (fun _ hk => hk.2) (.int .i64 t1090)) (fun _ hk => hk.2) (.int .i64 t1091)) (fun _ hk => hk.2) (.int .i64 t1092)) (fun _ hk => hk.2) (.slice Ao44 t1093.length co44)) (fun _ h_ => h_.1))) hb); have n4_ := z0 (Kd.N_below (by (with_reducible repeat (first | apply Kd.N_alloc | apply Kd.N_drewN | apply Kd.N_drew)); exact (Kd.N_mono (Kd.N_far (p := ⟨gb1096, 4, none⟩) (Kd.N_far (p := ⟨gb1096, 3, none⟩) (Kd.N_far (p := ⟨gb1096, 2, none⟩) (Kd.N_far (p := ⟨gb1096, 1, none⟩) (Kd.N_far (p := ⟨gb1096, 0, none⟩) (Kd.N_mono HO1088.out (fun k_ hk => (⟨hk, hk.2⟩ : _ ∧ k_ ≠ gb1096))) (fun _ hk => hk.2) (.int .i64 t1089)) (fun _ hk => hk.2) (.int .i64 t1090)) (fun _ hk => hk.2) (.int .i64 t1091)) (fun _ hk => hk.2) (.int .i64 t1092)) (fun _ hk => hk.2) (.slice Ao44 t1093.length co44)) (fun _ h_ => h_.1))) hb); have n5_ := z0 (Kd.N_below (by (with_reducible repeat (first | apply Kd.N_alloc | apply Kd.N_drewN | apply Kd.N_drew)); exact (Kd.N_mono (Kd.N_far (p := ⟨gb1096, 4, none⟩) (Kd.N_far (p := ⟨gb1096, 3, none⟩) (Kd.N_far (p := ⟨gb1096, 2, none⟩) (Kd.N_far (p := ⟨gb1096, 1, none⟩) (Kd.N_far (p := ⟨gb1096, 0, none⟩) (Kd.N_mono HO1095.out (fun k_ hk => (⟨hk, hk.2⟩ : _ ∧ k_ ≠ gb1096))) (fun _ hk => hk.2) (.int .i64 t1089)) (fun _ hk => hk.2) (.int .i64 t1090)) (fun _ hk => hk.2) (.int .i64 t1091)) (fun _ hk => hk.2) (.int .i64 t1092)) (fun _ hk => hk.2) (.slice Ao44 t1093.length co44)) (fun _ h_ => h_.1))) hb); have n6_ := z0 (blk_below (g := gb1078) (o := .cells #[.int .i64 t1062, .int .i64 t1063, .int .i64 t1064, .int .i64 t1065, .slice Ao12 t1066.length co12] 32 (0, 0)) (by (with_reducible repeat (first | refine blk_drewN ?_ _ | refine blk_drew ?_ | refine blk_alloc ?_ _)); refine blk_far ?_ NB1078_1096.out _; (with_reducible repeat (first | refine blk_drewN ?_ _ | refine blk_drew ?_ | refine blk_alloc ?_ _)); refine blk_far ?_ NB1078_1096.out _; (with_reducible repeat (first | refine blk_drewN ?_ _ | refine blk_drew ?_ | refine blk_alloc ?_ _)); refine blk_far ?_ NB1078_1096.out _; (with_reducible repeat (first | refine blk_drewN ?_ _ | refine blk_drew ?_ | refine blk_alloc ?_ _)); refine blk_far ?_ NB1078_1096.out _; (with_reducible repeat (first | refine blk_drewN ?_ _ | refine blk_drew ?_ | refine blk_alloc ?_ _)); refine blk_far ?_ NB1078_1096.out _; (with_reducible repeat (first | refine blk_drewN ?_ _ | refine blk_drew ?_ | refine blk_alloc ?_ _)); exact BK1078.out) hb); have n7_ := z0 (blk_below (g := gb1079) (o := .cells #[.slice Ao13 t1069.length co13, .slice Ao15 t1072.length co15, .slice Ao16 t1075.length co16] 44 (0, 0)) (by (with_reducible repeat (first | refine blk_drewN ?_ _ | refine blk_drew ?_ | refine blk_alloc ?_ _)); refine blk_far ?_ NB1079_1096.out _; (with_reducible repeat (first | refine blk_drewN ?_ _ | refine blk_drew ?_ | refine blk_alloc ?_ _)); refine blk_far ?_ NB1079_1096.out _; (with_reducible repeat (first | refine blk_drewN ?_ _ | refine blk_drew ?_ | refine blk_alloc ?_ _)); refine blk_far ?_ NB1079_1096.out _; (with_reducible repeat (first | refine blk_drewN ?_ _ | refine blk_drew ?_ | refine blk_alloc ?_ _)); refine blk_far ?_ NB1079_1096.out _; (with_reducible repeat (first | refine blk_drewN ?_ _ | refine blk_drew ?_ | refine blk_alloc ?_ _)); refine blk_far ?_ NB1079_1096.out _; (with_reducible repeat (first | refine blk_drewN ?_ _ | refine blk_drew ?_ | refine blk_alloc ?_ _)); exact BK1079.out) hb); have n8_ := z0 (blk_below (g := gb1096) (o := .cells #[.int .i64 t1089, .int .i64 t1090, .int .i64 t1091, .int .i64 t1092, .slice Ao44 t1093.length co44] 32 (0, 0)) (by (with_reducible repeat (first | refine blk_drewN ?_ _ | refine blk_drew ?_ | refine blk_alloc ?_ _)); refine blk_put (cs := #[.int .i64 t1089, .int .i64 t1090, .int .i64 t1091, .int .i64 t1092, .slice none 0 0]) ?_ 4 _ rfl; (with_reducible repeat (first | refine blk_drewN ?_ _ | refine blk_drew ?_ | refine blk_alloc ?_ _)); refine blk_put (cs := #[.int .i64 t1089, .int .i64 t1090, .int .i64 t1091, .int .i64 0, .slice none 0 0]) ?_ 3 _ rfl; (with_reducible repeat (first | refine blk_drewN ?_ _ | refine blk_drew ?_ | refine blk_alloc ?_ _)); refine blk_put (cs := #[.int .i64 t1089, .int .i64 t1090, .int .i64 0, .int .i64 0, .slice none 0 0]) ?_ 2 _ rfl; (with_reducible repeat (first | refine blk_drewN ?_ _ | refine blk_drew ?_ | refine blk_alloc ?_ _)); refine blk_put (cs := #[.int .i64 t1089, .int .i64 0, .int .i64 0, .int .i64 0, .slice none 0 0]) ?_ 1 _ rfl; (with_reducible repeat (first | refine blk_drewN ?_ _ | refine blk_drew ?_ | refine blk_alloc ?_ _)); refine blk_put (cs := #[.int .i64 0, .int .i64 0, .int .i64 0, .int .i64 0, .slice none 0 0]) ?_ 0 _ rfl; (with_reducible repeat (first | refine blk_drewN ?_ _ | refine blk_drew ?_ | refine blk_alloc ?_ _)); exact BK1096.out) hb); have n9_ := z0 (below_step (mB HB.out) hb); clear HO_1079004; clear HO_1080000; clear HO_1080001; clear HO_1080002; clear HO1088; clear HO1095; clear BK1078; clear BK1079; clear BK1096; clear HB; have HO_1079004 := n0_; have HO_1080000 := n1_; have HO_1080001 := n2_; have HO_1080002 := n3_; have HO1088 := n4_; have HO1095 := n5_; have BK1078 := n6_; have BK1079 := n7_; have BK1096 := n8_; have HB := n9_; clear n0_ n1_ n2_ n3_ n4_ n5_ n6_ n7_ n8_ n9_; (try clear hb); (try clear hb2); (try clear hk); (try clear hi)))
        go_meet
        case rel => exact ⟨_, (true), rfy, H', ⟨by have := HJ21.out; first | omega | exact Nat.le_refl _⟩, ⟨by (with_reducible repeat (first | apply Kd.N_alloc | apply Kd.N_drewN | apply Kd.N_drew)); exact Kd.N_mono HO_1079004.out (fun _ hk => ⟨hk.1.1.1.1, ⟨hk.1.1.1.2.1, ⟨hk.1.1.1.2.2.1, ⟨hk.1.2, ⟨hk.1.1.1.2.2.2.1, ⟨hk.1.1.1.2.2.2.2, hk.2⟩⟩⟩⟩⟩⟩)⟩, ⟨mR HO_1080000.out⟩, ⟨mR HO_1080001.out⟩, ⟨mR HO_1080002.out⟩, ⟨by (with_reducible repeat (first | apply Kd.N_alloc | apply Kd.N_drewN | apply Kd.N_drew)); exact Kd.N_mono HO1095.out (fun _ hk => ⟨hk.1.1, ⟨hk.1.2.1, ⟨hk.1.2.2.1, ⟨hk.1.2.2.2.1, ⟨hk.1.2.2.2.2, hk.2⟩⟩⟩⟩⟩)⟩, ⟨mK BK1078.out⟩, ⟨mK BK1079.out⟩, ⟨mK BK1096.out⟩, ⟨mB HB.out⟩⟩
      case rest =>
       clear HC34
       (try clear c1); (try clear c2); (try clear c2b0); (try clear c2b1); (try clear p2); (try clear c3); (try clear c4); (try clear c5); (try clear c10); (try clear c11); (try clear c16); (try clear c21); (try clear c21b0); (try clear c21b1); (try clear c23); (try clear c23b0); (try clear c24); (try clear c24b0); (try clear c24b1); (try clear c25); (try clear c26); (try clear c27); (try clear c29); (try clear c31); (try clear c35); (try clear c36); (try clear c38); (try clear c41); (try clear c42); (try clear c46); (try clear c48); (try clear c49); (try clear c52); (try clear c55); (try clear c56); (try clear hcz11_0); (try clear hcz11_1); (try clear hcz11_2); (try clear hcz11_3); (try clear hcz11_4); (try clear hcz14_0); (try clear hcz14_1); (try clear hcz14_2); (try clear hcz18_0); (try clear hcz18_1); (try clear hcz18_2); (try clear hcz18_3); (try clear hcz18_4); (try clear hcz19_0); (try clear hcz19_1); (try clear hcz19_2); (try clear hcz26_0); (try clear hcz26_1); (try clear hcz26_2); (try clear hcz26_3); (try clear hcz26_4); (try clear hcz28_0); (try clear hcz28_1); (try clear hcz28_2); (try clear hcz28_3); (try clear hcz28_4); (try clear hcz30_0); (try clear hcz30_1); (try clear hcz30_2); (try clear hcz30_3); (try clear hcz30_4); (try clear hcz36_0); (try clear hcz36_1); (try clear hcz36_2); (try clear hcz36_3); (try clear hcz36_4); (try clear hcz43_0); (try clear hcz43_1); (try clear hcz43_2); (try clear hcz43_3); (try clear hcz43_4); (try clear hcz50_0); (try clear hcz50_1); (try clear hcz50_2); (try clear hcz50_3); (try clear hcz50_4); (try clear hcz53_0); (try clear hcz53_1); (try clear hcz53_2); (try clear hcz57_0); (try clear hcz57_1); (try clear hcz57_2); (try clear hcz57_3); (try clear hcz57_4); (try clear hfz11_0); (try clear hfz11_1); (try clear hfz11_2); (try clear hfz11_3); (try clear hfz11_4); (try clear hfz14_0); (try clear hfz14_1); (try clear hfz14_2); (try clear hfz18_0); (try clear hfz18_1); (try clear hfz18_2); (try clear hfz18_3); (try clear hfz18_4); (try clear hfz19_0); (try clear hfz19_1); (try clear hfz19_2); (try clear hfz26_0); (try clear hfz26_1); (try clear hfz26_2); (try clear hfz26_3); (try clear hfz26_4); (try clear hfz28_0); (try clear hfz28_1); (try clear hfz28_2); (try clear hfz28_3); (try clear hfz28_4); (try clear hfz30_0); (try clear hfz30_1); (try clear hfz30_2); (try clear hfz30_3); (try clear hfz30_4); (try clear hfz36_0); (try clear hfz36_1); (try clear hfz36_2); (try clear hfz36_3); (try clear hfz36_4); (try clear hfz43_0); (try clear hfz43_1); (try clear hfz43_2); (try clear hfz43_3); (try clear hfz43_4); (try clear hfz50_0); (try clear hfz50_1); (try clear hfz50_2); (try clear hfz50_3); (try clear hfz50_4); (try clear hfz53_0); (try clear hfz53_1); (try clear hfz53_2); (try clear hfz57_0); (try clear hfz57_1); (try clear hfz57_2); (try clear hfz57_3); (try clear hfz57_4); (try clear p2)
       obtain ⟨kq, x44_33, rfl, HA, HJ33, HO_1079004, HO_1080000, HO_1080001, HO_1080002, HO_1097004, BK1078, BK1079, BK1096, HB⟩ := hcut
       cases kq with
       | zero => exact absurd HA.out (by simp [laws_FnExprOn.j1])
       | succ kj33 =>
        have H := HA.out
        clear HA
        simp only [laws_FnExprOn.j1] at H
        by_cases c59 : x44_33 = true
        ·subst c59
         have H1 : (some true) = some r := by rw [if_pos rfl] at H; exact H
         clear H
         have H := H1
         clear H1
         obtain rfl := Option.some.inj H
         go_wp2
         go_ret
         exact ⟨rfx, mB HB.out⟩
        ·replace c59 := Bool.eq_false_iff.mpr c59
         subst c59
         have H1 : ((impl_ExprOf.f t1089 t1090 t1091 t1092 t1093 t1069 t1072 t1075).bind fun t1099 => ((impl_NumOn.f t1080).bind fun t1100 => ((impl_NumIs.f t1100).bind fun t1101 => (if t1099 = t1101 then ((laws_wqNot.f t1062 t1063 t1064 t1065 t1066).bind fun bt1102 => ((laws_wqTwo.f 9 t1062 t1063 t1064 t1065 t1066 bt1102.1 bt1102.2.1 bt1102.2.2.1 bt1102.2.2.2.1 bt1102.2.2.2.2).bind fun bt1109 => ((impl_ExprOf.f bt1109.1 bt1109.2.1 bt1109.2.2.1 bt1109.2.2.2.1 bt1109.2.2.2.2 t1069 t1072 t1075).bind fun t1116 => (if t1116 = 1 then (some true) else ((laws_wqNot.f t1062 t1063 t1064 t1065 t1066).bind fun bt1117 => ((laws_wqTwo.f 9 t1062 t1063 t1064 t1065 t1066 bt1117.1 bt1117.2.1 bt1117.2.2.1 bt1117.2.2.2.1 bt1117.2.2.2.2).bind fun bt1124 => ((impl_ExprOk.f bt1124.1 bt1124.2.1 bt1124.2.2.1 bt1124.2.2.2.1 bt1124.2.2.2.2).bind fun t1131 => (some (!t1131))))))))) else ((laws_wqNot.f t1062 t1063 t1064 t1065 t1066).bind fun bt1132 => ((laws_wqTwo.f 9 t1062 t1063 t1064 t1065 t1066 bt1132.1 bt1132.2.1 bt1132.2.2.1 bt1132.2.2.2.1 bt1132.2.2.2.2).bind fun bt1139 => ((impl_ExprOk.f bt1139.1 bt1139.2.1 bt1139.2.2.1 bt1139.2.2.2.1 bt1139.2.2.2.2).bind fun t1146 => (some (!t1146))))))))) = some r := by rw [if_neg (show ¬ (false = true) by decide)] at H; exact H
         clear H
         have H := H1
         clear H1
         replace H := Option.bind_eq_some_iff.mp H
         obtain ⟨t1099, A600, H⟩ := H
         replace H : ((impl_NumOn.f t1080).bind fun t1100 => ((impl_NumIs.f t1100).bind fun t1101 => (if t1099 = t1101 then ((laws_wqNot.f t1062 t1063 t1064 t1065 t1066).bind fun bt1102 => ((laws_wqTwo.f 9 t1062 t1063 t1064 t1065 t1066 bt1102.1 bt1102.2.1 bt1102.2.2.1 bt1102.2.2.2.1 bt1102.2.2.2.2).bind fun bt1109 => ((impl_ExprOf.f bt1109.1 bt1109.2.1 bt1109.2.2.1 bt1109.2.2.2.1 bt1109.2.2.2.2 t1069 t1072 t1075).bind fun t1116 => (if t1116 = 1 then (some true) else ((laws_wqNot.f t1062 t1063 t1064 t1065 t1066).bind fun bt1117 => ((laws_wqTwo.f 9 t1062 t1063 t1064 t1065 t1066 bt1117.1 bt1117.2.1 bt1117.2.2.1 bt1117.2.2.2.1 bt1117.2.2.2.2).bind fun bt1124 => ((impl_ExprOk.f bt1124.1 bt1124.2.1 bt1124.2.2.1 bt1124.2.2.2.1 bt1124.2.2.2.2).bind fun t1131 => (some (!t1131))))))))) else ((laws_wqNot.f t1062 t1063 t1064 t1065 t1066).bind fun bt1132 => ((laws_wqTwo.f 9 t1062 t1063 t1064 t1065 t1066 bt1132.1 bt1132.2.1 bt1132.2.2.1 bt1132.2.2.2.1 bt1132.2.2.2.2).bind fun bt1139 => ((impl_ExprOk.f bt1139.1 bt1139.2.1 bt1139.2.2.1 bt1139.2.2.2.1 bt1139.2.2.2.2).bind fun t1146 => (some (!t1146)))))))) = some r := H
         have A60 := z0 A600
         clear A600
         replace H := Option.bind_eq_some_iff.mp H
         obtain ⟨t1100, A610, H⟩ := H
         replace H : ((impl_NumIs.f t1100).bind fun t1101 => (if t1099 = t1101 then ((laws_wqNot.f t1062 t1063 t1064 t1065 t1066).bind fun bt1102 => ((laws_wqTwo.f 9 t1062 t1063 t1064 t1065 t1066 bt1102.1 bt1102.2.1 bt1102.2.2.1 bt1102.2.2.2.1 bt1102.2.2.2.2).bind fun bt1109 => ((impl_ExprOf.f bt1109.1 bt1109.2.1 bt1109.2.2.1 bt1109.2.2.2.1 bt1109.2.2.2.2 t1069 t1072 t1075).bind fun t1116 => (if t1116 = 1 then (some true) else ((laws_wqNot.f t1062 t1063 t1064 t1065 t1066).bind fun bt1117 => ((laws_wqTwo.f 9 t1062 t1063 t1064 t1065 t1066 bt1117.1 bt1117.2.1 bt1117.2.2.1 bt1117.2.2.2.1 bt1117.2.2.2.2).bind fun bt1124 => ((impl_ExprOk.f bt1124.1 bt1124.2.1 bt1124.2.2.1 bt1124.2.2.2.1 bt1124.2.2.2.2).bind fun t1131 => (some (!t1131))))))))) else ((laws_wqNot.f t1062 t1063 t1064 t1065 t1066).bind fun bt1132 => ((laws_wqTwo.f 9 t1062 t1063 t1064 t1065 t1066 bt1132.1 bt1132.2.1 bt1132.2.2.1 bt1132.2.2.2.1 bt1132.2.2.2.2).bind fun bt1139 => ((impl_ExprOk.f bt1139.1 bt1139.2.1 bt1139.2.2.1 bt1139.2.2.2.1 bt1139.2.2.2.2).bind fun t1146 => (some (!t1146))))))) = some r := H
         have A61 := z0 A610
         clear A610
         replace H := Option.bind_eq_some_iff.mp H
         obtain ⟨t1101, A620, H⟩ := H
         replace H : (if t1099 = t1101 then ((laws_wqNot.f t1062 t1063 t1064 t1065 t1066).bind fun bt1102 => ((laws_wqTwo.f 9 t1062 t1063 t1064 t1065 t1066 bt1102.1 bt1102.2.1 bt1102.2.2.1 bt1102.2.2.2.1 bt1102.2.2.2.2).bind fun bt1109 => ((impl_ExprOf.f bt1109.1 bt1109.2.1 bt1109.2.2.1 bt1109.2.2.2.1 bt1109.2.2.2.2 t1069 t1072 t1075).bind fun t1116 => (if t1116 = 1 then (some true) else ((laws_wqNot.f t1062 t1063 t1064 t1065 t1066).bind fun bt1117 => ((laws_wqTwo.f 9 t1062 t1063 t1064 t1065 t1066 bt1117.1 bt1117.2.1 bt1117.2.2.1 bt1117.2.2.2.1 bt1117.2.2.2.2).bind fun bt1124 => ((impl_ExprOk.f bt1124.1 bt1124.2.1 bt1124.2.2.1 bt1124.2.2.2.1 bt1124.2.2.2.2).bind fun t1131 => (some (!t1131))))))))) else ((laws_wqNot.f t1062 t1063 t1064 t1065 t1066).bind fun bt1132 => ((laws_wqTwo.f 9 t1062 t1063 t1064 t1065 t1066 bt1132.1 bt1132.2.1 bt1132.2.2.1 bt1132.2.2.2.1 bt1132.2.2.2.2).bind fun bt1139 => ((impl_ExprOk.f bt1139.1 bt1139.2.1 bt1139.2.2.1 bt1139.2.2.2.1 bt1139.2.2.2.2).bind fun t1146 => (some (!t1146)))))) = some r := H
         have A62 := z0 A620
         clear A620
         by_cases c63 : t1099 = t1101
         ·rw [if_pos c63] at H
          have c63b0 : (t1099 == t1101) = true := beq_iff_eq.mpr c63
          have c63b1 : (t1099 != t1101) = false := bne_eq_false_iff_eq.mpr c63
          clear c63
          replace H := Option.bind_eq_some_iff.mp H
          obtain ⟨⟨t1102, t1103, t1104, t1105, t1106⟩, A640, H⟩ := H
          replace H : ((laws_wqTwo.f 9 t1062 t1063 t1064 t1065 t1066 t1102 t1103 t1104 t1105 t1106).bind fun bt1109 => ((impl_ExprOf.f bt1109.1 bt1109.2.1 bt1109.2.2.1 bt1109.2.2.2.1 bt1109.2.2.2.2 t1069 t1072 t1075).bind fun t1116 => (if t1116 = 1 then (some true) else ((laws_wqNot.f t1062 t1063 t1064 t1065 t1066).bind fun bt1117 => ((laws_wqTwo.f 9 t1062 t1063 t1064 t1065 t1066 bt1117.1 bt1117.2.1 bt1117.2.2.1 bt1117.2.2.2.1 bt1117.2.2.2.2).bind fun bt1124 => ((impl_ExprOk.f bt1124.1 bt1124.2.1 bt1124.2.2.1 bt1124.2.2.2.1 bt1124.2.2.2.2).bind fun t1131 => (some (!t1131)))))))) = some r := H
          have A64 := z0 A640
          clear A640
          replace H := Option.bind_eq_some_iff.mp H
          obtain ⟨⟨t1109, t1110, t1111, t1112, t1113⟩, A650, H⟩ := H
          replace H : ((impl_ExprOf.f t1109 t1110 t1111 t1112 t1113 t1069 t1072 t1075).bind fun t1116 => (if t1116 = 1 then (some true) else ((laws_wqNot.f t1062 t1063 t1064 t1065 t1066).bind fun bt1117 => ((laws_wqTwo.f 9 t1062 t1063 t1064 t1065 t1066 bt1117.1 bt1117.2.1 bt1117.2.2.1 bt1117.2.2.2.1 bt1117.2.2.2.2).bind fun bt1124 => ((impl_ExprOk.f bt1124.1 bt1124.2.1 bt1124.2.2.1 bt1124.2.2.2.1 bt1124.2.2.2.2).bind fun t1131 => (some (!t1131))))))) = some r := H
          have A65 := z0 A650
          clear A650
          replace H := Option.bind_eq_some_iff.mp H
          obtain ⟨t1116, A660, H⟩ := H
          replace H : (if t1116 = 1 then (some true) else ((laws_wqNot.f t1062 t1063 t1064 t1065 t1066).bind fun bt1117 => ((laws_wqTwo.f 9 t1062 t1063 t1064 t1065 t1066 bt1117.1 bt1117.2.1 bt1117.2.2.1 bt1117.2.2.2.1 bt1117.2.2.2.2).bind fun bt1124 => ((impl_ExprOk.f bt1124.1 bt1124.2.1 bt1124.2.2.1 bt1124.2.2.2.1 bt1124.2.2.2.2).bind fun t1131 => (some (!t1131)))))) = some r := H
          have A66 := z0 A660
          clear A660
          by_cases c67 : t1116 = 1
          ·rw [if_pos c67] at H
           have c67b0 : (t1116 == 1) = true := beq_iff_eq.mpr c67
           have c67b1 : (t1116 != 1) = false := bne_eq_false_iff_eq.mpr c67
           clear c67
           obtain rfl := Option.some.inj H
           try go_wp2
           have n0_ := z0 (Kd.N_drew HO_1079004.out)
           have n1_ := z0 (Kd.R_drew HO_1080000.out)
           have n2_ := z0 (Kd.R_drew HO_1080001.out)
           have n3_ := z0 (Kd.R_drew HO_1080002.out)
           have n4_ := z0 (Kd.N_drew HO_1097004.out)
           have n5_ := z0 (blk_drew BK1078.out)
           have n6_ := z0 (blk_drew BK1079.out)
           have n7_ := z0 (blk_drew BK1096.out)
           have n8_ := z0 (below_drew1 HB.out)
           clear HO_1079004 HO_1080000 HO_1080001 HO_1080002 HO_1097004 BK1078 BK1079 BK1096 HB
           have HO_1079004 := n0_
           have HO_1080000 := n1_
           have HO_1080001 := n2_
           have HO_1080002 := n3_
           have HO_1097004 := n4_
           have BK1078 := n5_
           have BK1079 := n6_
           have BK1096 := n7_
           have HB := n8_
           clear n0_ n1_ n2_ n3_ n4_ n5_ n6_ n7_ n8_
           refine start_ (n := 25) (S := fun w' => w'.cell? ⟨gb1096, 0, none⟩ = some (.int .i64 t1089) ∧ w'.cell? ⟨gb1096, 1, none⟩ = some (.int .i64 t1090) ∧ w'.cell? ⟨gb1096, 2, none⟩ = some (.int .i64 t1091) ∧ w'.cell? ⟨gb1096, 3, none⟩ = some (.int .i64 t1092) ∧ w'.cell? ⟨gb1096, 4, none⟩ = some (.slice Ao44 t1093.length co44) ∧ w'.cell? ⟨gb1079, 0, none⟩ = some (.slice Ao13 t1069.length co13) ∧ w'.cell? ⟨gb1079, 1, none⟩ = some (.slice Ao15 t1072.length co15) ∧ w'.cell? ⟨gb1079, 2, none⟩ = some (.slice Ao16 t1075.length co16) ∧ w'.cell? ⟨gb1078, 0, none⟩ = some (.int .i64 t1062) ∧ w'.cell? ⟨gb1078, 1, none⟩ = some (.int .i64 t1063) ∧ w'.cell? ⟨gb1078, 2, none⟩ = some (.int .i64 t1064) ∧ w'.cell? ⟨gb1078, 3, none⟩ = some (.int .i64 t1065) ∧ w'.cell? ⟨gb1078, 4, none⟩ = some (.slice Ao12 t1066.length co12)) (ds := []) #[false, false, false, false, false, false, false, false, false, false, false, false, false, false, false, false, false, false, false, false, false, false, false, false, false] (by kernel_rfl) rfl rfl ⟨(blk_cell BK1096.out 0).trans rfl, (blk_cell BK1096.out 1).trans rfl, (blk_cell BK1096.out 2).trans rfl, (blk_cell BK1096.out 3).trans rfl, (blk_cell BK1096.out 4).trans rfl, (blk_cell BK1079.out 0).trans rfl, (blk_cell BK1079.out 1).trans rfl, (blk_cell BK1079.out 2).trans rfl, (blk_cell BK1078.out 0).trans rfl, (blk_cell BK1078.out 1).trans rfl, (blk_cell BK1078.out 2).trans rfl, (blk_cell BK1078.out 3).trans rfl, (blk_cell BK1078.out 4).trans rfl⟩ (fun hHeld => ?_); refine with_tabW laws_FnExprOn.tab12 laws_FnExprOn.bits12 (fun HT_ HW_ => ?_)
           generalize wc.drew = w68 at HO_1079004 HO_1080000 HO_1080001 HO_1080002 HO_1097004 BK1078 BK1079 BK1096 HB hHeld ⊢
           refine pure_ (i := 3) (N := some 48) (v := ?_) (a' := ?_) #[false, false, false, true, false, false, false, false, false, false, false, false, false, false, false, false, false, false, false, false, false, false, false, false, false] rfl rfl (any_of HT_.out (by kernel_rfl)) (fun _ _ _ h => h) (Or.inl ⟨by rfl, ?_⟩) ?_ ?_
           rotate_left
           ·intro w'
            go_simp
            with_reducible rfl
           rotate_left
           ·simp only [Act.put, List.setIfInBounds_toArray, List.set_cons_zero, List.set_cons_succ, i64_w, i32_w]
            rfl
           refine take_ (i := 0) (N := some 45) (v := ?_) (a' := ?_) #[true, false, false, true, false, false, false, false, false, false, false, false, false, false, false, false, false, false, false, false, false, false, false, false, false] rfl rfl (take_ofW HT_.out HW_.out (by kernel_rfl)) (fun _ _ _ h => h) (Or.inl ⟨by rfl, ?_⟩) hHeld ?_ ?_
           rotate_left
           ·rintro w' ⟨s0, s1, s2, s3, s4, s5, s6, s7, s8, s9, s10, s11, s12⟩
            go_simp
            with_reducible rfl
           rotate_left
           ·simp only [Act.put, List.setIfInBounds_toArray, List.set_cons_zero, List.set_cons_succ, i64_w, i32_w]
            rfl
           refine take_ (i := 1) (N := some 46) (v := ?_) (a' := ?_) #[true, true, false, true, false, false, false, false, false, false, false, false, false, false, false, false, false, false, false, false, false, false, false, false, false] rfl rfl (take_ofW HT_.out HW_.out (by kernel_rfl)) (fun _ _ _ h => h) (Or.inl ⟨by rfl, ?_⟩) hHeld ?_ ?_
           rotate_left
           ·rintro w' ⟨s0, s1, s2, s3, s4, s5, s6, s7, s8, s9, s10, s11, s12⟩
            go_simp
            with_reducible rfl
           rotate_left
           ·simp only [Act.put, List.setIfInBounds_toArray, List.set_cons_zero, List.set_cons_succ, i64_w, i32_w]
            rfl
           refine one_ (i := 2) (N := some 47) #[true, true, true, true, false, false, false, false, false, false, false, false, false, false, false, false, false, false, false, false, false, false, false, false, false] rfl rfl (one_of HT_.out (by kernel_rfl)) (by decide) (fun K hK => ?_)
           refine goes_ Try.func26 (by kernel_rfl) rfl #[.agg #[.int .i64 t1089, .int .i64 t1090, .int .i64 t1091, .int .i64 t1092, .slice Ao44 t1093.length co44], .agg #[.slice Ao13 t1069.length co13, .slice Ao15 t1072.length co15, .slice Ao16 t1075.length co16]] (by rfl) rfl rfl argx ?_
           with_reducible refine (impl_ExprOf.calls t1089 t1090 t1091 t1092 _ _ t1093 _ _ t1069 _ _ t1072 _ _ t1075 t1099 _ ?side1 ?side2 ?side3 ?side4 ?side5 ?side6 ?side7 ?side8 A60.out).mono ?_
           (case side1 => exact mC (Kd.N_reads' HO_1097004.out).2.2)
           (case side2 => exact (Kd.N_reads' HO_1097004.out).2.1)
           (case side3 => exact mC (Kd.R_reads' HO_1080000.out).2.2)
           (case side4 => exact (Kd.R_reads' HO_1080000.out).2.1)
           (case side5 => exact mC (Kd.R_reads' HO_1080001.out).2.2)
           (case side6 => exact (Kd.R_reads' HO_1080001.out).2.1)
           (case side7 => exact mC (Kd.R_reads' HO_1080002.out).2.2)
           (case side8 => exact (Kd.R_reads' HO_1080002.out).2.1)
           rintro e w69 ⟨rfl, hb⟩
           refine ⟨_, rfl, ?_⟩
           have n0_ := z0 (Kd.N_below (mN HO_1079004.out) hb)
           have n1_ := z0 (Kd.R_below (mR HO_1080000.out) hb)
           have n2_ := z0 (Kd.R_below (mR HO_1080001.out) hb)
           have n3_ := z0 (Kd.R_below (mR HO_1080002.out) hb)
           have n4_ := z0 (Kd.N_below (mN HO_1097004.out) hb)
           have n5_ := z0 (blk_below (g := gb1078) (o := .cells #[.int .i64 t1062, .int .i64 t1063, .int .i64 t1064, .int .i64 t1065, .slice Ao12 t1066.length co12] 32 (0, 0)) (mK BK1078.out) hb)
           have n6_ := z0 (blk_below (g := gb1079) (o := .cells #[.slice Ao13 t1069.length co13, .slice Ao15 t1072.length co15, .slice Ao16 t1075.length co16] 44 (0, 0)) (mK BK1079.out) hb)
           have n7_ := z0 (blk_below (g := gb1096) (o := .cells #[.int .i64 t1089, .int .i64 t1090, .int .i64 t1091, .int .i64 t1092, .slice Ao44 t1093.length co44] 32 (0, 0)) (mK BK1096.out) hb)
           have n8_ := z0 (below_step (mB HB.out) hb)
           clear HO_1079004 HO_1080000 HO_1080001 HO_1080002 HO_1097004 BK1078 BK1079 BK1096 HB
           have HO_1079004 := n0_
           have HO_1080000 := n1_
           have HO_1080001 := n2_
           have HO_1080002 := n3_
           have HO_1097004 := n4_
           have BK1078 := n5_
           have BK1079 := n6_
           have BK1096 := n7_
           have HB := n8_
           clear n0_ n1_ n2_ n3_ n4_ n5_ n6_ n7_ n8_
           (try clear hb)
           (try clear hb2)
           (try clear hk)
           (try clear hi)
           refine hK.out _ _ ⟨(blk_cell BK1096.out 0).trans rfl, (blk_cell BK1096.out 1).trans rfl, (blk_cell BK1096.out 2).trans rfl, (blk_cell BK1096.out 3).trans rfl, (blk_cell BK1096.out 4).trans rfl, (blk_cell BK1079.out 0).trans rfl, (blk_cell BK1079.out 1).trans rfl, (blk_cell BK1079.out 2).trans rfl, (blk_cell BK1078.out 0).trans rfl, (blk_cell BK1078.out 1).trans rfl, (blk_cell BK1078.out 2).trans rfl, (blk_cell BK1078.out 3).trans rfl, (blk_cell BK1078.out 4).trans rfl⟩ (fun hHeld => ?_)
           clear hK K
           refine norm_ (a' := ?_) ?_ ?_
           rotate_left
           ·show Act.put _ (some 47) _ = _
            simp only [Act.put, List.setIfInBounds_toArray, List.set_cons_zero, List.set_cons_succ, i64_w, i32_w]
            rfl
           refine one_ (i := 4) (N := some 49) #[true, true, true, true, true, false, false, false, false, false, false, false, false, false, false, false, false, false, false, false, false, false, false, false, false] rfl rfl (one_of HT_.out (by kernel_rfl)) (by decide) (fun K hK => ?_)
           refine goes_ Try.func41 (by kernel_rfl) rfl #[.int .i64 t1080] (by rfl) rfl rfl argx ?_
           with_reducible refine (impl_NumOn.calls t1080 t1100 _ A61.out).mono ?_
           rintro e w' ⟨rfl, ⟨nd, rfl⟩⟩
           refine ⟨_, rfl, ?_⟩
           refine hK.out _ _ ⟨(blk_cell BK1096.out 0).trans rfl, (blk_cell BK1096.out 1).trans rfl, (blk_cell BK1096.out 2).trans rfl, (blk_cell BK1096.out 3).trans rfl, (blk_cell BK1096.out 4).trans rfl, (blk_cell BK1079.out 0).trans rfl, (blk_cell BK1079.out 1).trans rfl, (blk_cell BK1079.out 2).trans rfl, (blk_cell BK1078.out 0).trans rfl, (blk_cell BK1078.out 1).trans rfl, (blk_cell BK1078.out 2).trans rfl, (blk_cell BK1078.out 3).trans rfl, (blk_cell BK1078.out 4).trans rfl⟩ (fun hHeld => ?_)
           clear hK K
           refine norm_ (a' := ?_) ?_ ?_
           rotate_left
           ·show Act.put _ (some 49) _ = _
            simp only [Act.put, List.setIfInBounds_toArray, List.set_cons_zero, List.set_cons_succ, i64_w, i32_w]
            rfl
           refine one_ (i := 5) (N := some 50) #[true, true, true, true, true, true, false, false, false, false, false, false, false, false, false, false, false, false, false, false, false, false, false, false, false] rfl rfl (one_of HT_.out (by kernel_rfl)) (by decide) (fun K hK => ?_)
           refine goes_ Try.func40 (by kernel_rfl) rfl #[.bool t1100] (by rfl) rfl rfl argx ?_
           with_reducible refine (impl_NumIs.calls t1100 t1101 _ A62.out).mono ?_
           rintro e w' ⟨rfl, ⟨nd, rfl⟩⟩
           refine ⟨_, rfl, ?_⟩
           refine hK.out _ _ ⟨(blk_cell BK1096.out 0).trans rfl, (blk_cell BK1096.out 1).trans rfl, (blk_cell BK1096.out 2).trans rfl, (blk_cell BK1096.out 3).trans rfl, (blk_cell BK1096.out 4).trans rfl, (blk_cell BK1079.out 0).trans rfl, (blk_cell BK1079.out 1).trans rfl, (blk_cell BK1079.out 2).trans rfl, (blk_cell BK1078.out 0).trans rfl, (blk_cell BK1078.out 1).trans rfl, (blk_cell BK1078.out 2).trans rfl, (blk_cell BK1078.out 3).trans rfl, (blk_cell BK1078.out 4).trans rfl⟩ (fun hHeld => ?_)
           clear hK K
           refine norm_ (a' := ?_) ?_ ?_
           rotate_left
           ·show Act.put _ (some 50) _ = _
            simp only [Act.put, List.setIfInBounds_toArray, List.set_cons_zero, List.set_cons_succ, i64_w, i32_w]
            rfl
           refine pure_ (i := 6) (N := some 51) (v := ?_) (a' := ?_) #[true, true, true, true, true, true, true, false, false, false, false, false, false, false, false, false, false, false, false, false, false, false, false, false, false] rfl rfl (any_of HT_.out (by kernel_rfl)) (fun _ _ _ h => h) (Or.inl ⟨by rfl, ?_⟩) ?_ ?_
           rotate_left
           ·intro w'
            go_simp
            with_reducible rfl
           rotate_left
           ·simp only [Act.put, List.setIfInBounds_toArray, List.set_cons_zero, List.set_cons_succ, i64_w, i32_w]
            rfl
           refine pure_ (i := 7) (N := some 52) (v := ?_) (a' := ?_) #[true, true, true, true, true, true, true, true, false, false, false, false, false, false, false, false, false, false, false, false, false, false, false, false, false] rfl rfl (any_of HT_.out (by kernel_rfl)) (fun _ _ _ h => h) (Or.inl ⟨by rfl, ?_⟩) ?_ ?_
           rotate_left
           ·intro w'
            go_simp
            with_reducible rfl
           rotate_left
           ·simp only [Act.put, List.setIfInBounds_toArray, List.set_cons_zero, List.set_cons_succ, i64_w, i32_w]
            rfl
           refine take_ (i := 8) (N := some 53) (v := ?_) (a' := ?_) #[true, true, true, true, true, true, true, true, true, false, false, false, false, false, false, false, false, false, false, false, false, false, false, false, false] rfl rfl (take_ofW HT_.out HW_.out (by kernel_rfl)) (fun _ _ _ h => h) (Or.inl ⟨by rfl, ?_⟩) hHeld ?_ ?_
           rotate_left
           ·rintro w' ⟨s0, s1, s2, s3, s4, s5, s6, s7, s8, s9, s10, s11, s12⟩
            go_simp
            with_reducible rfl
           rotate_left
           ·simp only [Act.put, List.setIfInBounds_toArray, List.set_cons_zero, List.set_cons_succ, i64_w, i32_w]
            rfl
           refine take_ (i := 9) (N := some 54) (v := ?_) (a' := ?_) #[true, true, true, true, true, true, true, true, true, true, false, false, false, false, false, false, false, false, false, false, false, false, false, false, false] rfl rfl (take_ofW HT_.out HW_.out (by kernel_rfl)) (fun _ _ _ h => h) (Or.inl ⟨by rfl, ?_⟩) hHeld ?_ ?_
           rotate_left
           ·rintro w' ⟨s0, s1, s2, s3, s4, s5, s6, s7, s8, s9, s10, s11, s12⟩
            go_simp
            with_reducible rfl
           rotate_left
           ·simp only [Act.put, List.setIfInBounds_toArray, List.set_cons_zero, List.set_cons_succ, i64_w, i32_w]
            rfl
           refine take_ (i := 12) (N := some 57) (v := ?_) (a' := ?_) #[true, true, true, true, true, true, true, true, true, true, false, false, true, false, false, false, false, false, false, false, false, false, false, false, false] rfl rfl (take_ofW HT_.out HW_.out (by kernel_rfl)) (fun _ _ _ h => h) (Or.inl ⟨by rfl, ?_⟩) hHeld ?_ ?_
           rotate_left
           ·rintro w' ⟨s0, s1, s2, s3, s4, s5, s6, s7, s8, s9, s10, s11, s12⟩
            go_simp
            with_reducible rfl
           rotate_left
           ·simp only [Act.put, List.setIfInBounds_toArray, List.set_cons_zero, List.set_cons_succ, i64_w, i32_w]
            rfl
           refine one_ (i := 10) (N := some 55) #[true, true, true, true, true, true, true, true, true, true, true, false, true, false, false, false, false, false, false, false, false, false, false, false, false] rfl rfl (one_of HT_.out (by kernel_rfl)) (by decide) (fun K hK => ?_)
           refine goes_ Try.func38 (by kernel_rfl) rfl #[.agg #[.int .i64 t1062, .int .i64 t1063, .int .i64 t1064, .int .i64 t1065, .slice Ao12 t1066.length co12]] (by rfl) rfl rfl argx ?_
           with_reducible refine (laws_wqNot.calls t1062 t1063 t1064 t1065 (fun k_ => (nB k_ (.slice Ao13 t1069.length co13) ∧ (nB k_ (.slice Ao15 t1072.length co15) ∧ (nB k_ (.slice Ao16 t1075.length co16) ∧ (nB k_ (.slice Ao44 t1093.length co44) ∧ (k_ ≠ gb1078 ∧ (k_ ≠ gb1079 ∧ k_ ≠ gb1096))))))) _ _ t1066 t1102 t1103 t1104 t1105 t1106 _ ?side1 A64.out).mono ?_
           (case side1 => exact Kd.N_V (HO_1079004.out))
           rintro e w70 ⟨v1107, rfl, ho0, hb⟩
           refine ⟨_, rfl, ?_⟩
           have n0_ := z0 (Kd.N_elder' (mN HO_1079004.out) (by first | exact Kd.N_base ho0 | exact Kd.R_base ho0) hb)
           have n1_ := z0 (Kd.R_below (mR HO_1080000.out) hb)
           have n2_ := z0 (Kd.R_below (mR HO_1080001.out) hb)
           have n3_ := z0 (Kd.R_below (mR HO_1080002.out) hb)
           have n4_ := z0 (Kd.N_elder' (mN HO_1097004.out) (by first | exact Kd.N_base ho0 | exact Kd.R_base ho0) hb)
           have n5_ := z0 (Kd.N_lower (Kd.N_mono (ok' := fun k_ => nB k_ (.slice Ao13 t1069.length co13) ∧ nB k_ (.slice Ao15 t1072.length co15) ∧ nB k_ (.slice Ao16 t1075.length co16) ∧ nB k_ (.slice Ao44 t1093.length co44) ∧ k_ ≠ gb1078 ∧ k_ ≠ gb1079 ∧ k_ ≠ gb1096) ho0 (fun k_ hk_ => ⟨Or.elim hk_ (fun hs_ => hs_.1) (fun hn_ => (Kd.fresh' (Kd.R_lt (mR HO_1080000.out)) k_ hn_)), Or.elim hk_ (fun hs_ => hs_.2.1) (fun hn_ => (Kd.fresh' (Kd.R_lt (mR HO_1080001.out)) k_ hn_)), Or.elim hk_ (fun hs_ => hs_.2.2.1) (fun hn_ => (Kd.fresh' (Kd.R_lt (mR HO_1080002.out)) k_ hn_)), Or.elim hk_ (fun hs_ => hs_.2.2.2.1) (fun hn_ => (Kd.fresh' (Kd.N_lt (mN HO_1097004.out)) k_ hn_)), Or.elim hk_ (fun hs_ => hs_.2.2.2.2.1) (fun hn_ => (Kd.freshB (g := gb1078) (o := .cells #[.int .i64 t1062, .int .i64 t1063, .int .i64 t1064, .int .i64 t1065, .slice Ao12 t1066.length co12] 32 (0, 0)) (mK BK1078.out) k_ hn_)), Or.elim hk_ (fun hs_ => hs_.2.2.2.2.2.1) (fun hn_ => (Kd.freshB (g := gb1079) (o := .cells #[.slice Ao13 t1069.length co13, .slice Ao15 t1072.length co15, .slice Ao16 t1075.length co16] 44 (0, 0)) (mK BK1079.out) k_ hn_)), Or.elim hk_ (fun hs_ => hs_.2.2.2.2.2.2) (fun hn_ => (Kd.freshB (g := gb1096) (o := .cells #[.int .i64 t1089, .int .i64 t1090, .int .i64 t1091, .int .i64 t1092, .slice Ao44 t1093.length co44] 32 (0, 0)) (mK BK1096.out) k_ hn_))⟩)) (below_size (mB HB.out)))
           have n6_ := z0 (blk_below (g := gb1078) (o := .cells #[.int .i64 t1062, .int .i64 t1063, .int .i64 t1064, .int .i64 t1065, .slice Ao12 t1066.length co12] 32 (0, 0)) (mK BK1078.out) hb)
           have n7_ := z0 (blk_below (g := gb1079) (o := .cells #[.slice Ao13 t1069.length co13, .slice Ao15 t1072.length co15, .slice Ao16 t1075.length co16] 44 (0, 0)) (mK BK1079.out) hb)
           have n8_ := z0 (blk_below (g := gb1096) (o := .cells #[.int .i64 t1089, .int .i64 t1090, .int .i64 t1091, .int .i64 t1092, .slice Ao44 t1093.length co44] 32 (0, 0)) (mK BK1096.out) hb)
           have n9_ := z0 (below_step (mB HB.out) hb)
           clear HO_1079004 HO_1080000 HO_1080001 HO_1080002 HO_1097004 BK1078 BK1079 BK1096 HB
           have HO_1079004 := n0_
           have HO_1080000 := n1_
           have HO_1080001 := n2_
           have HO_1080002 := n3_
           have HO_1097004 := n4_
           have HO1108 := n5_
           have BK1078 := n6_
           have BK1079 := n7_
           have BK1096 := n8_
           have HB := n9_
           clear n0_ n1_ n2_ n3_ n4_ n5_ n6_ n7_ n8_ n9_
           (try clear hb)
           (try clear hb2)
           (try clear hk)
           (try clear hi)
           (try clear ho0)
           obtain ⟨Ao71, co71, eo71⟩ := Kd.N_slice HO1108.out
           (first | subst eo71 | (injection eo71 with f1_ f2_ f3_; have f4_ := f1_.symm; have f5_ := f3_.symm; clear f1_ f2_ f3_; subst f4_; subst f5_))
           refine hK.out _ _ ⟨(blk_cell BK1096.out 0).trans rfl, (blk_cell BK1096.out 1).trans rfl, (blk_cell BK1096.out 2).trans rfl, (blk_cell BK1096.out 3).trans rfl, (blk_cell BK1096.out 4).trans rfl, (blk_cell BK1079.out 0).trans rfl, (blk_cell BK1079.out 1).trans rfl, (blk_cell BK1079.out 2).trans rfl, (blk_cell BK1078.out 0).trans rfl, (blk_cell BK1078.out 1).trans rfl, (blk_cell BK1078.out 2).trans rfl, (blk_cell BK1078.out 3).trans rfl, (blk_cell BK1078.out 4).trans rfl⟩ (fun hHeld => ?_)
           clear hK K
           refine norm_ (a' := ?_) ?_ ?_
           rotate_left
           ·show Act.put _ (some 55) _ = _
            simp only [Act.put, List.setIfInBounds_toArray, List.set_cons_zero, List.set_cons_succ, i64_w, i32_w]
            rfl
           refine one_ (i := 11) (N := some 56) #[true, true, true, true, true, true, true, true, true, true, true, true, true, false, false, false, false, false, false, false, false, false, false, false, false] rfl rfl (one_of HT_.out (by kernel_rfl)) (by decide) (fun K hK => ?_)
           refine goes_ Try.func37 (by kernel_rfl) rfl #[.int .i64 9, .agg #[.int .i64 t1062, .int .i64 t1063, .int .i64 t1064, .int .i64 t1065, .slice Ao12 t1066.length co12], .agg #[.int .i64 t1102, .int .i64 t1103, .int .i64 t1104, .int .i64 t1105, .slice Ao71 t1106.length co71]] (by rfl) rfl rfl argx ?_
           with_reducible refine (laws_wqTwo.calls 9 t1062 t1063 t1064 t1065 (fun k_ => ((nB k_ (.slice Ao13 t1069.length co13) ∧ (nB k_ (.slice Ao15 t1072.length co15) ∧ (nB k_ (.slice Ao16 t1075.length co16) ∧ (nB k_ (.slice Ao44 t1093.length co44) ∧ (k_ ≠ gb1078 ∧ (k_ ≠ gb1079 ∧ k_ ≠ gb1096)))))) ∧ nB k_ (.slice Ao71 t1106.length co71))) _ _ t1066 t1102 t1103 t1104 t1105 (fun k_ => (nB k_ (.slice Ao13 t1069.length co13) ∧ (nB k_ (.slice Ao15 t1072.length co15) ∧ (nB k_ (.slice Ao16 t1075.length co16) ∧ (nB k_ (.slice Ao44 t1093.length co44) ∧ (k_ ≠ gb1078 ∧ (k_ ≠ gb1079 ∧ k_ ≠ gb1096))))))) _ _ t1106 t1109 t1110 t1111 t1112 t1113 _ ?side1 ?side2 A65.out).mono ?_
           (case side1 => exact Kd.N_V (HO_1079004.out))
           (case side2 => exact Kd.N_V (HO1108.out))
           rintro e w72 ⟨v1114, rfl, ho0, hb⟩
           refine ⟨_, rfl, ?_⟩
           have n0_ := z0 (Kd.N_elder' (mN HO_1079004.out) (by first | exact Kd.N_base ho0 | exact Kd.R_base ho0) hb)
           have n1_ := z0 (Kd.R_below (mR HO_1080000.out) hb)
           have n2_ := z0 (Kd.R_below (mR HO_1080001.out) hb)
           have n3_ := z0 (Kd.R_below (mR HO_1080002.out) hb)
           have n4_ := z0 (Kd.N_elder' (mN HO_1097004.out) (by first | exact Kd.N_base ho0 | exact Kd.R_base ho0) hb)
           have n5_ := z0 (Kd.N_elder' (mN HO1108.out) (by first | exact Kd.N_base ho0 | exact Kd.R_base ho0) hb)
           have n6_ := z0 (Kd.N_lower (Kd.N_mono (ok' := fun k_ => nB k_ (.slice Ao13 t1069.length co13) ∧ nB k_ (.slice Ao15 t1072.length co15) ∧ nB k_ (.slice Ao16 t1075.length co16) ∧ nB k_ (.slice Ao44 t1093.length co44) ∧ k_ ≠ gb1078 ∧ k_ ≠ gb1079 ∧ k_ ≠ gb1096) ho0 (fun k_ hk_ => ⟨Or.elim hk_ (fun hs_ => Or.elim hs_ (fun hs_ => hs_.1.1) (fun hs_ => hs_.1)) (fun hn_ => (Kd.fresh' (Kd.R_lt (mR HO_1080000.out)) k_ hn_)), Or.elim hk_ (fun hs_ => Or.elim hs_ (fun hs_ => hs_.1.2.1) (fun hs_ => hs_.2.1)) (fun hn_ => (Kd.fresh' (Kd.R_lt (mR HO_1080001.out)) k_ hn_)), Or.elim hk_ (fun hs_ => Or.elim hs_ (fun hs_ => hs_.1.2.2.1) (fun hs_ => hs_.2.2.1)) (fun hn_ => (Kd.fresh' (Kd.R_lt (mR HO_1080002.out)) k_ hn_)), Or.elim hk_ (fun hs_ => Or.elim hs_ (fun hs_ => hs_.1.2.2.2.1) (fun hs_ => hs_.2.2.2.1)) (fun hn_ => (Kd.fresh' (Kd.N_lt (mN HO_1097004.out)) k_ hn_)), Or.elim hk_ (fun hs_ => Or.elim hs_ (fun hs_ => hs_.1.2.2.2.2.1) (fun hs_ => hs_.2.2.2.2.1)) (fun hn_ => (Kd.freshB (g := gb1078) (o := .cells #[.int .i64 t1062, .int .i64 t1063, .int .i64 t1064, .int .i64 t1065, .slice Ao12 t1066.length co12] 32 (0, 0)) (mK BK1078.out) k_ hn_)), Or.elim hk_ (fun hs_ => Or.elim hs_ (fun hs_ => hs_.1.2.2.2.2.2.1) (fun hs_ => hs_.2.2.2.2.2.1)) (fun hn_ => (Kd.freshB (g := gb1079) (o := .cells #[.slice Ao13 t1069.length co13, .slice Ao15 t1072.length co15, .slice Ao16 t1075.length co16] 44 (0, 0)) (mK BK1079.out) k_ hn_)), Or.elim hk_ (fun hs_ => Or.elim hs_ (fun hs_ => hs_.1.2.2.2.2.2.2) (fun hs_ => hs_.2.2.2.2.2.2)) (fun hn_ => (Kd.freshB (g := gb1096) (o := .cells #[.int .i64 t1089, .int .i64 t1090, .int .i64 t1091, .int .i64 t1092, .slice Ao44 t1093.length co44] 32 (0, 0)) (mK BK1096.out) k_ hn_))⟩)) (below_size (mB HB.out)))
           have n7_ := z0 (blk_below (g := gb1078) (o := .cells #[.int .i64 t1062, .int .i64 t1063, .int .i64 t1064, .int .i64 t1065, .slice Ao12 t1066.length co12] 32 (0, 0)) (mK BK1078.out) hb)
           have n8_ := z0 (blk_below (g := gb1079) (o := .cells #[.slice Ao13 t1069.length co13, .slice Ao15 t1072.length co15, .slice Ao16 t1075.length co16] 44 (0, 0)) (mK BK1079.out) hb)
           have n9_ := z0 (blk_below (g := gb1096) (o := .cells #[.int .i64 t1089, .int .i64 t1090, .int .i64 t1091, .int .i64 t1092, .slice Ao44 t1093.length co44] 32 (0, 0)) (mK BK1096.out) hb)
           have n10_ := z0 (below_step (mB HB.out) hb)
           clear HO_1079004 HO_1080000 HO_1080001 HO_1080002 HO_1097004 HO1108 BK1078 BK1079 BK1096 HB
           have HO_1079004 := n0_
           have HO_1080000 := n1_
           have HO_1080001 := n2_
           have HO_1080002 := n3_
           have HO_1097004 := n4_
           have HO1108 := n5_
           have HO1115 := n6_
           have BK1078 := n7_
           have BK1079 := n8_
           have BK1096 := n9_
           have HB := n10_
           clear n0_ n1_ n2_ n3_ n4_ n5_ n6_ n7_ n8_ n9_ n10_
           (try clear hb)
           (try clear hb2)
           (try clear hk)
           (try clear hi)
           (try clear ho0)
           obtain ⟨Ao73, co73, eo73⟩ := Kd.N_slice HO1115.out
           (first | subst eo73 | (injection eo73 with f1_ f2_ f3_; have f4_ := f1_.symm; have f5_ := f3_.symm; clear f1_ f2_ f3_; subst f4_; subst f5_))
           refine hK.out _ _ ⟨(blk_cell BK1096.out 0).trans rfl, (blk_cell BK1096.out 1).trans rfl, (blk_cell BK1096.out 2).trans rfl, (blk_cell BK1096.out 3).trans rfl, (blk_cell BK1096.out 4).trans rfl, (blk_cell BK1079.out 0).trans rfl, (blk_cell BK1079.out 1).trans rfl, (blk_cell BK1079.out 2).trans rfl, (blk_cell BK1078.out 0).trans rfl, (blk_cell BK1078.out 1).trans rfl, (blk_cell BK1078.out 2).trans rfl, (blk_cell BK1078.out 3).trans rfl, (blk_cell BK1078.out 4).trans rfl⟩ (fun hHeld => ?_)
           clear hK K
           refine norm_ (a' := ?_) ?_ ?_
           rotate_left
           ·show Act.put _ (some 56) _ = _
            simp only [Act.put, List.setIfInBounds_toArray, List.set_cons_zero, List.set_cons_succ, i64_w, i32_w]
            rfl
           refine one_ (i := 13) (N := some 58) #[true, true, true, true, true, true, true, true, true, true, true, true, true, true, false, false, false, false, false, false, false, false, false, false, false] rfl rfl (one_of HT_.out (by kernel_rfl)) (by decide) (fun K hK => ?_)
           refine goes_ Try.func26 (by kernel_rfl) rfl #[.agg #[.int .i64 t1109, .int .i64 t1110, .int .i64 t1111, .int .i64 t1112, .slice Ao73 t1113.length co73], .agg #[.slice Ao13 t1069.length co13, .slice Ao15 t1072.length co15, .slice Ao16 t1075.length co16]] (by rfl) rfl rfl argx ?_
           with_reducible refine (impl_ExprOf.calls t1109 t1110 t1111 t1112 _ _ t1113 _ _ t1069 _ _ t1072 _ _ t1075 t1116 _ ?side1 ?side2 ?side3 ?side4 ?side5 ?side6 ?side7 ?side8 A66.out).mono ?_
           (case side1 => exact mC (Kd.N_reads' HO1115.out).2.2)
           (case side2 => exact (Kd.N_reads' HO1115.out).2.1)
           (case side3 => exact mC (Kd.R_reads' HO_1080000.out).2.2)
           (case side4 => exact (Kd.R_reads' HO_1080000.out).2.1)
           (case side5 => exact mC (Kd.R_reads' HO_1080001.out).2.2)
           (case side6 => exact (Kd.R_reads' HO_1080001.out).2.1)
           (case side7 => exact mC (Kd.R_reads' HO_1080002.out).2.2)
           (case side8 => exact (Kd.R_reads' HO_1080002.out).2.1)
           rintro e w74 ⟨rfl, hb⟩
           refine ⟨_, rfl, ?_⟩
           have n0_ := z0 (Kd.N_below (mN HO_1079004.out) hb)
           have n1_ := z0 (Kd.R_below (mR HO_1080000.out) hb)
           have n2_ := z0 (Kd.R_below (mR HO_1080001.out) hb)
           have n3_ := z0 (Kd.R_below (mR HO_1080002.out) hb)
           have n4_ := z0 (Kd.N_below (mN HO_1097004.out) hb)
           have n5_ := z0 (Kd.N_below (mN HO1108.out) hb)
           have n6_ := z0 (Kd.N_below (mN HO1115.out) hb)
           have n7_ := z0 (blk_below (g := gb1078) (o := .cells #[.int .i64 t1062, .int .i64 t1063, .int .i64 t1064, .int .i64 t1065, .slice Ao12 t1066.length co12] 32 (0, 0)) (mK BK1078.out) hb)
           have n8_ := z0 (blk_below (g := gb1079) (o := .cells #[.slice Ao13 t1069.length co13, .slice Ao15 t1072.length co15, .slice Ao16 t1075.length co16] 44 (0, 0)) (mK BK1079.out) hb)
           have n9_ := z0 (blk_below (g := gb1096) (o := .cells #[.int .i64 t1089, .int .i64 t1090, .int .i64 t1091, .int .i64 t1092, .slice Ao44 t1093.length co44] 32 (0, 0)) (mK BK1096.out) hb)
           have n10_ := z0 (below_step (mB HB.out) hb)
           clear HO_1079004 HO_1080000 HO_1080001 HO_1080002 HO_1097004 HO1108 HO1115 BK1078 BK1079 BK1096 HB
           have HO_1079004 := n0_
           have HO_1080000 := n1_
           have HO_1080001 := n2_
           have HO_1080002 := n3_
           have HO_1097004 := n4_
           have HO1108 := n5_
           have HO1115 := n6_
           have BK1078 := n7_
           have BK1079 := n8_
           have BK1096 := n9_
           have HB := n10_
           clear n0_ n1_ n2_ n3_ n4_ n5_ n6_ n7_ n8_ n9_ n10_
           (try clear hb)
           (try clear hb2)
           (try clear hk)
           (try clear hi)
           refine hK.out _ _ ⟨(blk_cell BK1096.out 0).trans rfl, (blk_cell BK1096.out 1).trans rfl, (blk_cell BK1096.out 2).trans rfl, (blk_cell BK1096.out 3).trans rfl, (blk_cell BK1096.out 4).trans rfl, (blk_cell BK1079.out 0).trans rfl, (blk_cell BK1079.out 1).trans rfl, (blk_cell BK1079.out 2).trans rfl, (blk_cell BK1078.out 0).trans rfl, (blk_cell BK1078.out 1).trans rfl, (blk_cell BK1078.out 2).trans rfl, (blk_cell BK1078.out 3).trans rfl, (blk_cell BK1078.out 4).trans rfl⟩ (fun hHeld => ?_)
           clear hK K
           refine norm_ (a' := ?_) ?_ ?_
           rotate_left
           ·show Act.put _ (some 58) _ = _
            simp only [Act.put, List.setIfInBounds_toArray, List.set_cons_zero, List.set_cons_succ, i64_w, i32_w]
            rfl
           refine pure_ (i := 14) (N := some 59) (v := ?_) (a' := ?_) #[true, true, true, true, true, true, true, true, true, true, true, true, true, true, true, false, false, false, false, false, false, false, false, false, false] rfl rfl (any_of HT_.out (by kernel_rfl)) (fun _ _ _ h => h) (Or.inl ⟨by rfl, ?_⟩) ?_ ?_
           rotate_left
           ·intro w'
            go_simp
            with_reducible rfl
           rotate_left
           ·simp only [Act.put, List.setIfInBounds_toArray, List.set_cons_zero, List.set_cons_succ, i64_w, i32_w]
            rfl
           refine pure_ (i := 15) (N := some 60) (v := ?_) (a' := ?_) #[true, true, true, true, true, true, true, true, true, true, true, true, true, true, true, true, false, false, false, false, false, false, false, false, false] rfl rfl (any_of HT_.out (by kernel_rfl)) (fun _ _ _ h => h) (Or.inl ⟨by rfl, ?_⟩) ?_ ?_
           rotate_left
           ·intro w'
            go_simp
            with_reducible rfl
           rotate_left
           ·simp only [Act.put, List.setIfInBounds_toArray, List.set_cons_zero, List.set_cons_succ, i64_w, i32_w]
            rfl
           refine pure_ (i := 16) (N := some 61) (v := ?_) (a' := ?_) #[true, true, true, true, true, true, true, true, true, true, true, true, true, true, true, true, true, false, false, false, false, false, false, false, false] rfl rfl (any_of HT_.out (by kernel_rfl)) (fun _ _ _ h => h) (Or.inl ⟨by rfl, ?_⟩) ?_ ?_
           rotate_left
           ·intro w'
            go_simp
            with_reducible rfl
           rotate_left
           ·simp only [Act.put, List.setIfInBounds_toArray, List.set_cons_zero, List.set_cons_succ, i64_w, i32_w]
            rfl
           refine pure_ (i := 17) (N := some 62) (v := undef) (a' := ?_) #[true, true, true, true, true, true, true, true, true, true, true, true, true, true, true, true, true, true, false, false, false, false, false, false, false] rfl rfl (any_of HT_.out (by kernel_rfl)) (fun _ _ _ h => h) (Or.inr ⟨by rfl, rfl⟩) ?_ ?_
           rotate_left
           ·simp only [Act.put, List.setIfInBounds_toArray, List.set_cons_zero, List.set_cons_succ, i64_w, i32_w]
            rfl
           refine pure_ (i := 18) (N := some 63) (v := undef) (a' := ?_) #[true, true, true, true, true, true, true, true, true, true, true, true, true, true, true, true, true, true, true, false, false, false, false, false, false] rfl rfl (any_of HT_.out (by kernel_rfl)) (fun _ _ _ h => h) (Or.inr ⟨by rfl, rfl⟩) ?_ ?_
           rotate_left
           ·simp only [Act.put, List.setIfInBounds_toArray, List.set_cons_zero, List.set_cons_succ, i64_w, i32_w]
            rfl
           refine pure_ (i := 19) (N := some 64) (v := undef) (a' := ?_) #[true, true, true, true, true, true, true, true, true, true, true, true, true, true, true, true, true, true, true, true, false, false, false, false, false] rfl rfl (any_of HT_.out (by kernel_rfl)) (fun _ _ _ h => h) (Or.inr ⟨by rfl, rfl⟩) ?_ ?_
           rotate_left
           ·simp only [Act.put, List.setIfInBounds_toArray, List.set_cons_zero, List.set_cons_succ, i64_w, i32_w]
            rfl
           refine pure_ (i := 20) (N := some 65) (v := undef) (a' := ?_) #[true, true, true, true, true, true, true, true, true, true, true, true, true, true, true, true, true, true, true, true, true, false, false, false, false] rfl rfl (any_of HT_.out (by kernel_rfl)) (fun _ _ _ h => h) (Or.inr ⟨by rfl, rfl⟩) ?_ ?_
           rotate_left
           ·simp only [Act.put, List.setIfInBounds_toArray, List.set_cons_zero, List.set_cons_succ, i64_w, i32_w]
            rfl
           refine pure_ (i := 21) (N := some 66) (v := undef) (a' := ?_) #[true, true, true, true, true, true, true, true, true, true, true, true, true, true, true, true, true, true, true, true, true, true, false, false, false] rfl rfl (any_of HT_.out (by kernel_rfl)) (fun _ _ _ h => h) (Or.inr ⟨by rfl, rfl⟩) ?_ ?_
           rotate_left
           ·simp only [Act.put, List.setIfInBounds_toArray, List.set_cons_zero, List.set_cons_succ, i64_w, i32_w]
            rfl
           refine pure_ (i := 22) (N := some 67) (v := undef) (a' := ?_) #[true, true, true, true, true, true, true, true, true, true, true, true, true, true, true, true, true, true, true, true, true, true, true, false, false] rfl rfl (any_of HT_.out (by kernel_rfl)) (fun _ _ _ h => h) (Or.inr ⟨by rfl, rfl⟩) ?_ ?_
           rotate_left
           ·simp only [Act.put, List.setIfInBounds_toArray, List.set_cons_zero, List.set_cons_succ, i64_w, i32_w]
            rfl
           refine pure_ (i := 23) (N := some 68) (v := ?_) (a' := ?_) #[true, true, true, true, true, true, true, true, true, true, true, true, true, true, true, true, true, true, true, true, true, true, true, true, false] rfl rfl (any_of HT_.out (by kernel_rfl)) (fun _ _ _ h => h) (Or.inl ⟨by rfl, ?_⟩) ?_ ?_
           rotate_left
           ·intro w'
            go_simp
            with_reducible rfl
           rotate_left
           ·simp only [Act.put, List.setIfInBounds_toArray, List.set_cons_zero, List.set_cons_succ, i64_w, i32_w]
            rfl
           refine pure_ (i := 24) (N := some 2) (v := ?_) (a' := ?_) #[true, true, true, true, true, true, true, true, true, true, true, true, true, true, true, true, true, true, true, true, true, true, true, true, true] rfl rfl (any_of HT_.out (by kernel_rfl)) (fun _ _ _ h => h) (Or.inl ⟨by rfl, ?_⟩) ?_ ?_
           rotate_left
           ·intro w'
            go_simp
            with_reducible rfl
           rotate_left
           ·simp only [Act.put, List.setIfInBounds_toArray, List.set_cons_zero, List.set_cons_succ, i64_w, i32_w]
            rfl
           refine done_ (done_of HT_.out (by kernel_rfl)) ?_
           try go_wp2
           go_ret
           exact ⟨rfx, mB HB.out⟩
          ·rw [if_neg c67] at H
           have c67b0 : (t1116 == 1) = false := beq_eq_false_iff_ne.mpr c67
           have c67b1 : (t1116 != 1) = true := bne_iff_ne.mpr c67
           replace H := Option.bind_eq_some_iff.mp H
           obtain ⟨⟨t1117, t1118, t1119, t1120, t1121⟩, A750, H⟩ := H
           replace H : ((laws_wqTwo.f 9 t1062 t1063 t1064 t1065 t1066 t1117 t1118 t1119 t1120 t1121).bind fun bt1124 => ((impl_ExprOk.f bt1124.1 bt1124.2.1 bt1124.2.2.1 bt1124.2.2.2.1 bt1124.2.2.2.2).bind fun t1131 => (some (!t1131)))) = some r := H
           have A75 := z0 A750
           clear A750
           replace H := Option.bind_eq_some_iff.mp H
           obtain ⟨⟨t1124, t1125, t1126, t1127, t1128⟩, A760, H⟩ := H
           replace H : ((impl_ExprOk.f t1124 t1125 t1126 t1127 t1128).bind fun t1131 => (some (!t1131))) = some r := H
           have A76 := z0 A760
           clear A760
           replace H := Option.bind_eq_some_iff.mp H
           obtain ⟨t1131, A770, H⟩ := H
           replace H : (some (!t1131)) = some r := H
           have A77 := z0 A770
           clear A770
           obtain rfl := Option.some.inj H
           try go_wp2
           have n0_ := z0 (Kd.N_drew HO_1079004.out)
           have n1_ := z0 (Kd.R_drew HO_1080000.out)
           have n2_ := z0 (Kd.R_drew HO_1080001.out)
           have n3_ := z0 (Kd.R_drew HO_1080002.out)
           have n4_ := z0 (Kd.N_drew HO_1097004.out)
           have n5_ := z0 (blk_drew BK1078.out)
           have n6_ := z0 (blk_drew BK1079.out)
           have n7_ := z0 (blk_drew BK1096.out)
           have n8_ := z0 (below_drew1 HB.out)
           clear HO_1079004 HO_1080000 HO_1080001 HO_1080002 HO_1097004 BK1078 BK1079 BK1096 HB
           have HO_1079004 := n0_
           have HO_1080000 := n1_
           have HO_1080001 := n2_
           have HO_1080002 := n3_
           have HO_1097004 := n4_
           have BK1078 := n5_
           have BK1079 := n6_
           have BK1096 := n7_
           have HB := n8_
           clear n0_ n1_ n2_ n3_ n4_ n5_ n6_ n7_ n8_
           refine start_ (n := 25) (S := fun w' => w'.cell? ⟨gb1096, 0, none⟩ = some (.int .i64 t1089) ∧ w'.cell? ⟨gb1096, 1, none⟩ = some (.int .i64 t1090) ∧ w'.cell? ⟨gb1096, 2, none⟩ = some (.int .i64 t1091) ∧ w'.cell? ⟨gb1096, 3, none⟩ = some (.int .i64 t1092) ∧ w'.cell? ⟨gb1096, 4, none⟩ = some (.slice Ao44 t1093.length co44) ∧ w'.cell? ⟨gb1079, 0, none⟩ = some (.slice Ao13 t1069.length co13) ∧ w'.cell? ⟨gb1079, 1, none⟩ = some (.slice Ao15 t1072.length co15) ∧ w'.cell? ⟨gb1079, 2, none⟩ = some (.slice Ao16 t1075.length co16) ∧ w'.cell? ⟨gb1078, 0, none⟩ = some (.int .i64 t1062) ∧ w'.cell? ⟨gb1078, 1, none⟩ = some (.int .i64 t1063) ∧ w'.cell? ⟨gb1078, 2, none⟩ = some (.int .i64 t1064) ∧ w'.cell? ⟨gb1078, 3, none⟩ = some (.int .i64 t1065) ∧ w'.cell? ⟨gb1078, 4, none⟩ = some (.slice Ao12 t1066.length co12)) (ds := []) #[false, false, false, false, false, false, false, false, false, false, false, false, false, false, false, false, false, false, false, false, false, false, false, false, false] (by kernel_rfl) rfl rfl ⟨(blk_cell BK1096.out 0).trans rfl, (blk_cell BK1096.out 1).trans rfl, (blk_cell BK1096.out 2).trans rfl, (blk_cell BK1096.out 3).trans rfl, (blk_cell BK1096.out 4).trans rfl, (blk_cell BK1079.out 0).trans rfl, (blk_cell BK1079.out 1).trans rfl, (blk_cell BK1079.out 2).trans rfl, (blk_cell BK1078.out 0).trans rfl, (blk_cell BK1078.out 1).trans rfl, (blk_cell BK1078.out 2).trans rfl, (blk_cell BK1078.out 3).trans rfl, (blk_cell BK1078.out 4).trans rfl⟩ (fun hHeld => ?_); refine with_tabW laws_FnExprOn.tab12 laws_FnExprOn.bits12 (fun HT_ HW_ => ?_)
           generalize wc.drew = w78 at HO_1079004 HO_1080000 HO_1080001 HO_1080002 HO_1097004 BK1078 BK1079 BK1096 HB hHeld ⊢
           refine pure_ (i := 3) (N := some 48) (v := ?_) (a' := ?_) #[false, false, false, true, false, false, false, false, false, false, false, false, false, false, false, false, false, false, false, false, false, false, false, false, false] rfl rfl (any_of HT_.out (by kernel_rfl)) (fun _ _ _ h => h) (Or.inl ⟨by rfl, ?_⟩) ?_ ?_
           rotate_left
           ·intro w'
            go_simp
            with_reducible rfl
           rotate_left
           ·simp only [Act.put, List.setIfInBounds_toArray, List.set_cons_zero, List.set_cons_succ, i64_w, i32_w]
            rfl
           refine take_ (i := 0) (N := some 45) (v := ?_) (a' := ?_) #[true, false, false, true, false, false, false, false, false, false, false, false, false, false, false, false, false, false, false, false, false, false, false, false, false] rfl rfl (take_ofW HT_.out HW_.out (by kernel_rfl)) (fun _ _ _ h => h) (Or.inl ⟨by rfl, ?_⟩) hHeld ?_ ?_
           rotate_left
           ·rintro w' ⟨s0, s1, s2, s3, s4, s5, s6, s7, s8, s9, s10, s11, s12⟩
            go_simp
            with_reducible rfl
           rotate_left
           ·simp only [Act.put, List.setIfInBounds_toArray, List.set_cons_zero, List.set_cons_succ, i64_w, i32_w]
            rfl
           refine take_ (i := 1) (N := some 46) (v := ?_) (a' := ?_) #[true, true, false, true, false, false, false, false, false, false, false, false, false, false, false, false, false, false, false, false, false, false, false, false, false] rfl rfl (take_ofW HT_.out HW_.out (by kernel_rfl)) (fun _ _ _ h => h) (Or.inl ⟨by rfl, ?_⟩) hHeld ?_ ?_
           rotate_left
           ·rintro w' ⟨s0, s1, s2, s3, s4, s5, s6, s7, s8, s9, s10, s11, s12⟩
            go_simp
            with_reducible rfl
           rotate_left
           ·simp only [Act.put, List.setIfInBounds_toArray, List.set_cons_zero, List.set_cons_succ, i64_w, i32_w]
            rfl
           refine one_ (i := 2) (N := some 47) #[true, true, true, true, false, false, false, false, false, false, false, false, false, false, false, false, false, false, false, false, false, false, false, false, false] rfl rfl (one_of HT_.out (by kernel_rfl)) (by decide) (fun K hK => ?_)
           refine goes_ Try.func26 (by kernel_rfl) rfl #[.agg #[.int .i64 t1089, .int .i64 t1090, .int .i64 t1091, .int .i64 t1092, .slice Ao44 t1093.length co44], .agg #[.slice Ao13 t1069.length co13, .slice Ao15 t1072.length co15, .slice Ao16 t1075.length co16]] (by rfl) rfl rfl argx ?_
           with_reducible refine (impl_ExprOf.calls t1089 t1090 t1091 t1092 _ _ t1093 _ _ t1069 _ _ t1072 _ _ t1075 t1099 _ ?side1 ?side2 ?side3 ?side4 ?side5 ?side6 ?side7 ?side8 A60.out).mono ?_
           (case side1 => exact mC (Kd.N_reads' HO_1097004.out).2.2)
           (case side2 => exact (Kd.N_reads' HO_1097004.out).2.1)
           (case side3 => exact mC (Kd.R_reads' HO_1080000.out).2.2)
           (case side4 => exact (Kd.R_reads' HO_1080000.out).2.1)
           (case side5 => exact mC (Kd.R_reads' HO_1080001.out).2.2)
           (case side6 => exact (Kd.R_reads' HO_1080001.out).2.1)
           (case side7 => exact mC (Kd.R_reads' HO_1080002.out).2.2)
           (case side8 => exact (Kd.R_reads' HO_1080002.out).2.1)
           rintro e w79 ⟨rfl, hb⟩
           refine ⟨_, rfl, ?_⟩
           have n0_ := z0 (Kd.N_below (mN HO_1079004.out) hb)
           have n1_ := z0 (Kd.R_below (mR HO_1080000.out) hb)
           have n2_ := z0 (Kd.R_below (mR HO_1080001.out) hb)
           have n3_ := z0 (Kd.R_below (mR HO_1080002.out) hb)
           have n4_ := z0 (Kd.N_below (mN HO_1097004.out) hb)
           have n5_ := z0 (blk_below (g := gb1078) (o := .cells #[.int .i64 t1062, .int .i64 t1063, .int .i64 t1064, .int .i64 t1065, .slice Ao12 t1066.length co12] 32 (0, 0)) (mK BK1078.out) hb)
           have n6_ := z0 (blk_below (g := gb1079) (o := .cells #[.slice Ao13 t1069.length co13, .slice Ao15 t1072.length co15, .slice Ao16 t1075.length co16] 44 (0, 0)) (mK BK1079.out) hb)
           have n7_ := z0 (blk_below (g := gb1096) (o := .cells #[.int .i64 t1089, .int .i64 t1090, .int .i64 t1091, .int .i64 t1092, .slice Ao44 t1093.length co44] 32 (0, 0)) (mK BK1096.out) hb)
           have n8_ := z0 (below_step (mB HB.out) hb)
           clear HO_1079004 HO_1080000 HO_1080001 HO_1080002 HO_1097004 BK1078 BK1079 BK1096 HB
           have HO_1079004 := n0_
           have HO_1080000 := n1_
           have HO_1080001 := n2_
           have HO_1080002 := n3_
           have HO_1097004 := n4_
           have BK1078 := n5_
           have BK1079 := n6_
           have BK1096 := n7_
           have HB := n8_
           clear n0_ n1_ n2_ n3_ n4_ n5_ n6_ n7_ n8_
           (try clear hb)
           (try clear hb2)
           (try clear hk)
           (try clear hi)
           refine hK.out _ _ ⟨(blk_cell BK1096.out 0).trans rfl, (blk_cell BK1096.out 1).trans rfl, (blk_cell BK1096.out 2).trans rfl, (blk_cell BK1096.out 3).trans rfl, (blk_cell BK1096.out 4).trans rfl, (blk_cell BK1079.out 0).trans rfl, (blk_cell BK1079.out 1).trans rfl, (blk_cell BK1079.out 2).trans rfl, (blk_cell BK1078.out 0).trans rfl, (blk_cell BK1078.out 1).trans rfl, (blk_cell BK1078.out 2).trans rfl, (blk_cell BK1078.out 3).trans rfl, (blk_cell BK1078.out 4).trans rfl⟩ (fun hHeld => ?_)
           clear hK K
           refine norm_ (a' := ?_) ?_ ?_
           rotate_left
           ·show Act.put _ (some 47) _ = _
            simp only [Act.put, List.setIfInBounds_toArray, List.set_cons_zero, List.set_cons_succ, i64_w, i32_w]
            rfl
           refine one_ (i := 4) (N := some 49) #[true, true, true, true, true, false, false, false, false, false, false, false, false, false, false, false, false, false, false, false, false, false, false, false, false] rfl rfl (one_of HT_.out (by kernel_rfl)) (by decide) (fun K hK => ?_)
           refine goes_ Try.func41 (by kernel_rfl) rfl #[.int .i64 t1080] (by rfl) rfl rfl argx ?_
           with_reducible refine (impl_NumOn.calls t1080 t1100 _ A61.out).mono ?_
           rintro e w' ⟨rfl, ⟨nd, rfl⟩⟩
           refine ⟨_, rfl, ?_⟩
           refine hK.out _ _ ⟨(blk_cell BK1096.out 0).trans rfl, (blk_cell BK1096.out 1).trans rfl, (blk_cell BK1096.out 2).trans rfl, (blk_cell BK1096.out 3).trans rfl, (blk_cell BK1096.out 4).trans rfl, (blk_cell BK1079.out 0).trans rfl, (blk_cell BK1079.out 1).trans rfl, (blk_cell BK1079.out 2).trans rfl, (blk_cell BK1078.out 0).trans rfl, (blk_cell BK1078.out 1).trans rfl, (blk_cell BK1078.out 2).trans rfl, (blk_cell BK1078.out 3).trans rfl, (blk_cell BK1078.out 4).trans rfl⟩ (fun hHeld => ?_)
           clear hK K
           refine norm_ (a' := ?_) ?_ ?_
           rotate_left
           ·show Act.put _ (some 49) _ = _
            simp only [Act.put, List.setIfInBounds_toArray, List.set_cons_zero, List.set_cons_succ, i64_w, i32_w]
            rfl
           refine one_ (i := 5) (N := some 50) #[true, true, true, true, true, true, false, false, false, false, false, false, false, false, false, false, false, false, false, false, false, false, false, false, false] rfl rfl (one_of HT_.out (by kernel_rfl)) (by decide) (fun K hK => ?_)
           refine goes_ Try.func40 (by kernel_rfl) rfl #[.bool t1100] (by rfl) rfl rfl argx ?_
           with_reducible refine (impl_NumIs.calls t1100 t1101 _ A62.out).mono ?_
           rintro e w' ⟨rfl, ⟨nd, rfl⟩⟩
           refine ⟨_, rfl, ?_⟩
           refine hK.out _ _ ⟨(blk_cell BK1096.out 0).trans rfl, (blk_cell BK1096.out 1).trans rfl, (blk_cell BK1096.out 2).trans rfl, (blk_cell BK1096.out 3).trans rfl, (blk_cell BK1096.out 4).trans rfl, (blk_cell BK1079.out 0).trans rfl, (blk_cell BK1079.out 1).trans rfl, (blk_cell BK1079.out 2).trans rfl, (blk_cell BK1078.out 0).trans rfl, (blk_cell BK1078.out 1).trans rfl, (blk_cell BK1078.out 2).trans rfl, (blk_cell BK1078.out 3).trans rfl, (blk_cell BK1078.out 4).trans rfl⟩ (fun hHeld => ?_)
           clear hK K
           refine norm_ (a' := ?_) ?_ ?_
           rotate_left
           ·show Act.put _ (some 50) _ = _
            simp only [Act.put, List.setIfInBounds_toArray, List.set_cons_zero, List.set_cons_succ, i64_w, i32_w]
            rfl
           refine pure_ (i := 6) (N := some 51) (v := ?_) (a' := ?_) #[true, true, true, true, true, true, true, false, false, false, false, false, false, false, false, false, false, false, false, false, false, false, false, false, false] rfl rfl (any_of HT_.out (by kernel_rfl)) (fun _ _ _ h => h) (Or.inl ⟨by rfl, ?_⟩) ?_ ?_
           rotate_left
           ·intro w'
            go_simp
            with_reducible rfl
           rotate_left
           ·simp only [Act.put, List.setIfInBounds_toArray, List.set_cons_zero, List.set_cons_succ, i64_w, i32_w]
            rfl
           refine pure_ (i := 7) (N := some 52) (v := ?_) (a' := ?_) #[true, true, true, true, true, true, true, true, false, false, false, false, false, false, false, false, false, false, false, false, false, false, false, false, false] rfl rfl (any_of HT_.out (by kernel_rfl)) (fun _ _ _ h => h) (Or.inl ⟨by rfl, ?_⟩) ?_ ?_
           rotate_left
           ·intro w'
            go_simp
            with_reducible rfl
           rotate_left
           ·simp only [Act.put, List.setIfInBounds_toArray, List.set_cons_zero, List.set_cons_succ, i64_w, i32_w]
            rfl
           refine take_ (i := 8) (N := some 53) (v := ?_) (a' := ?_) #[true, true, true, true, true, true, true, true, true, false, false, false, false, false, false, false, false, false, false, false, false, false, false, false, false] rfl rfl (take_ofW HT_.out HW_.out (by kernel_rfl)) (fun _ _ _ h => h) (Or.inl ⟨by rfl, ?_⟩) hHeld ?_ ?_
           rotate_left
           ·rintro w' ⟨s0, s1, s2, s3, s4, s5, s6, s7, s8, s9, s10, s11, s12⟩
            go_simp
            with_reducible rfl
           rotate_left
           ·simp only [Act.put, List.setIfInBounds_toArray, List.set_cons_zero, List.set_cons_succ, i64_w, i32_w]
            rfl
           refine take_ (i := 9) (N := some 54) (v := ?_) (a' := ?_) #[true, true, true, true, true, true, true, true, true, true, false, false, false, false, false, false, false, false, false, false, false, false, false, false, false] rfl rfl (take_ofW HT_.out HW_.out (by kernel_rfl)) (fun _ _ _ h => h) (Or.inl ⟨by rfl, ?_⟩) hHeld ?_ ?_
           rotate_left
           ·rintro w' ⟨s0, s1, s2, s3, s4, s5, s6, s7, s8, s9, s10, s11, s12⟩
            go_simp
            with_reducible rfl
           rotate_left
           ·simp only [Act.put, List.setIfInBounds_toArray, List.set_cons_zero, List.set_cons_succ, i64_w, i32_w]
            rfl
           refine take_ (i := 12) (N := some 57) (v := ?_) (a' := ?_) #[true, true, true, true, true, true, true, true, true, true, false, false, true, false, false, false, false, false, false, false, false, false, false, false, false] rfl rfl (take_ofW HT_.out HW_.out (by kernel_rfl)) (fun _ _ _ h => h) (Or.inl ⟨by rfl, ?_⟩) hHeld ?_ ?_
           rotate_left
           ·rintro w' ⟨s0, s1, s2, s3, s4, s5, s6, s7, s8, s9, s10, s11, s12⟩
            go_simp
            with_reducible rfl
           rotate_left
           ·simp only [Act.put, List.setIfInBounds_toArray, List.set_cons_zero, List.set_cons_succ, i64_w, i32_w]
            rfl
           refine one_ (i := 10) (N := some 55) #[true, true, true, true, true, true, true, true, true, true, true, false, true, false, false, false, false, false, false, false, false, false, false, false, false] rfl rfl (one_of HT_.out (by kernel_rfl)) (by decide) (fun K hK => ?_)
           refine goes_ Try.func38 (by kernel_rfl) rfl #[.agg #[.int .i64 t1062, .int .i64 t1063, .int .i64 t1064, .int .i64 t1065, .slice Ao12 t1066.length co12]] (by rfl) rfl rfl argx ?_
           with_reducible refine (laws_wqNot.calls t1062 t1063 t1064 t1065 (fun k_ => (nB k_ (.slice Ao13 t1069.length co13) ∧ (nB k_ (.slice Ao15 t1072.length co15) ∧ (nB k_ (.slice Ao16 t1075.length co16) ∧ (nB k_ (.slice Ao44 t1093.length co44) ∧ (k_ ≠ gb1078 ∧ (k_ ≠ gb1079 ∧ k_ ≠ gb1096))))))) _ _ t1066 t1102 t1103 t1104 t1105 t1106 _ ?side1 A64.out).mono ?_
           (case side1 => exact Kd.N_V (HO_1079004.out))
           rintro e w80 ⟨v1107, rfl, ho0, hb⟩
           refine ⟨_, rfl, ?_⟩
           have n0_ := z0 (Kd.N_elder' (mN HO_1079004.out) (by first | exact Kd.N_base ho0 | exact Kd.R_base ho0) hb)
           have n1_ := z0 (Kd.R_below (mR HO_1080000.out) hb)
           have n2_ := z0 (Kd.R_below (mR HO_1080001.out) hb)
           have n3_ := z0 (Kd.R_below (mR HO_1080002.out) hb)
           have n4_ := z0 (Kd.N_elder' (mN HO_1097004.out) (by first | exact Kd.N_base ho0 | exact Kd.R_base ho0) hb)
           have n5_ := z0 (Kd.N_lower (Kd.N_mono (ok' := fun k_ => nB k_ (.slice Ao13 t1069.length co13) ∧ nB k_ (.slice Ao15 t1072.length co15) ∧ nB k_ (.slice Ao16 t1075.length co16) ∧ nB k_ (.slice Ao44 t1093.length co44) ∧ k_ ≠ gb1078 ∧ k_ ≠ gb1079 ∧ k_ ≠ gb1096) ho0 (fun k_ hk_ => ⟨Or.elim hk_ (fun hs_ => hs_.1) (fun hn_ => (Kd.fresh' (Kd.R_lt (mR HO_1080000.out)) k_ hn_)), Or.elim hk_ (fun hs_ => hs_.2.1) (fun hn_ => (Kd.fresh' (Kd.R_lt (mR HO_1080001.out)) k_ hn_)), Or.elim hk_ (fun hs_ => hs_.2.2.1) (fun hn_ => (Kd.fresh' (Kd.R_lt (mR HO_1080002.out)) k_ hn_)), Or.elim hk_ (fun hs_ => hs_.2.2.2.1) (fun hn_ => (Kd.fresh' (Kd.N_lt (mN HO_1097004.out)) k_ hn_)), Or.elim hk_ (fun hs_ => hs_.2.2.2.2.1) (fun hn_ => (Kd.freshB (g := gb1078) (o := .cells #[.int .i64 t1062, .int .i64 t1063, .int .i64 t1064, .int .i64 t1065, .slice Ao12 t1066.length co12] 32 (0, 0)) (mK BK1078.out) k_ hn_)), Or.elim hk_ (fun hs_ => hs_.2.2.2.2.2.1) (fun hn_ => (Kd.freshB (g := gb1079) (o := .cells #[.slice Ao13 t1069.length co13, .slice Ao15 t1072.length co15, .slice Ao16 t1075.length co16] 44 (0, 0)) (mK BK1079.out) k_ hn_)), Or.elim hk_ (fun hs_ => hs_.2.2.2.2.2.2) (fun hn_ => (Kd.freshB (g := gb1096) (o := .cells #[.int .i64 t1089, .int .i64 t1090, .int .i64 t1091, .int .i64 t1092, .slice Ao44 t1093.length co44] 32 (0, 0)) (mK BK1096.out) k_ hn_))⟩)) (below_size (mB HB.out)))
           have n6_ := z0 (blk_below (g := gb1078) (o := .cells #[.int .i64 t1062, .int .i64 t1063, .int .i64 t1064, .int .i64 t1065, .slice Ao12 t1066.length co12] 32 (0, 0)) (mK BK1078.out) hb)
           have n7_ := z0 (blk_below (g := gb1079) (o := .cells #[.slice Ao13 t1069.length co13, .slice Ao15 t1072.length co15, .slice Ao16 t1075.length co16] 44 (0, 0)) (mK BK1079.out) hb)
           have n8_ := z0 (blk_below (g := gb1096) (o := .cells #[.int .i64 t1089, .int .i64 t1090, .int .i64 t1091, .int .i64 t1092, .slice Ao44 t1093.length co44] 32 (0, 0)) (mK BK1096.out) hb)
           have n9_ := z0 (below_step (mB HB.out) hb)
           clear HO_1079004 HO_1080000 HO_1080001 HO_1080002 HO_1097004 BK1078 BK1079 BK1096 HB
           have HO_1079004 := n0_
           have HO_1080000 := n1_
           have HO_1080001 := n2_
           have HO_1080002 := n3_
           have HO_1097004 := n4_
           have HO1108 := n5_
           have BK1078 := n6_
           have BK1079 := n7_
           have BK1096 := n8_
           have HB := n9_
           clear n0_ n1_ n2_ n3_ n4_ n5_ n6_ n7_ n8_ n9_
           (try clear hb)
           (try clear hb2)
           (try clear hk)
           (try clear hi)
           (try clear ho0)
           obtain ⟨Ao81, co81, eo81⟩ := Kd.N_slice HO1108.out
           (first | subst eo81 | (injection eo81 with f1_ f2_ f3_; have f4_ := f1_.symm; have f5_ := f3_.symm; clear f1_ f2_ f3_; subst f4_; subst f5_))
           refine hK.out _ _ ⟨(blk_cell BK1096.out 0).trans rfl, (blk_cell BK1096.out 1).trans rfl, (blk_cell BK1096.out 2).trans rfl, (blk_cell BK1096.out 3).trans rfl, (blk_cell BK1096.out 4).trans rfl, (blk_cell BK1079.out 0).trans rfl, (blk_cell BK1079.out 1).trans rfl, (blk_cell BK1079.out 2).trans rfl, (blk_cell BK1078.out 0).trans rfl, (blk_cell BK1078.out 1).trans rfl, (blk_cell BK1078.out 2).trans rfl, (blk_cell BK1078.out 3).trans rfl, (blk_cell BK1078.out 4).trans rfl⟩ (fun hHeld => ?_)
           clear hK K
           refine norm_ (a' := ?_) ?_ ?_
           rotate_left
           ·show Act.put _ (some 55) _ = _
            simp only [Act.put, List.setIfInBounds_toArray, List.set_cons_zero, List.set_cons_succ, i64_w, i32_w]
            rfl
           refine one_ (i := 11) (N := some 56) #[true, true, true, true, true, true, true, true, true, true, true, true, true, false, false, false, false, false, false, false, false, false, false, false, false] rfl rfl (one_of HT_.out (by kernel_rfl)) (by decide) (fun K hK => ?_)
           refine goes_ Try.func37 (by kernel_rfl) rfl #[.int .i64 9, .agg #[.int .i64 t1062, .int .i64 t1063, .int .i64 t1064, .int .i64 t1065, .slice Ao12 t1066.length co12], .agg #[.int .i64 t1102, .int .i64 t1103, .int .i64 t1104, .int .i64 t1105, .slice Ao81 t1106.length co81]] (by rfl) rfl rfl argx ?_
           with_reducible refine (laws_wqTwo.calls 9 t1062 t1063 t1064 t1065 (fun k_ => ((nB k_ (.slice Ao13 t1069.length co13) ∧ (nB k_ (.slice Ao15 t1072.length co15) ∧ (nB k_ (.slice Ao16 t1075.length co16) ∧ (nB k_ (.slice Ao44 t1093.length co44) ∧ (k_ ≠ gb1078 ∧ (k_ ≠ gb1079 ∧ k_ ≠ gb1096)))))) ∧ nB k_ (.slice Ao81 t1106.length co81))) _ _ t1066 t1102 t1103 t1104 t1105 (fun k_ => (nB k_ (.slice Ao13 t1069.length co13) ∧ (nB k_ (.slice Ao15 t1072.length co15) ∧ (nB k_ (.slice Ao16 t1075.length co16) ∧ (nB k_ (.slice Ao44 t1093.length co44) ∧ (k_ ≠ gb1078 ∧ (k_ ≠ gb1079 ∧ k_ ≠ gb1096))))))) _ _ t1106 t1109 t1110 t1111 t1112 t1113 _ ?side1 ?side2 A65.out).mono ?_
           (case side1 => exact Kd.N_V (HO_1079004.out))
           (case side2 => exact Kd.N_V (HO1108.out))
           rintro e w82 ⟨v1114, rfl, ho0, hb⟩
           refine ⟨_, rfl, ?_⟩
           have n0_ := z0 (Kd.N_elder' (mN HO_1079004.out) (by first | exact Kd.N_base ho0 | exact Kd.R_base ho0) hb)
           have n1_ := z0 (Kd.R_below (mR HO_1080000.out) hb)
           have n2_ := z0 (Kd.R_below (mR HO_1080001.out) hb)
           have n3_ := z0 (Kd.R_below (mR HO_1080002.out) hb)
           have n4_ := z0 (Kd.N_elder' (mN HO_1097004.out) (by first | exact Kd.N_base ho0 | exact Kd.R_base ho0) hb)
           have n5_ := z0 (Kd.N_elder' (mN HO1108.out) (by first | exact Kd.N_base ho0 | exact Kd.R_base ho0) hb)
           have n6_ := z0 (Kd.N_lower (Kd.N_mono (ok' := fun k_ => nB k_ (.slice Ao13 t1069.length co13) ∧ nB k_ (.slice Ao15 t1072.length co15) ∧ nB k_ (.slice Ao16 t1075.length co16) ∧ nB k_ (.slice Ao44 t1093.length co44) ∧ k_ ≠ gb1078 ∧ k_ ≠ gb1079 ∧ k_ ≠ gb1096) ho0 (fun k_ hk_ => ⟨Or.elim hk_ (fun hs_ => Or.elim hs_ (fun hs_ => hs_.1.1) (fun hs_ => hs_.1)) (fun hn_ => (Kd.fresh' (Kd.R_lt (mR HO_1080000.out)) k_ hn_)), Or.elim hk_ (fun hs_ => Or.elim hs_ (fun hs_ => hs_.1.2.1) (fun hs_ => hs_.2.1)) (fun hn_ => (Kd.fresh' (Kd.R_lt (mR HO_1080001.out)) k_ hn_)), Or.elim hk_ (fun hs_ => Or.elim hs_ (fun hs_ => hs_.1.2.2.1) (fun hs_ => hs_.2.2.1)) (fun hn_ => (Kd.fresh' (Kd.R_lt (mR HO_1080002.out)) k_ hn_)), Or.elim hk_ (fun hs_ => Or.elim hs_ (fun hs_ => hs_.1.2.2.2.1) (fun hs_ => hs_.2.2.2.1)) (fun hn_ => (Kd.fresh' (Kd.N_lt (mN HO_1097004.out)) k_ hn_)), Or.elim hk_ (fun hs_ => Or.elim hs_ (fun hs_ => hs_.1.2.2.2.2.1) (fun hs_ => hs_.2.2.2.2.1)) (fun hn_ => (Kd.freshB (g := gb1078) (o := .cells #[.int .i64 t1062, .int .i64 t1063, .int .i64 t1064, .int .i64 t1065, .slice Ao12 t1066.length co12] 32 (0, 0)) (mK BK1078.out) k_ hn_)), Or.elim hk_ (fun hs_ => Or.elim hs_ (fun hs_ => hs_.1.2.2.2.2.2.1) (fun hs_ => hs_.2.2.2.2.2.1)) (fun hn_ => (Kd.freshB (g := gb1079) (o := .cells #[.slice Ao13 t1069.length co13, .slice Ao15 t1072.length co15, .slice Ao16 t1075.length co16] 44 (0, 0)) (mK BK1079.out) k_ hn_)), Or.elim hk_ (fun hs_ => Or.elim hs_ (fun hs_ => hs_.1.2.2.2.2.2.2) (fun hs_ => hs_.2.2.2.2.2.2)) (fun hn_ => (Kd.freshB (g := gb1096) (o := .cells #[.int .i64 t1089, .int .i64 t1090, .int .i64 t1091, .int .i64 t1092, .slice Ao44 t1093.length co44] 32 (0, 0)) (mK BK1096.out) k_ hn_))⟩)) (below_size (mB HB.out)))
           have n7_ := z0 (blk_below (g := gb1078) (o := .cells #[.int .i64 t1062, .int .i64 t1063, .int .i64 t1064, .int .i64 t1065, .slice Ao12 t1066.length co12] 32 (0, 0)) (mK BK1078.out) hb)
           have n8_ := z0 (blk_below (g := gb1079) (o := .cells #[.slice Ao13 t1069.length co13, .slice Ao15 t1072.length co15, .slice Ao16 t1075.length co16] 44 (0, 0)) (mK BK1079.out) hb)
           have n9_ := z0 (blk_below (g := gb1096) (o := .cells #[.int .i64 t1089, .int .i64 t1090, .int .i64 t1091, .int .i64 t1092, .slice Ao44 t1093.length co44] 32 (0, 0)) (mK BK1096.out) hb)
           have n10_ := z0 (below_step (mB HB.out) hb)
           clear HO_1079004 HO_1080000 HO_1080001 HO_1080002 HO_1097004 HO1108 BK1078 BK1079 BK1096 HB
           have HO_1079004 := n0_
           have HO_1080000 := n1_
           have HO_1080001 := n2_
           have HO_1080002 := n3_
           have HO_1097004 := n4_
           have HO1108 := n5_
           have HO1115 := n6_
           have BK1078 := n7_
           have BK1079 := n8_
           have BK1096 := n9_
           have HB := n10_
           clear n0_ n1_ n2_ n3_ n4_ n5_ n6_ n7_ n8_ n9_ n10_
           (try clear hb)
           (try clear hb2)
           (try clear hk)
           (try clear hi)
           (try clear ho0)
           obtain ⟨Ao83, co83, eo83⟩ := Kd.N_slice HO1115.out
           (first | subst eo83 | (injection eo83 with f1_ f2_ f3_; have f4_ := f1_.symm; have f5_ := f3_.symm; clear f1_ f2_ f3_; subst f4_; subst f5_))
           refine hK.out _ _ ⟨(blk_cell BK1096.out 0).trans rfl, (blk_cell BK1096.out 1).trans rfl, (blk_cell BK1096.out 2).trans rfl, (blk_cell BK1096.out 3).trans rfl, (blk_cell BK1096.out 4).trans rfl, (blk_cell BK1079.out 0).trans rfl, (blk_cell BK1079.out 1).trans rfl, (blk_cell BK1079.out 2).trans rfl, (blk_cell BK1078.out 0).trans rfl, (blk_cell BK1078.out 1).trans rfl, (blk_cell BK1078.out 2).trans rfl, (blk_cell BK1078.out 3).trans rfl, (blk_cell BK1078.out 4).trans rfl⟩ (fun hHeld => ?_)
           clear hK K
           refine norm_ (a' := ?_) ?_ ?_
           rotate_left
           ·show Act.put _ (some 56) _ = _
            simp only [Act.put, List.setIfInBounds_toArray, List.set_cons_zero, List.set_cons_succ, i64_w, i32_w]
            rfl
           refine one_ (i := 13) (N := some 58) #[true, true, true, true, true, true, true, true, true, true, true, true, true, true, false, false, false, false, false, false, false, false, false, false, false] rfl rfl (one_of HT_.out (by kernel_rfl)) (by decide) (fun K hK => ?_)
           refine goes_ Try.func26 (by kernel_rfl) rfl #[.agg #[.int .i64 t1109, .int .i64 t1110, .int .i64 t1111, .int .i64 t1112, .slice Ao83 t1113.length co83], .agg #[.slice Ao13 t1069.length co13, .slice Ao15 t1072.length co15, .slice Ao16 t1075.length co16]] (by rfl) rfl rfl argx ?_
           with_reducible refine (impl_ExprOf.calls t1109 t1110 t1111 t1112 _ _ t1113 _ _ t1069 _ _ t1072 _ _ t1075 t1116 _ ?side1 ?side2 ?side3 ?side4 ?side5 ?side6 ?side7 ?side8 A66.out).mono ?_
           (case side1 => exact mC (Kd.N_reads' HO1115.out).2.2)
           (case side2 => exact (Kd.N_reads' HO1115.out).2.1)
           (case side3 => exact mC (Kd.R_reads' HO_1080000.out).2.2)
           (case side4 => exact (Kd.R_reads' HO_1080000.out).2.1)
           (case side5 => exact mC (Kd.R_reads' HO_1080001.out).2.2)
           (case side6 => exact (Kd.R_reads' HO_1080001.out).2.1)
           (case side7 => exact mC (Kd.R_reads' HO_1080002.out).2.2)
           (case side8 => exact (Kd.R_reads' HO_1080002.out).2.1)
           rintro e w84 ⟨rfl, hb⟩
           refine ⟨_, rfl, ?_⟩
           have n0_ := z0 (Kd.N_below (mN HO_1079004.out) hb)
           have n1_ := z0 (Kd.R_below (mR HO_1080000.out) hb)
           have n2_ := z0 (Kd.R_below (mR HO_1080001.out) hb)
           have n3_ := z0 (Kd.R_below (mR HO_1080002.out) hb)
           have n4_ := z0 (Kd.N_below (mN HO_1097004.out) hb)
           have n5_ := z0 (Kd.N_below (mN HO1108.out) hb)
           have n6_ := z0 (Kd.N_below (mN HO1115.out) hb)
           have n7_ := z0 (blk_below (g := gb1078) (o := .cells #[.int .i64 t1062, .int .i64 t1063, .int .i64 t1064, .int .i64 t1065, .slice Ao12 t1066.length co12] 32 (0, 0)) (mK BK1078.out) hb)
           have n8_ := z0 (blk_below (g := gb1079) (o := .cells #[.slice Ao13 t1069.length co13, .slice Ao15 t1072.length co15, .slice Ao16 t1075.length co16] 44 (0, 0)) (mK BK1079.out) hb)
           have n9_ := z0 (blk_below (g := gb1096) (o := .cells #[.int .i64 t1089, .int .i64 t1090, .int .i64 t1091, .int .i64 t1092, .slice Ao44 t1093.length co44] 32 (0, 0)) (mK BK1096.out) hb)
           have n10_ := z0 (below_step (mB HB.out) hb)
           clear HO_1079004 HO_1080000 HO_1080001 HO_1080002 HO_1097004 HO1108 HO1115 BK1078 BK1079 BK1096 HB
           have HO_1079004 := n0_
           have HO_1080000 := n1_
           have HO_1080001 := n2_
           have HO_1080002 := n3_
           have HO_1097004 := n4_
           have HO1108 := n5_
           have HO1115 := n6_
           have BK1078 := n7_
           have BK1079 := n8_
           have BK1096 := n9_
           have HB := n10_
           clear n0_ n1_ n2_ n3_ n4_ n5_ n6_ n7_ n8_ n9_ n10_
           (try clear hb)
           (try clear hb2)
           (try clear hk)
           (try clear hi)
           refine hK.out _ _ ⟨(blk_cell BK1096.out 0).trans rfl, (blk_cell BK1096.out 1).trans rfl, (blk_cell BK1096.out 2).trans rfl, (blk_cell BK1096.out 3).trans rfl, (blk_cell BK1096.out 4).trans rfl, (blk_cell BK1079.out 0).trans rfl, (blk_cell BK1079.out 1).trans rfl, (blk_cell BK1079.out 2).trans rfl, (blk_cell BK1078.out 0).trans rfl, (blk_cell BK1078.out 1).trans rfl, (blk_cell BK1078.out 2).trans rfl, (blk_cell BK1078.out 3).trans rfl, (blk_cell BK1078.out 4).trans rfl⟩ (fun hHeld => ?_)
           clear hK K
           refine norm_ (a' := ?_) ?_ ?_
           rotate_left
           ·show Act.put _ (some 58) _ = _
            simp only [Act.put, List.setIfInBounds_toArray, List.set_cons_zero, List.set_cons_succ, i64_w, i32_w]
            rfl
           refine pure_ (i := 14) (N := some 59) (v := ?_) (a' := ?_) #[true, true, true, true, true, true, true, true, true, true, true, true, true, true, true, false, false, false, false, false, false, false, false, false, false] rfl rfl (any_of HT_.out (by kernel_rfl)) (fun _ _ _ h => h) (Or.inl ⟨by rfl, ?_⟩) ?_ ?_
           rotate_left
           ·intro w'
            go_simp
            with_reducible rfl
           rotate_left
           ·simp only [Act.put, List.setIfInBounds_toArray, List.set_cons_zero, List.set_cons_succ, i64_w, i32_w]
            rfl
           refine pure_ (i := 15) (N := some 60) (v := ?_) (a' := ?_) #[true, true, true, true, true, true, true, true, true, true, true, true, true, true, true, true, false, false, false, false, false, false, false, false, false] rfl rfl (any_of HT_.out (by kernel_rfl)) (fun _ _ _ h => h) (Or.inl ⟨by rfl, ?_⟩) ?_ ?_
           rotate_left
           ·intro w'
            go_simp
            with_reducible rfl
           rotate_left
           ·simp only [Act.put, List.setIfInBounds_toArray, List.set_cons_zero, List.set_cons_succ, i64_w, i32_w]
            rfl
           refine pure_ (i := 16) (N := some 61) (v := ?_) (a' := ?_) #[true, true, true, true, true, true, true, true, true, true, true, true, true, true, true, true, true, false, false, false, false, false, false, false, false] rfl rfl (any_of HT_.out (by kernel_rfl)) (fun _ _ _ h => h) (Or.inl ⟨by rfl, ?_⟩) ?_ ?_
           rotate_left
           ·intro w'
            go_simp
            with_reducible rfl
           rotate_left
           ·simp only [Act.put, List.setIfInBounds_toArray, List.set_cons_zero, List.set_cons_succ, i64_w, i32_w]
            rfl
           refine take_ (i := 17) (N := some 62) (v := ?_) (a' := ?_) #[true, true, true, true, true, true, true, true, true, true, true, true, true, true, true, true, true, true, false, false, false, false, false, false, false] rfl rfl (take_ofW HT_.out HW_.out (by kernel_rfl)) (fun _ _ _ h => h) (Or.inl ⟨by rfl, ?_⟩) hHeld ?_ ?_
           rotate_left
           ·rintro w' ⟨s0, s1, s2, s3, s4, s5, s6, s7, s8, s9, s10, s11, s12⟩
            go_simp
            with_reducible rfl
           rotate_left
           ·simp only [Act.put, List.setIfInBounds_toArray, List.set_cons_zero, List.set_cons_succ, i64_w, i32_w]
            rfl
           refine take_ (i := 18) (N := some 63) (v := ?_) (a' := ?_) #[true, true, true, true, true, true, true, true, true, true, true, true, true, true, true, true, true, true, true, false, false, false, false, false, false] rfl rfl (take_ofW HT_.out HW_.out (by kernel_rfl)) (fun _ _ _ h => h) (Or.inl ⟨by rfl, ?_⟩) hHeld ?_ ?_
           rotate_left
           ·rintro w' ⟨s0, s1, s2, s3, s4, s5, s6, s7, s8, s9, s10, s11, s12⟩
            go_simp
            with_reducible rfl
           rotate_left
           ·simp only [Act.put, List.setIfInBounds_toArray, List.set_cons_zero, List.set_cons_succ, i64_w, i32_w]
            rfl
           refine one_ (i := 19) (N := some 64) #[true, true, true, true, true, true, true, true, true, true, true, true, true, true, true, true, true, true, true, true, false, false, false, false, false] rfl rfl (one_of HT_.out (by kernel_rfl)) (by decide) (fun K hK => ?_)
           refine goes_ Try.func38 (by kernel_rfl) rfl #[.agg #[.int .i64 t1062, .int .i64 t1063, .int .i64 t1064, .int .i64 t1065, .slice Ao12 t1066.length co12]] (by rfl) rfl rfl argx ?_
           with_reducible refine (laws_wqNot.calls t1062 t1063 t1064 t1065 (fun k_ => (((nB k_ (.slice Ao13 t1069.length co13) ∧ (nB k_ (.slice Ao15 t1072.length co15) ∧ (nB k_ (.slice Ao16 t1075.length co16) ∧ (nB k_ (.slice Ao44 t1093.length co44) ∧ (k_ ≠ gb1078 ∧ (k_ ≠ gb1079 ∧ k_ ≠ gb1096)))))) ∧ nB k_ (.slice Ao81 t1106.length co81)) ∧ nB k_ (.slice Ao83 t1113.length co83))) _ _ t1066 t1117 t1118 t1119 t1120 t1121 _ ?side1 A75.out).mono ?_
           (case side1 => exact Kd.N_V (HO_1079004.out))
           rintro e w85 ⟨v1122, rfl, ho0, hb⟩
           refine ⟨_, rfl, ?_⟩
           have n0_ := z0 (Kd.N_elder' (mN HO_1079004.out) (by first | exact Kd.N_base ho0 | exact Kd.R_base ho0) hb)
           have n1_ := z0 (Kd.R_below (mR HO_1080000.out) hb)
           have n2_ := z0 (Kd.R_below (mR HO_1080001.out) hb)
           have n3_ := z0 (Kd.R_below (mR HO_1080002.out) hb)
           have n4_ := z0 (Kd.N_elder' (mN HO_1097004.out) (by first | exact Kd.N_base ho0 | exact Kd.R_base ho0) hb)
           have n5_ := z0 (Kd.N_elder' (mN HO1108.out) (by first | exact Kd.N_base ho0 | exact Kd.R_base ho0) hb)
           have n6_ := z0 (Kd.N_elder' (mN HO1115.out) (by first | exact Kd.N_base ho0 | exact Kd.R_base ho0) hb)
           have n7_ := z0 (Kd.N_lower (Kd.N_mono (ok' := fun k_ => nB k_ (.slice Ao13 t1069.length co13) ∧ nB k_ (.slice Ao15 t1072.length co15) ∧ nB k_ (.slice Ao16 t1075.length co16) ∧ nB k_ (.slice Ao44 t1093.length co44) ∧ nB k_ (.slice Ao81 t1106.length co81) ∧ nB k_ (.slice Ao83 t1113.length co83) ∧ k_ ≠ gb1078 ∧ k_ ≠ gb1079 ∧ k_ ≠ gb1096) ho0 (fun k_ hk_ => ⟨Or.elim hk_ (fun hs_ => hs_.1.1.1) (fun hn_ => (Kd.fresh' (Kd.R_lt (mR HO_1080000.out)) k_ hn_)), Or.elim hk_ (fun hs_ => hs_.1.1.2.1) (fun hn_ => (Kd.fresh' (Kd.R_lt (mR HO_1080001.out)) k_ hn_)), Or.elim hk_ (fun hs_ => hs_.1.1.2.2.1) (fun hn_ => (Kd.fresh' (Kd.R_lt (mR HO_1080002.out)) k_ hn_)), Or.elim hk_ (fun hs_ => hs_.1.1.2.2.2.1) (fun hn_ => (Kd.fresh' (Kd.N_lt (mN HO_1097004.out)) k_ hn_)), Or.elim hk_ (fun hs_ => hs_.1.2) (fun hn_ => (Kd.fresh' (Kd.N_lt (mN HO1108.out)) k_ hn_)), Or.elim hk_ (fun hs_ => hs_.2) (fun hn_ => (Kd.fresh' (Kd.N_lt (mN HO1115.out)) k_ hn_)), Or.elim hk_ (fun hs_ => hs_.1.1.2.2.2.2.1) (fun hn_ => (Kd.freshB (g := gb1078) (o := .cells #[.int .i64 t1062, .int .i64 t1063, .int .i64 t1064, .int .i64 t1065, .slice Ao12 t1066.length co12] 32 (0, 0)) (mK BK1078.out) k_ hn_)), Or.elim hk_ (fun hs_ => hs_.1.1.2.2.2.2.2.1) (fun hn_ => (Kd.freshB (g := gb1079) (o := .cells #[.slice Ao13 t1069.length co13, .slice Ao15 t1072.length co15, .slice Ao16 t1075.length co16] 44 (0, 0)) (mK BK1079.out) k_ hn_)), Or.elim hk_ (fun hs_ => hs_.1.1.2.2.2.2.2.2) (fun hn_ => (Kd.freshB (g := gb1096) (o := .cells #[.int .i64 t1089, .int .i64 t1090, .int .i64 t1091, .int .i64 t1092, .slice Ao44 t1093.length co44] 32 (0, 0)) (mK BK1096.out) k_ hn_))⟩)) (below_size (mB HB.out)))
           have n8_ := z0 (blk_below (g := gb1078) (o := .cells #[.int .i64 t1062, .int .i64 t1063, .int .i64 t1064, .int .i64 t1065, .slice Ao12 t1066.length co12] 32 (0, 0)) (mK BK1078.out) hb)
           have n9_ := z0 (blk_below (g := gb1079) (o := .cells #[.slice Ao13 t1069.length co13, .slice Ao15 t1072.length co15, .slice Ao16 t1075.length co16] 44 (0, 0)) (mK BK1079.out) hb)
           have n10_ := z0 (blk_below (g := gb1096) (o := .cells #[.int .i64 t1089, .int .i64 t1090, .int .i64 t1091, .int .i64 t1092, .slice Ao44 t1093.length co44] 32 (0, 0)) (mK BK1096.out) hb)
           have n11_ := z0 (below_step (mB HB.out) hb)
           clear HO_1079004 HO_1080000 HO_1080001 HO_1080002 HO_1097004 HO1108 HO1115 BK1078 BK1079 BK1096 HB
           have HO_1079004 := n0_
           have HO_1080000 := n1_
           have HO_1080001 := n2_
           have HO_1080002 := n3_
           have HO_1097004 := n4_
           have HO1108 := n5_
           have HO1115 := n6_
           have HO1123 := n7_
           have BK1078 := n8_
           have BK1079 := n9_
           have BK1096 := n10_
           have HB := n11_
           clear n0_ n1_ n2_ n3_ n4_ n5_ n6_ n7_ n8_ n9_ n10_ n11_
           (try clear hb)
           (try clear hb2)
           (try clear hk)
           (try clear hi)
           (try clear ho0)
           obtain ⟨Ao86, co86, eo86⟩ := Kd.N_slice HO1123.out
           (first | subst eo86 | (injection eo86 with f1_ f2_ f3_; have f4_ := f1_.symm; have f5_ := f3_.symm; clear f1_ f2_ f3_; subst f4_; subst f5_))
           refine hK.out _ _ ⟨(blk_cell BK1096.out 0).trans rfl, (blk_cell BK1096.out 1).trans rfl, (blk_cell BK1096.out 2).trans rfl, (blk_cell BK1096.out 3).trans rfl, (blk_cell BK1096.out 4).trans rfl, (blk_cell BK1079.out 0).trans rfl, (blk_cell BK1079.out 1).trans rfl, (blk_cell BK1079.out 2).trans rfl, (blk_cell BK1078.out 0).trans rfl, (blk_cell BK1078.out 1).trans rfl, (blk_cell BK1078.out 2).trans rfl, (blk_cell BK1078.out 3).trans rfl, (blk_cell BK1078.out 4).trans rfl⟩ (fun hHeld => ?_)
           clear hK K
           refine norm_ (a' := ?_) ?_ ?_
           rotate_left
           ·show Act.put _ (some 64) _ = _
            simp only [Act.put, List.setIfInBounds_toArray, List.set_cons_zero, List.set_cons_succ, i64_w, i32_w]
            rfl
           refine one_ (i := 20) (N := some 65) #[true, true, true, true, true, true, true, true, true, true, true, true, true, true, true, true, true, true, true, true, true, false, false, false, false] rfl rfl (one_of HT_.out (by kernel_rfl)) (by decide) (fun K hK => ?_)
           refine goes_ Try.func37 (by kernel_rfl) rfl #[.int .i64 9, .agg #[.int .i64 t1062, .int .i64 t1063, .int .i64 t1064, .int .i64 t1065, .slice Ao12 t1066.length co12], .agg #[.int .i64 t1117, .int .i64 t1118, .int .i64 t1119, .int .i64 t1120, .slice Ao86 t1121.length co86]] (by rfl) rfl rfl argx ?_
           with_reducible refine (laws_wqTwo.calls 9 t1062 t1063 t1064 t1065 (fun k_ => ((((nB k_ (.slice Ao13 t1069.length co13) ∧ (nB k_ (.slice Ao15 t1072.length co15) ∧ (nB k_ (.slice Ao16 t1075.length co16) ∧ (nB k_ (.slice Ao44 t1093.length co44) ∧ (k_ ≠ gb1078 ∧ (k_ ≠ gb1079 ∧ k_ ≠ gb1096)))))) ∧ nB k_ (.slice Ao81 t1106.length co81)) ∧ nB k_ (.slice Ao83 t1113.length co83)) ∧ nB k_ (.slice Ao86 t1121.length co86))) _ _ t1066 t1117 t1118 t1119 t1120 (fun k_ => (nB k_ (.slice Ao13 t1069.length co13) ∧ (nB k_ (.slice Ao15 t1072.length co15) ∧ (nB k_ (.slice Ao16 t1075.length co16) ∧ (nB k_ (.slice Ao44 t1093.length co44) ∧ (nB k_ (.slice Ao81 t1106.length co81) ∧ (nB k_ (.slice Ao83 t1113.length co83) ∧ (k_ ≠ gb1078 ∧ (k_ ≠ gb1079 ∧ k_ ≠ gb1096))))))))) _ _ t1121 t1124 t1125 t1126 t1127 t1128 _ ?side1 ?side2 A76.out).mono ?_
           (case side1 => exact Kd.N_V (HO_1079004.out))
           (case side2 => exact Kd.N_V (HO1123.out))
           rintro e w87 ⟨v1129, rfl, ho0, hb⟩
           refine ⟨_, rfl, ?_⟩
           have n0_ := z0 (Kd.N_elder' (mN HO_1079004.out) (by first | exact Kd.N_base ho0 | exact Kd.R_base ho0) hb)
           have n1_ := z0 (Kd.R_below (mR HO_1080000.out) hb)
           have n2_ := z0 (Kd.R_below (mR HO_1080001.out) hb)
           have n3_ := z0 (Kd.R_below (mR HO_1080002.out) hb)
           have n4_ := z0 (Kd.N_elder' (mN HO_1097004.out) (by first | exact Kd.N_base ho0 | exact Kd.R_base ho0) hb)
           have n5_ := z0 (Kd.N_elder' (mN HO1108.out) (by first | exact Kd.N_base ho0 | exact Kd.R_base ho0) hb)
           have n6_ := z0 (Kd.N_elder' (mN HO1115.out) (by first | exact Kd.N_base ho0 | exact Kd.R_base ho0) hb)
           have n7_ := z0 (Kd.N_elder' (mN HO1123.out) (by first | exact Kd.N_base ho0 | exact Kd.R_base ho0) hb)
           have n8_ := z0 (Kd.N_lower (Kd.N_mono (ok' := fun k_ => nB k_ (.slice Ao13 t1069.length co13) ∧ nB k_ (.slice Ao15 t1072.length co15) ∧ nB k_ (.slice Ao16 t1075.length co16) ∧ nB k_ (.slice Ao44 t1093.length co44) ∧ nB k_ (.slice Ao81 t1106.length co81) ∧ nB k_ (.slice Ao83 t1113.length co83) ∧ k_ ≠ gb1078 ∧ k_ ≠ gb1079 ∧ k_ ≠ gb1096) ho0 (fun k_ hk_ => ⟨Or.elim hk_ (fun hs_ => Or.elim hs_ (fun hs_ => hs_.1.1.1.1) (fun hs_ => hs_.1)) (fun hn_ => (Kd.fresh' (Kd.R_lt (mR HO_1080000.out)) k_ hn_)), Or.elim hk_ (fun hs_ => Or.elim hs_ (fun hs_ => hs_.1.1.1.2.1) (fun hs_ => hs_.2.1)) (fun hn_ => (Kd.fresh' (Kd.R_lt (mR HO_1080001.out)) k_ hn_)), Or.elim hk_ (fun hs_ => Or.elim hs_ (fun hs_ => hs_.1.1.1.2.2.1) (fun hs_ => hs_.2.2.1)) (fun hn_ => (Kd.fresh' (Kd.R_lt (mR HO_1080002.out)) k_ hn_)), Or.elim hk_ (fun hs_ => Or.elim hs_ (fun hs_ => hs_.1.1.1.2.2.2.1) (fun hs_ => hs_.2.2.2.1)) (fun hn_ => (Kd.fresh' (Kd.N_lt (mN HO_1097004.out)) k_ hn_)), Or.elim hk_ (fun hs_ => Or.elim hs_ (fun hs_ => hs_.1.1.2) (fun hs_ => hs_.2.2.2.2.1)) (fun hn_ => (Kd.fresh' (Kd.N_lt (mN HO1108.out)) k_ hn_)), Or.elim hk_ (fun hs_ => Or.elim hs_ (fun hs_ => hs_.1.2) (fun hs_ => hs_.2.2.2.2.2.1)) (fun hn_ => (Kd.fresh' (Kd.N_lt (mN HO1115.out)) k_ hn_)), Or.elim hk_ (fun hs_ => Or.elim hs_ (fun hs_ => hs_.1.1.1.2.2.2.2.1) (fun hs_ => hs_.2.2.2.2.2.2.1)) (fun hn_ => (Kd.freshB (g := gb1078) (o := .cells #[.int .i64 t1062, .int .i64 t1063, .int .i64 t1064, .int .i64 t1065, .slice Ao12 t1066.length co12] 32 (0, 0)) (mK BK1078.out) k_ hn_)), Or.elim hk_ (fun hs_ => Or.elim hs_ (fun hs_ => hs_.1.1.1.2.2.2.2.2.1) (fun hs_ => hs_.2.2.2.2.2.2.2.1)) (fun hn_ => (Kd.freshB (g := gb1079) (o := .cells #[.slice Ao13 t1069.length co13, .slice Ao15 t1072.length co15, .slice Ao16 t1075.length co16] 44 (0, 0)) (mK BK1079.out) k_ hn_)), Or.elim hk_ (fun hs_ => Or.elim hs_ (fun hs_ => hs_.1.1.1.2.2.2.2.2.2) (fun hs_ => hs_.2.2.2.2.2.2.2.2)) (fun hn_ => (Kd.freshB (g := gb1096) (o := .cells #[.int .i64 t1089, .int .i64 t1090, .int .i64 t1091, .int .i64 t1092, .slice Ao44 t1093.length co44] 32 (0, 0)) (mK BK1096.out) k_ hn_))⟩)) (below_size (mB HB.out)))
           have n9_ := z0 (blk_below (g := gb1078) (o := .cells #[.int .i64 t1062, .int .i64 t1063, .int .i64 t1064, .int .i64 t1065, .slice Ao12 t1066.length co12] 32 (0, 0)) (mK BK1078.out) hb)
           have n10_ := z0 (blk_below (g := gb1079) (o := .cells #[.slice Ao13 t1069.length co13, .slice Ao15 t1072.length co15, .slice Ao16 t1075.length co16] 44 (0, 0)) (mK BK1079.out) hb)
           have n11_ := z0 (blk_below (g := gb1096) (o := .cells #[.int .i64 t1089, .int .i64 t1090, .int .i64 t1091, .int .i64 t1092, .slice Ao44 t1093.length co44] 32 (0, 0)) (mK BK1096.out) hb)
           have n12_ := z0 (below_step (mB HB.out) hb)
           clear HO_1079004 HO_1080000 HO_1080001 HO_1080002 HO_1097004 HO1108 HO1115 HO1123 BK1078 BK1079 BK1096 HB
           have HO_1079004 := n0_
           have HO_1080000 := n1_
           have HO_1080001 := n2_
           have HO_1080002 := n3_
           have HO_1097004 := n4_
           have HO1108 := n5_
           have HO1115 := n6_
           have HO1123 := n7_
           have HO1130 := n8_
           have BK1078 := n9_
           have BK1079 := n10_
           have BK1096 := n11_
           have HB := n12_
           clear n0_ n1_ n2_ n3_ n4_ n5_ n6_ n7_ n8_ n9_ n10_ n11_ n12_
           (try clear hb)
           (try clear hb2)
           (try clear hk)
           (try clear hi)
           (try clear ho0)
           obtain ⟨Ao88, co88, eo88⟩ := Kd.N_slice HO1130.out
           (first | subst eo88 | (injection eo88 with f1_ f2_ f3_; have f4_ := f1_.symm; have f5_ := f3_.symm; clear f1_ f2_ f3_; subst f4_; subst f5_))
           refine hK.out _ _ ⟨(blk_cell BK1096.out 0).trans rfl, (blk_cell BK1096.out 1).trans rfl, (blk_cell BK1096.out 2).trans rfl, (blk_cell BK1096.out 3).trans rfl, (blk_cell BK1096.out 4).trans rfl, (blk_cell BK1079.out 0).trans rfl, (blk_cell BK1079.out 1).trans rfl, (blk_cell BK1079.out 2).trans rfl, (blk_cell BK1078.out 0).trans rfl, (blk_cell BK1078.out 1).trans rfl, (blk_cell BK1078.out 2).trans rfl, (blk_cell BK1078.out 3).trans rfl, (blk_cell BK1078.out 4).trans rfl⟩ (fun hHeld => ?_)
           clear hK K
           refine norm_ (a' := ?_) ?_ ?_
           rotate_left
           ·show Act.put _ (some 65) _ = _
            simp only [Act.put, List.setIfInBounds_toArray, List.set_cons_zero, List.set_cons_succ, i64_w, i32_w]
            rfl
           refine one_ (i := 21) (N := some 66) #[true, true, true, true, true, true, true, true, true, true, true, true, true, true, true, true, true, true, true, true, true, true, false, false, false] rfl rfl (one_of HT_.out (by kernel_rfl)) (by decide) (fun K hK => ?_)
           refine goes_ Try.func18 (by kernel_rfl) rfl #[.agg #[.int .i64 t1124, .int .i64 t1125, .int .i64 t1126, .int .i64 t1127, .slice Ao88 t1128.length co88]] (by rfl) rfl rfl argx ?_
           with_reducible refine (impl_ExprOk.calls t1124 t1125 t1126 t1127 _ _ t1128 t1131 _ ?side1 ?side2 A77.out).mono ?_
           (case side1 => exact mC (Kd.N_reads' HO1130.out).2.2)
           (case side2 => exact (Kd.N_reads' HO1130.out).2.1)
           rintro e w89 ⟨rfl, hb⟩
           refine ⟨_, rfl, ?_⟩
           have n0_ := z0 (Kd.N_below (mN HO_1079004.out) hb)
           have n1_ := z0 (Kd.R_below (mR HO_1080000.out) hb)
           have n2_ := z0 (Kd.R_below (mR HO_1080001.out) hb)
           have n3_ := z0 (Kd.R_below (mR HO_1080002.out) hb)
           have n4_ := z0 (Kd.N_below (mN HO_1097004.out) hb)
           have n5_ := z0 (Kd.N_below (mN HO1108.out) hb)
           have n6_ := z0 (Kd.N_below (mN HO1115.out) hb)
           have n7_ := z0 (Kd.N_below (mN HO1123.out) hb)
           have n8_ := z0 (Kd.N_below (mN HO1130.out) hb)
           have n9_ := z0 (blk_below (g := gb1078) (o := .cells #[.int .i64 t1062, .int .i64 t1063, .int .i64 t1064, .int .i64 t1065, .slice Ao12 t1066.length co12] 32 (0, 0)) (mK BK1078.out) hb)
           have n10_ := z0 (blk_below (g := gb1079) (o := .cells #[.slice Ao13 t1069.length co13, .slice Ao15 t1072.length co15, .slice Ao16 t1075.length co16] 44 (0, 0)) (mK BK1079.out) hb)
           have n11_ := z0 (blk_below (g := gb1096) (o := .cells #[.int .i64 t1089, .int .i64 t1090, .int .i64 t1091, .int .i64 t1092, .slice Ao44 t1093.length co44] 32 (0, 0)) (mK BK1096.out) hb)
           have n12_ := z0 (below_step (mB HB.out) hb)
           clear HO_1079004 HO_1080000 HO_1080001 HO_1080002 HO_1097004 HO1108 HO1115 HO1123 HO1130 BK1078 BK1079 BK1096 HB
           have HO_1079004 := n0_
           have HO_1080000 := n1_
           have HO_1080001 := n2_
           have HO_1080002 := n3_
           have HO_1097004 := n4_
           have HO1108 := n5_
           have HO1115 := n6_
           have HO1123 := n7_
           have HO1130 := n8_
           have BK1078 := n9_
           have BK1079 := n10_
           have BK1096 := n11_
           have HB := n12_
           clear n0_ n1_ n2_ n3_ n4_ n5_ n6_ n7_ n8_ n9_ n10_ n11_ n12_
           (try clear hb)
           (try clear hb2)
           (try clear hk)
           (try clear hi)
           refine hK.out _ _ ⟨(blk_cell BK1096.out 0).trans rfl, (blk_cell BK1096.out 1).trans rfl, (blk_cell BK1096.out 2).trans rfl, (blk_cell BK1096.out 3).trans rfl, (blk_cell BK1096.out 4).trans rfl, (blk_cell BK1079.out 0).trans rfl, (blk_cell BK1079.out 1).trans rfl, (blk_cell BK1079.out 2).trans rfl, (blk_cell BK1078.out 0).trans rfl, (blk_cell BK1078.out 1).trans rfl, (blk_cell BK1078.out 2).trans rfl, (blk_cell BK1078.out 3).trans rfl, (blk_cell BK1078.out 4).trans rfl⟩ (fun hHeld => ?_)
           clear hK K
           refine norm_ (a' := ?_) ?_ ?_
           rotate_left
           ·show Act.put _ (some 66) _ = _
            simp only [Act.put, List.setIfInBounds_toArray, List.set_cons_zero, List.set_cons_succ, i64_w, i32_w]
            rfl
           refine pure_ (i := 22) (N := some 67) (v := ?_) (a' := ?_) #[true, true, true, true, true, true, true, true, true, true, true, true, true, true, true, true, true, true, true, true, true, true, true, false, false] rfl rfl (any_of HT_.out (by kernel_rfl)) (fun _ _ _ h => h) (Or.inl ⟨by rfl, ?_⟩) ?_ ?_
           rotate_left
           ·intro w'
            go_simp
            with_reducible rfl
           rotate_left
           ·simp only [Act.put, List.setIfInBounds_toArray, List.set_cons_zero, List.set_cons_succ, i64_w, i32_w]
            rfl
           refine pure_ (i := 23) (N := some 68) (v := ?_) (a' := ?_) #[true, true, true, true, true, true, true, true, true, true, true, true, true, true, true, true, true, true, true, true, true, true, true, true, false] rfl rfl (any_of HT_.out (by kernel_rfl)) (fun _ _ _ h => h) (Or.inl ⟨by rfl, ?_⟩) ?_ ?_
           rotate_left
           ·intro w'
            go_simp
            with_reducible rfl
           rotate_left
           ·simp only [Act.put, List.setIfInBounds_toArray, List.set_cons_zero, List.set_cons_succ, i64_w, i32_w]
            rfl
           refine pure_ (i := 24) (N := some 2) (v := ?_) (a' := ?_) #[true, true, true, true, true, true, true, true, true, true, true, true, true, true, true, true, true, true, true, true, true, true, true, true, true] rfl rfl (any_of HT_.out (by kernel_rfl)) (fun _ _ _ h => h) (Or.inl ⟨by rfl, ?_⟩) ?_ ?_
           rotate_left
           ·intro w'
            go_simp
            with_reducible rfl
           rotate_left
           ·simp only [Act.put, List.setIfInBounds_toArray, List.set_cons_zero, List.set_cons_succ, i64_w, i32_w]
            rfl
           refine done_ (done_of HT_.out (by kernel_rfl)) ?_
           try go_wp2
           go_ret
           exact ⟨rfx, mB HB.out⟩
         ·rw [if_neg c63] at H
          have c63b0 : (t1099 == t1101) = false := beq_eq_false_iff_ne.mpr c63
          have c63b1 : (t1099 != t1101) = true := bne_iff_ne.mpr c63
          replace H := Option.bind_eq_some_iff.mp H
          obtain ⟨⟨t1132, t1133, t1134, t1135, t1136⟩, A900, H⟩ := H
          replace H : ((laws_wqTwo.f 9 t1062 t1063 t1064 t1065 t1066 t1132 t1133 t1134 t1135 t1136).bind fun bt1139 => ((impl_ExprOk.f bt1139.1 bt1139.2.1 bt1139.2.2.1 bt1139.2.2.2.1 bt1139.2.2.2.2).bind fun t1146 => (some (!t1146)))) = some r := H
          have A90 := z0 A900
          clear A900
          replace H := Option.bind_eq_some_iff.mp H
          obtain ⟨⟨t1139, t1140, t1141, t1142, t1143⟩, A910, H⟩ := H
          replace H : ((impl_ExprOk.f t1139 t1140 t1141 t1142 t1143).bind fun t1146 => (some (!t1146))) = some r := H
          have A91 := z0 A910
          clear A910
          replace H := Option.bind_eq_some_iff.mp H
          obtain ⟨t1146, A920, H⟩ := H
          replace H : (some (!t1146)) = some r := H
          have A92 := z0 A920
          clear A920
          obtain rfl := Option.some.inj H
          try go_wp2
          have n0_ := z0 (Kd.N_drew HO_1079004.out)
          have n1_ := z0 (Kd.R_drew HO_1080000.out)
          have n2_ := z0 (Kd.R_drew HO_1080001.out)
          have n3_ := z0 (Kd.R_drew HO_1080002.out)
          have n4_ := z0 (Kd.N_drew HO_1097004.out)
          have n5_ := z0 (blk_drew BK1078.out)
          have n6_ := z0 (blk_drew BK1079.out)
          have n7_ := z0 (blk_drew BK1096.out)
          have n8_ := z0 (below_drew1 HB.out)
          clear HO_1079004 HO_1080000 HO_1080001 HO_1080002 HO_1097004 BK1078 BK1079 BK1096 HB
          have HO_1079004 := n0_
          have HO_1080000 := n1_
          have HO_1080001 := n2_
          have HO_1080002 := n3_
          have HO_1097004 := n4_
          have BK1078 := n5_
          have BK1079 := n6_
          have BK1096 := n7_
          have HB := n8_
          clear n0_ n1_ n2_ n3_ n4_ n5_ n6_ n7_ n8_
          refine start_ (n := 25) (S := fun w' => w'.cell? ⟨gb1096, 0, none⟩ = some (.int .i64 t1089) ∧ w'.cell? ⟨gb1096, 1, none⟩ = some (.int .i64 t1090) ∧ w'.cell? ⟨gb1096, 2, none⟩ = some (.int .i64 t1091) ∧ w'.cell? ⟨gb1096, 3, none⟩ = some (.int .i64 t1092) ∧ w'.cell? ⟨gb1096, 4, none⟩ = some (.slice Ao44 t1093.length co44) ∧ w'.cell? ⟨gb1079, 0, none⟩ = some (.slice Ao13 t1069.length co13) ∧ w'.cell? ⟨gb1079, 1, none⟩ = some (.slice Ao15 t1072.length co15) ∧ w'.cell? ⟨gb1079, 2, none⟩ = some (.slice Ao16 t1075.length co16) ∧ w'.cell? ⟨gb1078, 0, none⟩ = some (.int .i64 t1062) ∧ w'.cell? ⟨gb1078, 1, none⟩ = some (.int .i64 t1063) ∧ w'.cell? ⟨gb1078, 2, none⟩ = some (.int .i64 t1064) ∧ w'.cell? ⟨gb1078, 3, none⟩ = some (.int .i64 t1065) ∧ w'.cell? ⟨gb1078, 4, none⟩ = some (.slice Ao12 t1066.length co12)) (ds := []) #[false, false, false, false, false, false, false, false, false, false, false, false, false, false, false, false, false, false, false, false, false, false, false, false, false] (by kernel_rfl) rfl rfl ⟨(blk_cell BK1096.out 0).trans rfl, (blk_cell BK1096.out 1).trans rfl, (blk_cell BK1096.out 2).trans rfl, (blk_cell BK1096.out 3).trans rfl, (blk_cell BK1096.out 4).trans rfl, (blk_cell BK1079.out 0).trans rfl, (blk_cell BK1079.out 1).trans rfl, (blk_cell BK1079.out 2).trans rfl, (blk_cell BK1078.out 0).trans rfl, (blk_cell BK1078.out 1).trans rfl, (blk_cell BK1078.out 2).trans rfl, (blk_cell BK1078.out 3).trans rfl, (blk_cell BK1078.out 4).trans rfl⟩ (fun hHeld => ?_); refine with_tabW laws_FnExprOn.tab12 laws_FnExprOn.bits12 (fun HT_ HW_ => ?_)
          generalize wc.drew = w93 at HO_1079004 HO_1080000 HO_1080001 HO_1080002 HO_1097004 BK1078 BK1079 BK1096 HB hHeld ⊢
          refine pure_ (i := 3) (N := some 48) (v := ?_) (a' := ?_) #[false, false, false, true, false, false, false, false, false, false, false, false, false, false, false, false, false, false, false, false, false, false, false, false, false] rfl rfl (any_of HT_.out (by kernel_rfl)) (fun _ _ _ h => h) (Or.inl ⟨by rfl, ?_⟩) ?_ ?_
          rotate_left
          ·intro w'
           go_simp
           with_reducible rfl
          rotate_left
          ·simp only [Act.put, List.setIfInBounds_toArray, List.set_cons_zero, List.set_cons_succ, i64_w, i32_w]
           rfl
          refine take_ (i := 0) (N := some 45) (v := ?_) (a' := ?_) #[true, false, false, true, false, false, false, false, false, false, false, false, false, false, false, false, false, false, false, false, false, false, false, false, false] rfl rfl (take_ofW HT_.out HW_.out (by kernel_rfl)) (fun _ _ _ h => h) (Or.inl ⟨by rfl, ?_⟩) hHeld ?_ ?_
          rotate_left
          ·rintro w' ⟨s0, s1, s2, s3, s4, s5, s6, s7, s8, s9, s10, s11, s12⟩
           go_simp
           with_reducible rfl
          rotate_left
          ·simp only [Act.put, List.setIfInBounds_toArray, List.set_cons_zero, List.set_cons_succ, i64_w, i32_w]
           rfl
          refine take_ (i := 1) (N := some 46) (v := ?_) (a' := ?_) #[true, true, false, true, false, false, false, false, false, false, false, false, false, false, false, false, false, false, false, false, false, false, false, false, false] rfl rfl (take_ofW HT_.out HW_.out (by kernel_rfl)) (fun _ _ _ h => h) (Or.inl ⟨by rfl, ?_⟩) hHeld ?_ ?_
          rotate_left
          ·rintro w' ⟨s0, s1, s2, s3, s4, s5, s6, s7, s8, s9, s10, s11, s12⟩
           go_simp
           with_reducible rfl
          rotate_left
          ·simp only [Act.put, List.setIfInBounds_toArray, List.set_cons_zero, List.set_cons_succ, i64_w, i32_w]
           rfl
          refine one_ (i := 2) (N := some 47) #[true, true, true, true, false, false, false, false, false, false, false, false, false, false, false, false, false, false, false, false, false, false, false, false, false] rfl rfl (one_of HT_.out (by kernel_rfl)) (by decide) (fun K hK => ?_)
          refine goes_ Try.func26 (by kernel_rfl) rfl #[.agg #[.int .i64 t1089, .int .i64 t1090, .int .i64 t1091, .int .i64 t1092, .slice Ao44 t1093.length co44], .agg #[.slice Ao13 t1069.length co13, .slice Ao15 t1072.length co15, .slice Ao16 t1075.length co16]] (by rfl) rfl rfl argx ?_
          with_reducible refine (impl_ExprOf.calls t1089 t1090 t1091 t1092 _ _ t1093 _ _ t1069 _ _ t1072 _ _ t1075 t1099 _ ?side1 ?side2 ?side3 ?side4 ?side5 ?side6 ?side7 ?side8 A60.out).mono ?_
          (case side1 => exact mC (Kd.N_reads' HO_1097004.out).2.2)
          (case side2 => exact (Kd.N_reads' HO_1097004.out).2.1)
          (case side3 => exact mC (Kd.R_reads' HO_1080000.out).2.2)
          (case side4 => exact (Kd.R_reads' HO_1080000.out).2.1)
          (case side5 => exact mC (Kd.R_reads' HO_1080001.out).2.2)
          (case side6 => exact (Kd.R_reads' HO_1080001.out).2.1)
          (case side7 => exact mC (Kd.R_reads' HO_1080002.out).2.2)
          (case side8 => exact (Kd.R_reads' HO_1080002.out).2.1)
          rintro e w94 ⟨rfl, hb⟩
          refine ⟨_, rfl, ?_⟩
          have n0_ := z0 (Kd.N_below (mN HO_1079004.out) hb)
          have n1_ := z0 (Kd.R_below (mR HO_1080000.out) hb)
          have n2_ := z0 (Kd.R_below (mR HO_1080001.out) hb)
          have n3_ := z0 (Kd.R_below (mR HO_1080002.out) hb)
          have n4_ := z0 (Kd.N_below (mN HO_1097004.out) hb)
          have n5_ := z0 (blk_below (g := gb1078) (o := .cells #[.int .i64 t1062, .int .i64 t1063, .int .i64 t1064, .int .i64 t1065, .slice Ao12 t1066.length co12] 32 (0, 0)) (mK BK1078.out) hb)
          have n6_ := z0 (blk_below (g := gb1079) (o := .cells #[.slice Ao13 t1069.length co13, .slice Ao15 t1072.length co15, .slice Ao16 t1075.length co16] 44 (0, 0)) (mK BK1079.out) hb)
          have n7_ := z0 (blk_below (g := gb1096) (o := .cells #[.int .i64 t1089, .int .i64 t1090, .int .i64 t1091, .int .i64 t1092, .slice Ao44 t1093.length co44] 32 (0, 0)) (mK BK1096.out) hb)
          have n8_ := z0 (below_step (mB HB.out) hb)
          clear HO_1079004 HO_1080000 HO_1080001 HO_1080002 HO_1097004 BK1078 BK1079 BK1096 HB
          have HO_1079004 := n0_
          have HO_1080000 := n1_
          have HO_1080001 := n2_
          have HO_1080002 := n3_
          have HO_1097004 := n4_
          have BK1078 := n5_
          have BK1079 := n6_
          have BK1096 := n7_
          have HB := n8_
          clear n0_ n1_ n2_ n3_ n4_ n5_ n6_ n7_ n8_
          (try clear hb)
          (try clear hb2)
          (try clear hk)
          (try clear hi)
          refine hK.out _ _ ⟨(blk_cell BK1096.out 0).trans rfl, (blk_cell BK1096.out 1).trans rfl, (blk_cell BK1096.out 2).trans rfl, (blk_cell BK1096.out 3).trans rfl, (blk_cell BK1096.out 4).trans rfl, (blk_cell BK1079.out 0).trans rfl, (blk_cell BK1079.out 1).trans rfl, (blk_cell BK1079.out 2).trans rfl, (blk_cell BK1078.out 0).trans rfl, (blk_cell BK1078.out 1).trans rfl, (blk_cell BK1078.out 2).trans rfl, (blk_cell BK1078.out 3).trans rfl, (blk_cell BK1078.out 4).trans rfl⟩ (fun hHeld => ?_)
          clear hK K
          refine norm_ (a' := ?_) ?_ ?_
          rotate_left
          ·show Act.put _ (some 47) _ = _
           simp only [Act.put, List.setIfInBounds_toArray, List.set_cons_zero, List.set_cons_succ, i64_w, i32_w]
           rfl
          refine one_ (i := 4) (N := some 49) #[true, true, true, true, true, false, false, false, false, false, false, false, false, false, false, false, false, false, false, false, false, false, false, false, false] rfl rfl (one_of HT_.out (by kernel_rfl)) (by decide) (fun K hK => ?_)
          refine goes_ Try.func41 (by kernel_rfl) rfl #[.int .i64 t1080] (by rfl) rfl rfl argx ?_
          with_reducible refine (impl_NumOn.calls t1080 t1100 _ A61.out).mono ?_
          rintro e w' ⟨rfl, ⟨nd, rfl⟩⟩
          refine ⟨_, rfl, ?_⟩
          refine hK.out _ _ ⟨(blk_cell BK1096.out 0).trans rfl, (blk_cell BK1096.out 1).trans rfl, (blk_cell BK1096.out 2).trans rfl, (blk_cell BK1096.out 3).trans rfl, (blk_cell BK1096.out 4).trans rfl, (blk_cell BK1079.out 0).trans rfl, (blk_cell BK1079.out 1).trans rfl, (blk_cell BK1079.out 2).trans rfl, (blk_cell BK1078.out 0).trans rfl, (blk_cell BK1078.out 1).trans rfl, (blk_cell BK1078.out 2).trans rfl, (blk_cell BK1078.out 3).trans rfl, (blk_cell BK1078.out 4).trans rfl⟩ (fun hHeld => ?_)
          clear hK K
          refine norm_ (a' := ?_) ?_ ?_
          rotate_left
          ·show Act.put _ (some 49) _ = _
           simp only [Act.put, List.setIfInBounds_toArray, List.set_cons_zero, List.set_cons_succ, i64_w, i32_w]
           rfl
          refine one_ (i := 5) (N := some 50) #[true, true, true, true, true, true, false, false, false, false, false, false, false, false, false, false, false, false, false, false, false, false, false, false, false] rfl rfl (one_of HT_.out (by kernel_rfl)) (by decide) (fun K hK => ?_)
          refine goes_ Try.func40 (by kernel_rfl) rfl #[.bool t1100] (by rfl) rfl rfl argx ?_
          with_reducible refine (impl_NumIs.calls t1100 t1101 _ A62.out).mono ?_
          rintro e w' ⟨rfl, ⟨nd, rfl⟩⟩
          refine ⟨_, rfl, ?_⟩
          refine hK.out _ _ ⟨(blk_cell BK1096.out 0).trans rfl, (blk_cell BK1096.out 1).trans rfl, (blk_cell BK1096.out 2).trans rfl, (blk_cell BK1096.out 3).trans rfl, (blk_cell BK1096.out 4).trans rfl, (blk_cell BK1079.out 0).trans rfl, (blk_cell BK1079.out 1).trans rfl, (blk_cell BK1079.out 2).trans rfl, (blk_cell BK1078.out 0).trans rfl, (blk_cell BK1078.out 1).trans rfl, (blk_cell BK1078.out 2).trans rfl, (blk_cell BK1078.out 3).trans rfl, (blk_cell BK1078.out 4).trans rfl⟩ (fun hHeld => ?_)
          clear hK K
          refine norm_ (a' := ?_) ?_ ?_
          rotate_left
          ·show Act.put _ (some 50) _ = _
           simp only [Act.put, List.setIfInBounds_toArray, List.set_cons_zero, List.set_cons_succ, i64_w, i32_w]
           rfl
          refine pure_ (i := 6) (N := some 51) (v := ?_) (a' := ?_) #[true, true, true, true, true, true, true, false, false, false, false, false, false, false, false, false, false, false, false, false, false, false, false, false, false] rfl rfl (any_of HT_.out (by kernel_rfl)) (fun _ _ _ h => h) (Or.inl ⟨by rfl, ?_⟩) ?_ ?_
          rotate_left
          ·intro w'
           go_simp
           with_reducible rfl
          rotate_left
          ·simp only [Act.put, List.setIfInBounds_toArray, List.set_cons_zero, List.set_cons_succ, i64_w, i32_w]
           rfl
          refine pure_ (i := 7) (N := some 52) (v := ?_) (a' := ?_) #[true, true, true, true, true, true, true, true, false, false, false, false, false, false, false, false, false, false, false, false, false, false, false, false, false] rfl rfl (any_of HT_.out (by kernel_rfl)) (fun _ _ _ h => h) (Or.inl ⟨by rfl, ?_⟩) ?_ ?_
          rotate_left
          ·intro w'
           go_simp
           with_reducible rfl
          rotate_left
          ·simp only [Act.put, List.setIfInBounds_toArray, List.set_cons_zero, List.set_cons_succ, i64_w, i32_w]
           rfl
          refine pure_ (i := 8) (N := some 53) (v := undef) (a' := ?_) #[true, true, true, true, true, true, true, true, true, false, false, false, false, false, false, false, false, false, false, false, false, false, false, false, false] rfl rfl (any_of HT_.out (by kernel_rfl)) (fun _ _ _ h => h) (Or.inr ⟨by rfl, rfl⟩) ?_ ?_
          rotate_left
          ·simp only [Act.put, List.setIfInBounds_toArray, List.set_cons_zero, List.set_cons_succ, i64_w, i32_w]
           rfl
          refine pure_ (i := 9) (N := some 54) (v := undef) (a' := ?_) #[true, true, true, true, true, true, true, true, true, true, false, false, false, false, false, false, false, false, false, false, false, false, false, false, false] rfl rfl (any_of HT_.out (by kernel_rfl)) (fun _ _ _ h => h) (Or.inr ⟨by rfl, rfl⟩) ?_ ?_
          rotate_left
          ·simp only [Act.put, List.setIfInBounds_toArray, List.set_cons_zero, List.set_cons_succ, i64_w, i32_w]
           rfl
          refine pure_ (i := 10) (N := some 55) (v := undef) (a' := ?_) #[true, true, true, true, true, true, true, true, true, true, true, false, false, false, false, false, false, false, false, false, false, false, false, false, false] rfl rfl (any_of HT_.out (by kernel_rfl)) (fun _ _ _ h => h) (Or.inr ⟨by rfl, rfl⟩) ?_ ?_
          rotate_left
          ·simp only [Act.put, List.setIfInBounds_toArray, List.set_cons_zero, List.set_cons_succ, i64_w, i32_w]
           rfl
          refine pure_ (i := 11) (N := some 56) (v := undef) (a' := ?_) #[true, true, true, true, true, true, true, true, true, true, true, true, false, false, false, false, false, false, false, false, false, false, false, false, false] rfl rfl (any_of HT_.out (by kernel_rfl)) (fun _ _ _ h => h) (Or.inr ⟨by rfl, rfl⟩) ?_ ?_
          rotate_left
          ·simp only [Act.put, List.setIfInBounds_toArray, List.set_cons_zero, List.set_cons_succ, i64_w, i32_w]
           rfl
          refine pure_ (i := 12) (N := some 57) (v := undef) (a' := ?_) #[true, true, true, true, true, true, true, true, true, true, true, true, true, false, false, false, false, false, false, false, false, false, false, false, false] rfl rfl (any_of HT_.out (by kernel_rfl)) (fun _ _ _ h => h) (Or.inr ⟨by rfl, rfl⟩) ?_ ?_
          rotate_left
          ·simp only [Act.put, List.setIfInBounds_toArray, List.set_cons_zero, List.set_cons_succ, i64_w, i32_w]
           rfl
          refine pure_ (i := 13) (N := some 58) (v := undef) (a' := ?_) #[true, true, true, true, true, true, true, true, true, true, true, true, true, true, false, false, false, false, false, false, false, false, false, false, false] rfl rfl (any_of HT_.out (by kernel_rfl)) (fun _ _ _ h => h) (Or.inr ⟨by rfl, rfl⟩) ?_ ?_
          rotate_left
          ·simp only [Act.put, List.setIfInBounds_toArray, List.set_cons_zero, List.set_cons_succ, i64_w, i32_w]
           rfl
          refine pure_ (i := 14) (N := some 59) (v := undef) (a' := ?_) #[true, true, true, true, true, true, true, true, true, true, true, true, true, true, true, false, false, false, false, false, false, false, false, false, false] rfl rfl (any_of HT_.out (by kernel_rfl)) (fun _ _ _ h => h) (Or.inr ⟨by rfl, rfl⟩) ?_ ?_
          rotate_left
          ·simp only [Act.put, List.setIfInBounds_toArray, List.set_cons_zero, List.set_cons_succ, i64_w, i32_w]
           rfl
          refine pure_ (i := 15) (N := some 60) (v := ?_) (a' := ?_) #[true, true, true, true, true, true, true, true, true, true, true, true, true, true, true, true, false, false, false, false, false, false, false, false, false] rfl rfl (any_of HT_.out (by kernel_rfl)) (fun _ _ _ h => h) (Or.inl ⟨by rfl, ?_⟩) ?_ ?_
          rotate_left
          ·intro w'
           go_simp
           with_reducible rfl
          rotate_left
          ·simp only [Act.put, List.setIfInBounds_toArray, List.set_cons_zero, List.set_cons_succ, i64_w, i32_w]
           rfl
          refine pure_ (i := 16) (N := some 61) (v := ?_) (a' := ?_) #[true, true, true, true, true, true, true, true, true, true, true, true, true, true, true, true, true, false, false, false, false, false, false, false, false] rfl rfl (any_of HT_.out (by kernel_rfl)) (fun _ _ _ h => h) (Or.inl ⟨by rfl, ?_⟩) ?_ ?_
          rotate_left
          ·intro w'
           go_simp
           with_reducible rfl
          rotate_left
          ·simp only [Act.put, List.setIfInBounds_toArray, List.set_cons_zero, List.set_cons_succ, i64_w, i32_w]
           rfl
          refine take_ (i := 17) (N := some 62) (v := ?_) (a' := ?_) #[true, true, true, true, true, true, true, true, true, true, true, true, true, true, true, true, true, true, false, false, false, false, false, false, false] rfl rfl (take_ofW HT_.out HW_.out (by kernel_rfl)) (fun _ _ _ h => h) (Or.inl ⟨by rfl, ?_⟩) hHeld ?_ ?_
          rotate_left
          ·rintro w' ⟨s0, s1, s2, s3, s4, s5, s6, s7, s8, s9, s10, s11, s12⟩
           go_simp
           with_reducible rfl
          rotate_left
          ·simp only [Act.put, List.setIfInBounds_toArray, List.set_cons_zero, List.set_cons_succ, i64_w, i32_w]
           rfl
          refine take_ (i := 18) (N := some 63) (v := ?_) (a' := ?_) #[true, true, true, true, true, true, true, true, true, true, true, true, true, true, true, true, true, true, true, false, false, false, false, false, false] rfl rfl (take_ofW HT_.out HW_.out (by kernel_rfl)) (fun _ _ _ h => h) (Or.inl ⟨by rfl, ?_⟩) hHeld ?_ ?_
          rotate_left
          ·rintro w' ⟨s0, s1, s2, s3, s4, s5, s6, s7, s8, s9, s10, s11, s12⟩
           go_simp
           with_reducible rfl
          rotate_left
          ·simp only [Act.put, List.setIfInBounds_toArray, List.set_cons_zero, List.set_cons_succ, i64_w, i32_w]
           rfl
          refine one_ (i := 19) (N := some 64) #[true, true, true, true, true, true, true, true, true, true, true, true, true, true, true, true, true, true, true, true, false, false, false, false, false] rfl rfl (one_of HT_.out (by kernel_rfl)) (by decide) (fun K hK => ?_)
          refine goes_ Try.func38 (by kernel_rfl) rfl #[.agg #[.int .i64 t1062, .int .i64 t1063, .int .i64 t1064, .int .i64 t1065, .slice Ao12 t1066.length co12]] (by rfl) rfl rfl argx ?_
          with_reducible refine (laws_wqNot.calls t1062 t1063 t1064 t1065 (fun k_ => (nB k_ (.slice Ao13 t1069.length co13) ∧ (nB k_ (.slice Ao15 t1072.length co15) ∧ (nB k_ (.slice Ao16 t1075.length co16) ∧ (nB k_ (.slice Ao44 t1093.length co44) ∧ (k_ ≠ gb1078 ∧ (k_ ≠ gb1079 ∧ k_ ≠ gb1096))))))) _ _ t1066 t1132 t1133 t1134 t1135 t1136 _ ?side1 A90.out).mono ?_
          (case side1 => exact Kd.N_V (HO_1079004.out))
          rintro e w95 ⟨v1137, rfl, ho0, hb⟩
          refine ⟨_, rfl, ?_⟩
          have n0_ := z0 (Kd.N_elder' (mN HO_1079004.out) (by first | exact Kd.N_base ho0 | exact Kd.R_base ho0) hb)
          have n1_ := z0 (Kd.R_below (mR HO_1080000.out) hb)
          have n2_ := z0 (Kd.R_below (mR HO_1080001.out) hb)
          have n3_ := z0 (Kd.R_below (mR HO_1080002.out) hb)
          have n4_ := z0 (Kd.N_elder' (mN HO_1097004.out) (by first | exact Kd.N_base ho0 | exact Kd.R_base ho0) hb)
          have n5_ := z0 (Kd.N_lower (Kd.N_mono (ok' := fun k_ => nB k_ (.slice Ao13 t1069.length co13) ∧ nB k_ (.slice Ao15 t1072.length co15) ∧ nB k_ (.slice Ao16 t1075.length co16) ∧ nB k_ (.slice Ao44 t1093.length co44) ∧ k_ ≠ gb1078 ∧ k_ ≠ gb1079 ∧ k_ ≠ gb1096) ho0 (fun k_ hk_ => ⟨Or.elim hk_ (fun hs_ => hs_.1) (fun hn_ => (Kd.fresh' (Kd.R_lt (mR HO_1080000.out)) k_ hn_)), Or.elim hk_ (fun hs_ => hs_.2.1) (fun hn_ => (Kd.fresh' (Kd.R_lt (mR HO_1080001.out)) k_ hn_)), Or.elim hk_ (fun hs_ => hs_.2.2.1) (fun hn_ => (Kd.fresh' (Kd.R_lt (mR HO_1080002.out)) k_ hn_)), Or.elim hk_ (fun hs_ => hs_.2.2.2.1) (fun hn_ => (Kd.fresh' (Kd.N_lt (mN HO_1097004.out)) k_ hn_)), Or.elim hk_ (fun hs_ => hs_.2.2.2.2.1) (fun hn_ => (Kd.freshB (g := gb1078) (o := .cells #[.int .i64 t1062, .int .i64 t1063, .int .i64 t1064, .int .i64 t1065, .slice Ao12 t1066.length co12] 32 (0, 0)) (mK BK1078.out) k_ hn_)), Or.elim hk_ (fun hs_ => hs_.2.2.2.2.2.1) (fun hn_ => (Kd.freshB (g := gb1079) (o := .cells #[.slice Ao13 t1069.length co13, .slice Ao15 t1072.length co15, .slice Ao16 t1075.length co16] 44 (0, 0)) (mK BK1079.out) k_ hn_)), Or.elim hk_ (fun hs_ => hs_.2.2.2.2.2.2) (fun hn_ => (Kd.freshB (g := gb1096) (o := .cells #[.int .i64 t1089, .int .i64 t1090, .int .i64 t1091, .int .i64 t1092, .slice Ao44 t1093.length co44] 32 (0, 0)) (mK BK1096.out) k_ hn_))⟩)) (below_size (mB HB.out)))
          have n6_ := z0 (blk_below (g := gb1078) (o := .cells #[.int .i64 t1062, .int .i64 t1063, .int .i64 t1064, .int .i64 t1065, .slice Ao12 t1066.length co12] 32 (0, 0)) (mK BK1078.out) hb)
          have n7_ := z0 (blk_below (g := gb1079) (o := .cells #[.slice Ao13 t1069.length co13, .slice Ao15 t1072.length co15, .slice Ao16 t1075.length co16] 44 (0, 0)) (mK BK1079.out) hb)
          have n8_ := z0 (blk_below (g := gb1096) (o := .cells #[.int .i64 t1089, .int .i64 t1090, .int .i64 t1091, .int .i64 t1092, .slice Ao44 t1093.length co44] 32 (0, 0)) (mK BK1096.out) hb)
          have n9_ := z0 (below_step (mB HB.out) hb)
          clear HO_1079004 HO_1080000 HO_1080001 HO_1080002 HO_1097004 BK1078 BK1079 BK1096 HB
          have HO_1079004 := n0_
          have HO_1080000 := n1_
          have HO_1080001 := n2_
          have HO_1080002 := n3_
          have HO_1097004 := n4_
          have HO1138 := n5_
          have BK1078 := n6_
          have BK1079 := n7_
          have BK1096 := n8_
          have HB := n9_
          clear n0_ n1_ n2_ n3_ n4_ n5_ n6_ n7_ n8_ n9_
          (try clear hb)
          (try clear hb2)
          (try clear hk)
          (try clear hi)
          (try clear ho0)
          obtain ⟨Ao96, co96, eo96⟩ := Kd.N_slice HO1138.out
          (first | subst eo96 | (injection eo96 with f1_ f2_ f3_; have f4_ := f1_.symm; have f5_ := f3_.symm; clear f1_ f2_ f3_; subst f4_; subst f5_))
          refine hK.out _ _ ⟨(blk_cell BK1096.out 0).trans rfl, (blk_cell BK1096.out 1).trans rfl, (blk_cell BK1096.out 2).trans rfl, (blk_cell BK1096.out 3).trans rfl, (blk_cell BK1096.out 4).trans rfl, (blk_cell BK1079.out 0).trans rfl, (blk_cell BK1079.out 1).trans rfl, (blk_cell BK1079.out 2).trans rfl, (blk_cell BK1078.out 0).trans rfl, (blk_cell BK1078.out 1).trans rfl, (blk_cell BK1078.out 2).trans rfl, (blk_cell BK1078.out 3).trans rfl, (blk_cell BK1078.out 4).trans rfl⟩ (fun hHeld => ?_)
          clear hK K
          refine norm_ (a' := ?_) ?_ ?_
          rotate_left
          ·show Act.put _ (some 64) _ = _
           simp only [Act.put, List.setIfInBounds_toArray, List.set_cons_zero, List.set_cons_succ, i64_w, i32_w]
           rfl
          refine one_ (i := 20) (N := some 65) #[true, true, true, true, true, true, true, true, true, true, true, true, true, true, true, true, true, true, true, true, true, false, false, false, false] rfl rfl (one_of HT_.out (by kernel_rfl)) (by decide) (fun K hK => ?_)
          refine goes_ Try.func37 (by kernel_rfl) rfl #[.int .i64 9, .agg #[.int .i64 t1062, .int .i64 t1063, .int .i64 t1064, .int .i64 t1065, .slice Ao12 t1066.length co12], .agg #[.int .i64 t1132, .int .i64 t1133, .int .i64 t1134, .int .i64 t1135, .slice Ao96 t1136.length co96]] (by rfl) rfl rfl argx ?_
          with_reducible refine (laws_wqTwo.calls 9 t1062 t1063 t1064 t1065 (fun k_ => ((nB k_ (.slice Ao13 t1069.length co13) ∧ (nB k_ (.slice Ao15 t1072.length co15) ∧ (nB k_ (.slice Ao16 t1075.length co16) ∧ (nB k_ (.slice Ao44 t1093.length co44) ∧ (k_ ≠ gb1078 ∧ (k_ ≠ gb1079 ∧ k_ ≠ gb1096)))))) ∧ nB k_ (.slice Ao96 t1136.length co96))) _ _ t1066 t1132 t1133 t1134 t1135 (fun k_ => (nB k_ (.slice Ao13 t1069.length co13) ∧ (nB k_ (.slice Ao15 t1072.length co15) ∧ (nB k_ (.slice Ao16 t1075.length co16) ∧ (nB k_ (.slice Ao44 t1093.length co44) ∧ (k_ ≠ gb1078 ∧ (k_ ≠ gb1079 ∧ k_ ≠ gb1096))))))) _ _ t1136 t1139 t1140 t1141 t1142 t1143 _ ?side1 ?side2 A91.out).mono ?_
          (case side1 => exact Kd.N_V (HO_1079004.out))
          (case side2 => exact Kd.N_V (HO1138.out))
          rintro e w97 ⟨v1144, rfl, ho0, hb⟩
          refine ⟨_, rfl, ?_⟩
          have n0_ := z0 (Kd.N_elder' (mN HO_1079004.out) (by first | exact Kd.N_base ho0 | exact Kd.R_base ho0) hb)
          have n1_ := z0 (Kd.R_below (mR HO_1080000.out) hb)
          have n2_ := z0 (Kd.R_below (mR HO_1080001.out) hb)
          have n3_ := z0 (Kd.R_below (mR HO_1080002.out) hb)
          have n4_ := z0 (Kd.N_elder' (mN HO_1097004.out) (by first | exact Kd.N_base ho0 | exact Kd.R_base ho0) hb)
          have n5_ := z0 (Kd.N_elder' (mN HO1138.out) (by first | exact Kd.N_base ho0 | exact Kd.R_base ho0) hb)
          have n6_ := z0 (Kd.N_lower (Kd.N_mono (ok' := fun k_ => nB k_ (.slice Ao13 t1069.length co13) ∧ nB k_ (.slice Ao15 t1072.length co15) ∧ nB k_ (.slice Ao16 t1075.length co16) ∧ nB k_ (.slice Ao44 t1093.length co44) ∧ k_ ≠ gb1078 ∧ k_ ≠ gb1079 ∧ k_ ≠ gb1096) ho0 (fun k_ hk_ => ⟨Or.elim hk_ (fun hs_ => Or.elim hs_ (fun hs_ => hs_.1.1) (fun hs_ => hs_.1)) (fun hn_ => (Kd.fresh' (Kd.R_lt (mR HO_1080000.out)) k_ hn_)), Or.elim hk_ (fun hs_ => Or.elim hs_ (fun hs_ => hs_.1.2.1) (fun hs_ => hs_.2.1)) (fun hn_ => (Kd.fresh' (Kd.R_lt (mR HO_1080001.out)) k_ hn_)), Or.elim hk_ (fun hs_ => Or.elim hs_ (fun hs_ => hs_.1.2.2.1) (fun hs_ => hs_.2.2.1)) (fun hn_ => (Kd.fresh' (Kd.R_lt (mR HO_1080002.out)) k_ hn_)), Or.elim hk_ (fun hs_ => Or.elim hs_ (fun hs_ => hs_.1.2.2.2.1) (fun hs_ => hs_.2.2.2.1)) (fun hn_ => (Kd.fresh' (Kd.N_lt (mN HO_1097004.out)) k_ hn_)), Or.elim hk_ (fun hs_ => Or.elim hs_ (fun hs_ => hs_.1.2.2.2.2.1) (fun hs_ => hs_.2.2.2.2.1)) (fun hn_ => (Kd.freshB (g := gb1078) (o := .cells #[.int .i64 t1062, .int .i64 t1063, .int .i64 t1064, .int .i64 t1065, .slice Ao12 t1066.length co12] 32 (0, 0)) (mK BK1078.out) k_ hn_)), Or.elim hk_ (fun hs_ => Or.elim hs_ (fun hs_ => hs_.1.2.2.2.2.2.1) (fun hs_ => hs_.2.2.2.2.2.1)) (fun hn_ => (Kd.freshB (g := gb1079) (o := .cells #[.slice Ao13 t1069.length co13, .slice Ao15 t1072.length co15, .slice Ao16 t1075.length co16] 44 (0, 0)) (mK BK1079.out) k_ hn_)), Or.elim hk_ (fun hs_ => Or.elim hs_ (fun hs_ => hs_.1.2.2.2.2.2.2) (fun hs_ => hs_.2.2.2.2.2.2)) (fun hn_ => (Kd.freshB (g := gb1096) (o := .cells #[.int .i64 t1089, .int .i64 t1090, .int .i64 t1091, .int .i64 t1092, .slice Ao44 t1093.length co44] 32 (0, 0)) (mK BK1096.out) k_ hn_))⟩)) (below_size (mB HB.out)))
          have n7_ := z0 (blk_below (g := gb1078) (o := .cells #[.int .i64 t1062, .int .i64 t1063, .int .i64 t1064, .int .i64 t1065, .slice Ao12 t1066.length co12] 32 (0, 0)) (mK BK1078.out) hb)
          have n8_ := z0 (blk_below (g := gb1079) (o := .cells #[.slice Ao13 t1069.length co13, .slice Ao15 t1072.length co15, .slice Ao16 t1075.length co16] 44 (0, 0)) (mK BK1079.out) hb)
          have n9_ := z0 (blk_below (g := gb1096) (o := .cells #[.int .i64 t1089, .int .i64 t1090, .int .i64 t1091, .int .i64 t1092, .slice Ao44 t1093.length co44] 32 (0, 0)) (mK BK1096.out) hb)
          have n10_ := z0 (below_step (mB HB.out) hb)
          clear HO_1079004 HO_1080000 HO_1080001 HO_1080002 HO_1097004 HO1138 BK1078 BK1079 BK1096 HB
          have HO_1079004 := n0_
          have HO_1080000 := n1_
          have HO_1080001 := n2_
          have HO_1080002 := n3_
          have HO_1097004 := n4_
          have HO1138 := n5_
          have HO1145 := n6_
          have BK1078 := n7_
          have BK1079 := n8_
          have BK1096 := n9_
          have HB := n10_
          clear n0_ n1_ n2_ n3_ n4_ n5_ n6_ n7_ n8_ n9_ n10_
          (try clear hb)
          (try clear hb2)
          (try clear hk)
          (try clear hi)
          (try clear ho0)
          obtain ⟨Ao98, co98, eo98⟩ := Kd.N_slice HO1145.out
          (first | subst eo98 | (injection eo98 with f1_ f2_ f3_; have f4_ := f1_.symm; have f5_ := f3_.symm; clear f1_ f2_ f3_; subst f4_; subst f5_))
          refine hK.out _ _ ⟨(blk_cell BK1096.out 0).trans rfl, (blk_cell BK1096.out 1).trans rfl, (blk_cell BK1096.out 2).trans rfl, (blk_cell BK1096.out 3).trans rfl, (blk_cell BK1096.out 4).trans rfl, (blk_cell BK1079.out 0).trans rfl, (blk_cell BK1079.out 1).trans rfl, (blk_cell BK1079.out 2).trans rfl, (blk_cell BK1078.out 0).trans rfl, (blk_cell BK1078.out 1).trans rfl, (blk_cell BK1078.out 2).trans rfl, (blk_cell BK1078.out 3).trans rfl, (blk_cell BK1078.out 4).trans rfl⟩ (fun hHeld => ?_)
          clear hK K
          refine norm_ (a' := ?_) ?_ ?_
          rotate_left
          ·show Act.put _ (some 65) _ = _
           simp only [Act.put, List.setIfInBounds_toArray, List.set_cons_zero, List.set_cons_succ, i64_w, i32_w]
           rfl
          refine one_ (i := 21) (N := some 66) #[true, true, true, true, true, true, true, true, true, true, true, true, true, true, true, true, true, true, true, true, true, true, false, false, false] rfl rfl (one_of HT_.out (by kernel_rfl)) (by decide) (fun K hK => ?_)
          refine goes_ Try.func18 (by kernel_rfl) rfl #[.agg #[.int .i64 t1139, .int .i64 t1140, .int .i64 t1141, .int .i64 t1142, .slice Ao98 t1143.length co98]] (by rfl) rfl rfl argx ?_
          with_reducible refine (impl_ExprOk.calls t1139 t1140 t1141 t1142 _ _ t1143 t1146 _ ?side1 ?side2 A92.out).mono ?_
          (case side1 => exact mC (Kd.N_reads' HO1145.out).2.2)
          (case side2 => exact (Kd.N_reads' HO1145.out).2.1)
          rintro e w99 ⟨rfl, hb⟩
          refine ⟨_, rfl, ?_⟩
          have n0_ := z0 (Kd.N_below (mN HO_1079004.out) hb)
          have n1_ := z0 (Kd.R_below (mR HO_1080000.out) hb)
          have n2_ := z0 (Kd.R_below (mR HO_1080001.out) hb)
          have n3_ := z0 (Kd.R_below (mR HO_1080002.out) hb)
          have n4_ := z0 (Kd.N_below (mN HO_1097004.out) hb)
          have n5_ := z0 (Kd.N_below (mN HO1138.out) hb)
          have n6_ := z0 (Kd.N_below (mN HO1145.out) hb)
          have n7_ := z0 (blk_below (g := gb1078) (o := .cells #[.int .i64 t1062, .int .i64 t1063, .int .i64 t1064, .int .i64 t1065, .slice Ao12 t1066.length co12] 32 (0, 0)) (mK BK1078.out) hb)
          have n8_ := z0 (blk_below (g := gb1079) (o := .cells #[.slice Ao13 t1069.length co13, .slice Ao15 t1072.length co15, .slice Ao16 t1075.length co16] 44 (0, 0)) (mK BK1079.out) hb)
          have n9_ := z0 (blk_below (g := gb1096) (o := .cells #[.int .i64 t1089, .int .i64 t1090, .int .i64 t1091, .int .i64 t1092, .slice Ao44 t1093.length co44] 32 (0, 0)) (mK BK1096.out) hb)
          have n10_ := z0 (below_step (mB HB.out) hb)
          clear HO_1079004 HO_1080000 HO_1080001 HO_1080002 HO_1097004 HO1138 HO1145 BK1078 BK1079 BK1096 HB
          have HO_1079004 := n0_
          have HO_1080000 := n1_
          have HO_1080001 := n2_
          have HO_1080002 := n3_
          have HO_1097004 := n4_
          have HO1138 := n5_
          have HO1145 := n6_
          have BK1078 := n7_
          have BK1079 := n8_
          have BK1096 := n9_
          have HB := n10_
          clear n0_ n1_ n2_ n3_ n4_ n5_ n6_ n7_ n8_ n9_ n10_
          (try clear hb)
          (try clear hb2)
          (try clear hk)
          (try clear hi)
          refine hK.out _ _ ⟨(blk_cell BK1096.out 0).trans rfl, (blk_cell BK1096.out 1).trans rfl, (blk_cell BK1096.out 2).trans rfl, (blk_cell BK1096.out 3).trans rfl, (blk_cell BK1096.out 4).trans rfl, (blk_cell BK1079.out 0).trans rfl, (blk_cell BK1079.out 1).trans rfl, (blk_cell BK1079.out 2).trans rfl, (blk_cell BK1078.out 0).trans rfl, (blk_cell BK1078.out 1).trans rfl, (blk_cell BK1078.out 2).trans rfl, (blk_cell BK1078.out 3).trans rfl, (blk_cell BK1078.out 4).trans rfl⟩ (fun hHeld => ?_)
          clear hK K
          refine norm_ (a' := ?_) ?_ ?_
          rotate_left
          ·show Act.put _ (some 66) _ = _
           simp only [Act.put, List.setIfInBounds_toArray, List.set_cons_zero, List.set_cons_succ, i64_w, i32_w]
           rfl
          refine pure_ (i := 22) (N := some 67) (v := ?_) (a' := ?_) #[true, true, true, true, true, true, true, true, true, true, true, true, true, true, true, true, true, true, true, true, true, true, true, false, false] rfl rfl (any_of HT_.out (by kernel_rfl)) (fun _ _ _ h => h) (Or.inl ⟨by rfl, ?_⟩) ?_ ?_
          rotate_left
          ·intro w'
           go_simp
           with_reducible rfl
          rotate_left
          ·simp only [Act.put, List.setIfInBounds_toArray, List.set_cons_zero, List.set_cons_succ, i64_w, i32_w]
           rfl
          refine pure_ (i := 23) (N := some 68) (v := ?_) (a' := ?_) #[true, true, true, true, true, true, true, true, true, true, true, true, true, true, true, true, true, true, true, true, true, true, true, true, false] rfl rfl (any_of HT_.out (by kernel_rfl)) (fun _ _ _ h => h) (Or.inl ⟨by rfl, ?_⟩) ?_ ?_
          rotate_left
          ·intro w'
           go_simp
           with_reducible rfl
          rotate_left
          ·simp only [Act.put, List.setIfInBounds_toArray, List.set_cons_zero, List.set_cons_succ, i64_w, i32_w]
           rfl
          refine pure_ (i := 24) (N := some 2) (v := ?_) (a' := ?_) #[true, true, true, true, true, true, true, true, true, true, true, true, true, true, true, true, true, true, true, true, true, true, true, true, true] rfl rfl (any_of HT_.out (by kernel_rfl)) (fun _ _ _ h => h) (Or.inl ⟨by rfl, ?_⟩) ?_ ?_
          rotate_left
          ·intro w'
           go_simp
           with_reducible rfl
          rotate_left
          ·simp only [Act.put, List.setIfInBounds_toArray, List.set_cons_zero, List.set_cons_succ, i64_w, i32_w]
           rfl
          refine done_ (done_of HT_.out (by kernel_rfl)) ?_
          try go_wp2
          go_ret
          exact ⟨rfx, mB HB.out⟩
  ·rw [if_neg c21] at H
   have c21b0 : (t1080 == t1081) = false := beq_eq_false_iff_ne.mpr c21
   have c21b1 : (t1080 != t1081) = true := bne_iff_ne.mpr c21
   (first | rw [c21b0] | (simp only [i64_w, i32_w]; rw [c21b0]) | skip)
   obtain rfl := Option.some.inj H
   go_wp2
   go_ret
   exact ⟨rfx, mB HB.out⟩

/-- THE ONE PURE STATEMENT of laws_FnExprOn: yours. -/
def laws_FnExprOn.Pure : Prop := ∀ (l0 : List Int), l0.length ≤ maxLen → l0.length * 1 ≤ 140737488351232 → (∀ x ∈ l0, (Lit.int .u8 x).wf = true) → ∃ k, laws_FnExprOn.f k l0 = some true
theorem laws_FnExprOn.walk (P : laws_FnExprOn.Pure) (a0 : Option Addr) (len0 cap0 : Nat) (z0 : List Int) (w : World) (w0 : (a0 = none ∧ len0 = 0 ∧ cap0 = 0 ∧ z0 = []) ∨ ∃ x, a0 = some x ∧ len0 ≤ cap0 ∧ cap0 ≤ maxLen ∧ z0.length = cap0 ∧ (∀ i, i < z0.length → w.cell? (x.add i) = some (.int .u8 (z0.getD i 0))) ∧ ∀ n ∈ z0, (Lit.int .u8 n).wf = true) (y0 : len0 * 1 ≤ 140737488351232) :
  Calls Try.prog 11 #[.slice a0 len0 cap0] w fun e w' => e = .returned (.bool true) ∧ Below w.heap.size w w' := by
 obtain ⟨l0, rfl, hr0, hm0, hw0, hc0⟩ := ReadsInt.ofRowC w0
 obtain ⟨k, h⟩ := P l0 hm0 y0 hw0
 refine (laws_FnExprOn.calls k _ _ l0 true w (Kd.C_of_reads (d := (0 : Int)) (h1 := fun _ => rfl) hr0) hc0 h).mono ?_
 rintro e w' ⟨rfl, hd⟩
 exact ⟨rfl, hd⟩

end Go.Proofs.Ytiofkhfmdophpaa.B
