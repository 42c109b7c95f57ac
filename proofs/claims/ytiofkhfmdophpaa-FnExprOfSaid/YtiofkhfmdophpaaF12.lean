-- printed by base.py (this claim's tool) over the kit's print
import Derived.Test.YtiofkhfmdophpaaB0
import Derived.Test.YtiofkhfmdophpaaSq
import Derived.Test.YtiofkhfmdophpaaPkA
import Derived.Test.YtiofkhfmdophpaaZOf
import Derived.Test.YtiofkhfmdophpaaPkD
import Derived.Test.YtiofkhfmdophpaaZGet
namespace Go.Proofs.Ytiofkhfmdophpaa.B
open Go.RowKit Go.Proofs.YtiofkhfmdophpaaW.PrintWords Go.Proofs.YtiofkhfmdophpaaW.PrintLast Go.Proofs.YtiofkhfmdophpaaW.PrintMore
attribute [local go_sem] max2_int min2_int max_two min_two max_three min_three max_four min_four   -- for this text's walks alone
set_option linter.unusedVariables false
set_option linter.unusedSimpArgs false

/-! ### laws_FnExprOf: function 12 -/
mutual
def laws_FnExprOf.j0 : Nat → Int → Bool → Int → Int → Int → Int → List (S32) → List Int → List Int → List Int → Option (Bool)
 | 0, _, _, _, _, _, _, _, _, _, _ => none
 | k + 1, x5, x29, x1173000, x1173001, x1173002, x1173003, x1173004, x1174000, x1174001, x1174002 => if x29 = true then (some false) else ((spec_ExprOk.f k x1173000 x1173001 x1173002 x1173003 x1173004).bind fun t1177 => (if t1177 = true then ((spec_MemOk.f k x1174000 x1174001 x1174002).bind fun t1178 => (laws_FnExprOf.j1 k x5 (!t1178) x1173000 x1173001 x1173002 x1173003 x1173004 x1174000 x1174001 x1174002)) else (laws_FnExprOf.j1 k x5 true x1173000 x1173001 x1173002 x1173003 x1173004 x1174000 x1174001 x1174002)))
def laws_FnExprOf.j1 : Nat → Int → Bool → Int → Int → Int → Int → List (S32) → List Int → List Int → List Int → Option (Bool)
 | 0, _, _, _, _, _, _, _, _, _, _ => none
 | k + 1, x5, x37, x1173000, x1173001, x1173002, x1173003, x1173004, x1174000, x1174001, x1174002 => if x37 = true then (some (x5 == 0)) else (laws_FnExprOf.l0 k x5 (([0, 0] : List Int)) 0 x1173000 x1173001 x1173002 x1173003 x1173004 x1174000 x1174001 x1174002)
def laws_FnExprOf.l0 : Nat → Int → List Int → Int → Int → Int → Int → Int → List (S32) → List Int → List Int → List Int → Option (Bool)
 | 0, _, _, _, _, _, _, _, _, _, _, _ => none
 | k + 1, x5, x6, x7, x1173000, x1173001, x1173002, x1173003, x1173004, x1174000, x1174001, x1174002 => if x7 < (x1173004.length : Int) then (if 0 ≤ x7 then ((impl_ExprOf.f ((rd_T32 x1173004 x7).f0) ((rd_T32 x1173004 x7).f1) ((rd_T32 x1173004 x7).f2.f0) ((rd_T32 x1173004 x7).f2.f1) ((rd_T32 x1173004 x7).f3) x1174000 x1174001 x1174002).bind fun t1183 => (if x7 < (x6.length : Int) then (laws_FnExprOf.l0 k x5 (x6.set (x7 : Int).toNat t1183) (wrap64 (x7 + 1)) x1173000 x1173001 x1173002 x1173003 x1173004 x1174000 x1174001 x1174002) else (none))) else (none)) else (if x1173000 = 1 then (some (x5 == x1173001)) else (if x1173000 = 2 then ((impl_MemGet.f x1174000 x1174001 x1174002 x1173002 x1173003).bind fun t1185 => (some (x5 == t1185))) else (if x1173000 = 3 then (if 0 < (x6.length : Int) then (if 1 < (x6.length : Int) then ((impl_NumAdd.f (rd x6 0) (rd x6 1)).bind fun t1188 => (some (x5 == t1188))) else (none)) else (none)) else (if x1173000 = 4 then (if 0 < (x6.length : Int) then (if 1 < (x6.length : Int) then ((impl_NumSub.f (rd x6 0) (rd x6 1)).bind fun t1191 => (some (x5 == t1191))) else (none)) else (none)) else (if x1173000 = 5 then (if 0 < (x6.length : Int) then (if 1 < (x6.length : Int) then ((impl_NumMul.f (rd x6 0) (rd x6 1)).bind fun t1194 => (some (x5 == t1194))) else (none)) else (none)) else (if x1173000 = 6 then (if 0 < (x6.length : Int) then (if 1 < (x6.length : Int) then ((impl_NumIs.f (decide ((rd x6 0) < (rd x6 1)))).bind fun t1197 => (some (x5 == t1197))) else (none)) else (none)) else (if x1173000 = 7 then (if 0 < (x6.length : Int) then (if 1 < (x6.length : Int) then ((impl_NumIs.f ((rd x6 0) == (rd x6 1))).bind fun t1200 => (some (x5 == t1200))) else (none)) else (none)) else (if x1173000 = 8 then (if 0 < (x6.length : Int) then (if (rd x6 0) = 0 then ((impl_NumIs.f false).bind fun t1202 => (some (x5 == t1202))) else (if 1 < (x6.length : Int) then ((impl_NumIs.f ((rd x6 1) != 0)).bind fun t1204 => (some (x5 == t1204))) else (none))) else (none)) else (if x1173000 = 9 then (if 0 < (x6.length : Int) then (if (rd x6 0) = 0 then (if 1 < (x6.length : Int) then ((impl_NumIs.f ((rd x6 1) != 0)).bind fun t1207 => (some (x5 == t1207))) else (none)) else ((impl_NumIs.f true).bind fun t1208 => (some (x5 == t1208)))) else (none)) else (if 0 < (x6.length : Int) then ((impl_NumIs.f ((rd x6 0) == 0)).bind fun t1210 => (some (x5 == t1210))) else (none)))))))))))
end
def laws_FnExprOf.f (k : Nat) (l0 : List Int) : Option (Bool) := if (l0.length : Int) > 1048576 then (some true) else ((spec_DrawExprOf.f k l0).bind fun bt1156 => ((impl_ExprOf.f bt1156.1 bt1156.2.1 bt1156.2.2.1 bt1156.2.2.2.1 bt1156.2.2.2.2.1 bt1156.2.2.2.2.2.1 bt1156.2.2.2.2.2.2.1 bt1156.2.2.2.2.2.2.2).bind fun t1174 => ((spec_ExprOf.f k bt1156.1 bt1156.2.1 bt1156.2.2.1 bt1156.2.2.2.1 bt1156.2.2.2.2.1 bt1156.2.2.2.2.2.1 bt1156.2.2.2.2.2.2.1 bt1156.2.2.2.2.2.2.2).bind fun t1175 => (if t1174 = t1175 then ((impl_NumCut.f t1174).bind fun t1176 => (laws_FnExprOf.j0 k t1174 (t1176 != t1174) bt1156.1 bt1156.2.1 bt1156.2.2.1 bt1156.2.2.2.1 bt1156.2.2.2.2.1 bt1156.2.2.2.2.2.1 bt1156.2.2.2.2.2.2.1 bt1156.2.2.2.2.2.2.2)) else (laws_FnExprOf.j0 k t1174 true bt1156.1 bt1156.2.1 bt1156.2.2.1 bt1156.2.2.2.1 bt1156.2.2.2.2.1 bt1156.2.2.2.2.2.1 bt1156.2.2.2.2.2.2.1 bt1156.2.2.2.2.2.2.2)))))
def laws_FnExprOf.T13 : Bool × List (List Nat × List Nat) := (true, [([], []), ([], []), ([], []), ([2], [2]), ([], []), ([3, 4], [3, 4]), ([5], [5]), ([], []), ([6, 7], [6, 7]), ([0, 1, 0, 1, 2, 3, 4, 5, 6, 7, 8], [0, 1]), ([9, 8, 8, 0, 1, 2, 3, 4, 5, 6, 7, 8], [8, 9])])
def laws_FnExprOf.B13 : List Nat := [0, 0, 0, 4, 0, 28, 60, 0, 252, 511, 1023]
theorem laws_FnExprOf.tab13 : rtab .any (opsOf Try.f12 13) = laws_FnExprOf.T13 := by kernel_rfl
theorem laws_FnExprOf.bits13 : waitsOk laws_FnExprOf.T13.2 laws_FnExprOf.B13 = true := by kernel_rfl
def laws_FnExprOf.T20 : Bool × List (List Nat × List Nat) := (true, [([], []), ([], []), ([1], [1]), ([2], [2]), ([], []), ([4], [4]), ([5], [5]), ([3, 6], [3, 6]), ([0, 7], [0, 7]), ([8, 7, 0, 1, 2, 3, 4, 5, 6, 7, 8], [8])])
def laws_FnExprOf.B20 : List Nat := [0, 0, 2, 6, 0, 16, 48, 126, 255, 511]
theorem laws_FnExprOf.tab20 : rtab .any (opsOf Try.f12 20) = laws_FnExprOf.T20 := by kernel_rfl
theorem laws_FnExprOf.bits20 : waitsOk laws_FnExprOf.T20.2 laws_FnExprOf.B20 = true := by kernel_rfl
def laws_FnExprOf.T22 : Bool × List (List Nat × List Nat) := (true, [([], []), ([], []), ([1], [1]), ([2], [2]), ([], []), ([4], [4]), ([5], [5]), ([3, 6], [3, 6]), ([0, 7], [0, 7]), ([8, 7, 0, 1, 2, 3, 4, 5, 6, 7, 8], [8])])
def laws_FnExprOf.B22 : List Nat := [0, 0, 2, 6, 0, 16, 48, 126, 255, 511]
theorem laws_FnExprOf.tab22 : rtab .any (opsOf Try.f12 22) = laws_FnExprOf.T22 := by kernel_rfl
theorem laws_FnExprOf.bits22 : waitsOk laws_FnExprOf.T22.2 laws_FnExprOf.B22 = true := by kernel_rfl
def laws_FnExprOf.T24 : Bool × List (List Nat × List Nat) := (true, [([], []), ([], []), ([1], [1]), ([2], [2]), ([], []), ([4], [4]), ([5], [5]), ([3, 6], [3, 6]), ([0, 7], [0, 7]), ([8, 7, 0, 1, 2, 3, 4, 5, 6, 7, 8], [8])])
def laws_FnExprOf.B24 : List Nat := [0, 0, 2, 6, 0, 16, 48, 126, 255, 511]
theorem laws_FnExprOf.tab24 : rtab .any (opsOf Try.f12 24) = laws_FnExprOf.T24 := by kernel_rfl
theorem laws_FnExprOf.bits24 : waitsOk laws_FnExprOf.T24.2 laws_FnExprOf.B24 = true := by kernel_rfl
def laws_FnExprOf.T26 : Bool × List (List Nat × List Nat) := (true, [([], []), ([], []), ([1], [1]), ([2], [2]), ([], []), ([4], [4]), ([5], [5]), ([3, 6], [3, 6]), ([7], [7]), ([0, 8], [0, 8]), ([9, 8, 0, 1, 2, 3, 4, 5, 6, 7, 8, 9], [9])])
def laws_FnExprOf.B26 : List Nat := [0, 0, 2, 6, 0, 16, 48, 126, 254, 511, 1023]
theorem laws_FnExprOf.tab26 : rtab .any (opsOf Try.f12 26) = laws_FnExprOf.T26 := by kernel_rfl
theorem laws_FnExprOf.bits26 : waitsOk laws_FnExprOf.T26.2 laws_FnExprOf.B26 = true := by kernel_rfl
def laws_FnExprOf.T28 : Bool × List (List Nat × List Nat) := (true, [([], []), ([], []), ([1], [1]), ([2], [2]), ([], []), ([4], [4]), ([5], [5]), ([3, 6], [3, 6]), ([7], [7]), ([0, 8], [0, 8]), ([9, 8, 0, 1, 2, 3, 4, 5, 6, 7, 8, 9], [9])])
def laws_FnExprOf.B28 : List Nat := [0, 0, 2, 6, 0, 16, 48, 126, 254, 511, 1023]
theorem laws_FnExprOf.tab28 : rtab .any (opsOf Try.f12 28) = laws_FnExprOf.T28 := by kernel_rfl
theorem laws_FnExprOf.bits28 : waitsOk laws_FnExprOf.T28.2 laws_FnExprOf.B28 = true := by kernel_rfl
set_option maxHeartbeats 8000000 in
set_option maxRecDepth 100000 in
theorem laws_FnExprOf.calls (k : Nat) (A0 : Option Addr) (c0 : Nat) (l0 : List Int) (r : Bool) (w : World) (hr0 : Kd.C (Kd.int .u8) w A0 l0.length l0) (hc0 : l0.length ≤ c0) (h : laws_FnExprOf.f k l0 = some r) :
  Calls Try.prog 12 #[.slice A0 l0.length c0] w fun e w' => e = .returned (.bool r) ∧ Below w.heap.size w w' := by
 have hu32 := Try.underlying32
 have hu44 := Try.underlying44
 have hu29 := Try.underlying29
 have HR0 := z0 hr0
 have HC0 := z0 hc0
 clear hr0 hc0
 have HB := z0 (Below.refl w.heap.size w)
 have H : (if (l0.length : Int) > 1048576 then (some true) else ((spec_DrawExprOf.f k l0).bind fun bt1156 => ((impl_ExprOf.f bt1156.1 bt1156.2.1 bt1156.2.2.1 bt1156.2.2.2.1 bt1156.2.2.2.2.1 bt1156.2.2.2.2.2.1 bt1156.2.2.2.2.2.2.1 bt1156.2.2.2.2.2.2.2).bind fun t1174 => ((spec_ExprOf.f k bt1156.1 bt1156.2.1 bt1156.2.2.1 bt1156.2.2.2.1 bt1156.2.2.2.2.1 bt1156.2.2.2.2.2.1 bt1156.2.2.2.2.2.2.1 bt1156.2.2.2.2.2.2.2).bind fun t1175 => (if t1174 = t1175 then ((impl_NumCut.f t1174).bind fun t1176 => (laws_FnExprOf.j0 k t1174 (t1176 != t1174) bt1156.1 bt1156.2.1 bt1156.2.2.1 bt1156.2.2.2.1 bt1156.2.2.2.2.1 bt1156.2.2.2.2.2.1 bt1156.2.2.2.2.2.2.1 bt1156.2.2.2.2.2.2.2)) else (laws_FnExprOf.j0 k t1174 true bt1156.1 bt1156.2.1 bt1156.2.2.1 bt1156.2.2.2.1 bt1156.2.2.2.2.1 bt1156.2.2.2.2.2.1 bt1156.2.2.2.2.2.2.1 bt1156.2.2.2.2.2.2.2)))))) = some r := h
 clear h
 by_cases c2 : (l0.length : Int) > 1048576
 ·rw [if_pos c2] at H
  have c2b0 : decide (1048576 < (l0.length : Int)) = true := decide_eq_true c2
  have c2b1 : decide (1048576 < l0.length) = true := decide_eq_true (by omega)
  clear c2
  obtain rfl := Option.some.inj H
  go_enter Try.func12, Try.ntmps12
  go_wp2
  go_ret
  exact ⟨rfx, mB HB.out⟩
 ·rw [if_neg c2] at H
  have c2b0 : decide (1048576 < (l0.length : Int)) = false := decide_eq_false c2
  have c2b1 : decide (1048576 < l0.length) = false := decide_eq_false (by omega)
  clear c2
  replace H := Option.bind_eq_some_iff.mp H
  obtain ⟨⟨t1156, t1157, t1158, t1159, t1160, t1163, t1166, t1169⟩, A30, H⟩ := H
  replace H : ((impl_ExprOf.f t1156 t1157 t1158 t1159 t1160 t1163 t1166 t1169).bind fun t1174 => ((spec_ExprOf.f k t1156 t1157 t1158 t1159 t1160 t1163 t1166 t1169).bind fun t1175 => (if t1174 = t1175 then ((impl_NumCut.f t1174).bind fun t1176 => (laws_FnExprOf.j0 k t1174 (t1176 != t1174) t1156 t1157 t1158 t1159 t1160 t1163 t1166 t1169)) else (laws_FnExprOf.j0 k t1174 true t1156 t1157 t1158 t1159 t1160 t1163 t1166 t1169)))) = some r := H
  have A3 := z0 A30
  clear A30
  replace H := Option.bind_eq_some_iff.mp H
  obtain ⟨t1174, A40, H⟩ := H
  replace H : ((spec_ExprOf.f k t1156 t1157 t1158 t1159 t1160 t1163 t1166 t1169).bind fun t1175 => (if t1174 = t1175 then ((impl_NumCut.f t1174).bind fun t1176 => (laws_FnExprOf.j0 k t1174 (t1176 != t1174) t1156 t1157 t1158 t1159 t1160 t1163 t1166 t1169)) else (laws_FnExprOf.j0 k t1174 true t1156 t1157 t1158 t1159 t1160 t1163 t1166 t1169))) = some r := H
  have A4 := z0 A40
  clear A40
  have HC5 := z0 H
  clear H
  go_enter Try.func12, Try.ntmps12
  go_upto_region 5 with (first | ((with_reducible refine gate_callee (f := 36) rfl ?_); refine goesL_ (some 13) rfl rfl Try.func36 (by kernel_rfl) rfl #[.slice A0 l0.length c0] rfl argx ?_; (with_reducible refine (spec_DrawExprOf.calls k _ _ l0 t1156 t1157 t1158 t1159 t1160 t1163 t1166 t1169 _ ?side1 ?side2 A3.out).mono ?_); (case side1 => exact mC HR0.out); (case side2 => exact HC0.out); rintro e w6 ⟨v1161, v1164, v1167, v1170, rfl, ho0, ho1, ho2, ho3, hb⟩; refine ⟨_, rfl, ?_⟩; have n0_ := z0 (Kd.N_lower (Kd.N_mono (ok' := fun k_ => nB k_ v1164 ∧ nB k_ v1167 ∧ nB k_ v1170) ho0 (fun k_ hk_ => ⟨hk_.2.1, hk_.2.2.1, hk_.2.2.2⟩)) (below_size (mB HB.out))); have n1_ := z0 (Kd.R_lower (Kd.R_mono (ok' := fun k_ => nB k_ v1167 ∧ nB k_ v1170) ho1 (fun _ hk_ => hk_.2)) (below_size (mB HB.out))); have n2_ := z0 (Kd.R_lower (Kd.R_mono (ok' := fun k_ => nB k_ v1164 ∧ nB k_ v1170) ho2 (fun _ hk_ => hk_.2)) (below_size (mB HB.out))); have n3_ := z0 (Kd.R_lower (Kd.R_mono (ok' := fun k_ => nB k_ v1164 ∧ nB k_ v1167) ho3 (fun _ hk_ => hk_.2)) (below_size (mB HB.out))); have n4_ := z0 (below_step (mB HB.out) hb); clear HB; have HO1162 := n0_; have HO1165 := n1_; have HO1168 := n2_; have HO1171 := n3_; have HB := n4_; clear n0_ n1_ n2_ n3_ n4_; (try clear hb); (try clear hb2); (try clear hk); (try clear hi); (try clear ho0); (try clear ho1); (try clear ho2); (try clear ho3)) | ((with_reducible refine gate_dst (N := 3) rfl ?_); refine box_event ?hg (N := 3) ?hd (cs := #[.int .i64 0, .int .i64 0, .int .i64 0, .int .i64 0, .slice none 0 0]) (t := 32) ?hr ?_; (case hd => rfl); (case hg => rfl); (case hr => first | (go_simp; done) | (go_simp; rfl)); intro gb1172 hg w7 hbox hb; have n0_ := z0 (Kd.N_below (Kd.N_elderB (mN HO1162.out) gb1172 (Nat.le_of_eq hg.symm)) hb); have n1_ := z0 (Kd.R_below (mR HO1165.out) hb); have n2_ := z0 (Kd.R_below (mR HO1168.out) hb); have n3_ := z0 (Kd.R_below (mR HO1171.out) hb); have n4_ := z0 (below_step (mB HB.out) hb); have n5_ := z0 (hbox); have n6_ := z0 ((by rw [hg]; exact (below_size (mB HB.out)) : w.heap.size ≤ gb1172)); have n7_ := z0 ((by rw [hg]; exact (below_size (mB HB.out)) : w.heap.size ≤ gb1172)); clear HO1162; clear HO1165; clear HO1168; clear HO1171; clear HB; have HO1162 := n0_; have HO1165 := n1_; have HO1168 := n2_; have HO1171 := n3_; have HB := n4_; have BK1172 := n5_; have GW1172 := n6_; have GE1172 := n7_; clear n0_ n1_ n2_ n3_ n4_ n5_ n6_ n7_; clear hb hbox hg) | ((with_reducible refine gate_dst (N := 4) rfl ?_); refine box_event ?hg (N := 4) ?hd (cs := #[.slice none 0 0, .slice none 0 0, .slice none 0 0]) (t := 44) ?hr ?_; (case hd => rfl); (case hg => rfl); (case hr => first | (go_simp; done) | (go_simp; rfl)); intro gb1173 hg w8 hbox hb; have n0_ := z0 (Kd.N_below (Kd.N_elderB (mN HO1162.out) gb1173 (Nat.le_of_eq hg.symm)) hb); have n1_ := z0 (Kd.R_below (mR HO1165.out) hb); have n2_ := z0 (Kd.R_below (mR HO1168.out) hb); have n3_ := z0 (Kd.R_below (mR HO1171.out) hb); have n4_ := z0 (blk_below (g := gb1172) (o := .cells #[.int .i64 0, .int .i64 0, .int .i64 0, .int .i64 0, .slice none 0 0] 32 (0, 0)) (mK BK1172.out) hb); have n5_ := z0 (below_step (mB HB.out) hb); have n6_ := z0 (hbox); have n7_ := z0 ((by rw [hg]; exact (below_size (mB HB.out)) : w.heap.size ≤ gb1173)); have n8_ := z0 ((by rw [hg]; exact (below_size (mB HB.out)) : w.heap.size ≤ gb1173)); have n9_ := z0 ((by rw [hg]; exact Nat.ne_of_lt (blk_lt (g := gb1172) (o := .cells #[.int .i64 0, .int .i64 0, .int .i64 0, .int .i64 0, .slice none 0 0] 32 (0, 0)) (mK BK1172.out)) : gb1172 ≠ gb1173)); have n10_ := z0 ((by rw [hg]; exact Nat.ne_of_gt (blk_lt (g := gb1172) (o := .cells #[.int .i64 0, .int .i64 0, .int .i64 0, .int .i64 0, .slice none 0 0] 32 (0, 0)) (mK BK1172.out)) : gb1173 ≠ gb1172)); clear HO1162; clear HO1165; clear HO1168; clear HO1171; clear BK1172; clear HB; have HO1162 := n0_; have HO1165 := n1_; have HO1168 := n2_; have HO1171 := n3_; have BK1172 := n4_; have HB := n5_; have BK1173 := n6_; have GW1173 := n7_; have GE1173 := n8_; have NB1172_1173 := n9_; have NB1173_1172 := n10_; clear n0_ n1_ n2_ n3_ n4_ n5_ n6_ n7_ n8_ n9_ n10_; clear hb hbox hg; have hnb9 := NB1172_1173.out; have hnc9 := NB1173_1172.out; obtain ⟨hcz10_0, hcz10_1, hcz10_2, hcz10_3, hcz10_4, hfz10_0, hfz10_1, hfz10_2, hfz10_3, hfz10_4⟩ := cel5 BK1172.out; obtain ⟨Ao11, co11, eo11⟩ := Kd.N_slice HO1162.out; subst eo11; obtain ⟨Ao12, co12, eo12⟩ := Kd.R_slice HO1165.out; subst eo12; obtain ⟨hcz13_0, hcz13_1, hcz13_2, hfz13_0, hfz13_1, hfz13_2⟩ := cel3 BK1173.out; obtain ⟨Ao14, co14, eo14⟩ := Kd.R_slice HO1168.out; subst eo14; obtain ⟨Ao15, co15, eo15⟩ := Kd.R_slice HO1171.out; subst eo15) | ((with_reducible refine gate_callee (f := 26) rfl ?_); refine goesL_ (some 18) rfl rfl Try.func26 (by kernel_rfl) rfl #[.agg #[.int .i64 t1156, .int .i64 t1157, .int .i64 t1158, .int .i64 t1159, .slice Ao11 t1160.length co11], .agg #[.slice Ao12 t1163.length co12, .slice Ao14 t1166.length co14, .slice Ao15 t1169.length co15]] rfl argx ?_; (with_reducible refine (impl_ExprOf.calls t1156 t1157 t1158 t1159 _ _ t1160 _ _ t1163 _ _ t1166 _ _ t1169 t1174 _ ?side1 ?side2 ?side3 ?side4 ?side5 ?side6 ?side7 ?side8 A4.out).mono ?_); (case side1 => refine (Kd.N_reads' (e := 32) (base := w.heap.size) (ok := fun k_ => (((nB k_ (.slice Ao12 t1163.length co12) ∧ (nB k_ (.slice Ao14 t1166.length co14) ∧ nB k_ (.slice Ao15 t1169.length co15))) ∧ k_ ≠ gb1172) ∧ k_ ≠ gb1173)) (n := t1160.length) (c := co11) ?_).2.2; exact (by (with_reducible repeat (first | apply Kd.N_alloc | apply Kd.N_drewN | apply Kd.N_drew)); exact (Kd.N_mono (Kd.N_mono (Kd.N_far (p := ⟨gb1173, 2, none⟩) (Kd.N_far (p := ⟨gb1173, 1, none⟩) (Kd.N_far (p := ⟨gb1173, 0, none⟩) (Kd.N_far (p := ⟨gb1172, 4, none⟩) (Kd.N_far (p := ⟨gb1172, 3, none⟩) (Kd.N_far (p := ⟨gb1172, 2, none⟩) (Kd.N_far (p := ⟨gb1172, 1, none⟩) (Kd.N_far (p := ⟨gb1172, 0, none⟩) (Kd.N_mono (Kd.N_mono HO1162.out (fun k_ hk => (⟨hk, hk.1.2⟩ : _ ∧ k_ ≠ gb1172))) (fun k_ hk => (⟨hk, hk.1.2⟩ : _ ∧ k_ ≠ gb1173))) (fun _ hk => hk.1.2) (.int .i64 t1156)) (fun _ hk => hk.1.2) (.int .i64 t1157)) (fun _ hk => hk.1.2) (.int .i64 t1158)) (fun _ hk => hk.1.2) (.int .i64 t1159)) (fun _ hk => hk.1.2) (.slice Ao11 t1160.length co11)) (fun _ hk => hk.2) (.slice Ao12 t1163.length co12)) (fun _ hk => hk.2) (.slice Ao14 t1166.length co14)) (fun _ hk => hk.2) (.slice Ao15 t1169.length co15)) (fun _ h_ => h_.1)) (fun _ h_ => h_.1)))); (case side2 => exact (Kd.N_reads' HO1162.out).2.1); (case side3 => refine (Kd.R_reads' (e := 3) (base := w.heap.size) (ok := fun k_ => (nB k_ (.slice Ao14 t1166.length co14) ∧ nB k_ (.slice Ao15 t1169.length co15))) (n := t1163.length) (c := co12) ?_).2.2; exact (by (with_reducible repeat (first | apply Kd.R_alloc | apply Kd.R_drewN | apply Kd.R_drew)); exact (Kd.R_mono (Kd.R_mono (Kd.R_far (p := ⟨gb1173, 2, none⟩) (Kd.R_far (p := ⟨gb1173, 1, none⟩) (Kd.R_far (p := ⟨gb1173, 0, none⟩) (Kd.R_far (p := ⟨gb1172, 4, none⟩) (Kd.R_far (p := ⟨gb1172, 3, none⟩) (Kd.R_far (p := ⟨gb1172, 2, none⟩) (Kd.R_far (p := ⟨gb1172, 1, none⟩) (Kd.R_far (p := ⟨gb1172, 0, none⟩) (Kd.R_types (Kd.R_types HO1165.out BK1172.out (by decide)) BK1173.out (by decide)) (fun _ hk => hk.1.2) (.int .i64 t1156)) (fun _ hk => hk.1.2) (.int .i64 t1157)) (fun _ hk => hk.1.2) (.int .i64 t1158)) (fun _ hk => hk.1.2) (.int .i64 t1159)) (fun _ hk => hk.1.2) (.slice Ao11 t1160.length co11)) (fun _ hk => hk.2) (.slice Ao12 t1163.length co12)) (fun _ hk => hk.2) (.slice Ao14 t1166.length co14)) (fun _ hk => hk.2) (.slice Ao15 t1169.length co15)) (fun _ h_ => h_.1)) (fun _ h_ => h_.1)))); (case side4 => exact (Kd.R_reads' HO1165.out).2.1); (case side5 => refine (Kd.R_reads' (e := 3) (base := w.heap.size) (ok := fun k_ => (nB k_ (.slice Ao12 t1163.length co12) ∧ nB k_ (.slice Ao15 t1169.length co15))) (n := t1166.length) (c := co14) ?_).2.2; exact (by (with_reducible repeat (first | apply Kd.R_alloc | apply Kd.R_drewN | apply Kd.R_drew)); exact (Kd.R_mono (Kd.R_mono (Kd.R_far (p := ⟨gb1173, 2, none⟩) (Kd.R_far (p := ⟨gb1173, 1, none⟩) (Kd.R_far (p := ⟨gb1173, 0, none⟩) (Kd.R_far (p := ⟨gb1172, 4, none⟩) (Kd.R_far (p := ⟨gb1172, 3, none⟩) (Kd.R_far (p := ⟨gb1172, 2, none⟩) (Kd.R_far (p := ⟨gb1172, 1, none⟩) (Kd.R_far (p := ⟨gb1172, 0, none⟩) (Kd.R_types (Kd.R_types HO1168.out BK1172.out (by decide)) BK1173.out (by decide)) (fun _ hk => hk.1.2) (.int .i64 t1156)) (fun _ hk => hk.1.2) (.int .i64 t1157)) (fun _ hk => hk.1.2) (.int .i64 t1158)) (fun _ hk => hk.1.2) (.int .i64 t1159)) (fun _ hk => hk.1.2) (.slice Ao11 t1160.length co11)) (fun _ hk => hk.2) (.slice Ao12 t1163.length co12)) (fun _ hk => hk.2) (.slice Ao14 t1166.length co14)) (fun _ hk => hk.2) (.slice Ao15 t1169.length co15)) (fun _ h_ => h_.1)) (fun _ h_ => h_.1)))); (case side6 => exact (Kd.R_reads' HO1168.out).2.1); (case side7 => refine (Kd.R_reads' (e := 3) (base := w.heap.size) (ok := fun k_ => (nB k_ (.slice Ao12 t1163.length co12) ∧ nB k_ (.slice Ao14 t1166.length co14))) (n := t1169.length) (c := co15) ?_).2.2; exact (by (with_reducible repeat (first | apply Kd.R_alloc | apply Kd.R_drewN | apply Kd.R_drew)); exact (Kd.R_mono (Kd.R_mono (Kd.R_far (p := ⟨gb1173, 2, none⟩) (Kd.R_far (p := ⟨gb1173, 1, none⟩) (Kd.R_far (p := ⟨gb1173, 0, none⟩) (Kd.R_far (p := ⟨gb1172, 4, none⟩) (Kd.R_far (p := ⟨gb1172, 3, none⟩) (Kd.R_far (p := ⟨gb1172, 2, none⟩) (Kd.R_far (p := ⟨gb1172, 1, none⟩) (Kd.R_far (p := ⟨gb1172, 0, none⟩) (Kd.R_types (Kd.R_types HO1171.out BK1172.out (by decide)) BK1173.out (by decide)) (fun _ hk => hk.1.2) (.int .i64 t1156)) (fun _ hk => hk.1.2) (.int .i64 t1157)) (fun _ hk => hk.1.2) (.int .i64 t1158)) (fun _ hk => hk.1.2) (.int .i64 t1159)) (fun _ hk => hk.1.2) (.slice Ao11 t1160.length co11)) (fun _ hk => hk.2) (.slice Ao12 t1163.length co12)) (fun _ hk => hk.2) (.slice Ao14 t1166.length co14)) (fun _ hk => hk.2) (.slice Ao15 t1169.length co15)) (fun _ h_ => h_.1)) (fun _ h_ => h_.1)))); (case side8 => exact (Kd.R_reads' HO1171.out).2.1); rintro e w16 ⟨rfl, hb⟩; refine ⟨_, rfl, ?_⟩; have n0_ := z0 (Kd.N_below (by (with_reducible repeat (first | apply Kd.N_alloc | apply Kd.N_drewN | apply Kd.N_drew)); exact (Kd.N_mono (Kd.N_mono (Kd.N_far (p := ⟨gb1173, 2, none⟩) (Kd.N_far (p := ⟨gb1173, 1, none⟩) (Kd.N_far (p := ⟨gb1173, 0, none⟩) (Kd.N_far (p := ⟨gb1172, 4, none⟩) (Kd.N_far (p := ⟨gb1172, 3, none⟩) (Kd.N_far (p := ⟨gb1172, 2, none⟩) (Kd.N_far (p := ⟨gb1172, 1, none⟩) (Kd.N_far (p := ⟨gb1172, 0, none⟩) (Kd.N_mono (Kd.N_mono HO1162.out (fun k_ hk => (⟨hk, hk.1.2⟩ : _ ∧ k_ ≠ gb1172))) (fun k_ hk => (⟨hk, hk.1.2⟩ : _ ∧ k_ ≠ gb1173))) (fun _ hk => hk.1.2) (.int .i64 t1156)) (fun _ hk => hk.1.2) (.int .i64 t1157)) (fun _ hk => hk.1.2) (.int .i64 t1158)) (fun _ hk => hk.1.2) (.int .i64 t1159)) (fun _ hk => hk.1.2) (.slice Ao11 t1160.length co11)) (fun _ hk => hk.2) (.slice Ao12 t1163.length co12)) (fun _ hk => hk.2) (.slice Ao14 t1166.length co14)) (fun _ hk => hk.2) (.slice Ao15 t1169.length co15)) (fun _ h_ => h_.1)) (fun _ h_ => h_.1))) hb); have n1_ := z0 (Kd.R_below (by (with_reducible repeat (first | apply Kd.R_alloc | apply Kd.R_drewN | apply Kd.R_drew)); exact (Kd.R_mono (Kd.R_mono (Kd.R_far (p := ⟨gb1173, 2, none⟩) (Kd.R_far (p := ⟨gb1173, 1, none⟩) (Kd.R_far (p := ⟨gb1173, 0, none⟩) (Kd.R_far (p := ⟨gb1172, 4, none⟩) (Kd.R_far (p := ⟨gb1172, 3, none⟩) (Kd.R_far (p := ⟨gb1172, 2, none⟩) (Kd.R_far (p := ⟨gb1172, 1, none⟩) (Kd.R_far (p := ⟨gb1172, 0, none⟩) (Kd.R_types (Kd.R_types HO1165.out BK1172.out (by decide)) BK1173.out (by decide)) (fun _ hk => hk.1.2) (.int .i64 t1156)) (fun _ hk => hk.1.2) (.int .i64 t1157)) (fun _ hk => hk.1.2) (.int .i64 t1158)) (fun _ hk => hk.1.2) (.int .i64 t1159)) (fun _ hk => hk.1.2) (.slice Ao11 t1160.length co11)) (fun _ hk => hk.2) (.slice Ao12 t1163.length co12)) (fun _ hk => hk.2) (.slice Ao14 t1166.length co14)) (fun _ hk => hk.2) (.slice Ao15 t1169.length co15)) (fun _ h_ => h_.1)) (fun _ h_ => h_.1))) hb); have n2_ := z0 (Kd.R_below (by (with_reducible repeat (first | apply Kd.R_alloc | apply Kd.R_drewN | apply Kd.R_drew)); exact (Kd.R_mono (Kd.R_mono (Kd.R_far (p := ⟨gb1173, 2, none⟩) (Kd.R_far (p := ⟨gb1173, 1, none⟩) (Kd.R_far (p := ⟨gb1173, 0, none⟩) (Kd.R_far (p := ⟨gb1172, 4, none⟩) (Kd.R_far (p := ⟨gb1172, 3, none⟩) (Kd.R_far (p := ⟨gb1172, 2, none⟩) (Kd.R_far (p := ⟨gb1172, 1, none⟩) (Kd.R_far (p := ⟨gb1172, 0, none⟩) (Kd.R_types (Kd.R_types HO1168.out BK1172.out (by decide)) BK1173.out (by decide)) (fun _ hk => hk.1.2) (.int .i64 t1156)) (fun _ hk => hk.1.2) (.int .i64 t1157)) (fun _ hk => hk.1.2) (.int .i64 t1158)) (fun _ hk => hk.1.2) (.int .i64 t1159)) (fun _ hk => hk.1.2) (.slice Ao11 t1160.length co11)) (fun _ hk => hk.2) (.slice Ao12 t1163.length co12)) (fun _ hk => hk.2) (.slice Ao14 t1166.length co14)) (fun _ hk => hk.2) (.slice Ao15 t1169.length co15)) (fun _ h_ => h_.1)) (fun _ h_ => h_.1))) hb); have n3_ := z0 (Kd.R_below (by (with_reducible repeat (first | apply Kd.R_alloc | apply Kd.R_drewN | apply Kd.R_drew)); exact (Kd.R_mono (Kd.R_mono (Kd.R_far (p := ⟨gb1173, 2, none⟩) (Kd.R_far (p := ⟨gb1173, 1, none⟩) (Kd.R_far (p := ⟨gb1173, 0, none⟩) (Kd.R_far (p := ⟨gb1172, 4, none⟩) (Kd.R_far (p := ⟨gb1172, 3, none⟩) (Kd.R_far (p := ⟨gb1172, 2, none⟩) (Kd.R_far (p := ⟨gb1172, 1, none⟩) (Kd.R_far (p := ⟨gb1172, 0, none⟩) (Kd.R_types (Kd.R_types HO1171.out BK1172.out (by decide)) BK1173.out (by decide)) (fun _ hk => hk.1.2) (.int .i64 t1156)) (fun _ hk => hk.1.2) (.int .i64 t1157)) (fun _ hk => hk.1.2) (.int .i64 t1158)) (fun _ hk => hk.1.2) (.int .i64 t1159)) (fun _ hk => hk.1.2) (.slice Ao11 t1160.length co11)) (fun _ hk => hk.2) (.slice Ao12 t1163.length co12)) (fun _ hk => hk.2) (.slice Ao14 t1166.length co14)) (fun _ hk => hk.2) (.slice Ao15 t1169.length co15)) (fun _ h_ => h_.1)) (fun _ h_ => h_.1))) hb); have n4_ := z0 (blk_below (g := gb1172) (o := .cells #[.int .i64 t1156, .int .i64 t1157, .int .i64 t1158, .int .i64 t1159, .slice Ao11 t1160.length co11] 32 (0, 0)) (by (with_reducible repeat (first | refine blk_drewN ?_ _ | refine blk_drew ?_ | refine blk_alloc ?_ _)); refine blk_far ?_ NB1172_1173.out _; (with_reducible repeat (first | refine blk_drewN ?_ _ | refine blk_drew ?_ | refine blk_alloc ?_ _)); refine blk_far ?_ NB1172_1173.out _; (with_reducible repeat (first | refine blk_drewN ?_ _ | refine blk_drew ?_ | refine blk_alloc ?_ _)); refine blk_far ?_ NB1172_1173.out _; (with_reducible repeat (first | refine blk_drewN ?_ _ | refine blk_drew ?_ | refine blk_alloc ?_ _)); refine blk_put (cs := #[.int .i64 t1156, .int .i64 t1157, .int .i64 t1158, .int .i64 t1159, .slice none 0 0]) ?_ 4 _ rfl; (with_reducible repeat (first | refine blk_drewN ?_ _ | refine blk_drew ?_ | refine blk_alloc ?_ _)); refine blk_put (cs := #[.int .i64 t1156, .int .i64 t1157, .int .i64 t1158, .int .i64 0, .slice none 0 0]) ?_ 3 _ rfl; (with_reducible repeat (first | refine blk_drewN ?_ _ | refine blk_drew ?_ | refine blk_alloc ?_ _)); refine blk_put (cs := #[.int .i64 t1156, .int .i64 t1157, .int .i64 0, .int .i64 0, .slice none 0 0]) ?_ 2 _ rfl; (with_reducible repeat (first | refine blk_drewN ?_ _ | refine blk_drew ?_ | refine blk_alloc ?_ _)); refine blk_put (cs := #[.int .i64 t1156, .int .i64 0, .int .i64 0, .int .i64 0, .slice none 0 0]) ?_ 1 _ rfl; (with_reducible repeat (first | refine blk_drewN ?_ _ | refine blk_drew ?_ | refine blk_alloc ?_ _)); refine blk_put (cs := #[.int .i64 0, .int .i64 0, .int .i64 0, .int .i64 0, .slice none 0 0]) ?_ 0 _ rfl; (with_reducible repeat (first | refine blk_drewN ?_ _ | refine blk_drew ?_ | refine blk_alloc ?_ _)); exact BK1172.out) hb); have n5_ := z0 (blk_below (g := gb1173) (o := .cells #[.slice Ao12 t1163.length co12, .slice Ao14 t1166.length co14, .slice Ao15 t1169.length co15] 44 (0, 0)) (by (with_reducible repeat (first | refine blk_drewN ?_ _ | refine blk_drew ?_ | refine blk_alloc ?_ _)); refine blk_put (cs := #[.slice Ao12 t1163.length co12, .slice Ao14 t1166.length co14, .slice none 0 0]) ?_ 2 _ rfl; (with_reducible repeat (first | refine blk_drewN ?_ _ | refine blk_drew ?_ | refine blk_alloc ?_ _)); refine blk_put (cs := #[.slice Ao12 t1163.length co12, .slice none 0 0, .slice none 0 0]) ?_ 1 _ rfl; (with_reducible repeat (first | refine blk_drewN ?_ _ | refine blk_drew ?_ | refine blk_alloc ?_ _)); refine blk_put (cs := #[.slice none 0 0, .slice none 0 0, .slice none 0 0]) ?_ 0 _ rfl; (with_reducible repeat (first | refine blk_drewN ?_ _ | refine blk_drew ?_ | refine blk_alloc ?_ _)); refine blk_far ?_ NB1173_1172.out _; (with_reducible repeat (first | refine blk_drewN ?_ _ | refine blk_drew ?_ | refine blk_alloc ?_ _)); refine blk_far ?_ NB1173_1172.out _; (with_reducible repeat (first | refine blk_drewN ?_ _ | refine blk_drew ?_ | refine blk_alloc ?_ _)); refine blk_far ?_ NB1173_1172.out _; (with_reducible repeat (first | refine blk_drewN ?_ _ | refine blk_drew ?_ | refine blk_alloc ?_ _)); refine blk_far ?_ NB1173_1172.out _; (with_reducible repeat (first | refine blk_drewN ?_ _ | refine blk_drew ?_ | refine blk_alloc ?_ _)); refine blk_far ?_ NB1173_1172.out _; (with_reducible repeat (first | refine blk_drewN ?_ _ | refine blk_drew ?_ | refine blk_alloc ?_ _)); exact BK1173.out) hb); have n6_ := z0 (below_step (mB HB.out) hb); clear HO1162; clear HO1165; clear HO1168; clear HO1171; clear BK1172; clear BK1173; clear HB; have HO1162 := n0_; have HO1165 := n1_; have HO1168 := n2_; have HO1171 := n3_; have BK1172 := n4_; have BK1173 := n5_; have HB := n6_; clear n0_ n1_ n2_ n3_ n4_ n5_ n6_; (try clear hb); (try clear hb2); (try clear hk); (try clear hi)))
  (try simp only [Act.put, List.setIfInBounds_toArray, List.set_cons_zero, List.set_cons_succ])
  go_cut [29] (fun v29 wc => ∃ (kq : Nat) (x29_4 : Bool), v29 = .bool x29_4 ∧ Aside0 (laws_FnExprOf.j0 kq t1174 x29_4 t1156 t1157 t1158 t1159 t1160 t1163 t1166 t1169 = some r) ∧ Aside0 (kq ≤ k) ∧ Aside0 (Kd.N k32 32 wc w.heap.size (fun k_ => some k_ ≠ ((.slice Ao12 t1163.length co12) : Value).ownBlock ∧ some k_ ≠ ((.slice Ao14 t1166.length co14) : Value).ownBlock ∧ some k_ ≠ ((.slice Ao15 t1169.length co15) : Value).ownBlock ∧ k_ ≠ gb1172 ∧ k_ ≠ gb1173) (.slice Ao11 t1160.length co11) t1160) ∧ Aside0 (Kd.R (Kd.int .i64) 3 wc w.heap.size (fun k_ => some k_ ≠ ((.slice Ao14 t1166.length co14) : Value).ownBlock ∧ some k_ ≠ ((.slice Ao15 t1169.length co15) : Value).ownBlock) (.slice Ao12 t1163.length co12) t1163) ∧ Aside0 (Kd.R (Kd.int .i64) 3 wc w.heap.size (fun k_ => some k_ ≠ ((.slice Ao12 t1163.length co12) : Value).ownBlock ∧ some k_ ≠ ((.slice Ao15 t1169.length co15) : Value).ownBlock) (.slice Ao14 t1166.length co14) t1166) ∧ Aside0 (Kd.R (Kd.int .i64) 3 wc w.heap.size (fun k_ => some k_ ≠ ((.slice Ao12 t1163.length co12) : Value).ownBlock ∧ some k_ ≠ ((.slice Ao14 t1166.length co14) : Value).ownBlock) (.slice Ao15 t1169.length co15) t1169) ∧ Aside0 (wc.heap[gb1172]? = some (.cells #[.int .i64 t1156, .int .i64 t1157, .int .i64 t1158, .int .i64 t1159, (.slice Ao11 t1160.length co11)] 32 (0, 0))) ∧ Aside0 (wc.heap[gb1173]? = some (.cells #[(.slice Ao12 t1163.length co12), (.slice Ao14 t1166.length co14), (.slice Ao15 t1169.length co15)] 44 (0, 0))) ∧ Aside0 (Below w.heap.size w wc))
  case first =>
   have H := HC5.out
   clear HC5
   replace H := Option.bind_eq_some_iff.mp H
   obtain ⟨t1175, A170, H⟩ := H
   replace H : (if t1174 = t1175 then ((impl_NumCut.f t1174).bind fun t1176 => (laws_FnExprOf.j0 k t1174 (t1176 != t1174) t1156 t1157 t1158 t1159 t1160 t1163 t1166 t1169)) else (laws_FnExprOf.j0 k t1174 true t1156 t1157 t1158 t1159 t1160 t1163 t1166 t1169)) = some r := H
   have A17 := z0 A170
   clear A170
   by_cases c18 : t1174 = t1175
   ·rw [if_pos c18] at H
    have c18b0 : (t1174 == t1175) = true := beq_iff_eq.mpr c18
    have c18b1 : (t1174 != t1175) = false := bne_eq_false_iff_eq.mpr c18
    clear c18
    (first | rw [c18b0] | (simp only [i64_w, i32_w]; rw [c18b0]) | skip)
    replace H := Option.bind_eq_some_iff.mp H
    obtain ⟨t1176, A190, H⟩ := H
    replace H : (laws_FnExprOf.j0 k t1174 (t1176 != t1174) t1156 t1157 t1158 t1159 t1160 t1163 t1166 t1169) = some r := H
    have A19 := z0 A190
    clear A190
    have H' := z0 H
    clear H
    have hnb20 := NB1172_1173.out
    have hnc20 := NB1173_1172.out
    obtain ⟨hcz21_0, hcz21_1, hcz21_2, hcz21_3, hcz21_4, hfz21_0, hfz21_1, hfz21_2, hfz21_3, hfz21_4⟩ := cel5 BK1172.out
    obtain ⟨hcz22_0, hcz22_1, hcz22_2, hfz22_0, hfz22_1, hfz22_2⟩ := cel3 BK1173.out
    go_wp2_with (first | ((with_reducible refine gate_callee (f := 24) rfl ?_); refine goesL_ (some 22) rfl rfl Try.func24 (by kernel_rfl) rfl #[.agg #[.int .i64 t1156, .int .i64 t1157, .int .i64 t1158, .int .i64 t1159, .slice Ao11 t1160.length co11], .agg #[.slice Ao12 t1163.length co12, .slice Ao14 t1166.length co14, .slice Ao15 t1169.length co15]] rfl argx ?_; (with_reducible refine (spec_ExprOf.calls k t1156 t1157 t1158 t1159 _ _ t1160 _ _ t1163 _ _ t1166 _ _ t1169 t1175 _ ?side1 ?side2 ?side3 ?side4 ?side5 ?side6 ?side7 ?side8 A17.out).mono ?_); (case side1 => exact mC (Kd.N_reads' HO1162.out).2.2); (case side2 => exact (Kd.N_reads' HO1162.out).2.1); (case side3 => exact mC (Kd.R_reads' HO1165.out).2.2); (case side4 => exact (Kd.R_reads' HO1165.out).2.1); (case side5 => exact mC (Kd.R_reads' HO1168.out).2.2); (case side6 => exact (Kd.R_reads' HO1168.out).2.1); (case side7 => exact mC (Kd.R_reads' HO1171.out).2.2); (case side8 => exact (Kd.R_reads' HO1171.out).2.1); rintro e w23 ⟨rfl, hb⟩; refine ⟨_, rfl, ?_⟩; have n0_ := z0 (Kd.N_below (mN HO1162.out) hb); have n1_ := z0 (Kd.R_below (mR HO1165.out) hb); have n2_ := z0 (Kd.R_below (mR HO1168.out) hb); have n3_ := z0 (Kd.R_below (mR HO1171.out) hb); have n4_ := z0 (blk_below (g := gb1172) (o := .cells #[.int .i64 t1156, .int .i64 t1157, .int .i64 t1158, .int .i64 t1159, .slice Ao11 t1160.length co11] 32 (0, 0)) (mK BK1172.out) hb); have n5_ := z0 (blk_below (g := gb1173) (o := .cells #[.slice Ao12 t1163.length co12, .slice Ao14 t1166.length co14, .slice Ao15 t1169.length co15] 44 (0, 0)) (mK BK1173.out) hb); have n6_ := z0 (below_step (mB HB.out) hb); clear HO1162; clear HO1165; clear HO1168; clear HO1171; clear BK1172; clear BK1173; clear HB; have HO1162 := n0_; have HO1165 := n1_; have HO1168 := n2_; have HO1171 := n3_; have BK1172 := n4_; have BK1173 := n5_; have HB := n6_; clear n0_ n1_ n2_ n3_ n4_ n5_ n6_; (try clear hb); (try clear hb2); (try clear hk); (try clear hi)) | (go_at_call 42; (with_reducible refine (impl_NumCut.calls t1174 t1176 _ A19.out).mono ?_); rintro e w24 ⟨rfl, hb⟩; have n0_ := z0 (Kd.N_below (mN HO1162.out) hb); have n1_ := z0 (Kd.R_below (mR HO1165.out) hb); have n2_ := z0 (Kd.R_below (mR HO1168.out) hb); have n3_ := z0 (Kd.R_below (mR HO1171.out) hb); have n4_ := z0 (blk_below (g := gb1172) (o := .cells #[.int .i64 t1156, .int .i64 t1157, .int .i64 t1158, .int .i64 t1159, .slice Ao11 t1160.length co11] 32 (0, 0)) (mK BK1172.out) hb); have n5_ := z0 (blk_below (g := gb1173) (o := .cells #[.slice Ao12 t1163.length co12, .slice Ao14 t1166.length co14, .slice Ao15 t1169.length co15] 44 (0, 0)) (mK BK1173.out) hb); have n6_ := z0 (below_step (mB HB.out) hb); clear HO1162; clear HO1165; clear HO1168; clear HO1171; clear BK1172; clear BK1173; clear HB; have HO1162 := n0_; have HO1165 := n1_; have HO1168 := n2_; have HO1171 := n3_; have BK1172 := n4_; have BK1173 := n5_; have HB := n6_; clear n0_ n1_ n2_ n3_ n4_ n5_ n6_; (try clear hb); (try clear hb2); (try clear hk); (try clear hi)))
    go_meet
    case rel => exact ⟨_, ((t1176 != t1174)), rfy, H', ⟨by first | omega | exact Nat.le_refl _⟩, ⟨by (with_reducible repeat (first | apply Kd.N_alloc | apply Kd.N_drewN | apply Kd.N_drew)); exact Kd.N_mono HO1162.out (fun _ hk => ⟨hk.1.1.1, ⟨hk.1.1.2.1, ⟨hk.1.1.2.2, ⟨hk.1.2, hk.2⟩⟩⟩⟩)⟩, ⟨mR HO1165.out⟩, ⟨mR HO1168.out⟩, ⟨mR HO1171.out⟩, ⟨mK BK1172.out⟩, ⟨mK BK1173.out⟩, ⟨mB HB.out⟩⟩
   ·rw [if_neg c18] at H
    have c18b0 : (t1174 == t1175) = false := beq_eq_false_iff_ne.mpr c18
    have c18b1 : (t1174 != t1175) = true := bne_iff_ne.mpr c18
    (first | rw [c18b0] | (simp only [i64_w, i32_w]; rw [c18b0]) | skip)
    have H' := z0 H
    clear H
    have hnb25 := NB1172_1173.out
    have hnc25 := NB1173_1172.out
    obtain ⟨hcz26_0, hcz26_1, hcz26_2, hcz26_3, hcz26_4, hfz26_0, hfz26_1, hfz26_2, hfz26_3, hfz26_4⟩ := cel5 BK1172.out
    obtain ⟨hcz27_0, hcz27_1, hcz27_2, hfz27_0, hfz27_1, hfz27_2⟩ := cel3 BK1173.out
    go_wp2_with (first | ((with_reducible refine gate_callee (f := 24) rfl ?_); refine goesL_ (some 22) rfl rfl Try.func24 (by kernel_rfl) rfl #[.agg #[.int .i64 t1156, .int .i64 t1157, .int .i64 t1158, .int .i64 t1159, .slice Ao11 t1160.length co11], .agg #[.slice Ao12 t1163.length co12, .slice Ao14 t1166.length co14, .slice Ao15 t1169.length co15]] rfl argx ?_; (with_reducible refine (spec_ExprOf.calls k t1156 t1157 t1158 t1159 _ _ t1160 _ _ t1163 _ _ t1166 _ _ t1169 t1175 _ ?side1 ?side2 ?side3 ?side4 ?side5 ?side6 ?side7 ?side8 A17.out).mono ?_); (case side1 => exact mC (Kd.N_reads' HO1162.out).2.2); (case side2 => exact (Kd.N_reads' HO1162.out).2.1); (case side3 => exact mC (Kd.R_reads' HO1165.out).2.2); (case side4 => exact (Kd.R_reads' HO1165.out).2.1); (case side5 => exact mC (Kd.R_reads' HO1168.out).2.2); (case side6 => exact (Kd.R_reads' HO1168.out).2.1); (case side7 => exact mC (Kd.R_reads' HO1171.out).2.2); (case side8 => exact (Kd.R_reads' HO1171.out).2.1); rintro e w28 ⟨rfl, hb⟩; refine ⟨_, rfl, ?_⟩; have n0_ := z0 (Kd.N_below (mN HO1162.out) hb); have n1_ := z0 (Kd.R_below (mR HO1165.out) hb); have n2_ := z0 (Kd.R_below (mR HO1168.out) hb); have n3_ := z0 (Kd.R_below (mR HO1171.out) hb); have n4_ := z0 (blk_below (g := gb1172) (o := .cells #[.int .i64 t1156, .int .i64 t1157, .int .i64 t1158, .int .i64 t1159, .slice Ao11 t1160.length co11] 32 (0, 0)) (mK BK1172.out) hb); have n5_ := z0 (blk_below (g := gb1173) (o := .cells #[.slice Ao12 t1163.length co12, .slice Ao14 t1166.length co14, .slice Ao15 t1169.length co15] 44 (0, 0)) (mK BK1173.out) hb); have n6_ := z0 (below_step (mB HB.out) hb); clear HO1162; clear HO1165; clear HO1168; clear HO1171; clear BK1172; clear BK1173; clear HB; have HO1162 := n0_; have HO1165 := n1_; have HO1168 := n2_; have HO1171 := n3_; have BK1172 := n4_; have BK1173 := n5_; have HB := n6_; clear n0_ n1_ n2_ n3_ n4_ n5_ n6_; (try clear hb); (try clear hb2); (try clear hk); (try clear hi)))
    go_meet
    case rel => exact ⟨_, (true), rfy, H', ⟨by first | omega | exact Nat.le_refl _⟩, ⟨by (with_reducible repeat (first | apply Kd.N_alloc | apply Kd.N_drewN | apply Kd.N_drew)); exact Kd.N_mono HO1162.out (fun _ hk => ⟨hk.1.1.1, ⟨hk.1.1.2.1, ⟨hk.1.1.2.2, ⟨hk.1.2, hk.2⟩⟩⟩⟩)⟩, ⟨mR HO1165.out⟩, ⟨mR HO1168.out⟩, ⟨mR HO1171.out⟩, ⟨mK BK1172.out⟩, ⟨mK BK1173.out⟩, ⟨mB HB.out⟩⟩
  case rest =>
   clear HC5
   (try clear c1); (try clear c2); (try clear c2b0); (try clear c2b1); (try clear p2); (try clear c3); (try clear c9); (try clear c12); (try clear c18); (try clear c18b0); (try clear c18b1); (try clear c20); (try clear c24); (try clear c25); (try clear c26); (try clear hcz10_0); (try clear hcz10_1); (try clear hcz10_2); (try clear hcz10_3); (try clear hcz10_4); (try clear hcz13_0); (try clear hcz13_1); (try clear hcz13_2); (try clear hcz21_0); (try clear hcz21_1); (try clear hcz21_2); (try clear hcz21_3); (try clear hcz21_4); (try clear hcz22_0); (try clear hcz22_1); (try clear hcz22_2); (try clear hcz26_0); (try clear hcz26_1); (try clear hcz26_2); (try clear hcz26_3); (try clear hcz26_4); (try clear hcz27_0); (try clear hcz27_1); (try clear hcz27_2); (try clear hfz10_0); (try clear hfz10_1); (try clear hfz10_2); (try clear hfz10_3); (try clear hfz10_4); (try clear hfz13_0); (try clear hfz13_1); (try clear hfz13_2); (try clear hfz21_0); (try clear hfz21_1); (try clear hfz21_2); (try clear hfz21_3); (try clear hfz21_4); (try clear hfz22_0); (try clear hfz22_1); (try clear hfz22_2); (try clear hfz26_0); (try clear hfz26_1); (try clear hfz26_2); (try clear hfz26_3); (try clear hfz26_4); (try clear hfz27_0); (try clear hfz27_1); (try clear hfz27_2)
   obtain ⟨kq, x29_4, rfl, HA, HJ4, HO_1173004, HO_1174000, HO_1174001, HO_1174002, BK1172, BK1173, HB⟩ := hcut
   cases kq with
   | zero => exact absurd HA.out (by simp [laws_FnExprOf.j0])
   | succ kj4 =>
    have H := HA.out
    clear HA
    simp only [laws_FnExprOf.j0] at H
    by_cases c29 : x29_4 = true
    ·subst c29
     have H1 : (some false) = some r := by rw [if_pos rfl] at H; exact H
     clear H
     have H := H1
     clear H1
     obtain rfl := Option.some.inj H
     go_wp2
     go_ret
     exact ⟨rfx, mB HB.out⟩
    ·replace c29 := Bool.eq_false_iff.mpr c29
     subst c29
     have H1 : ((spec_ExprOk.f kj4 t1156 t1157 t1158 t1159 t1160).bind fun t1177 => (if t1177 = true then ((spec_MemOk.f kj4 t1163 t1166 t1169).bind fun t1178 => (laws_FnExprOf.j1 kj4 t1174 (!t1178) t1156 t1157 t1158 t1159 t1160 t1163 t1166 t1169)) else (laws_FnExprOf.j1 kj4 t1174 true t1156 t1157 t1158 t1159 t1160 t1163 t1166 t1169))) = some r := by rw [if_neg (show ¬ (false = true) by decide)] at H; exact H
     clear H
     have H := H1
     clear H1
     have HC30 := z0 H
     clear H
     go_upto_region 7 with (fail)
     go_cut [37] (fun v37 wc => ∃ (kq : Nat) (x37_29 : Bool), v37 = .bool x37_29 ∧ Aside0 (laws_FnExprOf.j1 kq t1174 x37_29 t1156 t1157 t1158 t1159 t1160 t1163 t1166 t1169 = some r) ∧ Aside0 (kq ≤ kj4) ∧ Aside0 (Kd.N k32 32 wc w.heap.size (fun k_ => some k_ ≠ ((.slice Ao12 t1163.length co12) : Value).ownBlock ∧ some k_ ≠ ((.slice Ao14 t1166.length co14) : Value).ownBlock ∧ some k_ ≠ ((.slice Ao15 t1169.length co15) : Value).ownBlock ∧ k_ ≠ gb1172 ∧ k_ ≠ gb1173) (.slice Ao11 t1160.length co11) t1160) ∧ Aside0 (Kd.R (Kd.int .i64) 3 wc w.heap.size (fun k_ => some k_ ≠ ((.slice Ao14 t1166.length co14) : Value).ownBlock ∧ some k_ ≠ ((.slice Ao15 t1169.length co15) : Value).ownBlock) (.slice Ao12 t1163.length co12) t1163) ∧ Aside0 (Kd.R (Kd.int .i64) 3 wc w.heap.size (fun k_ => some k_ ≠ ((.slice Ao12 t1163.length co12) : Value).ownBlock ∧ some k_ ≠ ((.slice Ao15 t1169.length co15) : Value).ownBlock) (.slice Ao14 t1166.length co14) t1166) ∧ Aside0 (Kd.R (Kd.int .i64) 3 wc w.heap.size (fun k_ => some k_ ≠ ((.slice Ao12 t1163.length co12) : Value).ownBlock ∧ some k_ ≠ ((.slice Ao14 t1166.length co14) : Value).ownBlock) (.slice Ao15 t1169.length co15) t1169) ∧ Aside0 (wc.heap[gb1172]? = some (.cells #[.int .i64 t1156, .int .i64 t1157, .int .i64 t1158, .int .i64 t1159, (.slice Ao11 t1160.length co11)] 32 (0, 0))) ∧ Aside0 (wc.heap[gb1173]? = some (.cells #[(.slice Ao12 t1163.length co12), (.slice Ao14 t1166.length co14), (.slice Ao15 t1169.length co15)] 44 (0, 0))) ∧ Aside0 (Below w.heap.size w wc))
     case first =>
      have H := HC30.out
      clear HC30
      replace H := Option.bind_eq_some_iff.mp H
      obtain ⟨t1177, A310, H⟩ := H
      replace H : (if t1177 = true then ((spec_MemOk.f kj4 t1163 t1166 t1169).bind fun t1178 => (laws_FnExprOf.j1 kj4 t1174 (!t1178) t1156 t1157 t1158 t1159 t1160 t1163 t1166 t1169)) else (laws_FnExprOf.j1 kj4 t1174 true t1156 t1157 t1158 t1159 t1160 t1163 t1166 t1169)) = some r := H
      have A31 := z0 A310
      clear A310
      by_cases c32 : t1177 = true
      ·subst c32
       have H1 : ((spec_MemOk.f kj4 t1163 t1166 t1169).bind fun t1178 => (laws_FnExprOf.j1 kj4 t1174 (!t1178) t1156 t1157 t1158 t1159 t1160 t1163 t1166 t1169)) = some r := by rw [if_pos rfl] at H; exact H
       clear H
       have H := H1
       clear H1
       replace H := Option.bind_eq_some_iff.mp H
       obtain ⟨t1178, A330, H⟩ := H
       replace H : (laws_FnExprOf.j1 kj4 t1174 (!t1178) t1156 t1157 t1158 t1159 t1160 t1163 t1166 t1169) = some r := H
       have A33 := z0 A330
       clear A330
       have H' := z0 H
       clear H
       have hnb34 := NB1172_1173.out
       have hnc34 := NB1173_1172.out
       obtain ⟨hcz35_0, hcz35_1, hcz35_2, hcz35_3, hcz35_4, hfz35_0, hfz35_1, hfz35_2, hfz35_3, hfz35_4⟩ := cel5 BK1172.out
       go_wp2_with (first | ((with_reducible refine gate_callee (f := 16) rfl ?_); refine goesL_ (some 31) rfl rfl Try.func16 (by kernel_rfl) rfl #[.agg #[.int .i64 t1156, .int .i64 t1157, .int .i64 t1158, .int .i64 t1159, .slice Ao11 t1160.length co11]] rfl argx ?_; (with_reducible refine (spec_ExprOk.calls kj4 t1156 t1157 t1158 t1159 _ _ t1160 true _ ?side1 ?side2 A31.out).mono ?_); (case side1 => exact mC (Kd.N_reads' HO_1173004.out).2.2); (case side2 => exact (Kd.N_reads' HO_1173004.out).2.1); rintro e w36 ⟨rfl, hb⟩; refine ⟨_, rfl, ?_⟩; have n0_ := z0 (Kd.N_below (mN HO_1173004.out) hb); have n1_ := z0 (Kd.R_below (mR HO_1174000.out) hb); have n2_ := z0 (Kd.R_below (mR HO_1174001.out) hb); have n3_ := z0 (Kd.R_below (mR HO_1174002.out) hb); have n4_ := z0 (blk_below (g := gb1172) (o := .cells #[.int .i64 t1156, .int .i64 t1157, .int .i64 t1158, .int .i64 t1159, .slice Ao11 t1160.length co11] 32 (0, 0)) (mK BK1172.out) hb); have n5_ := z0 (blk_below (g := gb1173) (o := .cells #[.slice Ao12 t1163.length co12, .slice Ao14 t1166.length co14, .slice Ao15 t1169.length co15] 44 (0, 0)) (mK BK1173.out) hb); have n6_ := z0 (below_step (mB HB.out) hb); clear HO_1173004; clear HO_1174000; clear HO_1174001; clear HO_1174002; clear BK1172; clear BK1173; clear HB; have HO_1173004 := n0_; have HO_1174000 := n1_; have HO_1174001 := n2_; have HO_1174002 := n3_; have BK1172 := n4_; have BK1173 := n5_; have HB := n6_; clear n0_ n1_ n2_ n3_ n4_ n5_ n6_; (try clear hb); (try clear hb2); (try clear hk); (try clear hi); obtain ⟨hcz37_0, hcz37_1, hcz37_2, hfz37_0, hfz37_1, hfz37_2⟩ := cel3 BK1173.out) | (go_at_call 39; (with_reducible refine (spec_MemOk.calls kj4 _ _ t1163 _ _ t1166 _ _ t1169 t1178 _ ?side1 ?side2 ?side3 ?side4 ?side5 ?side6 A33.out).mono ?_); (case side1 => exact mC (Kd.R_reads' HO_1174000.out).2.2); (case side2 => exact (Kd.R_reads' HO_1174000.out).2.1); (case side3 => exact mC (Kd.R_reads' HO_1174001.out).2.2); (case side4 => exact (Kd.R_reads' HO_1174001.out).2.1); (case side5 => exact mC (Kd.R_reads' HO_1174002.out).2.2); (case side6 => exact (Kd.R_reads' HO_1174002.out).2.1); rintro e w38 ⟨rfl, hb⟩; have n0_ := z0 (Kd.N_below (mN HO_1173004.out) hb); have n1_ := z0 (Kd.R_below (mR HO_1174000.out) hb); have n2_ := z0 (Kd.R_below (mR HO_1174001.out) hb); have n3_ := z0 (Kd.R_below (mR HO_1174002.out) hb); have n4_ := z0 (blk_below (g := gb1172) (o := .cells #[.int .i64 t1156, .int .i64 t1157, .int .i64 t1158, .int .i64 t1159, .slice Ao11 t1160.length co11] 32 (0, 0)) (mK BK1172.out) hb); have n5_ := z0 (blk_below (g := gb1173) (o := .cells #[.slice Ao12 t1163.length co12, .slice Ao14 t1166.length co14, .slice Ao15 t1169.length co15] 44 (0, 0)) (mK BK1173.out) hb); have n6_ := z0 (below_step (mB HB.out) hb); clear HO_1173004; clear HO_1174000; clear HO_1174001; clear HO_1174002; clear BK1172; clear BK1173; clear HB; have HO_1173004 := n0_; have HO_1174000 := n1_; have HO_1174001 := n2_; have HO_1174002 := n3_; have BK1172 := n4_; have BK1173 := n5_; have HB := n6_; clear n0_ n1_ n2_ n3_ n4_ n5_ n6_; (try clear hb); (try clear hb2); (try clear hk); (try clear hi)))
       go_meet
       case rel => exact ⟨_, (!t1178), rfy, H', ⟨by have := HJ4.out; first | omega | exact Nat.le_refl _⟩, ⟨mN HO_1173004.out⟩, ⟨mR HO_1174000.out⟩, ⟨mR HO_1174001.out⟩, ⟨mR HO_1174002.out⟩, ⟨mK BK1172.out⟩, ⟨mK BK1173.out⟩, ⟨mB HB.out⟩⟩
      ·replace c32 := Bool.eq_false_iff.mpr c32
       subst c32
       have H1 : (laws_FnExprOf.j1 kj4 t1174 true t1156 t1157 t1158 t1159 t1160 t1163 t1166 t1169) = some r := by rw [if_neg (show ¬ (false = true) by decide)] at H; exact H
       clear H
       have H := H1
       clear H1
       have H' := z0 H
       clear H
       have hnb39 := NB1172_1173.out
       have hnc39 := NB1173_1172.out
       obtain ⟨hcz40_0, hcz40_1, hcz40_2, hcz40_3, hcz40_4, hfz40_0, hfz40_1, hfz40_2, hfz40_3, hfz40_4⟩ := cel5 BK1172.out
       go_wp2_with (first | ((with_reducible refine gate_callee (f := 16) rfl ?_); refine goesL_ (some 31) rfl rfl Try.func16 (by kernel_rfl) rfl #[.agg #[.int .i64 t1156, .int .i64 t1157, .int .i64 t1158, .int .i64 t1159, .slice Ao11 t1160.length co11]] rfl argx ?_; (with_reducible refine (spec_ExprOk.calls kj4 t1156 t1157 t1158 t1159 _ _ t1160 false _ ?side1 ?side2 A31.out).mono ?_); (case side1 => exact mC (Kd.N_reads' HO_1173004.out).2.2); (case side2 => exact (Kd.N_reads' HO_1173004.out).2.1); rintro e w41 ⟨rfl, hb⟩; refine ⟨_, rfl, ?_⟩; have n0_ := z0 (Kd.N_below (mN HO_1173004.out) hb); have n1_ := z0 (Kd.R_below (mR HO_1174000.out) hb); have n2_ := z0 (Kd.R_below (mR HO_1174001.out) hb); have n3_ := z0 (Kd.R_below (mR HO_1174002.out) hb); have n4_ := z0 (blk_below (g := gb1172) (o := .cells #[.int .i64 t1156, .int .i64 t1157, .int .i64 t1158, .int .i64 t1159, .slice Ao11 t1160.length co11] 32 (0, 0)) (mK BK1172.out) hb); have n5_ := z0 (blk_below (g := gb1173) (o := .cells #[.slice Ao12 t1163.length co12, .slice Ao14 t1166.length co14, .slice Ao15 t1169.length co15] 44 (0, 0)) (mK BK1173.out) hb); have n6_ := z0 (below_step (mB HB.out) hb); clear HO_1173004; clear HO_1174000; clear HO_1174001; clear HO_1174002; clear BK1172; clear BK1173; clear HB; have HO_1173004 := n0_; have HO_1174000 := n1_; have HO_1174001 := n2_; have HO_1174002 := n3_; have BK1172 := n4_; have BK1173 := n5_; have HB := n6_; clear n0_ n1_ n2_ n3_ n4_ n5_ n6_; (try clear hb); (try clear hb2); (try clear hk); (try clear hi)))
       go_meet
       case rel => exact ⟨_, (true), rfy, H', ⟨by have := HJ4.out; first | omega | exact Nat.le_refl _⟩, ⟨mN HO_1173004.out⟩, ⟨mR HO_1174000.out⟩, ⟨mR HO_1174001.out⟩, ⟨mR HO_1174002.out⟩, ⟨mK BK1172.out⟩, ⟨mK BK1173.out⟩, ⟨mB HB.out⟩⟩
     case rest =>
      clear HC30
      (try clear c1); (try clear c2); (try clear c2b0); (try clear c2b1); (try clear p2); (try clear c3); (try clear c9); (try clear c12); (try clear c16); (try clear c18); (try clear c18b0); (try clear c18b1); (try clear c20); (try clear c24); (try clear c25); (try clear c26); (try clear c29); (try clear c32); (try clear c34); (try clear c36); (try clear c39); (try clear hcz10_0); (try clear hcz10_1); (try clear hcz10_2); (try clear hcz10_3); (try clear hcz10_4); (try clear hcz13_0); (try clear hcz13_1); (try clear hcz13_2); (try clear hcz21_0); (try clear hcz21_1); (try clear hcz21_2); (try clear hcz21_3); (try clear hcz21_4); (try clear hcz22_0); (try clear hcz22_1); (try clear hcz22_2); (try clear hcz26_0); (try clear hcz26_1); (try clear hcz26_2); (try clear hcz26_3); (try clear hcz26_4); (try clear hcz27_0); (try clear hcz27_1); (try clear hcz27_2); (try clear hcz35_0); (try clear hcz35_1); (try clear hcz35_2); (try clear hcz35_3); (try clear hcz35_4); (try clear hcz37_0); (try clear hcz37_1); (try clear hcz37_2); (try clear hcz40_0); (try clear hcz40_1); (try clear hcz40_2); (try clear hcz40_3); (try clear hcz40_4); (try clear hfz10_0); (try clear hfz10_1); (try clear hfz10_2); (try clear hfz10_3); (try clear hfz10_4); (try clear hfz13_0); (try clear hfz13_1); (try clear hfz13_2); (try clear hfz21_0); (try clear hfz21_1); (try clear hfz21_2); (try clear hfz21_3); (try clear hfz21_4); (try clear hfz22_0); (try clear hfz22_1); (try clear hfz22_2); (try clear hfz26_0); (try clear hfz26_1); (try clear hfz26_2); (try clear hfz26_3); (try clear hfz26_4); (try clear hfz27_0); (try clear hfz27_1); (try clear hfz27_2); (try clear hfz35_0); (try clear hfz35_1); (try clear hfz35_2); (try clear hfz35_3); (try clear hfz35_4); (try clear hfz37_0); (try clear hfz37_1); (try clear hfz37_2); (try clear hfz40_0); (try clear hfz40_1); (try clear hfz40_2); (try clear hfz40_3); (try clear hfz40_4); (try clear p2)
      obtain ⟨kq, x37_29, rfl, HA, HJ29, HO_1173004, HO_1174000, HO_1174001, HO_1174002, BK1172, BK1173, HB⟩ := hcut
      cases kq with
      | zero => exact absurd HA.out (by simp [laws_FnExprOf.j1])
      | succ kj29 =>
       have H := HA.out
       clear HA
       simp only [laws_FnExprOf.j1] at H
       by_cases c42 : x37_29 = true
       ·subst c42
        have H1 : (some (t1174 == 0)) = some r := by rw [if_pos rfl] at H; exact H
        clear H
        have H := H1
        clear H1
        obtain rfl := Option.some.inj H
        go_wp2
        go_ret
        exact ⟨rfx, mB HB.out⟩
       ·replace c42 := Bool.eq_false_iff.mpr c42
        subst c42
        have H1 : (laws_FnExprOf.l0 kj29 t1174 (([0, 0] : List Int)) 0 t1156 t1157 t1158 t1159 t1160 t1163 t1166 t1169) = some r := by rw [if_neg (show ¬ (false = true) by decide)] at H; exact H
        clear H
        have H := H1
        clear H1
        obtain ⟨y1179, hy1179⟩ : ∃ y_ : List Int, y_ = (([0, 0] : List Int)) := ⟨_, rfl⟩
        replace H : (laws_FnExprOf.l0 kj29 t1174 y1179 0 t1156 t1157 t1158 t1159 t1160 t1163 t1166 t1169) = some r := by first | (rw [hy1179]; with_reducible exact H) | (have H2_ := (Option.bind_some _ _).symm.trans H; rw [hy1179]; with_reducible exact H2_) | (have H2_ := (Option.bind_some _ _).symm.trans H; with_reducible exact H2_) | with_reducible exact H | (rw [hy1179]; exact H) | exact H
        have Ny1179 := z0 hy1179
        clear hy1179
        have H' := z0 H
        clear H
        go_wp2_with (first | ((with_reducible refine gate_dst (N := 40) rfl ?_); refine Kd.R_lit (Kd.int .i64) _ 3 ?hg (N := 40) ?hd (xs := ([0, 0] : List Int)) (inner := [.int .i64 0, .int .i64 0]) (ok := fun _ => True) (okp := fun _ => True) ?hr ?hp (fun _ hk => hk) trivial (Below.refl _ _) (Nat.le_refl _) (by simp) ?_; (case hd => rfl); (case hg => rfl); (case hr => first | (go_simp; done) | (go_simp; rfl)); (case hp => exact (Reps.one (show Kd.M (Kd.int .i64) _ _ _ 0 [.int .i64 0] from rfl) (Reps.one (show Kd.M (Kd.int .i64) _ _ _ 0 [.int .i64 0] from rfl) (Reps.none _ _)))); intro v1180 w43 ho44 hb hg_ hnew_; clear hg_ hnew_; (first | rw [← Ny1179.out] at ho44 | (simp only [Int.reduceToNat] at ho44; rw [← Ny1179.out] at ho44)); have n0_ := z0 (Kd.N_elder' (mN HO_1173004.out) (by first | exact Kd.R_base ho44 | exact Kd.R_base ho44) hb); have n1_ := z0 (Kd.R_elder' (mR HO_1174000.out) (by first | exact Kd.R_base ho44 | exact Kd.R_base ho44) hb); have n2_ := z0 (Kd.R_elder' (mR HO_1174001.out) (by first | exact Kd.R_base ho44 | exact Kd.R_base ho44) hb); have n3_ := z0 (Kd.R_elder' (mR HO_1174002.out) (by first | exact Kd.R_base ho44 | exact Kd.R_base ho44) hb); have n4_ := z0 (Kd.R_lower (Kd.R_new' (Kd.R_new' (Kd.R_new' ho44 (Kd.R_lt (mR HO_1174000.out))) (Kd.R_lt (mR HO_1174001.out))) (Kd.R_lt (mR HO_1174002.out))) (below_size (mB HB.out))); have n5_ := z0 (blk_below (g := gb1172) (o := .cells #[.int .i64 t1156, .int .i64 t1157, .int .i64 t1158, .int .i64 t1159, .slice Ao11 t1160.length co11] 32 (0, 0)) (mK BK1172.out) hb); have n6_ := z0 (blk_below (g := gb1173) (o := .cells #[.slice Ao12 t1163.length co12, .slice Ao14 t1166.length co14, .slice Ao15 t1169.length co15] 44 (0, 0)) (mK BK1173.out) hb); have n7_ := z0 (below_step (mB HB.out) hb); clear HO_1173004; clear HO_1174000; clear HO_1174001; clear HO_1174002; clear BK1172; clear BK1173; clear HB; have HO_1173004 := n0_; have HO_1174000 := n1_; have HO_1174001 := n2_; have HO_1174002 := n3_; have HO1181 := n4_; have BK1172 := n5_; have BK1173 := n6_; have HB := n7_; clear n0_ n1_ n2_ n3_ n4_ n5_ n6_ n7_; clear hb ho44))
        go_loopg [7] kj29 (fun kq v7 w' => ∃ (x6_3 : List Int) (x7_3 : Int), v7 = .int .i64 x7_3 ∧ Aside0 (laws_FnExprOf.l0 kq t1174 x6_3 x7_3 t1156 t1157 t1158 t1159 t1160 t1163 t1166 t1169 = some r) ∧ Aside0 (kq ≤ kj29) ∧ Aside0 (Kd.R (Kd.int .i64) 3 w' w.heap.size (fun k_ => some k_ ≠ ((.slice Ao12 t1163.length co12) : Value).ownBlock ∧ some k_ ≠ ((.slice Ao14 t1166.length co14) : Value).ownBlock ∧ some k_ ≠ ((.slice Ao15 t1169.length co15) : Value).ownBlock) v1180 x6_3) ∧ Aside0 (Kd.N k32 32 w' w.heap.size (fun k_ => nB k_ v1180 ∧ some k_ ≠ ((.slice Ao12 t1163.length co12) : Value).ownBlock ∧ some k_ ≠ ((.slice Ao14 t1166.length co14) : Value).ownBlock ∧ some k_ ≠ ((.slice Ao15 t1169.length co15) : Value).ownBlock ∧ k_ ≠ gb1172 ∧ k_ ≠ gb1173) (.slice Ao11 t1160.length co11) t1160) ∧ Aside0 (Kd.R (Kd.int .i64) 3 w' w.heap.size (fun k_ => nB k_ v1180 ∧ some k_ ≠ ((.slice Ao14 t1166.length co14) : Value).ownBlock ∧ some k_ ≠ ((.slice Ao15 t1169.length co15) : Value).ownBlock) (.slice Ao12 t1163.length co12) t1163) ∧ Aside0 (Kd.R (Kd.int .i64) 3 w' w.heap.size (fun k_ => nB k_ v1180 ∧ some k_ ≠ ((.slice Ao12 t1163.length co12) : Value).ownBlock ∧ some k_ ≠ ((.slice Ao15 t1169.length co15) : Value).ownBlock) (.slice Ao14 t1166.length co14) t1166) ∧ Aside0 (Kd.R (Kd.int .i64) 3 w' w.heap.size (fun k_ => nB k_ v1180 ∧ some k_ ≠ ((.slice Ao12 t1163.length co12) : Value).ownBlock ∧ some k_ ≠ ((.slice Ao14 t1166.length co14) : Value).ownBlock) (.slice Ao15 t1169.length co15) t1169) ∧ Aside0 (w'.heap[gb1172]? = some (.cells #[.int .i64 t1156, .int .i64 t1157, .int .i64 t1158, .int .i64 t1159, (.slice Ao11 t1160.length co11)] 32 (0, 0))) ∧ Aside0 (w'.heap[gb1173]? = some (.cells #[(.slice Ao12 t1163.length co12), (.slice Ao14 t1166.length co14), (.slice Ao15 t1169.length co15)] 44 (0, 0))) ∧ Aside0 (Below w.heap.size w w'))
        case atStart => exact ⟨(y1179), (0), rfy, H', ⟨Nat.le_refl _⟩, ⟨by (with_reducible repeat (first | apply Kd.R_alloc | apply Kd.R_drewN | apply Kd.R_drew)); exact Kd.R_mono HO1181.out (fun _ hk => ⟨hk.1.1.2, ⟨hk.1.2, hk.2⟩⟩)⟩, ⟨by (with_reducible repeat (first | apply Kd.N_alloc | apply Kd.N_drewN | apply Kd.N_drew)); exact Kd.N_mono HO_1173004.out (fun _ hk => ⟨hk.2, ⟨hk.1.1, ⟨hk.1.2.1, ⟨hk.1.2.2.1, ⟨hk.1.2.2.2.1, hk.1.2.2.2.2⟩⟩⟩⟩⟩)⟩, ⟨by (with_reducible repeat (first | apply Kd.R_alloc | apply Kd.R_drewN | apply Kd.R_drew)); exact Kd.R_mono HO_1174000.out (fun _ hk => ⟨hk.2, ⟨hk.1.1, hk.1.2⟩⟩)⟩, ⟨by (with_reducible repeat (first | apply Kd.R_alloc | apply Kd.R_drewN | apply Kd.R_drew)); exact Kd.R_mono HO_1174001.out (fun _ hk => ⟨hk.2, ⟨hk.1.1, hk.1.2⟩⟩)⟩, ⟨by (with_reducible repeat (first | apply Kd.R_alloc | apply Kd.R_drewN | apply Kd.R_drew)); exact Kd.R_mono HO_1174002.out (fun _ hk => ⟨hk.2, ⟨hk.1.1, hk.1.2⟩⟩)⟩, ⟨mK BK1172.out⟩, ⟨mK BK1173.out⟩, ⟨mB HB.out⟩⟩
        case round =>
         clear H'
         (try clear c1); (try clear c2); (try clear c2b0); (try clear c2b1); (try clear p2); (try clear c3); (try clear c4); (try clear c9); (try clear c12); (try clear c16); (try clear c18); (try clear c18b0); (try clear c18b1); (try clear c20); (try clear c24); (try clear c25); (try clear c26); (try clear c29); (try clear c32); (try clear c34); (try clear c36); (try clear c39); (try clear c42); (try clear hcz10_0); (try clear hcz10_1); (try clear hcz10_2); (try clear hcz10_3); (try clear hcz10_4); (try clear hcz13_0); (try clear hcz13_1); (try clear hcz13_2); (try clear hcz21_0); (try clear hcz21_1); (try clear hcz21_2); (try clear hcz21_3); (try clear hcz21_4); (try clear hcz22_0); (try clear hcz22_1); (try clear hcz22_2); (try clear hcz26_0); (try clear hcz26_1); (try clear hcz26_2); (try clear hcz26_3); (try clear hcz26_4); (try clear hcz27_0); (try clear hcz27_1); (try clear hcz27_2); (try clear hcz35_0); (try clear hcz35_1); (try clear hcz35_2); (try clear hcz35_3); (try clear hcz35_4); (try clear hcz37_0); (try clear hcz37_1); (try clear hcz37_2); (try clear hcz40_0); (try clear hcz40_1); (try clear hcz40_2); (try clear hcz40_3); (try clear hcz40_4); (try clear hfz10_0); (try clear hfz10_1); (try clear hfz10_2); (try clear hfz10_3); (try clear hfz10_4); (try clear hfz13_0); (try clear hfz13_1); (try clear hfz13_2); (try clear hfz21_0); (try clear hfz21_1); (try clear hfz21_2); (try clear hfz21_3); (try clear hfz21_4); (try clear hfz22_0); (try clear hfz22_1); (try clear hfz22_2); (try clear hfz26_0); (try clear hfz26_1); (try clear hfz26_2); (try clear hfz26_3); (try clear hfz26_4); (try clear hfz27_0); (try clear hfz27_1); (try clear hfz27_2); (try clear hfz35_0); (try clear hfz35_1); (try clear hfz35_2); (try clear hfz35_3); (try clear hfz35_4); (try clear hfz37_0); (try clear hfz37_1); (try clear hfz37_2); (try clear hfz40_0); (try clear hfz40_1); (try clear hfz40_2); (try clear hfz40_3); (try clear hfz40_4); (try clear p2)
         obtain ⟨x6_3, x7_3, rfl, HA, HK3, HO_6, HO_1173004, HO_1174000, HO_1174001, HO_1174002, BK1172, BK1173, HB⟩ := hrel
         cases gk with
         | zero => exact absurd HA.out (by simp [laws_FnExprOf.l0])
         | succ k3 =>
          have H := HA.out
          clear HA
          simp only [laws_FnExprOf.l0] at H
          by_cases c45 : x7_3 < (t1160.length : Int)
          ·rw [if_pos c45] at H
           have c45b0 : decide (x7_3 < (t1160.length : Int)) = true := decide_eq_true c45
           clear c45
           by_cases c46 : 0 ≤ x7_3
           ·rw [if_pos c46] at H
            have c46b0 : decide (0 ≤ x7_3) = true := decide_eq_true c46
            clear c46
            replace H := Option.bind_eq_some_iff.mp H
            obtain ⟨t1183, A470, H⟩ := H
            replace H : (if x7_3 < (x6_3.length : Int) then (laws_FnExprOf.l0 k3 t1174 (x6_3.set (x7_3 : Int).toNat t1183) (wrap64 (x7_3 + 1)) t1156 t1157 t1158 t1159 t1160 t1163 t1166 t1169) else (none)) = some r := H
            have A47 := z0 A470
            clear A470
            by_cases c48 : x7_3 < (x6_3.length : Int)
            ·rw [if_pos c48] at H
             have c48b0 : decide (x7_3 < (x6_3.length : Int)) = true := decide_eq_true c48
             clear c48
             obtain ⟨y1184, hy1184⟩ : ∃ y_ : List Int, y_ = (x6_3.set (x7_3 : Int).toNat t1183) := ⟨_, rfl⟩
             replace H : (laws_FnExprOf.l0 k3 t1174 y1184 (wrap64 (x7_3 + 1)) t1156 t1157 t1158 t1159 t1160 t1163 t1166 t1169) = some r := by first | (rw [hy1184]; with_reducible exact H) | (have H2_ := (Option.bind_some _ _).symm.trans H; rw [hy1184]; with_reducible exact H2_) | (have H2_ := (Option.bind_some _ _).symm.trans H; with_reducible exact H2_) | with_reducible exact H | (rw [hy1184]; exact H) | exact H
             have Ny1184 := z0 hy1184
             clear hy1184
             have H' := z0 H
             clear H
             have hnb50 := NB1172_1173.out
             have hnc50 := NB1173_1172.out
             obtain ⟨hcz51_0, hcz51_1, hcz51_2, hcz51_3, hcz51_4, hfz51_0, hfz51_1, hfz51_2, hfz51_3, hfz51_4⟩ := cel5 BK1172.out
             try go_wp2
             have n0_ := z0 (Kd.R_drew HO_6.out)
             have n1_ := z0 (Kd.N_drew HO_1173004.out)
             have n2_ := z0 (Kd.R_drew HO_1174000.out)
             have n3_ := z0 (Kd.R_drew HO_1174001.out)
             have n4_ := z0 (Kd.R_drew HO_1174002.out)
             have n5_ := z0 (blk_drew BK1172.out)
             have n6_ := z0 (blk_drew BK1173.out)
             have n7_ := z0 (below_drew1 HB.out)
             clear HO_6 HO_1173004 HO_1174000 HO_1174001 HO_1174002 BK1172 BK1173 HB
             have HO_6 := n0_
             have HO_1173004 := n1_
             have HO_1174000 := n2_
             have HO_1174001 := n3_
             have HO_1174002 := n4_
             have BK1172 := n5_
             have BK1173 := n6_
             have HB := n7_
             clear n0_ n1_ n2_ n3_ n4_ n5_ n6_ n7_
             have p1182 : 0 ≤ (x7_3 : Int) := of_decide_eq_true (by first | (with_reducible assumption) | assumption)
             have q1182 : x7_3 < (t1160.length : Int) := of_decide_eq_true (by first | (with_reducible assumption) | assumption)
             obtain ⟨ad1182, A1182_4, c1182_4, e1182, hx1182_0, hx1182_1, hx1182_2, hx1182_3, hx1182_4, hl1182_4, hi1182_4⟩ := at_T32 (Kd.N_reads' HO_1173004.out).2.2 x7_3 p1182 q1182
             cases e1182
             obtain ⟨ce1182, hce1182, hMe1182, hcc1182⟩ := Kd.N_get HO_1173004.out z32 x7_3 p1182 (by first | exact q1182 | exact of_decide_eq_true (by first | (with_reducible assumption) | assumption) | (have e_ := (Kd.N_reads' HO_1173004.out).1; omega))
             obtain ⟨ua1182_4, uc1182_4, rfl, ul1182_4, ge1182_4⟩ := k32_openF hMe1182
             have hv1182_4 := hcc1182 4 _ rfl
             rw [add_field _ _ 4 (by omega)] at hv1182_4
             replace hv1182_4 := Option.some.inj (hv1182_4.symm.trans hx1182_4)
             injection hv1182_4 with hva_ hvn_ hvc_
             rw [hva_] at ge1182_4
             rw [hvc_] at ul1182_4
             have HL1182_4 := z0 (show Kd.V k32 32 _ w.heap.size _ _ ((rd_T32 t1160 x7_3).f3) from Kd.V_mk ul1182_4 ge1182_4)
             clear hva_ hvn_ hvc_ ge1182_4 ul1182_4 hcc1182 hce1182
             have HR1182_4 := z0 hi1182_4
             have HC1182_4 := z0 hl1182_4
             clear hi1182_4 hl1182_4
             replace p1182 := eq_true p1182
             replace q1182 := eq_true q1182
             refine start_ (n := 11) (S := fun w' => w'.cell? ⟨gb1172, 0, none⟩ = some (.int .i64 t1156) ∧ w'.cell? ⟨gb1172, 1, none⟩ = some (.int .i64 t1157) ∧ w'.cell? ⟨gb1172, 2, none⟩ = some (.int .i64 t1158) ∧ w'.cell? ⟨gb1172, 3, none⟩ = some (.int .i64 t1159) ∧ w'.cell? ⟨gb1172, 4, none⟩ = some (.slice (some ad1182) t1160.length co11) ∧ w'.cell? ⟨gb1173, 0, none⟩ = some (.slice Ao12 t1163.length co12) ∧ w'.cell? ⟨gb1173, 1, none⟩ = some (.slice Ao14 t1166.length co14) ∧ w'.cell? ⟨gb1173, 2, none⟩ = some (.slice Ao15 t1169.length co15) ∧ w'.cell? (ad1182.add ((x7_3).toNat * 5)) = some (.int .i64 ((rd_T32 t1160 x7_3).f0)) ∧ w'.cell? ⟨(ad1182.add ((x7_3).toNat * 5)).block, (ad1182.add ((x7_3).toNat * 5)).off + 1, none⟩ = some (.int .i64 ((rd_T32 t1160 x7_3).f1)) ∧ w'.cell? ⟨(ad1182.add ((x7_3).toNat * 5)).block, (ad1182.add ((x7_3).toNat * 5)).off + 2, none⟩ = some (.int .i64 ((rd_T32 t1160 x7_3).f2.f0)) ∧ w'.cell? ⟨(ad1182.add ((x7_3).toNat * 5)).block, (ad1182.add ((x7_3).toNat * 5)).off + 3, none⟩ = some (.int .i64 ((rd_T32 t1160 x7_3).f2.f1)) ∧ w'.cell? ⟨(ad1182.add ((x7_3).toNat * 5)).block, (ad1182.add ((x7_3).toNat * 5)).off + 4, none⟩ = some (.slice A1182_4 ((rd_T32 t1160 x7_3).f3).length c1182_4)) (ds := [10]) #[false, false, false, false, false, false, false, false, false, false, false] (by kernel_rfl) rfl rfl ⟨(blk_cell BK1172.out 0).trans rfl, (blk_cell BK1172.out 1).trans rfl, (blk_cell BK1172.out 2).trans rfl, (blk_cell BK1172.out 3).trans rfl, (blk_cell BK1172.out 4).trans rfl, (blk_cell BK1173.out 0).trans rfl, (blk_cell BK1173.out 1).trans rfl, (blk_cell BK1173.out 2).trans rfl, hx1182_0, hx1182_1, hx1182_2, hx1182_3, hx1182_4⟩ (fun hHeld => ?_); refine with_tabW laws_FnExprOf.tab13 laws_FnExprOf.bits13 (fun HT_ HW_ => ?_)
             generalize wr.drew = w52 at HO_6 HO_1173004 HO_1174000 HO_1174001 HO_1174002 BK1172 BK1173 HB HL1182_4 HR1182_4 hx1182_0 hx1182_1 hx1182_2 hx1182_3 hx1182_4 hHeld ⊢
             refine pure_ (i := 0) (N := some 48) (v := ?_) (a' := ?_) #[true, false, false, false, false, false, false, false, false, false, false] rfl rfl (any_of HT_.out (by kernel_rfl)) (fun _ _ _ h => h) (Or.inl ⟨by rfl, ?_⟩) ?_ ?_
             rotate_left
             ·intro w'
              go_simp
              with_reducible rfl
             rotate_left
             ·simp only [Act.put, List.setIfInBounds_toArray, List.set_cons_zero, List.set_cons_succ, i64_w, i32_w]
              rfl
             refine pure_ (i := 1) (N := some 49) (v := ?_) (a' := ?_) #[true, true, false, false, false, false, false, false, false, false, false] rfl rfl (any_of HT_.out (by kernel_rfl)) (fun _ _ _ h => h) (Or.inl ⟨by rfl, ?_⟩) ?_ ?_
             rotate_left
             ·intro w'
              go_simp
              with_reducible rfl
             rotate_left
             ·simp only [Act.put, List.setIfInBounds_toArray, List.set_cons_zero, List.set_cons_succ, i64_w, i32_w]
              rfl
             refine pure_ (i := 2) (N := some 50) (v := ?_) (a' := ?_) #[true, true, true, false, false, false, false, false, false, false, false] rfl rfl (any_of HT_.out (by kernel_rfl)) (fun _ _ _ h => h) (Or.inl ⟨by rfl, ?_⟩) ?_ ?_
             rotate_left
             ·intro w'
              go_simp
              with_reducible rfl
             rotate_left
             ·simp only [Act.put, List.setIfInBounds_toArray, List.set_cons_zero, List.set_cons_succ, i64_w, i32_w]
              rfl
             refine pure_ (i := 4) (N := some 52) (v := ?_) (a' := ?_) #[true, true, true, false, true, false, false, false, false, false, false] rfl rfl (any_of HT_.out (by kernel_rfl)) (fun _ _ _ h => h) (Or.inl ⟨by rfl, ?_⟩) ?_ ?_
             rotate_left
             ·intro w'
              go_simp
              with_reducible rfl
             rotate_left
             ·simp only [Act.put, List.setIfInBounds_toArray, List.set_cons_zero, List.set_cons_succ, i64_w, i32_w]
              rfl
             refine take_ (i := 3) (N := some 51) (v := ?_) (a' := ?_) #[true, true, true, true, true, false, false, false, false, false, false] rfl rfl (take_ofW HT_.out HW_.out (by kernel_rfl)) (fun _ _ _ h => h) (Or.inl ⟨by rfl, ?_⟩) hHeld ?_ ?_
             rotate_left
             ·rintro w' ⟨s0, s1, s2, s3, s4, s5, s6, s7, s8, s9, s10, s11, s12⟩
              go_simp
              with_reducible rfl
             rotate_left
             ·simp only [Act.put, List.setIfInBounds_toArray, List.set_cons_zero, List.set_cons_succ, i64_w, i32_w]
              rfl
             refine pure_ (i := 5) (N := some 53) (v := ?_) (a' := ?_) #[true, true, true, true, true, true, false, false, false, false, false] rfl rfl (any_of HT_.out (by kernel_rfl)) (fun _ _ _ h => h) (Or.inl ⟨by rfl, ?_⟩) ?_ ?_
             rotate_left
             ·intro w'
              go_simp
              with_reducible rfl
             rotate_left
             ·simp only [Act.put, List.setIfInBounds_toArray, List.set_cons_zero, List.set_cons_succ, i64_w, i32_w]
              rfl
             refine take_ (i := 6) (N := some 54) (v := ?_) (a' := ?_) #[true, true, true, true, true, true, true, false, false, false, false] rfl rfl (take_ofW HT_.out HW_.out (by kernel_rfl)) (fun _ _ _ h => h) (Or.inl ⟨by rfl, ?_⟩) hHeld ?_ ?_
             rotate_left
             ·rintro w' ⟨s0, s1, s2, s3, s4, s5, s6, s7, s8, s9, s10, s11, s12⟩
              go_simp
              with_reducible rfl
             rotate_left
             ·simp only [Act.put, List.setIfInBounds_toArray, List.set_cons_zero, List.set_cons_succ, i64_w, i32_w]
              rfl
             refine take_ (i := 7) (N := some 55) (v := ?_) (a' := ?_) #[true, true, true, true, true, true, true, true, false, false, false] rfl rfl (take_ofW HT_.out HW_.out (by kernel_rfl)) (fun _ _ _ h => h) (Or.inl ⟨by rfl, ?_⟩) hHeld ?_ ?_
             rotate_left
             ·rintro w' ⟨s0, s1, s2, s3, s4, s5, s6, s7, s8, s9, s10, s11, s12⟩
              go_simp
              with_reducible rfl
             rotate_left
             ·simp only [Act.put, List.setIfInBounds_toArray, List.set_cons_zero, List.set_cons_succ, i64_w, i32_w]
              rfl
             refine one_ (i := 8) (N := some 56) #[true, true, true, true, true, true, true, true, true, false, false] rfl rfl (one_of HT_.out (by kernel_rfl)) (by decide) (fun K hK => ?_)
             refine goes_ Try.func26 (by kernel_rfl) rfl #[.agg #[.int .i64 ((rd_T32 t1160 x7_3).f0), .int .i64 ((rd_T32 t1160 x7_3).f1), .int .i64 ((rd_T32 t1160 x7_3).f2.f0), .int .i64 ((rd_T32 t1160 x7_3).f2.f1), .slice A1182_4 ((rd_T32 t1160 x7_3).f3).length c1182_4], .agg #[.slice Ao12 t1163.length co12, .slice Ao14 t1166.length co14, .slice Ao15 t1169.length co15]] (by rfl) rfl rfl argx ?_
             with_reducible refine (impl_ExprOf.calls ((rd_T32 t1160 x7_3).f0) ((rd_T32 t1160 x7_3).f1) ((rd_T32 t1160 x7_3).f2.f0) ((rd_T32 t1160 x7_3).f2.f1) _ _ ((rd_T32 t1160 x7_3).f3) _ _ t1163 _ _ t1166 _ _ t1169 t1183 _ ?side1 ?side2 ?side3 ?side4 ?side5 ?side6 ?side7 ?side8 A47.out).mono ?_
             (case side1 => repeat (first | exact (by repeat (first | (with_reducible exact HR1182_4.out) | (with_reducible refine Kd.C_alloc ?_ _) | (with_reducible refine Kd.C_drewN ?_ _) | (with_reducible refine Kd.C_drew ?_) | exact HR1182_4.out)) | (with_reducible refine Kd.C_alloc ?_ _) | (with_reducible refine Kd.C_drewN ?_ _) | (with_reducible refine Kd.C_drew ?_)))
             (case side2 => exact HC1182_4.out)
             (case side3 => exact mC (Kd.R_reads' HO_1174000.out).2.2)
             (case side4 => exact (Kd.R_reads' HO_1174000.out).2.1)
             (case side5 => exact mC (Kd.R_reads' HO_1174001.out).2.2)
             (case side6 => exact (Kd.R_reads' HO_1174001.out).2.1)
             (case side7 => exact mC (Kd.R_reads' HO_1174002.out).2.2)
             (case side8 => exact (Kd.R_reads' HO_1174002.out).2.1)
             rintro e w53 ⟨rfl, hb⟩
             have HS8_ := (hb.cell (World.block_lt_of_cell? _ _ (hHeld.2.2.2.2.2.2.2.2.1))).trans (hHeld.2.2.2.2.2.2.2.2.1)
             have HS9_ := (hb.cell (World.block_lt_of_cell? _ _ (hHeld.2.2.2.2.2.2.2.2.2.1))).trans (hHeld.2.2.2.2.2.2.2.2.2.1)
             have HS10_ := (hb.cell (World.block_lt_of_cell? _ _ (hHeld.2.2.2.2.2.2.2.2.2.2.1))).trans (hHeld.2.2.2.2.2.2.2.2.2.2.1)
             have HS11_ := (hb.cell (World.block_lt_of_cell? _ _ (hHeld.2.2.2.2.2.2.2.2.2.2.2.1))).trans (hHeld.2.2.2.2.2.2.2.2.2.2.2.1)
             have HS12_ := (hb.cell (World.block_lt_of_cell? _ _ (hHeld.2.2.2.2.2.2.2.2.2.2.2.2))).trans (hHeld.2.2.2.2.2.2.2.2.2.2.2.2)
             refine ⟨_, rfl, ?_⟩
             have n0_ := z0 (Kd.R_below (mR HO_6.out) hb)
             have n1_ := z0 (Kd.N_below (mN HO_1173004.out) hb)
             have n2_ := z0 (Kd.R_below (mR HO_1174000.out) hb)
             have n3_ := z0 (Kd.R_below (mR HO_1174001.out) hb)
             have n4_ := z0 (Kd.R_below (mR HO_1174002.out) hb)
             have n5_ := z0 (Kd.V_below (mV HL1182_4.out) hb)
             have n6_ := z0 (blk_below (g := gb1172) (o := .cells #[.int .i64 t1156, .int .i64 t1157, .int .i64 t1158, .int .i64 t1159, .slice (some ad1182) t1160.length co11] 32 (0, 0)) (mK BK1172.out) hb)
             have n7_ := z0 (blk_below (g := gb1173) (o := .cells #[.slice Ao12 t1163.length co12, .slice Ao14 t1166.length co14, .slice Ao15 t1169.length co15] 44 (0, 0)) (mK BK1173.out) hb)
             have n8_ := z0 (Kd.C_below (by repeat (first | (with_reducible exact HR1182_4.out) | (with_reducible refine Kd.C_alloc ?_ _) | (with_reducible refine Kd.C_drewN ?_ _) | (with_reducible refine Kd.C_drew ?_) | exact HR1182_4.out)) hb)
             have n9_ := z0 (below_step (mB HB.out) hb)
             clear HO_6 HO_1173004 HO_1174000 HO_1174001 HO_1174002 HL1182_4 BK1172 BK1173 HR1182_4 HB
             have HO_6 := n0_
             have HO_1173004 := n1_
             have HO_1174000 := n2_
             have HO_1174001 := n3_
             have HO_1174002 := n4_
             have HL1182_4 := n5_
             have BK1172 := n6_
             have BK1173 := n7_
             have HR1182_4 := n8_
             have HB := n9_
             clear n0_ n1_ n2_ n3_ n4_ n5_ n6_ n7_ n8_ n9_
             (try clear hb)
             (try clear hb2)
             (try clear hk)
             (try clear hi)
             have p49 : 0 ≤ (x7_3 : Int) := of_decide_eq_true (by first | (with_reducible assumption) | assumption)
             have q49 : (x7_3 : Int) < ((x6_3.length : Int) : Int) := of_decide_eq_true (by first | (with_reducible assumption) | assumption)
             obtain ⟨go49, co49, eo49, gb49, gl49, cl49, HG49⟩ := Kd.R_form HO_6.out (by omega)
             (first | cases eo49 | (injection eo49 with ea_ en_ ec_; (first | subst ea_ | (injection ea_ with ea_; subst ea_)); subst ec_; clear en_))
             have GB49 := z0 gb49
             have GG49 := z0 HG49
             clear gb49 gl49 HG49
             obtain ⟨hx49_0, hf49_0⟩ := Kd.R_celln 0 HO_6.out (x7_3 : Int) p49 q49
             replace p49 := eq_true p49
             replace q49 := eq_true q49
             have HP54 := Kd.R_putn HO_6.out (x7_3 : Int) t1183
             rw [← Ny1184.out] at HP54
             have HQ54 := z0 HP54
             clear HP54
             refine hK.out _ _ ⟨(blk_cell BK1172.out 0).trans rfl, (blk_cell BK1172.out 1).trans rfl, (blk_cell BK1172.out 2).trans rfl, (blk_cell BK1172.out 3).trans rfl, (blk_cell BK1172.out 4).trans rfl, (blk_cell BK1173.out 0).trans rfl, (blk_cell BK1173.out 1).trans rfl, (blk_cell BK1173.out 2).trans rfl, HS8_, HS9_, HS10_, HS11_, HS12_⟩ (fun hHeld => ?_)
             clear hK K
             refine norm_ (a' := ?_) ?_ ?_
             rotate_left
             ·show Act.put _ (some 56) _ = _
              simp only [Act.put, List.setIfInBounds_toArray, List.set_cons_zero, List.set_cons_succ, i64_w, i32_w]
              rfl
             refine pure_ (i := 9) (N := some 57) (v := ?_) (a' := ?_) #[true, true, true, true, true, true, true, true, true, true, false] rfl rfl (any_of HT_.out (by kernel_rfl)) (fun _ _ _ h => h) (Or.inl ⟨by rfl, ?_⟩) ?_ ?_
             rotate_left
             ·intro w'
              go_simp
              with_reducible rfl
             rotate_left
             ·simp only [Act.put, List.setIfInBounds_toArray, List.set_cons_zero, List.set_cons_succ, i64_w, i32_w]
              rfl
             refine last_ (i := 10) (N := none) #[true, true, true, true, true, true, true, true, true, true, true] rfl rfl (one_of HT_.out (by kernel_rfl)) (by decide) (fun K hK => ?_)
             refine skip_ (w1 := ?_) (by rfl) rfl ?_ ?_
             rotate_left
             ·go_simp
              rfl
             refine hK.out _ _ ?_
             clear hK K
             refine done_ (done_of HT_.out (by kernel_rfl)) ?_
             try go_wp2
             go_roundg k3
             case measure => have := HJ4.out; have := HJ29.out; have := HK3.out; omega
             case rel => exact ⟨(y1184), (wrap64 (x7_3 + 1)), rfy, H', ⟨by have := HJ4.out; have := HJ29.out; have := HK3.out; omega⟩, ⟨mR HQ54.out⟩, ⟨by (with_reducible repeat (first | apply Kd.N_alloc | apply Kd.N_drewN | apply Kd.N_drew)); exact Kd.N_mono (Kd.N_far (p := ⟨go49, (x7_3 : Int).toNat, none⟩) (Kd.N_mono HO_1173004.out (fun k_ hk => (⟨hk, fun e_ => hk.1 (by rw [e_]; rfl)⟩ : _ ∧ k_ ≠ go49))) (fun _ hk => hk.2) (.int .i64 t1183)) (fun _ hk => ⟨hk.1.1, ⟨hk.1.2.1, ⟨hk.1.2.2.1, ⟨hk.1.2.2.2.1, ⟨hk.1.2.2.2.2.1, hk.1.2.2.2.2.2⟩⟩⟩⟩⟩)⟩, ⟨by (with_reducible repeat (first | apply Kd.R_alloc | apply Kd.R_drewN | apply Kd.R_drew)); exact Kd.R_mono (Kd.R_far (p := ⟨go49, (x7_3 : Int).toNat, none⟩) (Kd.R_mono HO_1174000.out (fun k_ hk => (⟨hk, fun e_ => hk.1 (by rw [e_]; rfl)⟩ : _ ∧ k_ ≠ go49))) (fun _ hk => hk.2) (.int .i64 t1183)) (fun _ hk => ⟨hk.1.1, ⟨hk.1.2.1, hk.1.2.2⟩⟩)⟩, ⟨by (with_reducible repeat (first | apply Kd.R_alloc | apply Kd.R_drewN | apply Kd.R_drew)); exact Kd.R_mono (Kd.R_far (p := ⟨go49, (x7_3 : Int).toNat, none⟩) (Kd.R_mono HO_1174001.out (fun k_ hk => (⟨hk, fun e_ => hk.1 (by rw [e_]; rfl)⟩ : _ ∧ k_ ≠ go49))) (fun _ hk => hk.2) (.int .i64 t1183)) (fun _ hk => ⟨hk.1.1, ⟨hk.1.2.1, hk.1.2.2⟩⟩)⟩, ⟨by (with_reducible repeat (first | apply Kd.R_alloc | apply Kd.R_drewN | apply Kd.R_drew)); exact Kd.R_mono (Kd.R_far (p := ⟨go49, (x7_3 : Int).toNat, none⟩) (Kd.R_mono HO_1174002.out (fun k_ hk => (⟨hk, fun e_ => hk.1 (by rw [e_]; rfl)⟩ : _ ∧ k_ ≠ go49))) (fun _ hk => hk.2) (.int .i64 t1183)) (fun _ hk => ⟨hk.1.1, ⟨hk.1.2.1, hk.1.2.2⟩⟩)⟩, ⟨by (with_reducible repeat (first | refine blk_drewN ?_ _ | refine blk_drew ?_ | refine blk_alloc ?_ _)); refine blk_far ?_ (by have h_ := Kd.R_ne HO_6.out BK1172.out (by decide); intro e_; exact h_ (by rw [e_]; rfl)) _; (with_reducible repeat (first | refine blk_drewN ?_ _ | refine blk_drew ?_ | refine blk_alloc ?_ _)); exact BK1172.out⟩, ⟨by (with_reducible repeat (first | refine blk_drewN ?_ _ | refine blk_drew ?_ | refine blk_alloc ?_ _)); refine blk_far ?_ (by have h_ := Kd.R_ne HO_6.out BK1173.out (by decide); intro e_; exact h_ (by rw [e_]; rfl)) _; (with_reducible repeat (first | refine blk_drewN ?_ _ | refine blk_drew ?_ | refine blk_alloc ?_ _)); exact BK1173.out⟩, ⟨by repeat (first | (with_reducible first | exact HB.out | apply below_alloc | apply pw_below_drewN | apply below_drew1 | refine below_set ?_ GB49.out | refine below_set ?_ GE1172.out | refine below_set ?_ GE1173.out) | exact HB.out)⟩⟩
            ·rw [if_neg c48] at H
             exact absurd H (by simp)
           ·rw [if_neg c46] at H
            exact absurd H (by simp)
          ·rw [if_neg c45] at H
           have c45b0 : decide (x7_3 < (t1160.length : Int)) = false := decide_eq_false c45
           clear c45
           by_cases c55 : t1156 = 1
           ·rw [if_pos c55] at H
            have c55b0 : (t1156 == 1) = true := beq_iff_eq.mpr c55
            have c55b1 : (t1156 != 1) = false := bne_eq_false_iff_eq.mpr c55
            clear c55
            obtain rfl := Option.some.inj H
            have hnb56 := NB1172_1173.out
            have hnc56 := NB1173_1172.out
            obtain ⟨hcz57_0, hcz57_1, hcz57_2, hcz57_3, hcz57_4, hfz57_0, hfz57_1, hfz57_2, hfz57_3, hfz57_4⟩ := cel5 BK1172.out
            go_wp2
            go_ret
            exact ⟨rfx, mB HB.out⟩
           ·rw [if_neg c55] at H
            have c55b0 : (t1156 == 1) = false := beq_eq_false_iff_ne.mpr c55
            have c55b1 : (t1156 != 1) = true := bne_iff_ne.mpr c55
            by_cases c58 : t1156 = 2
            ·rw [if_pos c58] at H
             have c58b0 : (t1156 == 2) = true := beq_iff_eq.mpr c58
             have c58b1 : (t1156 != 2) = false := bne_eq_false_iff_eq.mpr c58
             clear c58
             replace H := Option.bind_eq_some_iff.mp H
             obtain ⟨t1185, A590, H⟩ := H
             replace H : (some (t1174 == t1185)) = some r := H
             have A59 := z0 A590
             clear A590
             obtain rfl := Option.some.inj H
             have hnb60 := NB1172_1173.out
             have hnc60 := NB1173_1172.out
             obtain ⟨hcz61_0, hcz61_1, hcz61_2, hcz61_3, hcz61_4, hfz61_0, hfz61_1, hfz61_2, hfz61_3, hfz61_4⟩ := cel5 BK1172.out
             obtain ⟨hcz62_0, hcz62_1, hcz62_2, hfz62_0, hfz62_1, hfz62_2⟩ := cel3 BK1173.out
             go_wp2_with (first | ((with_reducible refine gate_callee (f := 43) rfl ?_); refine goesL_ (some 72) rfl rfl Try.func43 (by kernel_rfl) rfl #[.agg #[.slice Ao12 t1163.length co12, .slice Ao14 t1166.length co14, .slice Ao15 t1169.length co15], .agg #[.int .i64 t1158, .int .i64 t1159]] rfl argx ?_; (with_reducible refine (impl_MemGet.calls _ _ t1163 _ _ t1166 _ _ t1169 t1158 t1159 t1185 _ ?side1 ?side2 ?side3 ?side4 ?side5 ?side6 A59.out).mono ?_); (case side1 => exact mC (Kd.R_reads' HO_1174000.out).2.2); (case side2 => exact (Kd.R_reads' HO_1174000.out).2.1); (case side3 => exact mC (Kd.R_reads' HO_1174001.out).2.2); (case side4 => exact (Kd.R_reads' HO_1174001.out).2.1); (case side5 => exact mC (Kd.R_reads' HO_1174002.out).2.2); (case side6 => exact (Kd.R_reads' HO_1174002.out).2.1); rintro e w63 ⟨rfl, hb⟩; refine ⟨_, rfl, ?_⟩; have n0_ := z0 (Kd.R_below (mR HO_6.out) hb); have n1_ := z0 (Kd.N_below (mN HO_1173004.out) hb); have n2_ := z0 (Kd.R_below (mR HO_1174000.out) hb); have n3_ := z0 (Kd.R_below (mR HO_1174001.out) hb); have n4_ := z0 (Kd.R_below (mR HO_1174002.out) hb); have n5_ := z0 (blk_below (g := gb1172) (o := .cells #[.int .i64 t1156, .int .i64 t1157, .int .i64 t1158, .int .i64 t1159, .slice Ao11 t1160.length co11] 32 (0, 0)) (mK BK1172.out) hb); have n6_ := z0 (blk_below (g := gb1173) (o := .cells #[.slice Ao12 t1163.length co12, .slice Ao14 t1166.length co14, .slice Ao15 t1169.length co15] 44 (0, 0)) (mK BK1173.out) hb); have n7_ := z0 (below_step (mB HB.out) hb); clear HO_6; clear HO_1173004; clear HO_1174000; clear HO_1174001; clear HO_1174002; clear BK1172; clear BK1173; clear HB; have HO_6 := n0_; have HO_1173004 := n1_; have HO_1174000 := n2_; have HO_1174001 := n3_; have HO_1174002 := n4_; have BK1172 := n5_; have BK1173 := n6_; have HB := n7_; clear n0_ n1_ n2_ n3_ n4_ n5_ n6_ n7_; (try clear hb); (try clear hb2); (try clear hk); (try clear hi)))
             go_ret
             exact ⟨rfx, mB HB.out⟩
            ·rw [if_neg c58] at H
             have c58b0 : (t1156 == 2) = false := beq_eq_false_iff_ne.mpr c58
             have c58b1 : (t1156 != 2) = true := bne_iff_ne.mpr c58
             by_cases c64 : t1156 = 3
             ·rw [if_pos c64] at H
              have c64b0 : (t1156 == 3) = true := beq_iff_eq.mpr c64
              have c64b1 : (t1156 != 3) = false := bne_eq_false_iff_eq.mpr c64
              clear c64
              by_cases c65 : 0 < (x6_3.length : Int)
              ·rw [if_pos c65] at H
               have c65b0 : decide (0 < (x6_3.length : Int)) = true := decide_eq_true c65
               have c65b1 : decide (0 < x6_3.length) = true := decide_eq_true (by omega)
               clear c65
               by_cases c66 : 1 < (x6_3.length : Int)
               ·rw [if_pos c66] at H
                have c66b0 : decide (1 < (x6_3.length : Int)) = true := decide_eq_true c66
                have c66b1 : decide (1 < x6_3.length) = true := decide_eq_true (by omega)
                clear c66
                replace H := Option.bind_eq_some_iff.mp H
                obtain ⟨t1188, A670, H⟩ := H
                replace H : (some (t1174 == t1188)) = some r := H
                have A67 := z0 A670
                clear A670
                obtain rfl := Option.some.inj H
                have hnb68 := NB1172_1173.out
                have hnc68 := NB1173_1172.out
                obtain ⟨hcz69_0, hcz69_1, hcz69_2, hcz69_3, hcz69_4, hfz69_0, hfz69_1, hfz69_2, hfz69_3, hfz69_4⟩ := cel5 BK1172.out
                try go_wp2
                have n0_ := z0 (Kd.R_drew HO_6.out)
                have n1_ := z0 (Kd.N_drew HO_1173004.out)
                have n2_ := z0 (Kd.R_drew HO_1174000.out)
                have n3_ := z0 (Kd.R_drew HO_1174001.out)
                have n4_ := z0 (Kd.R_drew HO_1174002.out)
                have n5_ := z0 (blk_drew BK1172.out)
                have n6_ := z0 (blk_drew BK1173.out)
                have n7_ := z0 (below_drew1 HB.out)
                clear HO_6 HO_1173004 HO_1174000 HO_1174001 HO_1174002 BK1172 BK1173 HB
                have HO_6 := n0_
                have HO_1173004 := n1_
                have HO_1174000 := n2_
                have HO_1174001 := n3_
                have HO_1174002 := n4_
                have BK1172 := n5_
                have BK1173 := n6_
                have HB := n7_
                clear n0_ n1_ n2_ n3_ n4_ n5_ n6_ n7_
                obtain ⟨Ao71, co71, eo71⟩ := Kd.R_slice HO_6.out
                (first | subst eo71 | (injection eo71 with f1_ f2_ f3_; have f4_ := f1_.symm; have f5_ := f3_.symm; clear f1_ f2_ f3_; subst f4_; subst f5_))
                have p1186 : 0 ≤ (0 : Int) := (by omega)
                have q1186 : 0 < (x6_3.length : Int) := of_decide_eq_true (by first | (with_reducible assumption) | assumption)
                obtain ⟨ad1186, e1186, hx1186_0⟩ := Kd.at_int (Kd.R_reads' HO_6.out).2.2 0 p1186 q1186
                cases e1186
                have qi1186 : (0 < x6_3.length) = True := eq_true (by omega)
                (try rw [show ((0 : Int)).toNat = 0 from rfl] at hx1186_0)
                (try rw [Addr.add_zero'] at hx1186_0)
                replace p1186 := eq_true p1186
                replace q1186 := eq_true q1186
                have p1187 : 0 ≤ (1 : Int) := (by omega)
                have q1187 : 1 < (x6_3.length : Int) := of_decide_eq_true (by first | (with_reducible assumption) | assumption)
                obtain ⟨ad1187, e1187, hx1187_0⟩ := Kd.at_int (Kd.R_reads' HO_6.out).2.2 1 p1187 q1187
                obtain rfl : ad1186 = ad1187 := (by injection e1187)
                (try simp only [show (1 : Int).toNat = 1 from rfl, Nat.reduceMul, Nat.reduceEqDiff, Go.Addr.add, ↓reduceIte] at hx1187_0)
                have qi1187 : (1 < x6_3.length) = True := eq_true (by omega)
                (try rw [show ((1 : Int)).toNat = 1 from rfl] at hx1187_0)
                replace p1187 := eq_true p1187
                replace q1187 := eq_true q1187
                refine start_ (n := 10) (S := fun w' => w'.cell? ad1186 = some (.int .i64 (rd x6_3 0)) ∧ w'.cell? ⟨ad1186.block, ad1186.off + 1, none⟩ = some (.int .i64 (rd x6_3 1))) (ds := []) #[false, false, false, false, false, false, false, false, false, false] (by kernel_rfl) rfl rfl ⟨hx1186_0, hx1187_0⟩ (fun hHeld => ?_); refine with_tabW laws_FnExprOf.tab20 laws_FnExprOf.bits20 (fun HT_ HW_ => ?_)
                generalize wr.drew = w70 at HO_6 HO_1173004 HO_1174000 HO_1174001 HO_1174002 BK1172 BK1173 HB hx1186_0 hx1187_0 hHeld ⊢
                refine pure_ (i := 0) (N := some 76) (v := ?_) (a' := ?_) #[true, false, false, false, false, false, false, false, false, false] rfl rfl (any_of HT_.out (by kernel_rfl)) (fun _ _ _ h => h) (Or.inl ⟨by rfl, ?_⟩) ?_ ?_
                rotate_left
                ·intro w'
                 go_simp
                 with_reducible rfl
                rotate_left
                ·simp only [Act.put, List.setIfInBounds_toArray, List.set_cons_zero, List.set_cons_succ, i64_w, i32_w]
                 rfl
                refine pure_ (i := 1) (N := some 77) (v := ?_) (a' := ?_) #[true, true, false, false, false, false, false, false, false, false] rfl rfl (any_of HT_.out (by kernel_rfl)) (fun _ _ _ h => h) (Or.inl ⟨by rfl, ?_⟩) ?_ ?_
                rotate_left
                ·intro w'
                 go_simp
                 with_reducible rfl
                rotate_left
                ·simp only [Act.put, List.setIfInBounds_toArray, List.set_cons_zero, List.set_cons_succ, i64_w, i32_w]
                 rfl
                refine pure_ (i := 2) (N := some 78) (v := ?_) (a' := ?_) #[true, true, true, false, false, false, false, false, false, false] rfl rfl (any_of HT_.out (by kernel_rfl)) (fun _ _ _ h => h) (Or.inl ⟨by rfl, ?_⟩) ?_ ?_
                rotate_left
                ·intro w'
                 go_simp
                 with_reducible rfl
                rotate_left
                ·simp only [Act.put, List.setIfInBounds_toArray, List.set_cons_zero, List.set_cons_succ, i64_w, i32_w]
                 rfl
                refine pure_ (i := 4) (N := some 80) (v := ?_) (a' := ?_) #[true, true, true, false, true, false, false, false, false, false] rfl rfl (any_of HT_.out (by kernel_rfl)) (fun _ _ _ h => h) (Or.inl ⟨by rfl, ?_⟩) ?_ ?_
                rotate_left
                ·intro w'
                 go_simp
                 with_reducible rfl
                rotate_left
                ·simp only [Act.put, List.setIfInBounds_toArray, List.set_cons_zero, List.set_cons_succ, i64_w, i32_w]
                 rfl
                refine pure_ (i := 5) (N := some 81) (v := ?_) (a' := ?_) #[true, true, true, false, true, true, false, false, false, false] rfl rfl (any_of HT_.out (by kernel_rfl)) (fun _ _ _ h => h) (Or.inl ⟨by rfl, ?_⟩) ?_ ?_
                rotate_left
                ·intro w'
                 go_simp
                 with_reducible rfl
                rotate_left
                ·simp only [Act.put, List.setIfInBounds_toArray, List.set_cons_zero, List.set_cons_succ, i64_w, i32_w]
                 rfl
                refine take_ (i := 3) (N := some 79) (v := ?_) (a' := ?_) #[true, true, true, true, true, true, false, false, false, false] rfl rfl (take_ofW HT_.out HW_.out (by kernel_rfl)) (fun _ _ _ h => h) (Or.inl ⟨by rfl, ?_⟩) hHeld ?_ ?_
                rotate_left
                ·rintro w' ⟨s0, s1⟩
                 go_simp
                 with_reducible rfl
                rotate_left
                ·simp only [Act.put, List.setIfInBounds_toArray, List.set_cons_zero, List.set_cons_succ, i64_w, i32_w]
                 rfl
                refine take_ (i := 6) (N := some 82) (v := ?_) (a' := ?_) #[true, true, true, true, true, true, true, false, false, false] rfl rfl (take_ofW HT_.out HW_.out (by kernel_rfl)) (fun _ _ _ h => h) (Or.inl ⟨by rfl, ?_⟩) hHeld ?_ ?_
                rotate_left
                ·rintro w' ⟨s0, s1⟩
                 go_simp
                 with_reducible rfl
                rotate_left
                ·simp only [Act.put, List.setIfInBounds_toArray, List.set_cons_zero, List.set_cons_succ, i64_w, i32_w]
                 rfl
                refine one_ (i := 7) (N := some 83) #[true, true, true, true, true, true, true, true, false, false] rfl rfl (one_of HT_.out (by kernel_rfl)) (by decide) (fun K hK => ?_)
                refine goes_ Try.func44 (by kernel_rfl) rfl #[.int .i64 (rd x6_3 0), .int .i64 (rd x6_3 1)] (by rfl) rfl rfl argx ?_
                with_reducible refine (impl_NumAdd.calls (rd x6_3 0) (rd x6_3 1) t1188 _ A67.out).mono ?_
                rintro e w72 ⟨rfl, hb⟩
                have HS0_ := (hb.cell (World.block_lt_of_cell? _ _ (hHeld.1))).trans (hHeld.1)
                have HS1_ := (hb.cell (World.block_lt_of_cell? _ _ (hHeld.2))).trans (hHeld.2)
                refine ⟨_, rfl, ?_⟩
                have n0_ := z0 (Kd.R_below (mR HO_6.out) hb)
                have n1_ := z0 (Kd.N_below (mN HO_1173004.out) hb)
                have n2_ := z0 (Kd.R_below (mR HO_1174000.out) hb)
                have n3_ := z0 (Kd.R_below (mR HO_1174001.out) hb)
                have n4_ := z0 (Kd.R_below (mR HO_1174002.out) hb)
                have n5_ := z0 (blk_below (g := gb1172) (o := .cells #[.int .i64 t1156, .int .i64 t1157, .int .i64 t1158, .int .i64 t1159, .slice Ao11 t1160.length co11] 32 (0, 0)) (mK BK1172.out) hb)
                have n6_ := z0 (blk_below (g := gb1173) (o := .cells #[.slice Ao12 t1163.length co12, .slice Ao14 t1166.length co14, .slice Ao15 t1169.length co15] 44 (0, 0)) (mK BK1173.out) hb)
                have n7_ := z0 (below_step (mB HB.out) hb)
                clear HO_6 HO_1173004 HO_1174000 HO_1174001 HO_1174002 BK1172 BK1173 HB
                have HO_6 := n0_
                have HO_1173004 := n1_
                have HO_1174000 := n2_
                have HO_1174001 := n3_
                have HO_1174002 := n4_
                have BK1172 := n5_
                have BK1173 := n6_
                have HB := n7_
                clear n0_ n1_ n2_ n3_ n4_ n5_ n6_ n7_
                (try clear hb)
                (try clear hb2)
                (try clear hk)
                (try clear hi)
                refine hK.out _ _ ⟨HS0_, HS1_⟩ (fun hHeld => ?_)
                clear hK K
                refine norm_ (a' := ?_) ?_ ?_
                rotate_left
                ·show Act.put _ (some 83) _ = _
                 simp only [Act.put, List.setIfInBounds_toArray, List.set_cons_zero, List.set_cons_succ, i64_w, i32_w]
                 rfl
                refine pure_ (i := 8) (N := some 84) (v := ?_) (a' := ?_) #[true, true, true, true, true, true, true, true, true, false] rfl rfl (any_of HT_.out (by kernel_rfl)) (fun _ _ _ h => h) (Or.inl ⟨by rfl, ?_⟩) ?_ ?_
                rotate_left
                ·intro w'
                 go_simp
                 with_reducible rfl
                rotate_left
                ·simp only [Act.put, List.setIfInBounds_toArray, List.set_cons_zero, List.set_cons_succ, i64_w, i32_w]
                 rfl
                refine pure_ (i := 9) (N := some 2) (v := ?_) (a' := ?_) #[true, true, true, true, true, true, true, true, true, true] rfl rfl (any_of HT_.out (by kernel_rfl)) (fun _ _ _ h => h) (Or.inl ⟨by rfl, ?_⟩) ?_ ?_
                rotate_left
                ·intro w'
                 go_simp
                 with_reducible rfl
                rotate_left
                ·simp only [Act.put, List.setIfInBounds_toArray, List.set_cons_zero, List.set_cons_succ, i64_w, i32_w]
                 rfl
                refine done_ (done_of HT_.out (by kernel_rfl)) ?_
                try go_wp2
                go_ret
                exact ⟨rfx, mB HB.out⟩
               ·rw [if_neg c66] at H
                exact absurd H (by simp)
              ·rw [if_neg c65] at H
               exact absurd H (by simp)
             ·rw [if_neg c64] at H
              have c64b0 : (t1156 == 3) = false := beq_eq_false_iff_ne.mpr c64
              have c64b1 : (t1156 != 3) = true := bne_iff_ne.mpr c64
              by_cases c73 : t1156 = 4
              ·rw [if_pos c73] at H
               have c73b0 : (t1156 == 4) = true := beq_iff_eq.mpr c73
               have c73b1 : (t1156 != 4) = false := bne_eq_false_iff_eq.mpr c73
               clear c73
               by_cases c74 : 0 < (x6_3.length : Int)
               ·rw [if_pos c74] at H
                have c74b0 : decide (0 < (x6_3.length : Int)) = true := decide_eq_true c74
                have c74b1 : decide (0 < x6_3.length) = true := decide_eq_true (by omega)
                clear c74
                by_cases c75 : 1 < (x6_3.length : Int)
                ·rw [if_pos c75] at H
                 have c75b0 : decide (1 < (x6_3.length : Int)) = true := decide_eq_true c75
                 have c75b1 : decide (1 < x6_3.length) = true := decide_eq_true (by omega)
                 clear c75
                 replace H := Option.bind_eq_some_iff.mp H
                 obtain ⟨t1191, A760, H⟩ := H
                 replace H : (some (t1174 == t1191)) = some r := H
                 have A76 := z0 A760
                 clear A760
                 obtain rfl := Option.some.inj H
                 have hnb77 := NB1172_1173.out
                 have hnc77 := NB1173_1172.out
                 obtain ⟨hcz78_0, hcz78_1, hcz78_2, hcz78_3, hcz78_4, hfz78_0, hfz78_1, hfz78_2, hfz78_3, hfz78_4⟩ := cel5 BK1172.out
                 try go_wp2
                 have n0_ := z0 (Kd.R_drew HO_6.out)
                 have n1_ := z0 (Kd.N_drew HO_1173004.out)
                 have n2_ := z0 (Kd.R_drew HO_1174000.out)
                 have n3_ := z0 (Kd.R_drew HO_1174001.out)
                 have n4_ := z0 (Kd.R_drew HO_1174002.out)
                 have n5_ := z0 (blk_drew BK1172.out)
                 have n6_ := z0 (blk_drew BK1173.out)
                 have n7_ := z0 (below_drew1 HB.out)
                 clear HO_6 HO_1173004 HO_1174000 HO_1174001 HO_1174002 BK1172 BK1173 HB
                 have HO_6 := n0_
                 have HO_1173004 := n1_
                 have HO_1174000 := n2_
                 have HO_1174001 := n3_
                 have HO_1174002 := n4_
                 have BK1172 := n5_
                 have BK1173 := n6_
                 have HB := n7_
                 clear n0_ n1_ n2_ n3_ n4_ n5_ n6_ n7_
                 obtain ⟨Ao80, co80, eo80⟩ := Kd.R_slice HO_6.out
                 (first | subst eo80 | (injection eo80 with f1_ f2_ f3_; have f4_ := f1_.symm; have f5_ := f3_.symm; clear f1_ f2_ f3_; subst f4_; subst f5_))
                 have p1189 : 0 ≤ (0 : Int) := (by omega)
                 have q1189 : 0 < (x6_3.length : Int) := of_decide_eq_true (by first | (with_reducible assumption) | assumption)
                 obtain ⟨ad1189, e1189, hx1189_0⟩ := Kd.at_int (Kd.R_reads' HO_6.out).2.2 0 p1189 q1189
                 cases e1189
                 have qi1189 : (0 < x6_3.length) = True := eq_true (by omega)
                 (try rw [show ((0 : Int)).toNat = 0 from rfl] at hx1189_0)
                 (try rw [Addr.add_zero'] at hx1189_0)
                 replace p1189 := eq_true p1189
                 replace q1189 := eq_true q1189
                 have p1190 : 0 ≤ (1 : Int) := (by omega)
                 have q1190 : 1 < (x6_3.length : Int) := of_decide_eq_true (by first | (with_reducible assumption) | assumption)
                 obtain ⟨ad1190, e1190, hx1190_0⟩ := Kd.at_int (Kd.R_reads' HO_6.out).2.2 1 p1190 q1190
                 obtain rfl : ad1189 = ad1190 := (by injection e1190)
                 (try simp only [show (1 : Int).toNat = 1 from rfl, Nat.reduceMul, Nat.reduceEqDiff, Go.Addr.add, ↓reduceIte] at hx1190_0)
                 have qi1190 : (1 < x6_3.length) = True := eq_true (by omega)
                 (try rw [show ((1 : Int)).toNat = 1 from rfl] at hx1190_0)
                 replace p1190 := eq_true p1190
                 replace q1190 := eq_true q1190
                 refine start_ (n := 10) (S := fun w' => w'.cell? ad1189 = some (.int .i64 (rd x6_3 0)) ∧ w'.cell? ⟨ad1189.block, ad1189.off + 1, none⟩ = some (.int .i64 (rd x6_3 1))) (ds := []) #[false, false, false, false, false, false, false, false, false, false] (by kernel_rfl) rfl rfl ⟨hx1189_0, hx1190_0⟩ (fun hHeld => ?_); refine with_tabW laws_FnExprOf.tab22 laws_FnExprOf.bits22 (fun HT_ HW_ => ?_)
                 generalize wr.drew = w79 at HO_6 HO_1173004 HO_1174000 HO_1174001 HO_1174002 BK1172 BK1173 HB hx1189_0 hx1190_0 hHeld ⊢
                 refine pure_ (i := 0) (N := some 87) (v := ?_) (a' := ?_) #[true, false, false, false, false, false, false, false, false, false] rfl rfl (any_of HT_.out (by kernel_rfl)) (fun _ _ _ h => h) (Or.inl ⟨by rfl, ?_⟩) ?_ ?_
                 rotate_left
                 ·intro w'
                  go_simp
                  with_reducible rfl
                 rotate_left
                 ·simp only [Act.put, List.setIfInBounds_toArray, List.set_cons_zero, List.set_cons_succ, i64_w, i32_w]
                  rfl
                 refine pure_ (i := 1) (N := some 88) (v := ?_) (a' := ?_) #[true, true, false, false, false, false, false, false, false, false] rfl rfl (any_of HT_.out (by kernel_rfl)) (fun _ _ _ h => h) (Or.inl ⟨by rfl, ?_⟩) ?_ ?_
                 rotate_left
                 ·intro w'
                  go_simp
                  with_reducible rfl
                 rotate_left
                 ·simp only [Act.put, List.setIfInBounds_toArray, List.set_cons_zero, List.set_cons_succ, i64_w, i32_w]
                  rfl
                 refine pure_ (i := 2) (N := some 89) (v := ?_) (a' := ?_) #[true, true, true, false, false, false, false, false, false, false] rfl rfl (any_of HT_.out (by kernel_rfl)) (fun _ _ _ h => h) (Or.inl ⟨by rfl, ?_⟩) ?_ ?_
                 rotate_left
                 ·intro w'
                  go_simp
                  with_reducible rfl
                 rotate_left
                 ·simp only [Act.put, List.setIfInBounds_toArray, List.set_cons_zero, List.set_cons_succ, i64_w, i32_w]
                  rfl
                 refine pure_ (i := 4) (N := some 91) (v := ?_) (a' := ?_) #[true, true, true, false, true, false, false, false, false, false] rfl rfl (any_of HT_.out (by kernel_rfl)) (fun _ _ _ h => h) (Or.inl ⟨by rfl, ?_⟩) ?_ ?_
                 rotate_left
                 ·intro w'
                  go_simp
                  with_reducible rfl
                 rotate_left
                 ·simp only [Act.put, List.setIfInBounds_toArray, List.set_cons_zero, List.set_cons_succ, i64_w, i32_w]
                  rfl
                 refine pure_ (i := 5) (N := some 92) (v := ?_) (a' := ?_) #[true, true, true, false, true, true, false, false, false, false] rfl rfl (any_of HT_.out (by kernel_rfl)) (fun _ _ _ h => h) (Or.inl ⟨by rfl, ?_⟩) ?_ ?_
                 rotate_left
                 ·intro w'
                  go_simp
                  with_reducible rfl
                 rotate_left
                 ·simp only [Act.put, List.setIfInBounds_toArray, List.set_cons_zero, List.set_cons_succ, i64_w, i32_w]
                  rfl
                 refine take_ (i := 3) (N := some 90) (v := ?_) (a' := ?_) #[true, true, true, true, true, true, false, false, false, false] rfl rfl (take_ofW HT_.out HW_.out (by kernel_rfl)) (fun _ _ _ h => h) (Or.inl ⟨by rfl, ?_⟩) hHeld ?_ ?_
                 rotate_left
                 ·rintro w' ⟨s0, s1⟩
                  go_simp
                  with_reducible rfl
                 rotate_left
                 ·simp only [Act.put, List.setIfInBounds_toArray, List.set_cons_zero, List.set_cons_succ, i64_w, i32_w]
                  rfl
                 refine take_ (i := 6) (N := some 93) (v := ?_) (a' := ?_) #[true, true, true, true, true, true, true, false, false, false] rfl rfl (take_ofW HT_.out HW_.out (by kernel_rfl)) (fun _ _ _ h => h) (Or.inl ⟨by rfl, ?_⟩) hHeld ?_ ?_
                 rotate_left
                 ·rintro w' ⟨s0, s1⟩
                  go_simp
                  with_reducible rfl
                 rotate_left
                 ·simp only [Act.put, List.setIfInBounds_toArray, List.set_cons_zero, List.set_cons_succ, i64_w, i32_w]
                  rfl
                 refine one_ (i := 7) (N := some 94) #[true, true, true, true, true, true, true, true, false, false] rfl rfl (one_of HT_.out (by kernel_rfl)) (by decide) (fun K hK => ?_)
                 refine goes_ Try.func45 (by kernel_rfl) rfl #[.int .i64 (rd x6_3 0), .int .i64 (rd x6_3 1)] (by rfl) rfl rfl argx ?_
                 with_reducible refine (impl_NumSub.calls (rd x6_3 0) (rd x6_3 1) t1191 _ A76.out).mono ?_
                 rintro e w81 ⟨rfl, hb⟩
                 have HS0_ := (hb.cell (World.block_lt_of_cell? _ _ (hHeld.1))).trans (hHeld.1)
                 have HS1_ := (hb.cell (World.block_lt_of_cell? _ _ (hHeld.2))).trans (hHeld.2)
                 refine ⟨_, rfl, ?_⟩
                 have n0_ := z0 (Kd.R_below (mR HO_6.out) hb)
                 have n1_ := z0 (Kd.N_below (mN HO_1173004.out) hb)
                 have n2_ := z0 (Kd.R_below (mR HO_1174000.out) hb)
                 have n3_ := z0 (Kd.R_below (mR HO_1174001.out) hb)
                 have n4_ := z0 (Kd.R_below (mR HO_1174002.out) hb)
                 have n5_ := z0 (blk_below (g := gb1172) (o := .cells #[.int .i64 t1156, .int .i64 t1157, .int .i64 t1158, .int .i64 t1159, .slice Ao11 t1160.length co11] 32 (0, 0)) (mK BK1172.out) hb)
                 have n6_ := z0 (blk_below (g := gb1173) (o := .cells #[.slice Ao12 t1163.length co12, .slice Ao14 t1166.length co14, .slice Ao15 t1169.length co15] 44 (0, 0)) (mK BK1173.out) hb)
                 have n7_ := z0 (below_step (mB HB.out) hb)
                 clear HO_6 HO_1173004 HO_1174000 HO_1174001 HO_1174002 BK1172 BK1173 HB
                 have HO_6 := n0_
                 have HO_1173004 := n1_
                 have HO_1174000 := n2_
                 have HO_1174001 := n3_
                 have HO_1174002 := n4_
                 have BK1172 := n5_
                 have BK1173 := n6_
                 have HB := n7_
                 clear n0_ n1_ n2_ n3_ n4_ n5_ n6_ n7_
                 (try clear hb)
                 (try clear hb2)
                 (try clear hk)
                 (try clear hi)
                 refine hK.out _ _ ⟨HS0_, HS1_⟩ (fun hHeld => ?_)
                 clear hK K
                 refine norm_ (a' := ?_) ?_ ?_
                 rotate_left
                 ·show Act.put _ (some 94) _ = _
                  simp only [Act.put, List.setIfInBounds_toArray, List.set_cons_zero, List.set_cons_succ, i64_w, i32_w]
                  rfl
                 refine pure_ (i := 8) (N := some 95) (v := ?_) (a' := ?_) #[true, true, true, true, true, true, true, true, true, false] rfl rfl (any_of HT_.out (by kernel_rfl)) (fun _ _ _ h => h) (Or.inl ⟨by rfl, ?_⟩) ?_ ?_
                 rotate_left
                 ·intro w'
                  go_simp
                  with_reducible rfl
                 rotate_left
                 ·simp only [Act.put, List.setIfInBounds_toArray, List.set_cons_zero, List.set_cons_succ, i64_w, i32_w]
                  rfl
                 refine pure_ (i := 9) (N := some 2) (v := ?_) (a' := ?_) #[true, true, true, true, true, true, true, true, true, true] rfl rfl (any_of HT_.out (by kernel_rfl)) (fun _ _ _ h => h) (Or.inl ⟨by rfl, ?_⟩) ?_ ?_
                 rotate_left
                 ·intro w'
                  go_simp
                  with_reducible rfl
                 rotate_left
                 ·simp only [Act.put, List.setIfInBounds_toArray, List.set_cons_zero, List.set_cons_succ, i64_w, i32_w]
                  rfl
                 refine done_ (done_of HT_.out (by kernel_rfl)) ?_
                 try go_wp2
                 go_ret
                 exact ⟨rfx, mB HB.out⟩
                ·rw [if_neg c75] at H
                 exact absurd H (by simp)
               ·rw [if_neg c74] at H
                exact absurd H (by simp)
              ·rw [if_neg c73] at H
               have c73b0 : (t1156 == 4) = false := beq_eq_false_iff_ne.mpr c73
               have c73b1 : (t1156 != 4) = true := bne_iff_ne.mpr c73
               by_cases c82 : t1156 = 5
               ·rw [if_pos c82] at H
                have c82b0 : (t1156 == 5) = true := beq_iff_eq.mpr c82
                have c82b1 : (t1156 != 5) = false := bne_eq_false_iff_eq.mpr c82
                clear c82
                by_cases c83 : 0 < (x6_3.length : Int)
                ·rw [if_pos c83] at H
                 have c83b0 : decide (0 < (x6_3.length : Int)) = true := decide_eq_true c83
                 have c83b1 : decide (0 < x6_3.length) = true := decide_eq_true (by omega)
                 clear c83
                 by_cases c84 : 1 < (x6_3.length : Int)
                 ·rw [if_pos c84] at H
                  have c84b0 : decide (1 < (x6_3.length : Int)) = true := decide_eq_true c84
                  have c84b1 : decide (1 < x6_3.length) = true := decide_eq_true (by omega)
                  clear c84
                  replace H := Option.bind_eq_some_iff.mp H
                  obtain ⟨t1194, A850, H⟩ := H
                  replace H : (some (t1174 == t1194)) = some r := H
                  have A85 := z0 A850
                  clear A850
                  obtain rfl := Option.some.inj H
                  have hnb86 := NB1172_1173.out
                  have hnc86 := NB1173_1172.out
                  obtain ⟨hcz87_0, hcz87_1, hcz87_2, hcz87_3, hcz87_4, hfz87_0, hfz87_1, hfz87_2, hfz87_3, hfz87_4⟩ := cel5 BK1172.out
                  try go_wp2
                  have n0_ := z0 (Kd.R_drew HO_6.out)
                  have n1_ := z0 (Kd.N_drew HO_1173004.out)
                  have n2_ := z0 (Kd.R_drew HO_1174000.out)
                  have n3_ := z0 (Kd.R_drew HO_1174001.out)
                  have n4_ := z0 (Kd.R_drew HO_1174002.out)
                  have n5_ := z0 (blk_drew BK1172.out)
                  have n6_ := z0 (blk_drew BK1173.out)
                  have n7_ := z0 (below_drew1 HB.out)
                  clear HO_6 HO_1173004 HO_1174000 HO_1174001 HO_1174002 BK1172 BK1173 HB
                  have HO_6 := n0_
                  have HO_1173004 := n1_
                  have HO_1174000 := n2_
                  have HO_1174001 := n3_
                  have HO_1174002 := n4_
                  have BK1172 := n5_
                  have BK1173 := n6_
                  have HB := n7_
                  clear n0_ n1_ n2_ n3_ n4_ n5_ n6_ n7_
                  obtain ⟨Ao89, co89, eo89⟩ := Kd.R_slice HO_6.out
                  (first | subst eo89 | (injection eo89 with f1_ f2_ f3_; have f4_ := f1_.symm; have f5_ := f3_.symm; clear f1_ f2_ f3_; subst f4_; subst f5_))
                  have p1192 : 0 ≤ (0 : Int) := (by omega)
                  have q1192 : 0 < (x6_3.length : Int) := of_decide_eq_true (by first | (with_reducible assumption) | assumption)
                  obtain ⟨ad1192, e1192, hx1192_0⟩ := Kd.at_int (Kd.R_reads' HO_6.out).2.2 0 p1192 q1192
                  cases e1192
                  have qi1192 : (0 < x6_3.length) = True := eq_true (by omega)
                  (try rw [show ((0 : Int)).toNat = 0 from rfl] at hx1192_0)
                  (try rw [Addr.add_zero'] at hx1192_0)
                  replace p1192 := eq_true p1192
                  replace q1192 := eq_true q1192
                  have p1193 : 0 ≤ (1 : Int) := (by omega)
                  have q1193 : 1 < (x6_3.length : Int) := of_decide_eq_true (by first | (with_reducible assumption) | assumption)
                  obtain ⟨ad1193, e1193, hx1193_0⟩ := Kd.at_int (Kd.R_reads' HO_6.out).2.2 1 p1193 q1193
                  obtain rfl : ad1192 = ad1193 := (by injection e1193)
                  (try simp only [show (1 : Int).toNat = 1 from rfl, Nat.reduceMul, Nat.reduceEqDiff, Go.Addr.add, ↓reduceIte] at hx1193_0)
                  have qi1193 : (1 < x6_3.length) = True := eq_true (by omega)
                  (try rw [show ((1 : Int)).toNat = 1 from rfl] at hx1193_0)
                  replace p1193 := eq_true p1193
                  replace q1193 := eq_true q1193
                  refine start_ (n := 10) (S := fun w' => w'.cell? ad1192 = some (.int .i64 (rd x6_3 0)) ∧ w'.cell? ⟨ad1192.block, ad1192.off + 1, none⟩ = some (.int .i64 (rd x6_3 1))) (ds := []) #[false, false, false, false, false, false, false, false, false, false] (by kernel_rfl) rfl rfl ⟨hx1192_0, hx1193_0⟩ (fun hHeld => ?_); refine with_tabW laws_FnExprOf.tab24 laws_FnExprOf.bits24 (fun HT_ HW_ => ?_)
                  generalize wr.drew = w88 at HO_6 HO_1173004 HO_1174000 HO_1174001 HO_1174002 BK1172 BK1173 HB hx1192_0 hx1193_0 hHeld ⊢
                  refine pure_ (i := 0) (N := some 98) (v := ?_) (a' := ?_) #[true, false, false, false, false, false, false, false, false, false] rfl rfl (any_of HT_.out (by kernel_rfl)) (fun _ _ _ h => h) (Or.inl ⟨by rfl, ?_⟩) ?_ ?_
                  rotate_left
                  ·intro w'
                   go_simp
                   with_reducible rfl
                  rotate_left
                  ·simp only [Act.put, List.setIfInBounds_toArray, List.set_cons_zero, List.set_cons_succ, i64_w, i32_w]
                   rfl
                  refine pure_ (i := 1) (N := some 99) (v := ?_) (a' := ?_) #[true, true, false, false, false, false, false, false, false, false] rfl rfl (any_of HT_.out (by kernel_rfl)) (fun _ _ _ h => h) (Or.inl ⟨by rfl, ?_⟩) ?_ ?_
                  rotate_left
                  ·intro w'
                   go_simp
                   with_reducible rfl
                  rotate_left
                  ·simp only [Act.put, List.setIfInBounds_toArray, List.set_cons_zero, List.set_cons_succ, i64_w, i32_w]
                   rfl
                  refine pure_ (i := 2) (N := some 100) (v := ?_) (a' := ?_) #[true, true, true, false, false, false, false, false, false, false] rfl rfl (any_of HT_.out (by kernel_rfl)) (fun _ _ _ h => h) (Or.inl ⟨by rfl, ?_⟩) ?_ ?_
                  rotate_left
                  ·intro w'
                   go_simp
                   with_reducible rfl
                  rotate_left
                  ·simp only [Act.put, List.setIfInBounds_toArray, List.set_cons_zero, List.set_cons_succ, i64_w, i32_w]
                   rfl
                  refine pure_ (i := 4) (N := some 102) (v := ?_) (a' := ?_) #[true, true, true, false, true, false, false, false, false, false] rfl rfl (any_of HT_.out (by kernel_rfl)) (fun _ _ _ h => h) (Or.inl ⟨by rfl, ?_⟩) ?_ ?_
                  rotate_left
                  ·intro w'
                   go_simp
                   with_reducible rfl
                  rotate_left
                  ·simp only [Act.put, List.setIfInBounds_toArray, List.set_cons_zero, List.set_cons_succ, i64_w, i32_w]
                   rfl
                  refine pure_ (i := 5) (N := some 103) (v := ?_) (a' := ?_) #[true, true, true, false, true, true, false, false, false, false] rfl rfl (any_of HT_.out (by kernel_rfl)) (fun _ _ _ h => h) (Or.inl ⟨by rfl, ?_⟩) ?_ ?_
                  rotate_left
                  ·intro w'
                   go_simp
                   with_reducible rfl
                  rotate_left
                  ·simp only [Act.put, List.setIfInBounds_toArray, List.set_cons_zero, List.set_cons_succ, i64_w, i32_w]
                   rfl
                  refine take_ (i := 3) (N := some 101) (v := ?_) (a' := ?_) #[true, true, true, true, true, true, false, false, false, false] rfl rfl (take_ofW HT_.out HW_.out (by kernel_rfl)) (fun _ _ _ h => h) (Or.inl ⟨by rfl, ?_⟩) hHeld ?_ ?_
                  rotate_left
                  ·rintro w' ⟨s0, s1⟩
                   go_simp
                   with_reducible rfl
                  rotate_left
                  ·simp only [Act.put, List.setIfInBounds_toArray, List.set_cons_zero, List.set_cons_succ, i64_w, i32_w]
                   rfl
                  refine take_ (i := 6) (N := some 104) (v := ?_) (a' := ?_) #[true, true, true, true, true, true, true, false, false, false] rfl rfl (take_ofW HT_.out HW_.out (by kernel_rfl)) (fun _ _ _ h => h) (Or.inl ⟨by rfl, ?_⟩) hHeld ?_ ?_
                  rotate_left
                  ·rintro w' ⟨s0, s1⟩
                   go_simp
                   with_reducible rfl
                  rotate_left
                  ·simp only [Act.put, List.setIfInBounds_toArray, List.set_cons_zero, List.set_cons_succ, i64_w, i32_w]
                   rfl
                  refine one_ (i := 7) (N := some 105) #[true, true, true, true, true, true, true, true, false, false] rfl rfl (one_of HT_.out (by kernel_rfl)) (by decide) (fun K hK => ?_)
                  refine goes_ Try.func46 (by kernel_rfl) rfl #[.int .i64 (rd x6_3 0), .int .i64 (rd x6_3 1)] (by rfl) rfl rfl argx ?_
                  with_reducible refine (impl_NumMul.calls (rd x6_3 0) (rd x6_3 1) t1194 _ A85.out).mono ?_
                  rintro e w90 ⟨rfl, hb⟩
                  have HS0_ := (hb.cell (World.block_lt_of_cell? _ _ (hHeld.1))).trans (hHeld.1)
                  have HS1_ := (hb.cell (World.block_lt_of_cell? _ _ (hHeld.2))).trans (hHeld.2)
                  refine ⟨_, rfl, ?_⟩
                  have n0_ := z0 (Kd.R_below (mR HO_6.out) hb)
                  have n1_ := z0 (Kd.N_below (mN HO_1173004.out) hb)
                  have n2_ := z0 (Kd.R_below (mR HO_1174000.out) hb)
                  have n3_ := z0 (Kd.R_below (mR HO_1174001.out) hb)
                  have n4_ := z0 (Kd.R_below (mR HO_1174002.out) hb)
                  have n5_ := z0 (blk_below (g := gb1172) (o := .cells #[.int .i64 t1156, .int .i64 t1157, .int .i64 t1158, .int .i64 t1159, .slice Ao11 t1160.length co11] 32 (0, 0)) (mK BK1172.out) hb)
                  have n6_ := z0 (blk_below (g := gb1173) (o := .cells #[.slice Ao12 t1163.length co12, .slice Ao14 t1166.length co14, .slice Ao15 t1169.length co15] 44 (0, 0)) (mK BK1173.out) hb)
                  have n7_ := z0 (below_step (mB HB.out) hb)
                  clear HO_6 HO_1173004 HO_1174000 HO_1174001 HO_1174002 BK1172 BK1173 HB
                  have HO_6 := n0_
                  have HO_1173004 := n1_
                  have HO_1174000 := n2_
                  have HO_1174001 := n3_
                  have HO_1174002 := n4_
                  have BK1172 := n5_
                  have BK1173 := n6_
                  have HB := n7_
                  clear n0_ n1_ n2_ n3_ n4_ n5_ n6_ n7_
                  (try clear hb)
                  (try clear hb2)
                  (try clear hk)
                  (try clear hi)
                  refine hK.out _ _ ⟨HS0_, HS1_⟩ (fun hHeld => ?_)
                  clear hK K
                  refine norm_ (a' := ?_) ?_ ?_
                  rotate_left
                  ·show Act.put _ (some 105) _ = _
                   simp only [Act.put, List.setIfInBounds_toArray, List.set_cons_zero, List.set_cons_succ, i64_w, i32_w]
                   rfl
                  refine pure_ (i := 8) (N := some 106) (v := ?_) (a' := ?_) #[true, true, true, true, true, true, true, true, true, false] rfl rfl (any_of HT_.out (by kernel_rfl)) (fun _ _ _ h => h) (Or.inl ⟨by rfl, ?_⟩) ?_ ?_
                  rotate_left
                  ·intro w'
                   go_simp
                   with_reducible rfl
                  rotate_left
                  ·simp only [Act.put, List.setIfInBounds_toArray, List.set_cons_zero, List.set_cons_succ, i64_w, i32_w]
                   rfl
                  refine pure_ (i := 9) (N := some 2) (v := ?_) (a' := ?_) #[true, true, true, true, true, true, true, true, true, true] rfl rfl (any_of HT_.out (by kernel_rfl)) (fun _ _ _ h => h) (Or.inl ⟨by rfl, ?_⟩) ?_ ?_
                  rotate_left
                  ·intro w'
                   go_simp
                   with_reducible rfl
                  rotate_left
                  ·simp only [Act.put, List.setIfInBounds_toArray, List.set_cons_zero, List.set_cons_succ, i64_w, i32_w]
                   rfl
                  refine done_ (done_of HT_.out (by kernel_rfl)) ?_
                  try go_wp2
                  go_ret
                  exact ⟨rfx, mB HB.out⟩
                 ·rw [if_neg c84] at H
                  exact absurd H (by simp)
                ·rw [if_neg c83] at H
                 exact absurd H (by simp)
               ·rw [if_neg c82] at H
                have c82b0 : (t1156 == 5) = false := beq_eq_false_iff_ne.mpr c82
                have c82b1 : (t1156 != 5) = true := bne_iff_ne.mpr c82
                by_cases c91 : t1156 = 6
                ·rw [if_pos c91] at H
                 have c91b0 : (t1156 == 6) = true := beq_iff_eq.mpr c91
                 have c91b1 : (t1156 != 6) = false := bne_eq_false_iff_eq.mpr c91
                 clear c91
                 by_cases c92 : 0 < (x6_3.length : Int)
                 ·rw [if_pos c92] at H
                  have c92b0 : decide (0 < (x6_3.length : Int)) = true := decide_eq_true c92
                  have c92b1 : decide (0 < x6_3.length) = true := decide_eq_true (by omega)
                  clear c92
                  by_cases c93 : 1 < (x6_3.length : Int)
                  ·rw [if_pos c93] at H
                   have c93b0 : decide (1 < (x6_3.length : Int)) = true := decide_eq_true c93
                   have c93b1 : decide (1 < x6_3.length) = true := decide_eq_true (by omega)
                   clear c93
                   replace H := Option.bind_eq_some_iff.mp H
                   obtain ⟨t1197, A940, H⟩ := H
                   replace H : (some (t1174 == t1197)) = some r := H
                   have A94 := z0 A940
                   clear A940
                   obtain rfl := Option.some.inj H
                   have hnb95 := NB1172_1173.out
                   have hnc95 := NB1173_1172.out
                   obtain ⟨hcz96_0, hcz96_1, hcz96_2, hcz96_3, hcz96_4, hfz96_0, hfz96_1, hfz96_2, hfz96_3, hfz96_4⟩ := cel5 BK1172.out
                   try go_wp2
                   have n0_ := z0 (Kd.R_drew HO_6.out)
                   have n1_ := z0 (Kd.N_drew HO_1173004.out)
                   have n2_ := z0 (Kd.R_drew HO_1174000.out)
                   have n3_ := z0 (Kd.R_drew HO_1174001.out)
                   have n4_ := z0 (Kd.R_drew HO_1174002.out)
                   have n5_ := z0 (blk_drew BK1172.out)
                   have n6_ := z0 (blk_drew BK1173.out)
                   have n7_ := z0 (below_drew1 HB.out)
                   clear HO_6 HO_1173004 HO_1174000 HO_1174001 HO_1174002 BK1172 BK1173 HB
                   have HO_6 := n0_
                   have HO_1173004 := n1_
                   have HO_1174000 := n2_
                   have HO_1174001 := n3_
                   have HO_1174002 := n4_
                   have BK1172 := n5_
                   have BK1173 := n6_
                   have HB := n7_
                   clear n0_ n1_ n2_ n3_ n4_ n5_ n6_ n7_
                   obtain ⟨Ao98, co98, eo98⟩ := Kd.R_slice HO_6.out
                   (first | subst eo98 | (injection eo98 with f1_ f2_ f3_; have f4_ := f1_.symm; have f5_ := f3_.symm; clear f1_ f2_ f3_; subst f4_; subst f5_))
                   have p1195 : 0 ≤ (0 : Int) := (by omega)
                   have q1195 : 0 < (x6_3.length : Int) := of_decide_eq_true (by first | (with_reducible assumption) | assumption)
                   obtain ⟨ad1195, e1195, hx1195_0⟩ := Kd.at_int (Kd.R_reads' HO_6.out).2.2 0 p1195 q1195
                   cases e1195
                   have qi1195 : (0 < x6_3.length) = True := eq_true (by omega)
                   (try rw [show ((0 : Int)).toNat = 0 from rfl] at hx1195_0)
                   (try rw [Addr.add_zero'] at hx1195_0)
                   replace p1195 := eq_true p1195
                   replace q1195 := eq_true q1195
                   have p1196 : 0 ≤ (1 : Int) := (by omega)
                   have q1196 : 1 < (x6_3.length : Int) := of_decide_eq_true (by first | (with_reducible assumption) | assumption)
                   obtain ⟨ad1196, e1196, hx1196_0⟩ := Kd.at_int (Kd.R_reads' HO_6.out).2.2 1 p1196 q1196
                   obtain rfl : ad1195 = ad1196 := (by injection e1196)
                   (try simp only [show (1 : Int).toNat = 1 from rfl, Nat.reduceMul, Nat.reduceEqDiff, Go.Addr.add, ↓reduceIte] at hx1196_0)
                   have qi1196 : (1 < x6_3.length) = True := eq_true (by omega)
                   (try rw [show ((1 : Int)).toNat = 1 from rfl] at hx1196_0)
                   replace p1196 := eq_true p1196
                   replace q1196 := eq_true q1196
                   refine start_ (n := 11) (S := fun w' => w'.cell? ad1195 = some (.int .i64 (rd x6_3 0)) ∧ w'.cell? ⟨ad1195.block, ad1195.off + 1, none⟩ = some (.int .i64 (rd x6_3 1))) (ds := []) #[false, false, false, false, false, false, false, false, false, false, false] (by kernel_rfl) rfl rfl ⟨hx1195_0, hx1196_0⟩ (fun hHeld => ?_); refine with_tabW laws_FnExprOf.tab26 laws_FnExprOf.bits26 (fun HT_ HW_ => ?_)
                   generalize wr.drew = w97 at HO_6 HO_1173004 HO_1174000 HO_1174001 HO_1174002 BK1172 BK1173 HB hx1195_0 hx1196_0 hHeld ⊢
                   refine pure_ (i := 0) (N := some 109) (v := ?_) (a' := ?_) #[true, false, false, false, false, false, false, false, false, false, false] rfl rfl (any_of HT_.out (by kernel_rfl)) (fun _ _ _ h => h) (Or.inl ⟨by rfl, ?_⟩) ?_ ?_
                   rotate_left
                   ·intro w'
                    go_simp
                    with_reducible rfl
                   rotate_left
                   ·simp only [Act.put, List.setIfInBounds_toArray, List.set_cons_zero, List.set_cons_succ, i64_w, i32_w]
                    rfl
                   refine pure_ (i := 1) (N := some 110) (v := ?_) (a' := ?_) #[true, true, false, false, false, false, false, false, false, false, false] rfl rfl (any_of HT_.out (by kernel_rfl)) (fun _ _ _ h => h) (Or.inl ⟨by rfl, ?_⟩) ?_ ?_
                   rotate_left
                   ·intro w'
                    go_simp
                    with_reducible rfl
                   rotate_left
                   ·simp only [Act.put, List.setIfInBounds_toArray, List.set_cons_zero, List.set_cons_succ, i64_w, i32_w]
                    rfl
                   refine pure_ (i := 2) (N := some 111) (v := ?_) (a' := ?_) #[true, true, true, false, false, false, false, false, false, false, false] rfl rfl (any_of HT_.out (by kernel_rfl)) (fun _ _ _ h => h) (Or.inl ⟨by rfl, ?_⟩) ?_ ?_
                   rotate_left
                   ·intro w'
                    go_simp
                    with_reducible rfl
                   rotate_left
                   ·simp only [Act.put, List.setIfInBounds_toArray, List.set_cons_zero, List.set_cons_succ, i64_w, i32_w]
                    rfl
                   refine pure_ (i := 4) (N := some 113) (v := ?_) (a' := ?_) #[true, true, true, false, true, false, false, false, false, false, false] rfl rfl (any_of HT_.out (by kernel_rfl)) (fun _ _ _ h => h) (Or.inl ⟨by rfl, ?_⟩) ?_ ?_
                   rotate_left
                   ·intro w'
                    go_simp
                    with_reducible rfl
                   rotate_left
                   ·simp only [Act.put, List.setIfInBounds_toArray, List.set_cons_zero, List.set_cons_succ, i64_w, i32_w]
                    rfl
                   refine pure_ (i := 5) (N := some 114) (v := ?_) (a' := ?_) #[true, true, true, false, true, true, false, false, false, false, false] rfl rfl (any_of HT_.out (by kernel_rfl)) (fun _ _ _ h => h) (Or.inl ⟨by rfl, ?_⟩) ?_ ?_
                   rotate_left
                   ·intro w'
                    go_simp
                    with_reducible rfl
                   rotate_left
                   ·simp only [Act.put, List.setIfInBounds_toArray, List.set_cons_zero, List.set_cons_succ, i64_w, i32_w]
                    rfl
                   refine take_ (i := 3) (N := some 112) (v := ?_) (a' := ?_) #[true, true, true, true, true, true, false, false, false, false, false] rfl rfl (take_ofW HT_.out HW_.out (by kernel_rfl)) (fun _ _ _ h => h) (Or.inl ⟨by rfl, ?_⟩) hHeld ?_ ?_
                   rotate_left
                   ·rintro w' ⟨s0, s1⟩
                    go_simp
                    with_reducible rfl
                   rotate_left
                   ·simp only [Act.put, List.setIfInBounds_toArray, List.set_cons_zero, List.set_cons_succ, i64_w, i32_w]
                    rfl
                   refine take_ (i := 6) (N := some 115) (v := ?_) (a' := ?_) #[true, true, true, true, true, true, true, false, false, false, false] rfl rfl (take_ofW HT_.out HW_.out (by kernel_rfl)) (fun _ _ _ h => h) (Or.inl ⟨by rfl, ?_⟩) hHeld ?_ ?_
                   rotate_left
                   ·rintro w' ⟨s0, s1⟩
                    go_simp
                    with_reducible rfl
                   rotate_left
                   ·simp only [Act.put, List.setIfInBounds_toArray, List.set_cons_zero, List.set_cons_succ, i64_w, i32_w]
                    rfl
                   refine pure_ (i := 7) (N := some 116) (v := ?_) (a' := ?_) #[true, true, true, true, true, true, true, true, false, false, false] rfl rfl (any_of HT_.out (by kernel_rfl)) (fun _ _ _ h => h) (Or.inl ⟨by rfl, ?_⟩) ?_ ?_
                   rotate_left
                   ·intro w'
                    go_simp
                    with_reducible rfl
                   rotate_left
                   ·simp only [Act.put, List.setIfInBounds_toArray, List.set_cons_zero, List.set_cons_succ, i64_w, i32_w]
                    rfl
                   refine one_ (i := 8) (N := some 117) #[true, true, true, true, true, true, true, true, true, false, false] rfl rfl (one_of HT_.out (by kernel_rfl)) (by decide) (fun K hK => ?_)
                   refine goes_ Try.func40 (by kernel_rfl) rfl #[.bool (decide ((rd x6_3 0) < (rd x6_3 1)))] (by rfl) rfl rfl argx ?_
                   with_reducible refine (impl_NumIs.calls (decide ((rd x6_3 0) < (rd x6_3 1))) t1197 _ A94.out).mono ?_
                   rintro e w' ⟨rfl, ⟨nd, rfl⟩⟩
                   refine ⟨_, rfl, ?_⟩
                   refine hK.out _ _ ⟨hHeld.1, hHeld.2⟩ (fun hHeld => ?_)
                   clear hK K
                   refine norm_ (a' := ?_) ?_ ?_
                   rotate_left
                   ·show Act.put _ (some 117) _ = _
                    simp only [Act.put, List.setIfInBounds_toArray, List.set_cons_zero, List.set_cons_succ, i64_w, i32_w]
                    rfl
                   refine pure_ (i := 9) (N := some 118) (v := ?_) (a' := ?_) #[true, true, true, true, true, true, true, true, true, true, false] rfl rfl (any_of HT_.out (by kernel_rfl)) (fun _ _ _ h => h) (Or.inl ⟨by rfl, ?_⟩) ?_ ?_
                   rotate_left
                   ·intro w'
                    go_simp
                    with_reducible rfl
                   rotate_left
                   ·simp only [Act.put, List.setIfInBounds_toArray, List.set_cons_zero, List.set_cons_succ, i64_w, i32_w]
                    rfl
                   refine pure_ (i := 10) (N := some 2) (v := ?_) (a' := ?_) #[true, true, true, true, true, true, true, true, true, true, true] rfl rfl (any_of HT_.out (by kernel_rfl)) (fun _ _ _ h => h) (Or.inl ⟨by rfl, ?_⟩) ?_ ?_
                   rotate_left
                   ·intro w'
                    go_simp
                    with_reducible rfl
                   rotate_left
                   ·simp only [Act.put, List.setIfInBounds_toArray, List.set_cons_zero, List.set_cons_succ, i64_w, i32_w]
                    rfl
                   refine done_ (done_of HT_.out (by kernel_rfl)) ?_
                   try go_wp2
                   go_ret
                   exact ⟨rfx, mB HB.out⟩
                  ·rw [if_neg c93] at H
                   exact absurd H (by simp)
                 ·rw [if_neg c92] at H
                  exact absurd H (by simp)
                ·rw [if_neg c91] at H
                 have c91b0 : (t1156 == 6) = false := beq_eq_false_iff_ne.mpr c91
                 have c91b1 : (t1156 != 6) = true := bne_iff_ne.mpr c91
                 by_cases c99 : t1156 = 7
                 ·rw [if_pos c99] at H
                  have c99b0 : (t1156 == 7) = true := beq_iff_eq.mpr c99
                  have c99b1 : (t1156 != 7) = false := bne_eq_false_iff_eq.mpr c99
                  clear c99
                  by_cases c100 : 0 < (x6_3.length : Int)
                  ·rw [if_pos c100] at H
                   have c100b0 : decide (0 < (x6_3.length : Int)) = true := decide_eq_true c100
                   have c100b1 : decide (0 < x6_3.length) = true := decide_eq_true (by omega)
                   clear c100
                   by_cases c101 : 1 < (x6_3.length : Int)
                   ·rw [if_pos c101] at H
                    have c101b0 : decide (1 < (x6_3.length : Int)) = true := decide_eq_true c101
                    have c101b1 : decide (1 < x6_3.length) = true := decide_eq_true (by omega)
                    clear c101
                    replace H := Option.bind_eq_some_iff.mp H
                    obtain ⟨t1200, A1020, H⟩ := H
                    replace H : (some (t1174 == t1200)) = some r := H
                    have A102 := z0 A1020
                    clear A1020
                    obtain rfl := Option.some.inj H
                    have hnb103 := NB1172_1173.out
                    have hnc103 := NB1173_1172.out
                    obtain ⟨hcz104_0, hcz104_1, hcz104_2, hcz104_3, hcz104_4, hfz104_0, hfz104_1, hfz104_2, hfz104_3, hfz104_4⟩ := cel5 BK1172.out
                    try go_wp2
                    have n0_ := z0 (Kd.R_drew HO_6.out)
                    have n1_ := z0 (Kd.N_drew HO_1173004.out)
                    have n2_ := z0 (Kd.R_drew HO_1174000.out)
                    have n3_ := z0 (Kd.R_drew HO_1174001.out)
                    have n4_ := z0 (Kd.R_drew HO_1174002.out)
                    have n5_ := z0 (blk_drew BK1172.out)
                    have n6_ := z0 (blk_drew BK1173.out)
                    have n7_ := z0 (below_drew1 HB.out)
                    clear HO_6 HO_1173004 HO_1174000 HO_1174001 HO_1174002 BK1172 BK1173 HB
                    have HO_6 := n0_
                    have HO_1173004 := n1_
                    have HO_1174000 := n2_
                    have HO_1174001 := n3_
                    have HO_1174002 := n4_
                    have BK1172 := n5_
                    have BK1173 := n6_
                    have HB := n7_
                    clear n0_ n1_ n2_ n3_ n4_ n5_ n6_ n7_
                    obtain ⟨Ao106, co106, eo106⟩ := Kd.R_slice HO_6.out
                    (first | subst eo106 | (injection eo106 with f1_ f2_ f3_; have f4_ := f1_.symm; have f5_ := f3_.symm; clear f1_ f2_ f3_; subst f4_; subst f5_))
                    have p1198 : 0 ≤ (0 : Int) := (by omega)
                    have q1198 : 0 < (x6_3.length : Int) := of_decide_eq_true (by first | (with_reducible assumption) | assumption)
                    obtain ⟨ad1198, e1198, hx1198_0⟩ := Kd.at_int (Kd.R_reads' HO_6.out).2.2 0 p1198 q1198
                    cases e1198
                    have qi1198 : (0 < x6_3.length) = True := eq_true (by omega)
                    (try rw [show ((0 : Int)).toNat = 0 from rfl] at hx1198_0)
                    (try rw [Addr.add_zero'] at hx1198_0)
                    replace p1198 := eq_true p1198
                    replace q1198 := eq_true q1198
                    have p1199 : 0 ≤ (1 : Int) := (by omega)
                    have q1199 : 1 < (x6_3.length : Int) := of_decide_eq_true (by first | (with_reducible assumption) | assumption)
                    obtain ⟨ad1199, e1199, hx1199_0⟩ := Kd.at_int (Kd.R_reads' HO_6.out).2.2 1 p1199 q1199
                    obtain rfl : ad1198 = ad1199 := (by injection e1199)
                    (try simp only [show (1 : Int).toNat = 1 from rfl, Nat.reduceMul, Nat.reduceEqDiff, Go.Addr.add, ↓reduceIte] at hx1199_0)
                    have qi1199 : (1 < x6_3.length) = True := eq_true (by omega)
                    (try rw [show ((1 : Int)).toNat = 1 from rfl] at hx1199_0)
                    replace p1199 := eq_true p1199
                    replace q1199 := eq_true q1199
                    refine start_ (n := 11) (S := fun w' => w'.cell? ad1198 = some (.int .i64 (rd x6_3 0)) ∧ w'.cell? ⟨ad1198.block, ad1198.off + 1, none⟩ = some (.int .i64 (rd x6_3 1))) (ds := []) #[false, false, false, false, false, false, false, false, false, false, false] (by kernel_rfl) rfl rfl ⟨hx1198_0, hx1199_0⟩ (fun hHeld => ?_); refine with_tabW laws_FnExprOf.tab28 laws_FnExprOf.bits28 (fun HT_ HW_ => ?_)
                    generalize wr.drew = w105 at HO_6 HO_1173004 HO_1174000 HO_1174001 HO_1174002 BK1172 BK1173 HB hx1198_0 hx1199_0 hHeld ⊢
                    refine pure_ (i := 0) (N := some 121) (v := ?_) (a' := ?_) #[true, false, false, false, false, false, false, false, false, false, false] rfl rfl (any_of HT_.out (by kernel_rfl)) (fun _ _ _ h => h) (Or.inl ⟨by rfl, ?_⟩) ?_ ?_
                    rotate_left
                    ·intro w'
                     go_simp
                     with_reducible rfl
                    rotate_left
                    ·simp only [Act.put, List.setIfInBounds_toArray, List.set_cons_zero, List.set_cons_succ, i64_w, i32_w]
                     rfl
                    refine pure_ (i := 1) (N := some 122) (v := ?_) (a' := ?_) #[true, true, false, false, false, false, false, false, false, false, false] rfl rfl (any_of HT_.out (by kernel_rfl)) (fun _ _ _ h => h) (Or.inl ⟨by rfl, ?_⟩) ?_ ?_
                    rotate_left
                    ·intro w'
                     go_simp
                     with_reducible rfl
                    rotate_left
                    ·simp only [Act.put, List.setIfInBounds_toArray, List.set_cons_zero, List.set_cons_succ, i64_w, i32_w]
                     rfl
                    refine pure_ (i := 2) (N := some 123) (v := ?_) (a' := ?_) #[true, true, true, false, false, false, false, false, false, false, false] rfl rfl (any_of HT_.out (by kernel_rfl)) (fun _ _ _ h => h) (Or.inl ⟨by rfl, ?_⟩) ?_ ?_
                    rotate_left
                    ·intro w'
                     go_simp
                     with_reducible rfl
                    rotate_left
                    ·simp only [Act.put, List.setIfInBounds_toArray, List.set_cons_zero, List.set_cons_succ, i64_w, i32_w]
                     rfl
                    refine pure_ (i := 4) (N := some 125) (v := ?_) (a' := ?_) #[true, true, true, false, true, false, false, false, false, false, false] rfl rfl (any_of HT_.out (by kernel_rfl)) (fun _ _ _ h => h) (Or.inl ⟨by rfl, ?_⟩) ?_ ?_
                    rotate_left
                    ·intro w'
                     go_simp
                     with_reducible rfl
                    rotate_left
                    ·simp only [Act.put, List.setIfInBounds_toArray, List.set_cons_zero, List.set_cons_succ, i64_w, i32_w]
                     rfl
                    refine pure_ (i := 5) (N := some 126) (v := ?_) (a' := ?_) #[true, true, true, false, true, true, false, false, false, false, false] rfl rfl (any_of HT_.out (by kernel_rfl)) (fun _ _ _ h => h) (Or.inl ⟨by rfl, ?_⟩) ?_ ?_
                    rotate_left
                    ·intro w'
                     go_simp
                     with_reducible rfl
                    rotate_left
                    ·simp only [Act.put, List.setIfInBounds_toArray, List.set_cons_zero, List.set_cons_succ, i64_w, i32_w]
                     rfl
                    refine take_ (i := 3) (N := some 124) (v := ?_) (a' := ?_) #[true, true, true, true, true, true, false, false, false, false, false] rfl rfl (take_ofW HT_.out HW_.out (by kernel_rfl)) (fun _ _ _ h => h) (Or.inl ⟨by rfl, ?_⟩) hHeld ?_ ?_
                    rotate_left
                    ·rintro w' ⟨s0, s1⟩
                     go_simp
                     with_reducible rfl
                    rotate_left
                    ·simp only [Act.put, List.setIfInBounds_toArray, List.set_cons_zero, List.set_cons_succ, i64_w, i32_w]
                     rfl
                    refine take_ (i := 6) (N := some 127) (v := ?_) (a' := ?_) #[true, true, true, true, true, true, true, false, false, false, false] rfl rfl (take_ofW HT_.out HW_.out (by kernel_rfl)) (fun _ _ _ h => h) (Or.inl ⟨by rfl, ?_⟩) hHeld ?_ ?_
                    rotate_left
                    ·rintro w' ⟨s0, s1⟩
                     go_simp
                     with_reducible rfl
                    rotate_left
                    ·simp only [Act.put, List.setIfInBounds_toArray, List.set_cons_zero, List.set_cons_succ, i64_w, i32_w]
                     rfl
                    refine pure_ (i := 7) (N := some 128) (v := ?_) (a' := ?_) #[true, true, true, true, true, true, true, true, false, false, false] rfl rfl (any_of HT_.out (by kernel_rfl)) (fun _ _ _ h => h) (Or.inl ⟨by rfl, ?_⟩) ?_ ?_
                    rotate_left
                    ·intro w'
                     go_simp
                     with_reducible rfl
                    rotate_left
                    ·simp only [Act.put, List.setIfInBounds_toArray, List.set_cons_zero, List.set_cons_succ, i64_w, i32_w]
                     rfl
                    refine one_ (i := 8) (N := some 129) #[true, true, true, true, true, true, true, true, true, false, false] rfl rfl (one_of HT_.out (by kernel_rfl)) (by decide) (fun K hK => ?_)
                    refine goes_ Try.func40 (by kernel_rfl) rfl #[.bool ((rd x6_3 0) == (rd x6_3 1))] (by rfl) rfl rfl argx ?_
                    with_reducible refine (impl_NumIs.calls ((rd x6_3 0) == (rd x6_3 1)) t1200 _ A102.out).mono ?_
                    rintro e w' ⟨rfl, ⟨nd, rfl⟩⟩
                    refine ⟨_, rfl, ?_⟩
                    refine hK.out _ _ ⟨hHeld.1, hHeld.2⟩ (fun hHeld => ?_)
                    clear hK K
                    refine norm_ (a' := ?_) ?_ ?_
                    rotate_left
                    ·show Act.put _ (some 129) _ = _
                     simp only [Act.put, List.setIfInBounds_toArray, List.set_cons_zero, List.set_cons_succ, i64_w, i32_w]
                     rfl
                    refine pure_ (i := 9) (N := some 130) (v := ?_) (a' := ?_) #[true, true, true, true, true, true, true, true, true, true, false] rfl rfl (any_of HT_.out (by kernel_rfl)) (fun _ _ _ h => h) (Or.inl ⟨by rfl, ?_⟩) ?_ ?_
                    rotate_left
                    ·intro w'
                     go_simp
                     with_reducible rfl
                    rotate_left
                    ·simp only [Act.put, List.setIfInBounds_toArray, List.set_cons_zero, List.set_cons_succ, i64_w, i32_w]
                     rfl
                    refine pure_ (i := 10) (N := some 2) (v := ?_) (a' := ?_) #[true, true, true, true, true, true, true, true, true, true, true] rfl rfl (any_of HT_.out (by kernel_rfl)) (fun _ _ _ h => h) (Or.inl ⟨by rfl, ?_⟩) ?_ ?_
                    rotate_left
                    ·intro w'
                     go_simp
                     with_reducible rfl
                    rotate_left
                    ·simp only [Act.put, List.setIfInBounds_toArray, List.set_cons_zero, List.set_cons_succ, i64_w, i32_w]
                     rfl
                    refine done_ (done_of HT_.out (by kernel_rfl)) ?_
                    try go_wp2
                    go_ret
                    exact ⟨rfx, mB HB.out⟩
                   ·rw [if_neg c101] at H
                    exact absurd H (by simp)
                  ·rw [if_neg c100] at H
                   exact absurd H (by simp)
                 ·rw [if_neg c99] at H
                  have c99b0 : (t1156 == 7) = false := beq_eq_false_iff_ne.mpr c99
                  have c99b1 : (t1156 != 7) = true := bne_iff_ne.mpr c99
                  by_cases c107 : t1156 = 8
                  ·rw [if_pos c107] at H
                   have c107b0 : (t1156 == 8) = true := beq_iff_eq.mpr c107
                   have c107b1 : (t1156 != 8) = false := bne_eq_false_iff_eq.mpr c107
                   clear c107
                   by_cases c108 : 0 < (x6_3.length : Int)
                   ·rw [if_pos c108] at H
                    have c108b0 : decide (0 < (x6_3.length : Int)) = true := decide_eq_true c108
                    have c108b1 : decide (0 < x6_3.length) = true := decide_eq_true (by omega)
                    clear c108
                    by_cases c109 : (rd x6_3 0) = 0
                    ·rw [if_pos c109] at H
                     have c109b0 : ((rd x6_3 0) == 0) = true := beq_iff_eq.mpr c109
                     have c109b1 : ((rd x6_3 0) != 0) = false := bne_eq_false_iff_eq.mpr c109
                     clear c109
                     replace H := Option.bind_eq_some_iff.mp H
                     obtain ⟨t1202, A1100, H⟩ := H
                     replace H : (some (t1174 == t1202)) = some r := H
                     have A110 := z0 A1100
                     clear A1100
                     obtain rfl := Option.some.inj H
                     have hnb111 := NB1172_1173.out
                     have hnc111 := NB1173_1172.out
                     obtain ⟨hcz112_0, hcz112_1, hcz112_2, hcz112_3, hcz112_4, hfz112_0, hfz112_1, hfz112_2, hfz112_3, hfz112_4⟩ := cel5 BK1172.out
                     obtain ⟨Ao113, co113, eo113⟩ := Kd.R_slice HO_6.out
                     subst eo113
                     have p1201 : 0 ≤ (0 : Int) := (by omega)
                     have q1201 : 0 < (x6_3.length : Int) := of_decide_eq_true (by first | (with_reducible assumption) | assumption)
                     obtain ⟨ad1201, e1201, hx1201_0⟩ := Kd.at_int (Kd.R_reads' HO_6.out).2.2 0 p1201 q1201
                     cases e1201
                     have qi1201 : (0 < x6_3.length) = True := eq_true (by omega)
                     (try rw [show ((0 : Int)).toNat = 0 from rfl] at hx1201_0)
                     (try rw [Addr.add_zero'] at hx1201_0)
                     replace p1201 := eq_true p1201
                     replace q1201 := eq_true q1201
                     go_wp2_with (first | ((with_reducible refine gate_callee (f := 40) rfl ?_); refine goesL_ (some 144) rfl rfl Try.func40 (by kernel_rfl) rfl #[.bool false] rfl argx ?_; (with_reducible refine (impl_NumIs.calls false t1202 _ A110.out).mono ?_); rintro e w' ⟨rfl, ⟨nd, rfl⟩⟩; refine ⟨_, rfl, ?_⟩))
                     go_ret
                     exact ⟨rfx, mB HB.out⟩
                    ·rw [if_neg c109] at H
                     have c109b0 : ((rd x6_3 0) == 0) = false := beq_eq_false_iff_ne.mpr c109
                     have c109b1 : ((rd x6_3 0) != 0) = true := bne_iff_ne.mpr c109
                     by_cases c114 : 1 < (x6_3.length : Int)
                     ·rw [if_pos c114] at H
                      have c114b0 : decide (1 < (x6_3.length : Int)) = true := decide_eq_true c114
                      have c114b1 : decide (1 < x6_3.length) = true := decide_eq_true (by omega)
                      clear c114
                      replace H := Option.bind_eq_some_iff.mp H
                      obtain ⟨t1204, A1150, H⟩ := H
                      replace H : (some (t1174 == t1204)) = some r := H
                      have A115 := z0 A1150
                      clear A1150
                      obtain rfl := Option.some.inj H
                      have hnb116 := NB1172_1173.out
                      have hnc116 := NB1173_1172.out
                      obtain ⟨hcz117_0, hcz117_1, hcz117_2, hcz117_3, hcz117_4, hfz117_0, hfz117_1, hfz117_2, hfz117_3, hfz117_4⟩ := cel5 BK1172.out
                      obtain ⟨Ao118, co118, eo118⟩ := Kd.R_slice HO_6.out
                      subst eo118
                      have p1201 : 0 ≤ (0 : Int) := (by omega)
                      have q1201 : 0 < (x6_3.length : Int) := of_decide_eq_true (by first | (with_reducible assumption) | assumption)
                      obtain ⟨ad1201, e1201, hx1201_0⟩ := Kd.at_int (Kd.R_reads' HO_6.out).2.2 0 p1201 q1201
                      cases e1201
                      have qi1201 : (0 < x6_3.length) = True := eq_true (by omega)
                      (try rw [show ((0 : Int)).toNat = 0 from rfl] at hx1201_0)
                      (try rw [Addr.add_zero'] at hx1201_0)
                      replace p1201 := eq_true p1201
                      replace q1201 := eq_true q1201
                      have p1203 : 0 ≤ (1 : Int) := (by omega)
                      have q1203 : 1 < (x6_3.length : Int) := of_decide_eq_true (by first | (with_reducible assumption) | assumption)
                      obtain ⟨ad1203, e1203, hx1203_0⟩ := Kd.at_int (Kd.R_reads' HO_6.out).2.2 1 p1203 q1203
                      obtain rfl : ad1201 = ad1203 := (by injection e1203)
                      (try simp only [show (1 : Int).toNat = 1 from rfl, Nat.reduceMul, Nat.reduceEqDiff, Go.Addr.add, ↓reduceIte] at hx1203_0)
                      have qi1203 : (1 < x6_3.length) = True := eq_true (by omega)
                      (try rw [show ((1 : Int)).toNat = 1 from rfl] at hx1203_0)
                      replace p1203 := eq_true p1203
                      replace q1203 := eq_true q1203
                      go_wp2_with (first | ((with_reducible refine gate_callee (f := 40) rfl ?_); refine goesL_ (some 144) rfl rfl Try.func40 (by kernel_rfl) rfl #[.bool ((rd x6_3 1) != 0)] rfl argx ?_; (with_reducible refine (impl_NumIs.calls ((rd x6_3 1) != 0) t1204 _ A115.out).mono ?_); rintro e w' ⟨rfl, ⟨nd, rfl⟩⟩; refine ⟨_, rfl, ?_⟩))
                      go_ret
                      exact ⟨rfx, mB HB.out⟩
                     ·rw [if_neg c114] at H
                      exact absurd H (by simp)
                   ·rw [if_neg c108] at H
                    exact absurd H (by simp)
                  ·rw [if_neg c107] at H
                   have c107b0 : (t1156 == 8) = false := beq_eq_false_iff_ne.mpr c107
                   have c107b1 : (t1156 != 8) = true := bne_iff_ne.mpr c107
                   by_cases c119 : t1156 = 9
                   ·rw [if_pos c119] at H
                    have c119b0 : (t1156 == 9) = true := beq_iff_eq.mpr c119
                    have c119b1 : (t1156 != 9) = false := bne_eq_false_iff_eq.mpr c119
                    clear c119
                    by_cases c120 : 0 < (x6_3.length : Int)
                    ·rw [if_pos c120] at H
                     have c120b0 : decide (0 < (x6_3.length : Int)) = true := decide_eq_true c120
                     have c120b1 : decide (0 < x6_3.length) = true := decide_eq_true (by omega)
                     clear c120
                     by_cases c121 : (rd x6_3 0) = 0
                     ·rw [if_pos c121] at H
                      have c121b0 : ((rd x6_3 0) == 0) = true := beq_iff_eq.mpr c121
                      have c121b1 : ((rd x6_3 0) != 0) = false := bne_eq_false_iff_eq.mpr c121
                      clear c121
                      by_cases c122 : 1 < (x6_3.length : Int)
                      ·rw [if_pos c122] at H
                       have c122b0 : decide (1 < (x6_3.length : Int)) = true := decide_eq_true c122
                       have c122b1 : decide (1 < x6_3.length) = true := decide_eq_true (by omega)
                       clear c122
                       replace H := Option.bind_eq_some_iff.mp H
                       obtain ⟨t1207, A1230, H⟩ := H
                       replace H : (some (t1174 == t1207)) = some r := H
                       have A123 := z0 A1230
                       clear A1230
                       obtain rfl := Option.some.inj H
                       have hnb124 := NB1172_1173.out
                       have hnc124 := NB1173_1172.out
                       obtain ⟨hcz125_0, hcz125_1, hcz125_2, hcz125_3, hcz125_4, hfz125_0, hfz125_1, hfz125_2, hfz125_3, hfz125_4⟩ := cel5 BK1172.out
                       obtain ⟨Ao126, co126, eo126⟩ := Kd.R_slice HO_6.out
                       subst eo126
                       have p1205 : 0 ≤ (0 : Int) := (by omega)
                       have q1205 : 0 < (x6_3.length : Int) := of_decide_eq_true (by first | (with_reducible assumption) | assumption)
                       obtain ⟨ad1205, e1205, hx1205_0⟩ := Kd.at_int (Kd.R_reads' HO_6.out).2.2 0 p1205 q1205
                       cases e1205
                       have qi1205 : (0 < x6_3.length) = True := eq_true (by omega)
                       (try rw [show ((0 : Int)).toNat = 0 from rfl] at hx1205_0)
                       (try rw [Addr.add_zero'] at hx1205_0)
                       replace p1205 := eq_true p1205
                       replace q1205 := eq_true q1205
                       have p1206 : 0 ≤ (1 : Int) := (by omega)
                       have q1206 : 1 < (x6_3.length : Int) := of_decide_eq_true (by first | (with_reducible assumption) | assumption)
                       obtain ⟨ad1206, e1206, hx1206_0⟩ := Kd.at_int (Kd.R_reads' HO_6.out).2.2 1 p1206 q1206
                       obtain rfl : ad1205 = ad1206 := (by injection e1206)
                       (try simp only [show (1 : Int).toNat = 1 from rfl, Nat.reduceMul, Nat.reduceEqDiff, Go.Addr.add, ↓reduceIte] at hx1206_0)
                       have qi1206 : (1 < x6_3.length) = True := eq_true (by omega)
                       (try rw [show ((1 : Int)).toNat = 1 from rfl] at hx1206_0)
                       replace p1206 := eq_true p1206
                       replace q1206 := eq_true q1206
                       go_wp2_with (first | ((with_reducible refine gate_callee (f := 40) rfl ?_); refine goesL_ (some 159) rfl rfl Try.func40 (by kernel_rfl) rfl #[.bool ((rd x6_3 1) != 0)] rfl argx ?_; (with_reducible refine (impl_NumIs.calls ((rd x6_3 1) != 0) t1207 _ A123.out).mono ?_); rintro e w' ⟨rfl, ⟨nd, rfl⟩⟩; refine ⟨_, rfl, ?_⟩))
                       go_ret
                       exact ⟨rfx, mB HB.out⟩
                      ·rw [if_neg c122] at H
                       exact absurd H (by simp)
                     ·rw [if_neg c121] at H
                      have c121b0 : ((rd x6_3 0) == 0) = false := beq_eq_false_iff_ne.mpr c121
                      have c121b1 : ((rd x6_3 0) != 0) = true := bne_iff_ne.mpr c121
                      replace H := Option.bind_eq_some_iff.mp H
                      obtain ⟨t1208, A1270, H⟩ := H
                      replace H : (some (t1174 == t1208)) = some r := H
                      have A127 := z0 A1270
                      clear A1270
                      obtain rfl := Option.some.inj H
                      have hnb128 := NB1172_1173.out
                      have hnc128 := NB1173_1172.out
                      obtain ⟨hcz129_0, hcz129_1, hcz129_2, hcz129_3, hcz129_4, hfz129_0, hfz129_1, hfz129_2, hfz129_3, hfz129_4⟩ := cel5 BK1172.out
                      obtain ⟨Ao130, co130, eo130⟩ := Kd.R_slice HO_6.out
                      subst eo130
                      have p1205 : 0 ≤ (0 : Int) := (by omega)
                      have q1205 : 0 < (x6_3.length : Int) := of_decide_eq_true (by first | (with_reducible assumption) | assumption)
                      obtain ⟨ad1205, e1205, hx1205_0⟩ := Kd.at_int (Kd.R_reads' HO_6.out).2.2 0 p1205 q1205
                      cases e1205
                      have qi1205 : (0 < x6_3.length) = True := eq_true (by omega)
                      (try rw [show ((0 : Int)).toNat = 0 from rfl] at hx1205_0)
                      (try rw [Addr.add_zero'] at hx1205_0)
                      replace p1205 := eq_true p1205
                      replace q1205 := eq_true q1205
                      go_wp2_with (first | ((with_reducible refine gate_callee (f := 40) rfl ?_); refine goesL_ (some 159) rfl rfl Try.func40 (by kernel_rfl) rfl #[.bool true] rfl argx ?_; (with_reducible refine (impl_NumIs.calls true t1208 _ A127.out).mono ?_); rintro e w' ⟨rfl, ⟨nd, rfl⟩⟩; refine ⟨_, rfl, ?_⟩))
                      go_ret
                      exact ⟨rfx, mB HB.out⟩
                    ·rw [if_neg c120] at H
                     exact absurd H (by simp)
                   ·rw [if_neg c119] at H
                    have c119b0 : (t1156 == 9) = false := beq_eq_false_iff_ne.mpr c119
                    have c119b1 : (t1156 != 9) = true := bne_iff_ne.mpr c119
                    by_cases c131 : 0 < (x6_3.length : Int)
                    ·rw [if_pos c131] at H
                     have c131b0 : decide (0 < (x6_3.length : Int)) = true := decide_eq_true c131
                     have c131b1 : decide (0 < x6_3.length) = true := decide_eq_true (by omega)
                     clear c131
                     replace H := Option.bind_eq_some_iff.mp H
                     obtain ⟨t1210, A1320, H⟩ := H
                     replace H : (some (t1174 == t1210)) = some r := H
                     have A132 := z0 A1320
                     clear A1320
                     obtain rfl := Option.some.inj H
                     have hnb133 := NB1172_1173.out
                     have hnc133 := NB1173_1172.out
                     obtain ⟨hcz134_0, hcz134_1, hcz134_2, hcz134_3, hcz134_4, hfz134_0, hfz134_1, hfz134_2, hfz134_3, hfz134_4⟩ := cel5 BK1172.out
                     obtain ⟨Ao135, co135, eo135⟩ := Kd.R_slice HO_6.out
                     subst eo135
                     have p1209 : 0 ≤ (0 : Int) := (by omega)
                     have q1209 : 0 < (x6_3.length : Int) := of_decide_eq_true (by first | (with_reducible assumption) | assumption)
                     obtain ⟨ad1209, e1209, hx1209_0⟩ := Kd.at_int (Kd.R_reads' HO_6.out).2.2 0 p1209 q1209
                     cases e1209
                     have qi1209 : (0 < x6_3.length) = True := eq_true (by omega)
                     (try rw [show ((0 : Int)).toNat = 0 from rfl] at hx1209_0)
                     (try rw [Addr.add_zero'] at hx1209_0)
                     replace p1209 := eq_true p1209
                     replace q1209 := eq_true q1209
                     go_wp2_with (first | ((with_reducible refine gate_callee (f := 40) rfl ?_); refine goesL_ (some 166) rfl rfl Try.func40 (by kernel_rfl) rfl #[.bool ((rd x6_3 0) == 0)] rfl argx ?_; (with_reducible refine (impl_NumIs.calls ((rd x6_3 0) == 0) t1210 _ A132.out).mono ?_); rintro e w' ⟨rfl, ⟨nd, rfl⟩⟩; refine ⟨_, rfl, ?_⟩))
                     go_ret
                     exact ⟨rfx, mB HB.out⟩
                    ·rw [if_neg c131] at H
                     exact absurd H (by simp)

/-- THE ONE PURE STATEMENT of laws_FnExprOf: yours. -/
def laws_FnExprOf.Pure : Prop := ∀ (l0 : List Int), l0.length ≤ maxLen → l0.length * 1 ≤ 140737488351232 → (∀ x ∈ l0, (Lit.int .u8 x).wf = true) → ∃ k, laws_FnExprOf.f k l0 = some true
theorem laws_FnExprOf.walk (P : laws_FnExprOf.Pure) (a0 : Option Addr) (len0 cap0 : Nat) (z0 : List Int) (w : World) (w0 : (a0 = none ∧ len0 = 0 ∧ cap0 = 0 ∧ z0 = []) ∨ ∃ x, a0 = some x ∧ len0 ≤ cap0 ∧ cap0 ≤ maxLen ∧ z0.length = cap0 ∧ (∀ i, i < z0.length → w.cell? (x.add i) = some (.int .u8 (z0.getD i 0))) ∧ ∀ n ∈ z0, (Lit.int .u8 n).wf = true) (y0 : len0 * 1 ≤ 140737488351232) :
  Calls Try.prog 12 #[.slice a0 len0 cap0] w fun e w' => e = .returned (.bool true) ∧ Below w.heap.size w w' := by
 obtain ⟨l0, rfl, hr0, hm0, hw0, hc0⟩ := ReadsInt.ofRowC w0
 obtain ⟨k, h⟩ := P l0 hm0 y0 hw0
 refine (laws_FnExprOf.calls k _ _ l0 true w (Kd.C_of_reads (d := (0 : Int)) (h1 := fun _ => rfl) hr0) hc0 h).mono ?_
 rintro e w' ⟨rfl, hd⟩
 exact ⟨rfl, hd⟩

end Go.Proofs.Ytiofkhfmdophpaa.B
