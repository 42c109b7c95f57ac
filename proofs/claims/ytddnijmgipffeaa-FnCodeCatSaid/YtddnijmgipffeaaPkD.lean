/- Printed functions of this seat, in one text. -/
import Derived.Test.YtddnijmgipffeaaB0
import Derived.Test.YtddnijmgipffeaaSq
import Derived.Test.YtddnijmgipffeaaPkB
import Derived.Test.YtddnijmgipffeaaPkC
namespace Go.Proofs.Ytddnijmgipffeaa.B
open Go.RowKit Go.Proofs.YtddnijmgipffeaaW.PrintWords Go.Proofs.YtddnijmgipffeaaW.PrintLast Go.Proofs.YtddnijmgipffeaaW.PrintMore
attribute [local go_sem] max2_int min2_int max_two min_two max_three min_three max_four min_four   -- for this text's walks alone
set_option linter.unusedVariables false
set_option linter.unusedSimpArgs false

/-! ### spec_l4Count: function 103 -/
def spec_l4Count.f (k : Nat) (s0_0 : List Int) (s0_1 : Int) : Option (Int × Int × Int × Int × Int × Int × Int × (List (S46)) × (List (S69)) × (List (S69)) × Int) := (spec_l12Rd_pick.f k s0_0 s0_1 3).bind fun bt481 => ((spec_l12Rd_num.f k s0_0 bt481.2 (([1, 3, 5, 9, 200] : List Int))).bind fun bt488 => ((some (([(⟨2, 0, (⟨3, bt481.1⟩ : S37), ([] : List (S46))⟩ : S46), (⟨1, bt488.1, (⟨0, 0⟩ : S37), ([] : List (S46))⟩ : S46)] : List (S46)) : List (S46))).bind fun y490 => ((spec_l12Rd_num.f k s0_0 bt488.2 (([1, 1, 2, 0] : List Int))).bind fun bt497 => ((some (([(⟨1, (⟨3, bt481.1⟩ : S37), (⟨3, 0, (⟨0, 0⟩ : S37), (([(⟨2, 0, (⟨3, bt481.1⟩ : S37), ([] : List (S46))⟩ : S46), (⟨1, bt497.1, (⟨0, 0⟩ : S37), ([] : List (S46))⟩ : S46)] : List (S46)))⟩ : S46), ([] : List (S69)), ([] : List (S69))⟩ : S69)] : List (S69)) : List (S69))).bind fun y503 => ((spec_l12Rd_pick.f k s0_0 bt497.2 2).bind fun bt507 => (if bt507.1 = 0 then ((spec_l2To.f k s0_0 bt507.2).bind fun bt509 => ((spec_l3Expr.f k s0_0 bt509.2.2 2).bind fun bt512 => (if y503.length < 1099511627776 then (some (3, 0, 0, 6, 0, 0, 0, y490, (y503 ++ [(⟨1, (⟨bt509.1, bt509.2.1⟩ : S37), (⟨bt512.1, bt512.2.1, (⟨bt512.2.2.1, bt512.2.2.2.1⟩ : S37), bt512.2.2.2.2.1⟩ : S46), ([] : List (S69)), ([] : List (S69))⟩ : S69)]), ([] : List (S69)), bt512.2.2.2.2.2)) else (none)))) else (some (3, 0, 0, 6, 0, 0, 0, y490, y503, ([] : List (S69)), bt507.2))))))))
def spec_l4Count.T3 : Bool × List (List Nat × List Nat) := (true, [([], []), ([], []), ([], []), ([1, 2], [1, 2]), ([3], [3]), ([0, 4], [0, 4]), ([5], [5]), ([], []), ([7, 6, 3, 0, 1, 2, 3, 4, 5, 6, 7], [6, 7])])
def spec_l4Count.B3 : List Nat := [0, 0, 0, 6, 14, 31, 63, 0, 255]
theorem spec_l4Count.tab3 : rtab .any (opsOf Try.f103 3) = spec_l4Count.T3 := by kernel_rfl
theorem spec_l4Count.bits3 : waitsOk spec_l4Count.T3.2 spec_l4Count.B3 = true := by kernel_rfl
def spec_l4Count.T4 : Bool × List (List Nat × List Nat) := (true, [([], []), ([], []), ([], []), ([1, 2], [1, 2]), ([3], [3]), ([0, 4], [0, 4]), ([5], [5]), ([], []), ([7, 6, 3, 0, 1, 2, 3, 4, 5, 6, 7], [6, 7])])
def spec_l4Count.B4 : List Nat := [0, 0, 0, 6, 14, 31, 63, 0, 255]
theorem spec_l4Count.tab4 : rtab .any (opsOf Try.f103 4) = spec_l4Count.T4 := by kernel_rfl
theorem spec_l4Count.bits4 : waitsOk spec_l4Count.T4.2 spec_l4Count.B4 = true := by kernel_rfl
def spec_l4Count.T7 : Bool × List (List Nat × List Nat) := (true, [([], []), ([0], [0]), ([], []), ([2], [2]), ([], []), ([4, 3], [4]), ([3, 5], [3, 5]), ([6], [6]), ([1, 7, 5], [1, 7]), ([0, 1, 2, 3, 4, 5, 6, 7, 8], []), ([9, 8, 8, 0, 1, 2, 3, 4, 5, 6, 7, 8], [8, 9])])
def spec_l4Count.B7 : List Nat := [0, 1, 0, 4, 0, 28, 60, 124, 255, 511, 1023]
theorem spec_l4Count.tab7 : rtab .any (opsOf Try.f103 7) = spec_l4Count.T7 := by kernel_rfl
theorem spec_l4Count.bits7 : waitsOk spec_l4Count.T7.2 spec_l4Count.B7 = true := by kernel_rfl
theorem q103_1 {p : Prop} (h : p := by exact ⟨(blk_cell BK484.out 0).trans rfl, (blk_cell BK484.out 1).trans rfl, (blk_cell BK484.out 2).trans rfl, (blk_cell BK484.out 3).trans rfl, (blk_cell BK484.out 4).trans rfl⟩) : p := h
theorem q103_2 {p : Prop} (h : p := by (with_reducible repeat (first | refine blk_drewN ?_ _ | refine blk_drew ?_ | refine blk_alloc ?_ _)); refine blk_put (cs := #[.int .i64 3, .int .i64 0]) ?_ 1 _ rfl; (with_reducible repeat (first | refine blk_drewN ?_ _ | refine blk_drew ?_ | refine blk_alloc ?_ _)); refine blk_put (cs := #[.int .i64 0, .int .i64 0]) ?_ 0 _ rfl; (with_reducible repeat (first | refine blk_drewN ?_ _ | refine blk_drew ?_ | refine blk_alloc ?_ _)); exact BK483.out) : p := h
theorem q103_3 {p : Prop} (h : p := by exact ⟨(blk_cell BK506.out 0).trans rfl, (blk_cell BK506.out 1).trans rfl, (blk_cell BK506.out 2).trans rfl, (blk_cell BK506.out 3).trans rfl, (blk_cell BK506.out 4).trans rfl, (blk_cell BK506.out 5).trans rfl, (blk_cell BK506.out 6).trans rfl, (blk_cell BK506.out 7).trans rfl, (blk_cell BK506.out 8).trans rfl, (blk_cell BK506.out 9).trans rfl⟩) : p := h
theorem q103_4 {p : Prop} (h : p := by simp only [putAll, Act.put, List.setIfInBounds_toArray, List.set_cons_zero, List.set_cons_succ]) : p := h
theorem q103_5 {p : Prop} (h : p := by (with_reducible repeat (first | apply Kd.N_alloc | apply Kd.N_drewN | apply Kd.N_drew)); exact Kd.N_mono HO501.out (fun _ hk => ⟨hk.1, ⟨hk.2.1, ⟨hk.2.2.1, ⟨hk.2.2.2.1, ⟨hk.2.2.2.2.2.2.2.2.2, ⟨hk.2.2.2.2.1, ⟨hk.2.2.2.2.2.1, ⟨hk.2.2.2.2.2.2.1, ⟨hk.2.2.2.2.2.2.2.1, hk.2.2.2.2.2.2.2.2.1⟩⟩⟩⟩⟩⟩⟩⟩⟩)) : p := h
theorem q103_6 {p : Prop} (h : p := by (with_reducible repeat (first | apply Kd.N_alloc | apply Kd.N_drewN | apply Kd.N_drew)); exact Kd.N_mono HO492.out (fun _ hk => ⟨hk.1, ⟨hk.2.1, ⟨hk.2.2.2.2.2.2, ⟨hk.2.2.1, ⟨hk.2.2.2.1, ⟨hk.2.2.2.2.1, hk.2.2.2.2.2.1⟩⟩⟩⟩⟩⟩)) : p := h
theorem q103_7 {p : Prop} (h : p := by (with_reducible repeat (first | apply Kd.R_alloc | apply Kd.R_drewN | apply Kd.R_drew)); exact Kd.R_mono HO496.out (fun _ hk => ⟨hk.1.1, hk.2⟩)) : p := h
theorem q103_8 {p : Prop} (h : p := by (with_reducible repeat (first | apply Kd.R_alloc | apply Kd.R_drewN | apply Kd.R_drew)); exact Kd.R_mono HO487.out (fun _ hk => hk.1)) : p := h
set_option maxHeartbeats 8000000 in
set_option maxRecDepth 100000 in
theorem spec_l4Count.calls (k : Nat) (g : Nat) (s0_0 : List Int) (s0_1 : Int) (r1 : Int) (r2 : Int) (r3 : Int) (r4 : Int) (r5 : Int) (r6 : Int) (r7 : Int) (r8 : List (S46)) (r9 : List (S69)) (r10 : List (S69)) (r11 : Int) (w0 w : World) (hI : IsS116 w0 w g s0_0 s0_1) (hB : Below w0.heap.size w0 w) (h : spec_l4Count.f k s0_0 s0_1 = some (r1, r2, r3, r4, r5, r6, r7, r8, r9, r10, r11)) :
  Calls Try.prog 103 #[.pointer (some ⟨g, 0, none⟩)] w fun e w' => ∃ v7_ v8_ v9_ : Value, e = .returned (.agg #[.int .i64 r1, .int .i64 r2, .int .i64 r3, .int .i64 r4, .int .i64 r5, .int .i64 r6, .int .i64 r7, v7_, v8_, v9_]) ∧ Kd.N k46 46 w' w.heap.size (fun k_ => (w.heap.size ≤ k_) ∧ nB k_ v8_ ∧ nB k_ v9_) v7_ r8 ∧ Kd.N k69 69 w' w.heap.size (fun k_ => (w.heap.size ≤ k_) ∧ nB k_ v7_ ∧ nB k_ v9_) v8_ r9 ∧ Kd.N k69 69 w' w.heap.size (fun k_ => (w.heap.size ≤ k_) ∧ nB k_ v7_ ∧ nB k_ v8_) v9_ r10 ∧ IsS116 w0 w' g s0_0 r11 ∧ Below w0.heap.size w0 w' ∧ KeepBut w w' g none := by
 have hu69 := Try.underlying69
 have hu37 := Try.underlying37
 have hu46 := Try.underlying46
 have HI0 := z0 hI
 have HK := z0 (KeepBut.refl w g none)
 have HL := z0 hB.size
 clear hI
 have HW0 := z0 hB.size
 have HB := z0 hB
 clear hB
 have H : ((spec_l12Rd_pick.f k s0_0 s0_1 3).bind fun bt481 => ((spec_l12Rd_num.f k s0_0 bt481.2 (([1, 3, 5, 9, 200] : List Int))).bind fun bt488 => ((some (([(⟨2, 0, (⟨3, bt481.1⟩ : S37), ([] : List (S46))⟩ : S46), (⟨1, bt488.1, (⟨0, 0⟩ : S37), ([] : List (S46))⟩ : S46)] : List (S46)) : List (S46))).bind fun y490 => ((spec_l12Rd_num.f k s0_0 bt488.2 (([1, 1, 2, 0] : List Int))).bind fun bt497 => ((some (([(⟨1, (⟨3, bt481.1⟩ : S37), (⟨3, 0, (⟨0, 0⟩ : S37), (([(⟨2, 0, (⟨3, bt481.1⟩ : S37), ([] : List (S46))⟩ : S46), (⟨1, bt497.1, (⟨0, 0⟩ : S37), ([] : List (S46))⟩ : S46)] : List (S46)))⟩ : S46), ([] : List (S69)), ([] : List (S69))⟩ : S69)] : List (S69)) : List (S69))).bind fun y503 => ((spec_l12Rd_pick.f k s0_0 bt497.2 2).bind fun bt507 => (if bt507.1 = 0 then ((spec_l2To.f k s0_0 bt507.2).bind fun bt509 => ((spec_l3Expr.f k s0_0 bt509.2.2 2).bind fun bt512 => (if y503.length < 1099511627776 then (some (3, 0, 0, 6, 0, 0, 0, y490, (y503 ++ [(⟨1, (⟨bt509.1, bt509.2.1⟩ : S37), (⟨bt512.1, bt512.2.1, (⟨bt512.2.2.1, bt512.2.2.2.1⟩ : S37), bt512.2.2.2.2.1⟩ : S46), ([] : List (S69)), ([] : List (S69))⟩ : S69)]), ([] : List (S69)), bt512.2.2.2.2.2)) else (none)))) else (some (3, 0, 0, 6, 0, 0, 0, y490, y503, ([] : List (S69)), bt507.2))))))))) = some (r1, r2, r3, r4, r5, r6, r7, r8, r9, r10, r11) := h
 clear h
 replace H := Option.bind_eq_some_iff.mp H
 obtain ⟨⟨t481, t482⟩, A20, H⟩ := H
 try dsimp only at H
 have A2 := z0 A20
 clear A20
 obtain ⟨y485, hy485⟩ : ∃ y_ : List Int, y_ = (([1, 3, 5, 9, 200] : List Int)) := ⟨_, rfl⟩
 replace H : ((spec_l12Rd_num.f k s0_0 t482 y485).bind fun bt488 => ((some (([(⟨2, 0, (⟨3, t481⟩ : S37), ([] : List (S46))⟩ : S46), (⟨1, bt488.1, (⟨0, 0⟩ : S37), ([] : List (S46))⟩ : S46)] : List (S46)) : List (S46))).bind fun y490 => ((spec_l12Rd_num.f k s0_0 bt488.2 (([1, 1, 2, 0] : List Int))).bind fun bt497 => ((some (([(⟨1, (⟨3, t481⟩ : S37), (⟨3, 0, (⟨0, 0⟩ : S37), (([(⟨2, 0, (⟨3, t481⟩ : S37), ([] : List (S46))⟩ : S46), (⟨1, bt497.1, (⟨0, 0⟩ : S37), ([] : List (S46))⟩ : S46)] : List (S46)))⟩ : S46), ([] : List (S69)), ([] : List (S69))⟩ : S69)] : List (S69)) : List (S69))).bind fun y503 => ((spec_l12Rd_pick.f k s0_0 bt497.2 2).bind fun bt507 => (if bt507.1 = 0 then ((spec_l2To.f k s0_0 bt507.2).bind fun bt509 => ((spec_l3Expr.f k s0_0 bt509.2.2 2).bind fun bt512 => (if y503.length < 1099511627776 then (some (3, 0, 0, 6, 0, 0, 0, y490, (y503 ++ [(⟨1, (⟨bt509.1, bt509.2.1⟩ : S37), (⟨bt512.1, bt512.2.1, (⟨bt512.2.2.1, bt512.2.2.2.1⟩ : S37), bt512.2.2.2.2.1⟩ : S46), ([] : List (S69)), ([] : List (S69))⟩ : S69)]), ([] : List (S69)), bt512.2.2.2.2.2)) else (none)))) else (some (3, 0, 0, 6, 0, 0, 0, y490, y503, ([] : List (S69)), bt507.2)))))))) = some (r1, r2, r3, r4, r5, r6, r7, r8, r9, r10, r11) := by first | (rw [hy485]; with_reducible exact H) | (have H2_ := (Option.bind_some _ _).symm.trans H; rw [hy485]; with_reducible exact H2_) | (have H2_ := (Option.bind_some _ _).symm.trans H; with_reducible exact H2_) | with_reducible exact H | (rw [hy485]; exact H) | exact H
 have Ny485 := z0 hy485
 clear hy485
 replace H := Option.bind_eq_some_iff.mp H
 obtain ⟨⟨t488, t489⟩, A30, H⟩ := H
 try dsimp only at H
 have A3 := z0 A30
 clear A30
 obtain ⟨y490, hy490⟩ : ∃ y_ : List (S46), y_ = (([(⟨2, 0, (⟨3, t481⟩ : S37), ([] : List (S46))⟩ : S46), (⟨1, t488, (⟨0, 0⟩ : S37), ([] : List (S46))⟩ : S46)] : List (S46))) := ⟨_, rfl⟩
 replace H : ((spec_l12Rd_num.f k s0_0 t489 (([1, 1, 2, 0] : List Int))).bind fun bt497 => ((some (([(⟨1, (⟨3, t481⟩ : S37), (⟨3, 0, (⟨0, 0⟩ : S37), (([(⟨2, 0, (⟨3, t481⟩ : S37), ([] : List (S46))⟩ : S46), (⟨1, bt497.1, (⟨0, 0⟩ : S37), ([] : List (S46))⟩ : S46)] : List (S46)))⟩ : S46), ([] : List (S69)), ([] : List (S69))⟩ : S69)] : List (S69)) : List (S69))).bind fun y503 => ((spec_l12Rd_pick.f k s0_0 bt497.2 2).bind fun bt507 => (if bt507.1 = 0 then ((spec_l2To.f k s0_0 bt507.2).bind fun bt509 => ((spec_l3Expr.f k s0_0 bt509.2.2 2).bind fun bt512 => (if y503.length < 1099511627776 then (some (3, 0, 0, 6, 0, 0, 0, y490, (y503 ++ [(⟨1, (⟨bt509.1, bt509.2.1⟩ : S37), (⟨bt512.1, bt512.2.1, (⟨bt512.2.2.1, bt512.2.2.2.1⟩ : S37), bt512.2.2.2.2.1⟩ : S46), ([] : List (S69)), ([] : List (S69))⟩ : S69)]), ([] : List (S69)), bt512.2.2.2.2.2)) else (none)))) else (some (3, 0, 0, 6, 0, 0, 0, y490, y503, ([] : List (S69)), bt507.2)))))) = some (r1, r2, r3, r4, r5, r6, r7, r8, r9, r10, r11) := by first | (rw [hy490]; with_reducible exact H) | (have H2_ := (Option.bind_some _ _).symm.trans H; rw [hy490]; with_reducible exact H2_) | (have H2_ := (Option.bind_some _ _).symm.trans H; with_reducible exact H2_) | with_reducible exact H | (rw [hy490]; exact H) | exact H
 have Ny490 := z0 hy490
 clear hy490
 obtain ⟨y494, hy494⟩ : ∃ y_ : List Int, y_ = (([1, 1, 2, 0] : List Int)) := ⟨_, rfl⟩
 replace H : ((spec_l12Rd_num.f k s0_0 t489 y494).bind fun bt497 => ((some (([(⟨1, (⟨3, t481⟩ : S37), (⟨3, 0, (⟨0, 0⟩ : S37), (([(⟨2, 0, (⟨3, t481⟩ : S37), ([] : List (S46))⟩ : S46), (⟨1, bt497.1, (⟨0, 0⟩ : S37), ([] : List (S46))⟩ : S46)] : List (S46)))⟩ : S46), ([] : List (S69)), ([] : List (S69))⟩ : S69)] : List (S69)) : List (S69))).bind fun y503 => ((spec_l12Rd_pick.f k s0_0 bt497.2 2).bind fun bt507 => (if bt507.1 = 0 then ((spec_l2To.f k s0_0 bt507.2).bind fun bt509 => ((spec_l3Expr.f k s0_0 bt509.2.2 2).bind fun bt512 => (if y503.length < 1099511627776 then (some (3, 0, 0, 6, 0, 0, 0, y490, (y503 ++ [(⟨1, (⟨bt509.1, bt509.2.1⟩ : S37), (⟨bt512.1, bt512.2.1, (⟨bt512.2.2.1, bt512.2.2.2.1⟩ : S37), bt512.2.2.2.2.1⟩ : S46), ([] : List (S69)), ([] : List (S69))⟩ : S69)]), ([] : List (S69)), bt512.2.2.2.2.2)) else (none)))) else (some (3, 0, 0, 6, 0, 0, 0, y490, y503, ([] : List (S69)), bt507.2)))))) = some (r1, r2, r3, r4, r5, r6, r7, r8, r9, r10, r11) := by first | (rw [hy494]; with_reducible exact H) | (have H2_ := (Option.bind_some _ _).symm.trans H; rw [hy494]; with_reducible exact H2_) | (have H2_ := (Option.bind_some _ _).symm.trans H; with_reducible exact H2_) | with_reducible exact H | (rw [hy494]; exact H) | exact H
 have Ny494 := z0 hy494
 clear hy494
 replace H := Option.bind_eq_some_iff.mp H
 obtain ⟨⟨t497, t498⟩, A40, H⟩ := H
 try dsimp only at H
 have A4 := z0 A40
 clear A40
 obtain ⟨y499, hy499⟩ : ∃ y_ : List (S46), y_ = (([(⟨2, 0, (⟨3, t481⟩ : S37), ([] : List (S46))⟩ : S46), (⟨1, t497, (⟨0, 0⟩ : S37), ([] : List (S46))⟩ : S46)] : List (S46))) := ⟨_, rfl⟩
 replace H : ((some (([(⟨1, (⟨3, t481⟩ : S37), (⟨3, 0, (⟨0, 0⟩ : S37), y499⟩ : S46), ([] : List (S69)), ([] : List (S69))⟩ : S69)] : List (S69)) : List (S69))).bind fun y503 => ((spec_l12Rd_pick.f k s0_0 t498 2).bind fun bt507 => (if bt507.1 = 0 then ((spec_l2To.f k s0_0 bt507.2).bind fun bt509 => ((spec_l3Expr.f k s0_0 bt509.2.2 2).bind fun bt512 => (if y503.length < 1099511627776 then (some (3, 0, 0, 6, 0, 0, 0, y490, (y503 ++ [(⟨1, (⟨bt509.1, bt509.2.1⟩ : S37), (⟨bt512.1, bt512.2.1, (⟨bt512.2.2.1, bt512.2.2.2.1⟩ : S37), bt512.2.2.2.2.1⟩ : S46), ([] : List (S69)), ([] : List (S69))⟩ : S69)]), ([] : List (S69)), bt512.2.2.2.2.2)) else (none)))) else (some (3, 0, 0, 6, 0, 0, 0, y490, y503, ([] : List (S69)), bt507.2))))) = some (r1, r2, r3, r4, r5, r6, r7, r8, r9, r10, r11) := by first | (rw [hy499]; with_reducible exact H) | (have H2_ := (Option.bind_some _ _).symm.trans H; rw [hy499]; with_reducible exact H2_) | (have H2_ := (Option.bind_some _ _).symm.trans H; with_reducible exact H2_) | with_reducible exact H | (rw [hy499]; exact H) | exact H
 have Ny499 := z0 hy499
 clear hy499
 obtain ⟨y503, hy503⟩ : ∃ y_ : List (S69), y_ = (([(⟨1, (⟨3, t481⟩ : S37), (⟨3, 0, (⟨0, 0⟩ : S37), y499⟩ : S46), ([] : List (S69)), ([] : List (S69))⟩ : S69)] : List (S69))) := ⟨_, rfl⟩
 replace H : ((spec_l12Rd_pick.f k s0_0 t498 2).bind fun bt507 => (if bt507.1 = 0 then ((spec_l2To.f k s0_0 bt507.2).bind fun bt509 => ((spec_l3Expr.f k s0_0 bt509.2.2 2).bind fun bt512 => (if y503.length < 1099511627776 then (some (3, 0, 0, 6, 0, 0, 0, y490, (y503 ++ [(⟨1, (⟨bt509.1, bt509.2.1⟩ : S37), (⟨bt512.1, bt512.2.1, (⟨bt512.2.2.1, bt512.2.2.2.1⟩ : S37), bt512.2.2.2.2.1⟩ : S46), ([] : List (S69)), ([] : List (S69))⟩ : S69)]), ([] : List (S69)), bt512.2.2.2.2.2)) else (none)))) else (some (3, 0, 0, 6, 0, 0, 0, y490, y503, ([] : List (S69)), bt507.2)))) = some (r1, r2, r3, r4, r5, r6, r7, r8, r9, r10, r11) := by first | (rw [hy503]; with_reducible exact H) | (have H2_ := (Option.bind_some _ _).symm.trans H; rw [hy503]; with_reducible exact H2_) | (have H2_ := (Option.bind_some _ _).symm.trans H; with_reducible exact H2_) | with_reducible exact H | (rw [hy503]; exact H) | exact H
 have Ny503 := z0 hy503
 clear hy503
 replace H := Option.bind_eq_some_iff.mp H
 obtain ⟨⟨t507, t508⟩, A50, H⟩ := H
 try dsimp only at H
 have A5 := z0 A50
 clear A50
 have HF6 := z0 H
 clear H
 go_enter Try.func103, Try.ntmps103
 try go_wp2_with (first | ((with_reducible refine gate_dst (N := 2) rfl ?_); refine box_event ?hg (N := 2) ?hd (cs := #[.int .i64 0, .int .i64 0, .int .i64 0, .int .i64 0, .int .i64 0, .int .i64 0, .int .i64 0, .slice none 0 0, .slice none 0 0, .slice none 0 0]) (t := 69) ?hr ?_; (case hd => rfl); (case hg => rfl); (case hr => first | (go_simp; done) | (go_simp; rfl)); intro gb480 hg w7 hbox hb; have n_ := az (IsS116.below (mI116_1 HI0.out) hb) <| az (KeepBut.trans (mKp HK.out) (KeepBut.of_below hb g none) (.inl rfl)) <| az (below_step (mB116HI0 HB.out) hb) <| az (hbox) <| az ((gW hg HK.out)) <| az ((Nat.le_trans HW0.out (gW hg HK.out) : w0.heap.size ≤ gb480)) <| az ((by rw [hg]; exact Nat.ne_of_lt (IsS116.lt (show IsS116 w0 _ g s0_0 s0_1 from mI116_1 HI0.out)) : g ≠ gb480)) <| z0 ((by rw [hg]; exact Nat.ne_of_gt (IsS116.lt (show IsS116 w0 _ g s0_0 s0_1 from mI116_1 HI0.out)) : gb480 ≠ g)); clear HI0 HK HB; obtain ⟨HI0, HK, HB, BK480, GW480, GE480, NB0_480, NB480_0⟩ := n_; clear hb hbox hg) | ((with_reducible refine gate_callee (f := 73) rfl ?_); refine goesL_ (some 9) rfl rfl Try.func73 (by kernel_rfl) rfl #[.pointer (some ⟨g, 0, none⟩), .int .i64 3] rfl argx ?_; (with_reducible refine (spec_l12Rd_pick.calls k g s0_0 s0_1 3 t481 t482 w0 _ ?side1 ?side2 A2.out).mono ?_); (case side1 => exact mI116_1 HI0.out); (case side2 => exact mB116HI0 HB.out); rintro e w8 ⟨rfl, hi, hb, hk⟩; refine ⟨_, rfl, ?_⟩; have n_ := az (kB hk BK480.out NB480_0.out) <| az (KeepBut.trans (mKp HK.out) hk (.inl rfl)) <| az (hb) <| z0 (hi); clear BK480 HK HB HI0; obtain ⟨BK480, HK, HB, HI0⟩ := n_; clear hb hk hi) | ((with_reducible refine gate_dst (N := 3) rfl ?_); refine box_event ?hg (N := 3) ?hd (cs := #[.int .i64 0, .int .i64 0]) (t := 37) ?hr ?_; (case hd => rfl); (case hg => rfl); (case hr => first | (go_simp; done) | (go_simp; rfl)); intro gb483 hg w9 hbox hb; have n_ := az (IsS116.below (mI116_1 HI0.out) hb) <| az (bB BK480.out hb) <| az (KeepBut.trans (mKp HK.out) (KeepBut.of_below hb g none) (.inl rfl)) <| az (below_step (mB116HI0 HB.out) hb) <| az (hbox) <| az ((gW hg HK.out)) <| az ((Nat.le_trans HW0.out (gW hg HK.out) : w0.heap.size ≤ gb483)) <| az ((nL hg BK480.out)) <| az ((nG hg BK480.out)) <| az ((by rw [hg]; exact Nat.ne_of_lt (IsS116.lt (show IsS116 w0 _ g s0_0 t482 from mI116_1 HI0.out)) : g ≠ gb483)) <| z0 ((by rw [hg]; exact Nat.ne_of_gt (IsS116.lt (show IsS116 w0 _ g s0_0 t482 from mI116_1 HI0.out)) : gb483 ≠ g)); clear HI0 BK480 HK HB; obtain ⟨HI0, BK480, HK, HB, BK483, GW483, GE483, NB480_483, NB483_480, NB0_483, NB483_0⟩ := n_; clear hb hbox hg; have hnb10 := NB483_480.out; have hnc10 := NB480_483.out; have hnb11 := NB483_0.out; have hnc11 := NB0_483.out; obtain ⟨hcz12_0, hcz12_1, hfz12_0, hfz12_1⟩ := cel2 BK483.out) | ((with_reducible refine gate_dst (N := 4) rfl ?_); refine box_event ?hg (N := 4) ?hd (cs := #[.int .i64 0, .int .i64 0, .int .i64 0, .int .i64 0, .slice none 0 0]) (t := 46) ?hr ?_; (case hd => rfl); (case hg => rfl); (case hr => first | (go_simp; done) | (go_simp; rfl)); intro gb484 hg w13 hbox hb; have n_ := az (IsS116.below (show IsS116 w0 ((w9.setCell ⟨gb483, 0, none⟩ (.int .i64 3)).setCell ⟨gb483, 1, none⟩ (.int .i64 t481)) g s0_0 t482 from mI116_1 HI0.out) hb) <| az (blk_below (g := gb480) (o := .cells #[.int .i64 0, .int .i64 0, .int .i64 0, .int .i64 0, .int .i64 0, .int .i64 0, .int .i64 0, .slice none 0 0, .slice none 0 0, .slice none 0 0] 69 (0, 0)) (mF BK480.out) hb) <| az (blk_below (g := gb483) (o := .cells #[.int .i64 3, .int .i64 t481] 37 (0, 0)) q103_2 hb) <| az (KeepBut.trans (mKp HK.out) (KeepBut.of_below hb g none) (.inl rfl)) <| az (below_step (mB116HI0 HB.out) hb) <| az (hbox) <| az ((gW hg HK.out)) <| az ((Nat.le_trans HW0.out (gW hg HK.out) : w0.heap.size ≤ gb484)) <| az ((by rw [hg]; exact Nat.ne_of_lt (blk_lt (g := gb480) (o := .cells #[.int .i64 0, .int .i64 0, .int .i64 0, .int .i64 0, .int .i64 0, .int .i64 0, .int .i64 0, .slice none 0 0, .slice none 0 0, .slice none 0 0] 69 (0, 0)) (mF BK480.out)) : gb480 ≠ gb484)) <| az ((by rw [hg]; exact Nat.ne_of_gt (blk_lt (g := gb480) (o := .cells #[.int .i64 0, .int .i64 0, .int .i64 0, .int .i64 0, .int .i64 0, .int .i64 0, .int .i64 0, .slice none 0 0, .slice none 0 0, .slice none 0 0] 69 (0, 0)) (mF BK480.out)) : gb484 ≠ gb480)) <| az ((by rw [hg]; exact Nat.ne_of_lt (blk_lt (g := gb483) (o := .cells #[.int .i64 3, .int .i64 t481] 37 (0, 0)) q103_2) : gb483 ≠ gb484)) <| az ((by rw [hg]; exact Nat.ne_of_gt (blk_lt (g := gb483) (o := .cells #[.int .i64 3, .int .i64 t481] 37 (0, 0)) q103_2) : gb484 ≠ gb483)) <| az ((by rw [hg]; exact Nat.ne_of_lt (IsS116.lt (show IsS116 w0 _ g s0_0 t482 from mI116_1 HI0.out)) : g ≠ gb484)) <| z0 ((by rw [hg]; exact Nat.ne_of_gt (IsS116.lt (show IsS116 w0 _ g s0_0 t482 from mI116_1 HI0.out)) : gb484 ≠ g)); clear HI0 BK480 BK483 HK HB; obtain ⟨HI0, BK480, BK483, HK, HB, BK484, GW484, GE484, NB480_484, NB484_480, NB483_484, NB484_483, NB0_484, NB484_0⟩ := n_; clear hb hbox hg; have hnb14 := NB484_480.out; have hnc14 := NB480_484.out; have hnb15 := NB484_483.out; have hnc15 := NB483_484.out; have hnb16 := NB484_0.out; have hnc16 := NB0_484.out; obtain ⟨hcz17_0, hcz17_1, hcz17_2, hcz17_3, hcz17_4, hfz17_0, hfz17_1, hfz17_2, hfz17_3, hfz17_4⟩ := cel5 BK484.out))
 have n0_ : Aside0 ((((((w13.setCell ⟨gb484, 0, none⟩ (.int .i64 2)).setCell ⟨gb484, 1, none⟩ (.int .i64 0)).setCell ⟨gb484, 2, none⟩ (.int .i64 3)).setCell ⟨gb484, 3, none⟩ (.int .i64 t481)).setCell ⟨gb484, 4, none⟩ (.slice none 0 0)).heap[gb480]? = some (.cells #[.int .i64 0, .int .i64 0, .int .i64 0, .int .i64 0, .int .i64 0, .int .i64 0, .int .i64 0, .slice none 0 0, .slice none 0 0, .slice none 0 0] 69 (0, 0))) := ⟨mF BK480.out⟩
 have n1_ : Aside0 ((((((w13.setCell ⟨gb484, 0, none⟩ (.int .i64 2)).setCell ⟨gb484, 1, none⟩ (.int .i64 0)).setCell ⟨gb484, 2, none⟩ (.int .i64 3)).setCell ⟨gb484, 3, none⟩ (.int .i64 t481)).setCell ⟨gb484, 4, none⟩ (.slice none 0 0)).heap[gb483]? = some (.cells #[.int .i64 3, .int .i64 t481] 37 (0, 0))) := ⟨mF BK483.out⟩
 have n2_ : Aside0 ((((((w13.setCell ⟨gb484, 0, none⟩ (.int .i64 2)).setCell ⟨gb484, 1, none⟩ (.int .i64 0)).setCell ⟨gb484, 2, none⟩ (.int .i64 3)).setCell ⟨gb484, 3, none⟩ (.int .i64 t481)).setCell ⟨gb484, 4, none⟩ (.slice none 0 0)).heap[gb484]? = some (.cells #[.int .i64 2, .int .i64 0, .int .i64 3, .int .i64 t481, .slice none 0 0] 46 (0, 0))) := ⟨pF BK484.out⟩
 have n3_ : Aside0 (IsS116 w0 (((((w13.setCell ⟨gb484, 0, none⟩ (.int .i64 2)).setCell ⟨gb484, 1, none⟩ (.int .i64 0)).setCell ⟨gb484, 2, none⟩ (.int .i64 3)).setCell ⟨gb484, 3, none⟩ (.int .i64 t481)).setCell ⟨gb484, 4, none⟩ (.slice none 0 0)) g s0_0 t482) := ⟨mI116_1 HI0.out⟩
 have n4_ : Aside0 (KeepBut w (((((w13.setCell ⟨gb484, 0, none⟩ (.int .i64 2)).setCell ⟨gb484, 1, none⟩ (.int .i64 0)).setCell ⟨gb484, 2, none⟩ (.int .i64 3)).setCell ⟨gb484, 3, none⟩ (.int .i64 t481)).setCell ⟨gb484, 4, none⟩ (.slice none 0 0)) g none) := ⟨mKp HK.out⟩
 have n5_ : Aside0 (Below w0.heap.size w0 (((((w13.setCell ⟨gb484, 0, none⟩ (.int .i64 2)).setCell ⟨gb484, 1, none⟩ (.int .i64 0)).setCell ⟨gb484, 2, none⟩ (.int .i64 3)).setCell ⟨gb484, 3, none⟩ (.int .i64 t481)).setCell ⟨gb484, 4, none⟩ (.slice none 0 0))) := ⟨mB116HI0 HB.out⟩
 (try clear BK480)
 (try clear BK483)
 (try clear BK484)
 (try clear HI0)
 (try clear HK)
 (try clear HB)
 generalize (((((w13.setCell ⟨gb484, 0, none⟩ (.int .i64 2)).setCell ⟨gb484, 1, none⟩ (.int .i64 0)).setCell ⟨gb484, 2, none⟩ (.int .i64 3)).setCell ⟨gb484, 3, none⟩ (.int .i64 t481)).setCell ⟨gb484, 4, none⟩ (.slice none 0 0)) = w18 at n0_ n1_ n2_ n3_ n4_ n5_ ⊢
 have BK480 := n0_
 have BK483 := n1_
 have BK484 := n2_
 have HI0 := n3_
 have HK := n4_
 have HB := n5_
 clear n0_ n1_ n2_ n3_ n4_ n5_
 have n_ := az (blk_drew BK480.out) <| az (blk_drew BK483.out) <| az (blk_drew BK484.out) <| az (IsS116.drew HI0.out) <| az (keep_drew HK.out) <| z0 (below_drew1 HB.out)
 clear BK480 BK483 BK484 HI0 HK HB
 obtain ⟨BK480, BK483, BK484, HI0, HK, HB⟩ := n_
 refine start_ (n := 9) (S := fun w' => w'.cell? ⟨gb484, 0, none⟩ = some (.int .i64 2) ∧ w'.cell? ⟨gb484, 1, none⟩ = some (.int .i64 0) ∧ w'.cell? ⟨gb484, 2, none⟩ = some (.int .i64 3) ∧ w'.cell? ⟨gb484, 3, none⟩ = some (.int .i64 t481) ∧ w'.cell? ⟨gb484, 4, none⟩ = some (.slice none 0 0)) (ds := []) #[false, false, false, false, false, false, false, false, false] (by kernel_rfl) rfl rfl q103_1 (fun hHeld => ?_); refine with_tabW spec_l4Count.tab3 spec_l4Count.bits3 (fun HT_ HW_ => ?_)
 generalize w18.drew = w19 at BK480 BK483 BK484 HI0 HK HB hHeld ⊢
 refine pure_ (i := 1) (N := some 14) (v := ?_) (a' := ?_) #[false, true, false, false, false, false, false, false, false] rfl rfl (any_of HT_.out (by kernel_rfl)) (fun _ _ _ h => h) (Or.inl ⟨by rfl, ?_⟩) ?_ ?_
 rotate_left
 ·intro w'
  go_simp
  with_reducible rfl
 rotate_left
 ·simp only [Act.put, List.setIfInBounds_toArray, List.set_cons_zero, List.set_cons_succ, i64_w, i32_w]
  rfl
 refine take_ (i := 0) (N := some 13) (v := ?_) (a' := ?_) #[true, true, false, false, false, false, false, false, false] rfl rfl (take_ofW HT_.out HW_.out (by kernel_rfl)) (fun _ _ _ h => h) (Or.inl ⟨by rfl, ?_⟩) hHeld ?_ ?_
 rotate_left
 ·rintro w' ⟨s0, s1, s2, s3, s4⟩
  go_simp
  with_reducible rfl
 rotate_left
 ·simp only [Act.put, List.setIfInBounds_toArray, List.set_cons_zero, List.set_cons_succ, i64_w, i32_w]
  rfl
 refine join_ (σ := Value × Value × Nat) 1 #[true, true, true, true, true, true, true, true, false] (fun s_ => [(15, s_.1), (16, .int .i64 t488), (18, s_.2.1), (5, .pointer (some ⟨s_.2.2, 0, none⟩)), (17, .agg #[.int .i64 1, .int .i64 t488, .int .i64 0, .int .i64 0, .slice none 0 0]), (19, .agg #[.int .i64 6, .int .i64 0, .int .i64 0, .int .i64 0, s_.2.1])]) (fun s_ w' => (w'.cell? ⟨gb484, 0, none⟩ = some (.int .i64 2) ∧ w'.cell? ⟨gb484, 1, none⟩ = some (.int .i64 0) ∧ w'.cell? ⟨gb484, 2, none⟩ = some (.int .i64 3) ∧ w'.cell? ⟨gb484, 3, none⟩ = some (.int .i64 t481) ∧ w'.cell? ⟨gb484, 4, none⟩ = some (.slice none 0 0)) ∧ (Kd.R (Kd.int .i64) 3 w' w.heap.size (fun k_ => (w.heap.size ≤ k_)) s_.1 y485) ∧ (Kd.N k46 46 w' w.heap.size (fun k_ => (w.heap.size ≤ k_) ∧ some k_ ≠ (s_.1 : Value).ownBlock ∧ k_ ≠ g ∧ k_ ≠ gb480 ∧ k_ ≠ gb483 ∧ k_ ≠ gb484 ∧ k_ ≠ s_.2.2) s_.2.1 y490) ∧ (w'.heap[gb480]? = some (.cells #[.int .i64 0, .int .i64 0, .int .i64 0, .int .i64 0, .int .i64 0, .int .i64 0, .int .i64 0, .slice none 0 0, .slice none 0 0, .slice none 0 0] 69 (0, 0))) ∧ (w'.heap[gb483]? = some (.cells #[.int .i64 3, .int .i64 t481] 37 (0, 0))) ∧ (w'.heap[gb484]? = some (.cells #[.int .i64 2, .int .i64 0, .int .i64 3, .int .i64 t481, .slice none 0 0] 46 (0, 0))) ∧ (w'.heap[s_.2.2]? = some (.cells #[.int .i64 0, .int .i64 0, .int .i64 0, .int .i64 0, .slice none 0 0] 46 (0, 0))) ∧ (w.heap.size ≤ s_.2.2) ∧ (w0.heap.size ≤ s_.2.2) ∧ (g ≠ s_.2.2) ∧ (s_.2.2 ≠ g) ∧ (gb480 ≠ s_.2.2) ∧ (s_.2.2 ≠ gb480) ∧ (gb483 ≠ s_.2.2) ∧ (s_.2.2 ≠ gb483) ∧ (gb484 ≠ s_.2.2) ∧ (s_.2.2 ≠ gb484) ∧ (IsS116 w0 w' g s0_0 t489) ∧ (KeepBut w w' g none) ∧ (Below w0.heap.size w0 w')) ?_ ?_
 rotate_left
 ·intro hCont
  refine two_ (i := 2) (j := 7) (Ni := some 15) (Nj := some 5) #[true, true, true, false, false, false, false, false, false] #[true, true, false, false, false, false, false, true, false] rfl rfl rfl rfl (two_of HT_.out (by kernel_rfl)) (by decide) (by decide) (fun K hK => ?_) (fun K hK => ?_)
  ·skip
   refine Kd.R_lit_step (Kd.int .i64) _ 3 ?hg (N := 15) ?hd (xs := ([1, 3, 5, 9, 200] : List Int)) (inner := [.int .i64 1, .int .i64 3, .int .i64 5, .int .i64 9, .int .i64 200]) (ok := fun _ => True) (okp := fun _ => True) ?hr ?hp (fun _ hk => hk) trivial (Below.refl _ _) (Nat.le_refl _) (by simp) ?_; (case hd => rfl); (case hg => rfl); (case hr => first | (go_simp; done) | (go_simp; rfl)); (case hp => exact (Reps.one (show Kd.M (Kd.int .i64) _ _ _ 1 [.int .i64 1] from rfl) (Reps.one (show Kd.M (Kd.int .i64) _ _ _ 3 [.int .i64 3] from rfl) (Reps.one (show Kd.M (Kd.int .i64) _ _ _ 5 [.int .i64 5] from rfl) (Reps.one (show Kd.M (Kd.int .i64) _ _ _ 9 [.int .i64 9] from rfl) (Reps.one (show Kd.M (Kd.int .i64) _ _ _ 200 [.int .i64 200] from rfl) (Reps.none _ _)))))))
   intro v486 w20 ho21 hb hg_ hnew_
   clear hg_ hnew_
   (first | rw [← Ny485.out] at ho21 | (simp only [Int.reduceToNat] at ho21; rw [← Ny485.out] at ho21))
   have n_ := And.intro (z0 (Kd.R_lower (Kd.R_newM (M := fun k_ => (w.heap.size ≤ k_)) ho21 (kS HK.out) (fun k_ h_ => h_)) (kS HK.out))) <| az (IsS116.below (mI116_1 HI0.out) hb) <| az (bB BK480.out hb) <| az (bB BK483.out hb) <| az (bB BK484.out hb) <| az (KeepBut.trans (mKp HK.out) (KeepBut.of_below hb g none) (.inl rfl)) <| z0 (below_step (mB116HI0 HB.out) hb)
   clear HI0 BK480 BK483 BK484 HK HB
   obtain ⟨HO487, HI0, BK480, BK483, BK484, HK, HB⟩ := n_
   clear hb ho21
   obtain ⟨Ao22, co22, eo22⟩ := Kd.R_slice HO487.out
   (first | subst eo22 | (injection eo22 with f1_ f2_ f3_; have f4_ := f1_.symm; have f5_ := f3_.symm; clear f1_ f2_ f3_; subst f4_; subst f5_))
   refine hK.out _ _ q103_1 (fun hHeld => ?_)
   clear hK K
   refine norm_ (a' := ?_) ?_ ?_
   rotate_left
   ·show Act.put _ (some 15) _ = _
    simp only [Act.put, List.setIfInBounds_toArray, List.set_cons_zero, List.set_cons_succ, i64_w, i32_w]
    rfl
   refine two_ (i := 3) (j := 7) (Ni := some 16) (Nj := some 5) #[true, true, true, true, false, false, false, false, false] #[true, true, true, false, false, false, false, true, false] rfl rfl rfl rfl (two_of HT_.out (by kernel_rfl)) (by decide) (by decide) (fun K hK => ?_) (fun K hK => ?_)
   ·skip
    refine goes_ Try.func74 (by kernel_rfl) rfl #[.pointer (some ⟨g, 0, none⟩), .slice Ao22 y485.length co22] (by rfl) rfl rfl argx ?_
    with_reducible refine (spec_l12Rd_num.calls k g s0_0 t482 _ _ y485 t488 t489 w0 _ ?side1 ?side2 ?side3 ?side4 ?side5 A3.out).mono ?_
    (case side1 => exact mI116_1 HI0.out)
    (case side2 => exact mB116HI0 HB.out)
    (case side3 => exact mC (Kd.R_reads' HO487.out).2.2)
    (case side4 => exact (Kd.R_reads' HO487.out).2.1)
    (case side5 => exact far_slice (IsS116.own_ne HI0.out HO487.out (by decide)))
    rintro e w23 ⟨rfl, hi, hb, hk⟩
    refine ⟨_, rfl, ?_⟩
    have n_ := az (kB hk BK480.out NB480_0.out) <| az (kB hk BK483.out NB483_0.out) <| az (kB hk BK484.out NB484_0.out) <| And.intro (z0 (Kd.R_mono (Kd.R_keep (IsS116.apart (show IsS116 w0 _ g s0_0 t482 from mI116_1 HI0.out) (mR HO487.out) (by decide)) hk (fun _ h => h.2)) (fun _ h => h.1))) <| az (KeepBut.trans (mKp HK.out) hk (.inl rfl)) <| az (hb) <| z0 (hi)
    clear BK480 BK483 BK484 HO487 HK HB HI0
    obtain ⟨BK480, BK483, BK484, HO487, HK, HB, HI0⟩ := n_
    (try clear hb)
    (try clear hb2)
    (try clear hk)
    (try clear hi)
    refine hK.out _ _ q103_1 (fun hHeld => ?_)
    clear hK K
    refine norm_ (a' := ?_) ?_ ?_
    rotate_left
    ·show Act.put _ (some 16) _ = _
     simp only [Act.put, List.setIfInBounds_toArray, List.set_cons_zero, List.set_cons_succ, i64_w, i32_w]
     rfl
    refine pure_ (i := 4) (N := some 17) (v := ?_) (a' := ?_) #[true, true, true, true, true, false, false, false, false] rfl rfl (any_of HT_.out (by kernel_rfl)) (fun _ _ _ h => h) (Or.inl ⟨by rfl, ?_⟩) ?_ ?_
    rotate_left
    ·intro w'
     go_simp
     with_reducible rfl
    rotate_left
    ·simp only [Act.put, List.setIfInBounds_toArray, List.set_cons_zero, List.set_cons_succ, i64_w, i32_w]
     rfl
    refine two_ (i := 5) (j := 7) (Ni := some 18) (Nj := some 5) #[true, true, true, true, true, true, false, false, false] #[true, true, true, true, true, false, false, true, false] rfl rfl rfl rfl (two_of HT_.out (by kernel_rfl)) (by decide) (by decide) (fun K hK => ?_) (fun K hK => ?_)
    ·skip
     refine Kd.N_lit_step k46 _ 46 ?hg (N' := 18) ?hd (xs := ([(⟨2, 0, (⟨3, t481⟩ : S37), ([] : List (S46))⟩ : S46), (⟨1, t488, (⟨0, 0⟩ : S37), ([] : List (S46))⟩ : S46)] : List (S46))) (inner := [.int .i64 2, .int .i64 0, .int .i64 3, .int .i64 t481, .slice none 0 0, .int .i64 1, .int .i64 t488, .int .i64 0, .int .i64 0, .slice none 0 0]) (ok := (fun k_ => (w.heap.size ≤ k_) ∧ nB k_ (.slice Ao22 y485.length co22) ∧ k_ ≠ gb480 ∧ k_ ≠ gb483 ∧ k_ ≠ gb484 ∧ k_ ≠ g)) (okp := (fun k_ => (w.heap.size ≤ k_) ∧ nB k_ (.slice Ao22 y485.length co22) ∧ k_ ≠ gb480 ∧ k_ ≠ gb483 ∧ k_ ≠ gb484 ∧ k_ ≠ g)) ?hr ?hp (fun _ hk => hk) ((show ∀ k_, w23.heap.size ≤ k_ → (fun k_ => (w.heap.size ≤ k_) ∧ nB k_ (.slice Ao22 y485.length co22) ∧ k_ ≠ gb480 ∧ k_ ≠ gb483 ∧ k_ ≠ gb484 ∧ k_ ≠ g) k_ from fun k_ hk => ⟨(Nat.le_trans (kS HK.out) hk), Kd.fresh' (Kd.R_lt (mR HO487.out)) k_ hk, fB BK480.out hk, fB BK483.out hk, fB BK484.out hk, IsS116.fresh (mI116_1 HI0.out) k_ hk⟩) _ (Nat.le_refl _)) (Below.refl _ _) (Nat.le_refl _) (by simp) ?_; (case hd => rfl); (case hg => rfl); (case hr => first | (go_simp; done) | (go_simp; rfl)); (case hp => exact (Reps.c5 (show Kd.FK k46 _ _ (⟨2, 0, (⟨3, t481⟩ : S37), ([] : List (S46))⟩ : S46) [.int .i64 2, .int .i64 0, .int .i64 3, .int .i64 t481, .slice none 0 0] from (k46_mkF _ _ (⟨2, 0, (⟨3, t481⟩ : S37), ([] : List (S46))⟩ : S46) (Nat.le_refl _) (Kd.F_nil _ _ _))) (Reps.c5 (show Kd.FK k46 _ _ (⟨1, t488, (⟨0, 0⟩ : S37), ([] : List (S46))⟩ : S46) [.int .i64 1, .int .i64 t488, .int .i64 0, .int .i64 0, .slice none 0 0] from (k46_mkF _ _ (⟨1, t488, (⟨0, 0⟩ : S37), ([] : List (S46))⟩ : S46) (Nat.le_refl _) (Kd.F_nil _ _ _))) (Reps.none _ _))))
     intro v491 w24 ho25 hb hg_ hnew_
     clear hg_ hnew_
     (first | rw [← Ny490.out] at ho25 | (simp only [Int.reduceToNat] at ho25; rw [← Ny490.out] at ho25))
     have n_ := az (Kd.R_below (mR HO487.out) hb) <| az (Kd.N_lower ho25 (kS HK.out)) <| az (IsS116.below (mI116_1 HI0.out) hb) <| az (bB BK480.out hb) <| az (bB BK483.out hb) <| az (bB BK484.out hb) <| az (KeepBut.trans (mKp HK.out) (KeepBut.of_below hb g none) (.inl rfl)) <| z0 (below_step (mB116HI0 HB.out) hb)
     clear HO487 HI0 BK480 BK483 BK484 HK HB
     obtain ⟨HO487, HO492, HI0, BK480, BK483, BK484, HK, HB⟩ := n_
     clear hb ho25
     obtain ⟨Ao26, co26, eo26⟩ := Kd.N_slice HO492.out
     (first | subst eo26 | (injection eo26 with f1_ f2_ f3_; have f4_ := f1_.symm; have f5_ := f3_.symm; clear f1_ f2_ f3_; subst f4_; subst f5_))
     refine hK.out _ _ q103_1 (fun hHeld => ?_)
     clear hK K
     refine norm_ (a' := ?_) ?_ ?_
     rotate_left
     ·show Act.put _ (some 18) _ = _
      simp only [Act.put, List.setIfInBounds_toArray, List.set_cons_zero, List.set_cons_succ, i64_w, i32_w]
      rfl
     refine pure_ (i := 6) (N := some 19) (v := ?_) (a' := ?_) #[true, true, true, true, true, true, true, false, false] rfl rfl (any_of HT_.out (by kernel_rfl)) (fun _ _ _ h => h) (Or.inl ⟨by rfl, ?_⟩) ?_ ?_
     rotate_left
     ·intro w'
      go_simp
      with_reducible rfl
     rotate_left
     ·simp only [Act.put, List.setIfInBounds_toArray, List.set_cons_zero, List.set_cons_succ, i64_w, i32_w]
      rfl
     refine one_ (i := 7) (N := some 5) #[true, true, true, true, true, true, true, true, false] rfl rfl (one_of HT_.out (by kernel_rfl)) (by decide) (fun K hK => ?_)
     refine box_step ?hg (N := 5) ?hd (cs := #[.int .i64 0, .int .i64 0, .int .i64 0, .int .i64 0, .slice none 0 0]) (t := 46) ?hr ?_; (case hd => rfl); (case hg => rfl); (case hr => first | (go_simp; done) | (go_simp; rfl))
     intro gb493 hg w27 hbox hb
     have n_ := az (Kd.R_below (mR HO487.out) hb) <| az (Kd.N_below (Kd.N_elderB (mN HO492.out) gb493 (Nat.le_of_eq hg.symm)) hb) <| az (IsS116.below (mI116_1 HI0.out) hb) <| az (bB BK480.out hb) <| az (bB BK483.out hb) <| az (bB BK484.out hb) <| az (KeepBut.trans (mKp HK.out) (KeepBut.of_below hb g none) (.inl rfl)) <| az (below_step (mB116HI0 HB.out) hb) <| az (hbox) <| az ((gW hg HK.out)) <| az ((Nat.le_trans HW0.out (gW hg HK.out) : w0.heap.size ≤ gb493)) <| az ((nL hg BK480.out)) <| az ((nG hg BK480.out)) <| az ((nL hg BK483.out)) <| az ((nG hg BK483.out)) <| az ((nL hg BK484.out)) <| az ((nG hg BK484.out)) <| And.intro (z0 ((by rw [hg]; exact Nat.ne_of_lt (IsS116.lt (show IsS116 w0 _ g s0_0 t489 from mI116_1 HI0.out)) : g ≠ gb493))) <| z0 ((by rw [hg]; exact Nat.ne_of_gt (IsS116.lt (show IsS116 w0 _ g s0_0 t489 from mI116_1 HI0.out)) : gb493 ≠ g))
     clear HO487 HO492 HI0 BK480 BK483 BK484 HK HB
     obtain ⟨HO487, HO492, HI0, BK480, BK483, BK484, HK, HB, BK493, GW493, GE493, NB480_493, NB493_480, NB483_493, NB493_483, NB484_493, NB493_484, NB0_493, NB493_0⟩ := n_
     clear hb hbox hg
     refine hK.out _ _ q103_1 (fun hHeld => ?_)
     clear hK K
     refine norm_ (a' := ?_) ?_ ?_
     rotate_left
     ·show Act.put _ (some 5) _ = _
      simp only [Act.put, List.setIfInBounds_toArray, List.set_cons_zero, List.set_cons_succ, i64_w, i32_w]
      rfl
     exact norm_ q103_4 (hCont (.slice Ao22 y485.length co22, .slice Ao26 y490.length co26, gb493) _ ⟨hHeld, q103_8, (by (with_reducible repeat (first | apply Kd.N_alloc | apply Kd.N_drewN | apply Kd.N_drew)); exact Kd.N_mono HO492.out (fun _ hk => ⟨hk.1.1, ⟨hk.1.2.1, ⟨hk.1.2.2.2.2.2, ⟨hk.1.2.2.1, ⟨hk.1.2.2.2.1, ⟨hk.1.2.2.2.2.1, hk.2⟩⟩⟩⟩⟩⟩)), (mK BK480.out), (mK BK483.out), (mK BK484.out), (mK BK493.out), GW493.out, GE493.out, NB0_493.out, NB493_0.out, NB480_493.out, NB493_480.out, NB483_493.out, NB493_483.out, NB484_493.out, NB493_484.out, (mI116_1 HI0.out), (mKp HK.out), (mB116HI0 HB.out)⟩)
    ·skip
     refine box_step ?hg (N := 5) ?hd (cs := #[.int .i64 0, .int .i64 0, .int .i64 0, .int .i64 0, .slice none 0 0]) (t := 46) ?hr ?_; (case hd => rfl); (case hg => rfl); (case hr => first | (go_simp; done) | (go_simp; rfl))
     intro gb493 hg w24 hbox hb
     have n_ := az (Kd.R_below (mR HO487.out) hb) <| az (IsS116.below (mI116_1 HI0.out) hb) <| az (bB BK480.out hb) <| az (bB BK483.out hb) <| az (bB BK484.out hb) <| az (KeepBut.trans (mKp HK.out) (KeepBut.of_below hb g none) (.inl rfl)) <| az (below_step (mB116HI0 HB.out) hb) <| az (hbox) <| az ((gW hg HK.out)) <| az ((Nat.le_trans HW0.out (gW hg HK.out) : w0.heap.size ≤ gb493)) <| az ((nL hg BK480.out)) <| az ((nG hg BK480.out)) <| az ((nL hg BK483.out)) <| az ((nG hg BK483.out)) <| az ((nL hg BK484.out)) <| az ((nG hg BK484.out)) <| And.intro (z0 ((by rw [hg]; exact Nat.ne_of_lt (IsS116.lt (show IsS116 w0 _ g s0_0 t489 from mI116_1 HI0.out)) : g ≠ gb493))) <| z0 ((by rw [hg]; exact Nat.ne_of_gt (IsS116.lt (show IsS116 w0 _ g s0_0 t489 from mI116_1 HI0.out)) : gb493 ≠ g))
     clear HO487 HI0 BK480 BK483 BK484 HK HB
     obtain ⟨HO487, HI0, BK480, BK483, BK484, HK, HB, BK493, GW493, GE493, NB480_493, NB493_480, NB483_493, NB493_483, NB484_493, NB493_484, NB0_493, NB493_0⟩ := n_
     clear hb hbox hg
     refine hK.out _ _ q103_1 (fun hHeld => ?_)
     clear hK K
     refine norm_ (a' := ?_) ?_ ?_
     rotate_left
     ·show Act.put _ (some 5) _ = _
      simp only [Act.put, List.setIfInBounds_toArray, List.set_cons_zero, List.set_cons_succ, i64_w, i32_w]
      rfl
     refine one_ (i := 5) (N := some 18) #[true, true, true, true, true, true, false, true, false] rfl rfl (one_of HT_.out (by kernel_rfl)) (by decide) (fun K hK => ?_)
     refine Kd.N_lit_step k46 _ 46 ?hg (N' := 18) ?hd (xs := ([(⟨2, 0, (⟨3, t481⟩ : S37), ([] : List (S46))⟩ : S46), (⟨1, t488, (⟨0, 0⟩ : S37), ([] : List (S46))⟩ : S46)] : List (S46))) (inner := [.int .i64 2, .int .i64 0, .int .i64 3, .int .i64 t481, .slice none 0 0, .int .i64 1, .int .i64 t488, .int .i64 0, .int .i64 0, .slice none 0 0]) (ok := (fun k_ => (w.heap.size ≤ k_) ∧ nB k_ (.slice Ao22 y485.length co22) ∧ k_ ≠ gb480 ∧ k_ ≠ gb483 ∧ k_ ≠ gb484 ∧ k_ ≠ gb493 ∧ k_ ≠ g)) (okp := (fun k_ => (w.heap.size ≤ k_) ∧ nB k_ (.slice Ao22 y485.length co22) ∧ k_ ≠ gb480 ∧ k_ ≠ gb483 ∧ k_ ≠ gb484 ∧ k_ ≠ gb493 ∧ k_ ≠ g)) ?hr ?hp (fun _ hk => hk) ((show ∀ k_, w24.heap.size ≤ k_ → (fun k_ => (w.heap.size ≤ k_) ∧ nB k_ (.slice Ao22 y485.length co22) ∧ k_ ≠ gb480 ∧ k_ ≠ gb483 ∧ k_ ≠ gb484 ∧ k_ ≠ gb493 ∧ k_ ≠ g) k_ from fun k_ hk => ⟨(Nat.le_trans (kS HK.out) hk), Kd.fresh' (Kd.R_lt (mR HO487.out)) k_ hk, fB BK480.out hk, fB BK483.out hk, fB BK484.out hk, fB BK493.out hk, IsS116.fresh (mI116_1 HI0.out) k_ hk⟩) _ (Nat.le_refl _)) (Below.refl _ _) (Nat.le_refl _) (by simp) ?_; (case hd => rfl); (case hg => rfl); (case hr => first | (go_simp; done) | (go_simp; rfl)); (case hp => exact (Reps.c5 (show Kd.FK k46 _ _ (⟨2, 0, (⟨3, t481⟩ : S37), ([] : List (S46))⟩ : S46) [.int .i64 2, .int .i64 0, .int .i64 3, .int .i64 t481, .slice none 0 0] from (k46_mkF _ _ (⟨2, 0, (⟨3, t481⟩ : S37), ([] : List (S46))⟩ : S46) (Nat.le_refl _) (Kd.F_nil _ _ _))) (Reps.c5 (show Kd.FK k46 _ _ (⟨1, t488, (⟨0, 0⟩ : S37), ([] : List (S46))⟩ : S46) [.int .i64 1, .int .i64 t488, .int .i64 0, .int .i64 0, .slice none 0 0] from (k46_mkF _ _ (⟨1, t488, (⟨0, 0⟩ : S37), ([] : List (S46))⟩ : S46) (Nat.le_refl _) (Kd.F_nil _ _ _))) (Reps.none _ _))))
     intro v491 w25 ho26 hb hg_ hnew_
     clear hg_ hnew_
     (first | rw [← Ny490.out] at ho26 | (simp only [Int.reduceToNat] at ho26; rw [← Ny490.out] at ho26))
     have n_ := az (Kd.R_below (mR HO487.out) hb) <| az (Kd.N_lower ho26 (kS HK.out)) <| az (IsS116.below (mI116_1 HI0.out) hb) <| az (bB BK480.out hb) <| az (bB BK483.out hb) <| az (bB BK484.out hb) <| az (bB BK493.out hb) <| az (KeepBut.trans (mKp HK.out) (KeepBut.of_below hb g none) (.inl rfl)) <| z0 (below_step (mB116HI0 HB.out) hb)
     clear HO487 HI0 BK480 BK483 BK484 BK493 HK HB
     obtain ⟨HO487, HO492, HI0, BK480, BK483, BK484, BK493, HK, HB⟩ := n_
     clear hb ho26
     obtain ⟨Ao27, co27, eo27⟩ := Kd.N_slice HO492.out
     (first | subst eo27 | (injection eo27 with f1_ f2_ f3_; have f4_ := f1_.symm; have f5_ := f3_.symm; clear f1_ f2_ f3_; subst f4_; subst f5_))
     refine hK.out _ _ q103_1 (fun hHeld => ?_)
     clear hK K
     refine norm_ (a' := ?_) ?_ ?_
     rotate_left
     ·show Act.put _ (some 18) _ = _
      simp only [Act.put, List.setIfInBounds_toArray, List.set_cons_zero, List.set_cons_succ, i64_w, i32_w]
      rfl
     refine pure_ (i := 6) (N := some 19) (v := ?_) (a' := ?_) #[true, true, true, true, true, true, true, true, false] rfl rfl (any_of HT_.out (by kernel_rfl)) (fun _ _ _ h => h) (Or.inl ⟨by rfl, ?_⟩) ?_ ?_
     rotate_left
     ·intro w'
      go_simp
      with_reducible rfl
     rotate_left
     ·simp only [Act.put, List.setIfInBounds_toArray, List.set_cons_zero, List.set_cons_succ, i64_w, i32_w]
      rfl
     exact norm_ q103_4 (hCont (.slice Ao22 y485.length co22, .slice Ao27 y490.length co27, gb493) _ ⟨hHeld, q103_8, q103_6, (mK BK480.out), (mK BK483.out), (mK BK484.out), (mK BK493.out), GW493.out, GE493.out, NB0_493.out, NB493_0.out, NB480_493.out, NB493_480.out, NB483_493.out, NB493_483.out, NB484_493.out, NB493_484.out, (mI116_1 HI0.out), (mKp HK.out), (mB116HI0 HB.out)⟩)
   ·skip
    refine box_step ?hg (N := 5) ?hd (cs := #[.int .i64 0, .int .i64 0, .int .i64 0, .int .i64 0, .slice none 0 0]) (t := 46) ?hr ?_; (case hd => rfl); (case hg => rfl); (case hr => first | (go_simp; done) | (go_simp; rfl))
    intro gb493 hg w22 hbox hb
    have n_ := az (Kd.R_below (mR HO487.out) hb) <| az (IsS116.below (mI116_1 HI0.out) hb) <| az (bB BK480.out hb) <| az (bB BK483.out hb) <| az (bB BK484.out hb) <| az (KeepBut.trans (mKp HK.out) (KeepBut.of_below hb g none) (.inl rfl)) <| az (below_step (mB116HI0 HB.out) hb) <| az (hbox) <| az ((gW hg HK.out)) <| az ((Nat.le_trans HW0.out (gW hg HK.out) : w0.heap.size ≤ gb493)) <| az ((nL hg BK480.out)) <| az ((nG hg BK480.out)) <| az ((nL hg BK483.out)) <| az ((nG hg BK483.out)) <| az ((nL hg BK484.out)) <| az ((nG hg BK484.out)) <| And.intro (z0 ((by rw [hg]; exact Nat.ne_of_lt (IsS116.lt (show IsS116 w0 _ g s0_0 t482 from mI116_1 HI0.out)) : g ≠ gb493))) <| z0 ((by rw [hg]; exact Nat.ne_of_gt (IsS116.lt (show IsS116 w0 _ g s0_0 t482 from mI116_1 HI0.out)) : gb493 ≠ g))
    clear HO487 HI0 BK480 BK483 BK484 HK HB
    obtain ⟨HO487, HI0, BK480, BK483, BK484, HK, HB, BK493, GW493, GE493, NB480_493, NB493_480, NB483_493, NB493_483, NB484_493, NB493_484, NB0_493, NB493_0⟩ := n_
    clear hb hbox hg
    obtain ⟨Ao23, co23, eo23⟩ := Kd.R_slice HO487.out
    (first | subst eo23 | (injection eo23 with f1_ f2_ f3_; have f4_ := f1_.symm; have f5_ := f3_.symm; clear f1_ f2_ f3_; subst f4_; subst f5_))
    refine hK.out _ _ q103_1 (fun hHeld => ?_)
    clear hK K
    refine norm_ (a' := ?_) ?_ ?_
    rotate_left
    ·show Act.put _ (some 5) _ = _
     simp only [Act.put, List.setIfInBounds_toArray, List.set_cons_zero, List.set_cons_succ, i64_w, i32_w]
     rfl
    refine one_ (i := 3) (N := some 16) #[true, true, true, true, false, false, false, true, false] rfl rfl (one_of HT_.out (by kernel_rfl)) (by decide) (fun K hK => ?_)
    refine goes_ Try.func74 (by kernel_rfl) rfl #[.pointer (some ⟨g, 0, none⟩), .slice Ao23 y485.length co23] (by rfl) rfl rfl argx ?_
    with_reducible refine (spec_l12Rd_num.calls k g s0_0 t482 _ _ y485 t488 t489 w0 _ ?side1 ?side2 ?side3 ?side4 ?side5 A3.out).mono ?_
    (case side1 => exact mI116_1 HI0.out)
    (case side2 => exact mB116HI0 HB.out)
    (case side3 => exact mC (Kd.R_reads' HO487.out).2.2)
    (case side4 => exact (Kd.R_reads' HO487.out).2.1)
    (case side5 => exact far_slice (IsS116.own_ne HI0.out HO487.out (by decide)))
    rintro e w24 ⟨rfl, hi, hb, hk⟩
    refine ⟨_, rfl, ?_⟩
    have n_ := az (kB hk BK480.out NB480_0.out) <| az (kB hk BK483.out NB483_0.out) <| az (kB hk BK484.out NB484_0.out) <| And.intro (z0 (Kd.R_mono (Kd.R_keep (IsS116.apart (show IsS116 w0 _ g s0_0 t482 from mI116_1 HI0.out) (mR HO487.out) (by decide)) hk (fun _ h => h.2)) (fun _ h => h.1))) <| az (kB hk BK493.out NB493_0.out) <| az (KeepBut.trans (mKp HK.out) hk (.inl rfl)) <| az (hb) <| z0 (hi)
    clear BK480 BK483 BK484 HO487 BK493 HK HB HI0
    obtain ⟨BK480, BK483, BK484, HO487, BK493, HK, HB, HI0⟩ := n_
    (try clear hb)
    (try clear hb2)
    (try clear hk)
    (try clear hi)
    refine hK.out _ _ q103_1 (fun hHeld => ?_)
    clear hK K
    refine norm_ (a' := ?_) ?_ ?_
    rotate_left
    ·show Act.put _ (some 16) _ = _
     simp only [Act.put, List.setIfInBounds_toArray, List.set_cons_zero, List.set_cons_succ, i64_w, i32_w]
     rfl
    refine pure_ (i := 4) (N := some 17) (v := ?_) (a' := ?_) #[true, true, true, true, true, false, false, true, false] rfl rfl (any_of HT_.out (by kernel_rfl)) (fun _ _ _ h => h) (Or.inl ⟨by rfl, ?_⟩) ?_ ?_
    rotate_left
    ·intro w'
     go_simp
     with_reducible rfl
    rotate_left
    ·simp only [Act.put, List.setIfInBounds_toArray, List.set_cons_zero, List.set_cons_succ, i64_w, i32_w]
     rfl
    refine one_ (i := 5) (N := some 18) #[true, true, true, true, true, true, false, true, false] rfl rfl (one_of HT_.out (by kernel_rfl)) (by decide) (fun K hK => ?_)
    refine Kd.N_lit_step k46 _ 46 ?hg (N' := 18) ?hd (xs := ([(⟨2, 0, (⟨3, t481⟩ : S37), ([] : List (S46))⟩ : S46), (⟨1, t488, (⟨0, 0⟩ : S37), ([] : List (S46))⟩ : S46)] : List (S46))) (inner := [.int .i64 2, .int .i64 0, .int .i64 3, .int .i64 t481, .slice none 0 0, .int .i64 1, .int .i64 t488, .int .i64 0, .int .i64 0, .slice none 0 0]) (ok := (fun k_ => (w.heap.size ≤ k_) ∧ nB k_ (.slice Ao23 y485.length co23) ∧ k_ ≠ gb480 ∧ k_ ≠ gb483 ∧ k_ ≠ gb484 ∧ k_ ≠ gb493 ∧ k_ ≠ g)) (okp := (fun k_ => (w.heap.size ≤ k_) ∧ nB k_ (.slice Ao23 y485.length co23) ∧ k_ ≠ gb480 ∧ k_ ≠ gb483 ∧ k_ ≠ gb484 ∧ k_ ≠ gb493 ∧ k_ ≠ g)) ?hr ?hp (fun _ hk => hk) ((show ∀ k_, w24.heap.size ≤ k_ → (fun k_ => (w.heap.size ≤ k_) ∧ nB k_ (.slice Ao23 y485.length co23) ∧ k_ ≠ gb480 ∧ k_ ≠ gb483 ∧ k_ ≠ gb484 ∧ k_ ≠ gb493 ∧ k_ ≠ g) k_ from fun k_ hk => ⟨(Nat.le_trans (kS HK.out) hk), Kd.fresh' (Kd.R_lt (mR HO487.out)) k_ hk, fB BK480.out hk, fB BK483.out hk, fB BK484.out hk, fB BK493.out hk, IsS116.fresh (mI116_1 HI0.out) k_ hk⟩) _ (Nat.le_refl _)) (Below.refl _ _) (Nat.le_refl _) (by simp) ?_; (case hd => rfl); (case hg => rfl); (case hr => first | (go_simp; done) | (go_simp; rfl)); (case hp => exact (Reps.c5 (show Kd.FK k46 _ _ (⟨2, 0, (⟨3, t481⟩ : S37), ([] : List (S46))⟩ : S46) [.int .i64 2, .int .i64 0, .int .i64 3, .int .i64 t481, .slice none 0 0] from (k46_mkF _ _ (⟨2, 0, (⟨3, t481⟩ : S37), ([] : List (S46))⟩ : S46) (Nat.le_refl _) (Kd.F_nil _ _ _))) (Reps.c5 (show Kd.FK k46 _ _ (⟨1, t488, (⟨0, 0⟩ : S37), ([] : List (S46))⟩ : S46) [.int .i64 1, .int .i64 t488, .int .i64 0, .int .i64 0, .slice none 0 0] from (k46_mkF _ _ (⟨1, t488, (⟨0, 0⟩ : S37), ([] : List (S46))⟩ : S46) (Nat.le_refl _) (Kd.F_nil _ _ _))) (Reps.none _ _))))
    intro v491 w25 ho26 hb hg_ hnew_
    clear hg_ hnew_
    (first | rw [← Ny490.out] at ho26 | (simp only [Int.reduceToNat] at ho26; rw [← Ny490.out] at ho26))
    have n_ := az (Kd.R_below (mR HO487.out) hb) <| az (Kd.N_lower ho26 (kS HK.out)) <| az (IsS116.below (mI116_1 HI0.out) hb) <| az (bB BK480.out hb) <| az (bB BK483.out hb) <| az (bB BK484.out hb) <| az (bB BK493.out hb) <| az (KeepBut.trans (mKp HK.out) (KeepBut.of_below hb g none) (.inl rfl)) <| z0 (below_step (mB116HI0 HB.out) hb)
    clear HO487 HI0 BK480 BK483 BK484 BK493 HK HB
    obtain ⟨HO487, HO492, HI0, BK480, BK483, BK484, BK493, HK, HB⟩ := n_
    clear hb ho26
    obtain ⟨Ao27, co27, eo27⟩ := Kd.N_slice HO492.out
    (first | subst eo27 | (injection eo27 with f1_ f2_ f3_; have f4_ := f1_.symm; have f5_ := f3_.symm; clear f1_ f2_ f3_; subst f4_; subst f5_))
    refine hK.out _ _ q103_1 (fun hHeld => ?_)
    clear hK K
    refine norm_ (a' := ?_) ?_ ?_
    rotate_left
    ·show Act.put _ (some 18) _ = _
     simp only [Act.put, List.setIfInBounds_toArray, List.set_cons_zero, List.set_cons_succ, i64_w, i32_w]
     rfl
    refine pure_ (i := 6) (N := some 19) (v := ?_) (a' := ?_) #[true, true, true, true, true, true, true, true, false] rfl rfl (any_of HT_.out (by kernel_rfl)) (fun _ _ _ h => h) (Or.inl ⟨by rfl, ?_⟩) ?_ ?_
    rotate_left
    ·intro w'
     go_simp
     with_reducible rfl
    rotate_left
    ·simp only [Act.put, List.setIfInBounds_toArray, List.set_cons_zero, List.set_cons_succ, i64_w, i32_w]
     rfl
    exact norm_ q103_4 (hCont (.slice Ao23 y485.length co23, .slice Ao27 y490.length co27, gb493) _ ⟨hHeld, q103_8, q103_6, (mK BK480.out), (mK BK483.out), (mK BK484.out), (mK BK493.out), GW493.out, GE493.out, NB0_493.out, NB493_0.out, NB480_493.out, NB493_480.out, NB483_493.out, NB493_483.out, NB484_493.out, NB493_484.out, (mI116_1 HI0.out), (mKp HK.out), (mB116HI0 HB.out)⟩)
  ·skip
   refine box_step ?hg (N := 5) ?hd (cs := #[.int .i64 0, .int .i64 0, .int .i64 0, .int .i64 0, .slice none 0 0]) (t := 46) ?hr ?_; (case hd => rfl); (case hg => rfl); (case hr => first | (go_simp; done) | (go_simp; rfl))
   intro gb493 hg w20 hbox hb
   have n_ := az (IsS116.below (mI116_1 HI0.out) hb) <| az (bB BK480.out hb) <| az (bB BK483.out hb) <| az (bB BK484.out hb) <| az (KeepBut.trans (mKp HK.out) (KeepBut.of_below hb g none) (.inl rfl)) <| az (below_step (mB116HI0 HB.out) hb) <| az (hbox) <| az ((gW hg HK.out)) <| az ((Nat.le_trans HW0.out (gW hg HK.out) : w0.heap.size ≤ gb493)) <| az ((nL hg BK480.out)) <| az ((nG hg BK480.out)) <| az ((nL hg BK483.out)) <| az ((nG hg BK483.out)) <| az ((nL hg BK484.out)) <| az ((nG hg BK484.out)) <| And.intro (z0 ((by rw [hg]; exact Nat.ne_of_lt (IsS116.lt (show IsS116 w0 _ g s0_0 t482 from mI116_1 HI0.out)) : g ≠ gb493))) <| z0 ((by rw [hg]; exact Nat.ne_of_gt (IsS116.lt (show IsS116 w0 _ g s0_0 t482 from mI116_1 HI0.out)) : gb493 ≠ g))
   clear HI0 BK480 BK483 BK484 HK HB
   obtain ⟨HI0, BK480, BK483, BK484, HK, HB, BK493, GW493, GE493, NB480_493, NB493_480, NB483_493, NB493_483, NB484_493, NB493_484, NB0_493, NB493_0⟩ := n_
   clear hb hbox hg
   refine hK.out _ _ q103_1 (fun hHeld => ?_)
   clear hK K
   refine norm_ (a' := ?_) ?_ ?_
   rotate_left
   ·show Act.put _ (some 5) _ = _
    simp only [Act.put, List.setIfInBounds_toArray, List.set_cons_zero, List.set_cons_succ, i64_w, i32_w]
    rfl
   refine one_ (i := 2) (N := some 15) #[true, true, true, false, false, false, false, true, false] rfl rfl (one_of HT_.out (by kernel_rfl)) (by decide) (fun K hK => ?_)
   refine Kd.R_lit_step (Kd.int .i64) _ 3 ?hg (N := 15) ?hd (xs := ([1, 3, 5, 9, 200] : List Int)) (inner := [.int .i64 1, .int .i64 3, .int .i64 5, .int .i64 9, .int .i64 200]) (ok := fun _ => True) (okp := fun _ => True) ?hr ?hp (fun _ hk => hk) trivial (Below.refl _ _) (Nat.le_refl _) (by simp) ?_; (case hd => rfl); (case hg => rfl); (case hr => first | (go_simp; done) | (go_simp; rfl)); (case hp => exact (Reps.one (show Kd.M (Kd.int .i64) _ _ _ 1 [.int .i64 1] from rfl) (Reps.one (show Kd.M (Kd.int .i64) _ _ _ 3 [.int .i64 3] from rfl) (Reps.one (show Kd.M (Kd.int .i64) _ _ _ 5 [.int .i64 5] from rfl) (Reps.one (show Kd.M (Kd.int .i64) _ _ _ 9 [.int .i64 9] from rfl) (Reps.one (show Kd.M (Kd.int .i64) _ _ _ 200 [.int .i64 200] from rfl) (Reps.none _ _)))))))
   intro v486 w21 ho22 hb hg_ hnew_
   clear hg_ hnew_
   (first | rw [← Ny485.out] at ho22 | (simp only [Int.reduceToNat] at ho22; rw [← Ny485.out] at ho22))
   have n_ := And.intro (z0 (Kd.R_lower (Kd.R_newM (M := fun k_ => (w.heap.size ≤ k_)) ho22 (kS HK.out) (fun k_ h_ => h_)) (kS HK.out))) <| az (IsS116.below (mI116_1 HI0.out) hb) <| az (bB BK480.out hb) <| az (bB BK483.out hb) <| az (bB BK484.out hb) <| az (bB BK493.out hb) <| az (KeepBut.trans (mKp HK.out) (KeepBut.of_below hb g none) (.inl rfl)) <| z0 (below_step (mB116HI0 HB.out) hb)
   clear HI0 BK480 BK483 BK484 BK493 HK HB
   obtain ⟨HO487, HI0, BK480, BK483, BK484, BK493, HK, HB⟩ := n_
   clear hb ho22
   obtain ⟨Ao23, co23, eo23⟩ := Kd.R_slice HO487.out
   (first | subst eo23 | (injection eo23 with f1_ f2_ f3_; have f4_ := f1_.symm; have f5_ := f3_.symm; clear f1_ f2_ f3_; subst f4_; subst f5_))
   refine hK.out _ _ q103_1 (fun hHeld => ?_)
   clear hK K
   refine norm_ (a' := ?_) ?_ ?_
   rotate_left
   ·show Act.put _ (some 15) _ = _
    simp only [Act.put, List.setIfInBounds_toArray, List.set_cons_zero, List.set_cons_succ, i64_w, i32_w]
    rfl
   refine one_ (i := 3) (N := some 16) #[true, true, true, true, false, false, false, true, false] rfl rfl (one_of HT_.out (by kernel_rfl)) (by decide) (fun K hK => ?_)
   refine goes_ Try.func74 (by kernel_rfl) rfl #[.pointer (some ⟨g, 0, none⟩), .slice Ao23 y485.length co23] (by rfl) rfl rfl argx ?_
   with_reducible refine (spec_l12Rd_num.calls k g s0_0 t482 _ _ y485 t488 t489 w0 _ ?side1 ?side2 ?side3 ?side4 ?side5 A3.out).mono ?_
   (case side1 => exact mI116_1 HI0.out)
   (case side2 => exact mB116HI0 HB.out)
   (case side3 => exact mC (Kd.R_reads' HO487.out).2.2)
   (case side4 => exact (Kd.R_reads' HO487.out).2.1)
   (case side5 => exact far_slice (IsS116.own_ne HI0.out HO487.out (by decide)))
   rintro e w24 ⟨rfl, hi, hb, hk⟩
   refine ⟨_, rfl, ?_⟩
   have n_ := az (kB hk BK480.out NB480_0.out) <| az (kB hk BK483.out NB483_0.out) <| az (kB hk BK484.out NB484_0.out) <| az (kB hk BK493.out NB493_0.out) <| And.intro (z0 (Kd.R_mono (Kd.R_keep (IsS116.apart (show IsS116 w0 _ g s0_0 t482 from mI116_1 HI0.out) (mR HO487.out) (by decide)) hk (fun _ h => h.2)) (fun _ h => h.1))) <| az (KeepBut.trans (mKp HK.out) hk (.inl rfl)) <| az (hb) <| z0 (hi)
   clear BK480 BK483 BK484 BK493 HO487 HK HB HI0
   obtain ⟨BK480, BK483, BK484, BK493, HO487, HK, HB, HI0⟩ := n_
   (try clear hb)
   (try clear hb2)
   (try clear hk)
   (try clear hi)
   refine hK.out _ _ q103_1 (fun hHeld => ?_)
   clear hK K
   refine norm_ (a' := ?_) ?_ ?_
   rotate_left
   ·show Act.put _ (some 16) _ = _
    simp only [Act.put, List.setIfInBounds_toArray, List.set_cons_zero, List.set_cons_succ, i64_w, i32_w]
    rfl
   refine pure_ (i := 4) (N := some 17) (v := ?_) (a' := ?_) #[true, true, true, true, true, false, false, true, false] rfl rfl (any_of HT_.out (by kernel_rfl)) (fun _ _ _ h => h) (Or.inl ⟨by rfl, ?_⟩) ?_ ?_
   rotate_left
   ·intro w'
    go_simp
    with_reducible rfl
   rotate_left
   ·simp only [Act.put, List.setIfInBounds_toArray, List.set_cons_zero, List.set_cons_succ, i64_w, i32_w]
    rfl
   refine one_ (i := 5) (N := some 18) #[true, true, true, true, true, true, false, true, false] rfl rfl (one_of HT_.out (by kernel_rfl)) (by decide) (fun K hK => ?_)
   refine Kd.N_lit_step k46 _ 46 ?hg (N' := 18) ?hd (xs := ([(⟨2, 0, (⟨3, t481⟩ : S37), ([] : List (S46))⟩ : S46), (⟨1, t488, (⟨0, 0⟩ : S37), ([] : List (S46))⟩ : S46)] : List (S46))) (inner := [.int .i64 2, .int .i64 0, .int .i64 3, .int .i64 t481, .slice none 0 0, .int .i64 1, .int .i64 t488, .int .i64 0, .int .i64 0, .slice none 0 0]) (ok := (fun k_ => (w.heap.size ≤ k_) ∧ nB k_ (.slice Ao23 y485.length co23) ∧ k_ ≠ gb480 ∧ k_ ≠ gb483 ∧ k_ ≠ gb484 ∧ k_ ≠ gb493 ∧ k_ ≠ g)) (okp := (fun k_ => (w.heap.size ≤ k_) ∧ nB k_ (.slice Ao23 y485.length co23) ∧ k_ ≠ gb480 ∧ k_ ≠ gb483 ∧ k_ ≠ gb484 ∧ k_ ≠ gb493 ∧ k_ ≠ g)) ?hr ?hp (fun _ hk => hk) ((show ∀ k_, w24.heap.size ≤ k_ → (fun k_ => (w.heap.size ≤ k_) ∧ nB k_ (.slice Ao23 y485.length co23) ∧ k_ ≠ gb480 ∧ k_ ≠ gb483 ∧ k_ ≠ gb484 ∧ k_ ≠ gb493 ∧ k_ ≠ g) k_ from fun k_ hk => ⟨(Nat.le_trans (kS HK.out) hk), Kd.fresh' (Kd.R_lt (mR HO487.out)) k_ hk, fB BK480.out hk, fB BK483.out hk, fB BK484.out hk, fB BK493.out hk, IsS116.fresh (mI116_1 HI0.out) k_ hk⟩) _ (Nat.le_refl _)) (Below.refl _ _) (Nat.le_refl _) (by simp) ?_; (case hd => rfl); (case hg => rfl); (case hr => first | (go_simp; done) | (go_simp; rfl)); (case hp => exact (Reps.c5 (show Kd.FK k46 _ _ (⟨2, 0, (⟨3, t481⟩ : S37), ([] : List (S46))⟩ : S46) [.int .i64 2, .int .i64 0, .int .i64 3, .int .i64 t481, .slice none 0 0] from (k46_mkF _ _ (⟨2, 0, (⟨3, t481⟩ : S37), ([] : List (S46))⟩ : S46) (Nat.le_refl _) (Kd.F_nil _ _ _))) (Reps.c5 (show Kd.FK k46 _ _ (⟨1, t488, (⟨0, 0⟩ : S37), ([] : List (S46))⟩ : S46) [.int .i64 1, .int .i64 t488, .int .i64 0, .int .i64 0, .slice none 0 0] from (k46_mkF _ _ (⟨1, t488, (⟨0, 0⟩ : S37), ([] : List (S46))⟩ : S46) (Nat.le_refl _) (Kd.F_nil _ _ _))) (Reps.none _ _))))
   intro v491 w25 ho26 hb hg_ hnew_
   clear hg_ hnew_
   (first | rw [← Ny490.out] at ho26 | (simp only [Int.reduceToNat] at ho26; rw [← Ny490.out] at ho26))
   have n_ := az (Kd.R_below (mR HO487.out) hb) <| az (Kd.N_lower ho26 (kS HK.out)) <| az (IsS116.below (mI116_1 HI0.out) hb) <| az (bB BK480.out hb) <| az (bB BK483.out hb) <| az (bB BK484.out hb) <| az (bB BK493.out hb) <| az (KeepBut.trans (mKp HK.out) (KeepBut.of_below hb g none) (.inl rfl)) <| z0 (below_step (mB116HI0 HB.out) hb)
   clear HO487 HI0 BK480 BK483 BK484 BK493 HK HB
   obtain ⟨HO487, HO492, HI0, BK480, BK483, BK484, BK493, HK, HB⟩ := n_
   clear hb ho26
   obtain ⟨Ao27, co27, eo27⟩ := Kd.N_slice HO492.out
   (first | subst eo27 | (injection eo27 with f1_ f2_ f3_; have f4_ := f1_.symm; have f5_ := f3_.symm; clear f1_ f2_ f3_; subst f4_; subst f5_))
   refine hK.out _ _ q103_1 (fun hHeld => ?_)
   clear hK K
   refine norm_ (a' := ?_) ?_ ?_
   rotate_left
   ·show Act.put _ (some 18) _ = _
    simp only [Act.put, List.setIfInBounds_toArray, List.set_cons_zero, List.set_cons_succ, i64_w, i32_w]
    rfl
   refine pure_ (i := 6) (N := some 19) (v := ?_) (a' := ?_) #[true, true, true, true, true, true, true, true, false] rfl rfl (any_of HT_.out (by kernel_rfl)) (fun _ _ _ h => h) (Or.inl ⟨by rfl, ?_⟩) ?_ ?_
   rotate_left
   ·intro w'
    go_simp
    with_reducible rfl
   rotate_left
   ·simp only [Act.put, List.setIfInBounds_toArray, List.set_cons_zero, List.set_cons_succ, i64_w, i32_w]
    rfl
   exact norm_ q103_4 (hCont (.slice Ao23 y485.length co23, .slice Ao27 y490.length co27, gb493) _ ⟨hHeld, q103_8, q103_6, (mK BK480.out), (mK BK483.out), (mK BK484.out), (mK BK493.out), GW493.out, GE493.out, NB0_493.out, NB493_0.out, NB480_493.out, NB493_480.out, NB483_493.out, NB493_483.out, NB484_493.out, NB493_484.out, (mI116_1 HI0.out), (mKp HK.out), (mB116HI0 HB.out)⟩)
 rintro ⟨v486, v491, gb493⟩ w28 ⟨hS_, h0_, h1_, h2_, h3_, h4_, h5_, h6_, h7_, h8_, h9_, h10_, h11_, h12_, h13_, h14_, h15_, h16_, h17_, h18_⟩
 have n0_ : Aside0 (Kd.R (Kd.int .i64) 3 w28 w.heap.size (fun k_ => (w.heap.size ≤ k_)) v486 y485) := ⟨h0_⟩
 have n1_ : Aside0 (Kd.N k46 46 w28 w.heap.size (fun k_ => (w.heap.size ≤ k_) ∧ nB k_ v486 ∧ k_ ≠ g ∧ k_ ≠ gb480 ∧ k_ ≠ gb483 ∧ k_ ≠ gb484 ∧ k_ ≠ gb493) v491 y490) := ⟨h1_⟩
 have n2_ : Aside0 (w28.heap[gb480]? = some (.cells #[.int .i64 0, .int .i64 0, .int .i64 0, .int .i64 0, .int .i64 0, .int .i64 0, .int .i64 0, .slice none 0 0, .slice none 0 0, .slice none 0 0] 69 (0, 0))) := ⟨h2_⟩
 have n3_ : Aside0 (w28.heap[gb483]? = some (.cells #[.int .i64 3, .int .i64 t481] 37 (0, 0))) := ⟨h3_⟩
 have n4_ : Aside0 (w28.heap[gb484]? = some (.cells #[.int .i64 2, .int .i64 0, .int .i64 3, .int .i64 t481, .slice none 0 0] 46 (0, 0))) := ⟨h4_⟩
 have n5_ : Aside0 (w28.heap[gb493]? = some (.cells #[.int .i64 0, .int .i64 0, .int .i64 0, .int .i64 0, .slice none 0 0] 46 (0, 0))) := ⟨h5_⟩
 have n6_ : Aside0 (w.heap.size ≤ gb493) := ⟨h6_⟩
 have n7_ : Aside0 (w0.heap.size ≤ gb493) := ⟨h7_⟩
 have n8_ : Aside0 (g ≠ gb493) := ⟨h8_⟩
 have n9_ : Aside0 (gb493 ≠ g) := ⟨h9_⟩
 have n10_ : Aside0 (gb480 ≠ gb493) := ⟨h10_⟩
 have n11_ : Aside0 (gb493 ≠ gb480) := ⟨h11_⟩
 have n12_ : Aside0 (gb483 ≠ gb493) := ⟨h12_⟩
 have n13_ : Aside0 (gb493 ≠ gb483) := ⟨h13_⟩
 have n14_ : Aside0 (gb484 ≠ gb493) := ⟨h14_⟩
 have n15_ : Aside0 (gb493 ≠ gb484) := ⟨h15_⟩
 have n16_ : Aside0 (IsS116 w0 w28 g s0_0 t489) := ⟨h16_⟩
 have n17_ : Aside0 (KeepBut w w28 g none) := ⟨h17_⟩
 have n18_ : Aside0 (Below w0.heap.size w0 w28) := ⟨h18_⟩
 clear BK480 BK483 BK484 HI0 HK HB h0_ h1_ h2_ h3_ h4_ h5_ h6_ h7_ h8_ h9_ h10_ h11_ h12_ h13_ h14_ h15_ h16_ h17_ h18_
 have HO487 := n0_
 have HO492 := n1_
 have BK480 := n2_
 have BK483 := n3_
 have BK484 := n4_
 have BK493 := n5_
 have GW493 := n6_
 have GE493 := n7_
 have NB0_493 := n8_
 have NB493_0 := n9_
 have NB480_493 := n10_
 have NB493_480 := n11_
 have NB483_493 := n12_
 have NB493_483 := n13_
 have NB484_493 := n14_
 have NB493_484 := n15_
 have HI0 := n16_
 have HK := n17_
 have HB := n18_
 clear n0_ n1_ n2_ n3_ n4_ n5_ n6_ n7_ n8_ n9_ n10_ n11_ n12_ n13_ n14_ n15_ n16_ n17_ n18_
 have hHeld : w28.cell? ⟨gb484, 0, none⟩ = some (.int .i64 2) ∧ w28.cell? ⟨gb484, 1, none⟩ = some (.int .i64 0) ∧ w28.cell? ⟨gb484, 2, none⟩ = some (.int .i64 3) ∧ w28.cell? ⟨gb484, 3, none⟩ = some (.int .i64 t481) ∧ w28.cell? ⟨gb484, 4, none⟩ = some (.slice none 0 0) := hS_
 obtain ⟨Ao29, co29, eo29⟩ := Kd.N_slice HO492.out
 (first | subst eo29 | (injection eo29 with f1_ f2_ f3_; have f4_ := f1_.symm; have f5_ := f3_.symm; clear f1_ f2_ f3_; subst f4_; subst f5_))
 refine norm_ (a' := ?_) ?_ ?_
 rotate_left
 ·simp only [putAll, Act.put, List.setIfInBounds_toArray, List.set_cons_zero, List.set_cons_succ]
  rfl
 refine one_ (i := 8) (N := none) #[true, true, true, true, true, true, true, true, true] rfl rfl (one_of HT_.out (by kernel_rfl)) (by decide) (fun K hK => ?_)
 have hs30 : w28.cell? ⟨gb493, 0, none⟩ = some (.int .i64 0) := (blk_cell BK493.out 0).trans rfl
 have hfs30 := blk_frozen BK493.out 0
 have hns30_0 := NB480_493.out
 have hns30_1 := NB483_493.out
 have hns30_2 := NB484_493.out
 have hms30_0 := NB493_480.out
 have hms30_1 := NB493_483.out
 have hms30_2 := NB493_484.out
 have hs31 : w28.cell? ⟨gb493, 1, none⟩ = some (.int .i64 0) := (blk_cell BK493.out 1).trans rfl
 have hfs31 := blk_frozen BK493.out 1
 have hns31_0 := NB480_493.out
 have hns31_1 := NB483_493.out
 have hns31_2 := NB484_493.out
 have hms31_0 := NB493_480.out
 have hms31_1 := NB493_483.out
 have hms31_2 := NB493_484.out
 have hs32 : w28.cell? ⟨gb493, 2, none⟩ = some (.int .i64 0) := (blk_cell BK493.out 2).trans rfl
 have hfs32 := blk_frozen BK493.out 2
 have hns32_0 := NB480_493.out
 have hns32_1 := NB483_493.out
 have hns32_2 := NB484_493.out
 have hms32_0 := NB493_480.out
 have hms32_1 := NB493_483.out
 have hms32_2 := NB493_484.out
 have hs33 : w28.cell? ⟨gb493, 3, none⟩ = some (.int .i64 0) := (blk_cell BK493.out 3).trans rfl
 have hfs33 := blk_frozen BK493.out 3
 have hns33_0 := NB480_493.out
 have hns33_1 := NB483_493.out
 have hns33_2 := NB484_493.out
 have hms33_0 := NB493_480.out
 have hms33_1 := NB493_483.out
 have hms33_2 := NB493_484.out
 have hs34 : w28.cell? ⟨gb493, 4, none⟩ = some (.slice none 0 0) := (blk_cell BK493.out 4).trans rfl
 have hfs34 := blk_frozen BK493.out 4
 have hns34_0 := NB480_493.out
 have hns34_1 := NB483_493.out
 have hns34_2 := NB484_493.out
 have hms34_0 := NB493_480.out
 have hms34_1 := NB493_483.out
 have hms34_2 := NB493_484.out
 refine skip_ (w1 := ?_) (by rfl) rfl ?_ ?_
 rotate_left
 ·go_simp
  rfl
 refine hK.out _ _ ⟨((cell_far (p := ⟨gb493, _, none⟩) NB484_493.out _).trans (((cell_far (p := ⟨gb493, _, none⟩) NB484_493.out _).trans (((cell_far (p := ⟨gb493, _, none⟩) NB484_493.out _).trans (((cell_far (p := ⟨gb493, _, none⟩) NB484_493.out _).trans (((cell_far (p := ⟨gb493, _, none⟩) NB484_493.out _).trans (hHeld.1)))))))))), ((cell_far (p := ⟨gb493, _, none⟩) NB484_493.out _).trans (((cell_far (p := ⟨gb493, _, none⟩) NB484_493.out _).trans (((cell_far (p := ⟨gb493, _, none⟩) NB484_493.out _).trans (((cell_far (p := ⟨gb493, _, none⟩) NB484_493.out _).trans (((cell_far (p := ⟨gb493, _, none⟩) NB484_493.out _).trans (hHeld.2.1)))))))))), ((cell_far (p := ⟨gb493, _, none⟩) NB484_493.out _).trans (((cell_far (p := ⟨gb493, _, none⟩) NB484_493.out _).trans (((cell_far (p := ⟨gb493, _, none⟩) NB484_493.out _).trans (((cell_far (p := ⟨gb493, _, none⟩) NB484_493.out _).trans (((cell_far (p := ⟨gb493, _, none⟩) NB484_493.out _).trans (hHeld.2.2.1)))))))))), ((cell_far (p := ⟨gb493, _, none⟩) NB484_493.out _).trans (((cell_far (p := ⟨gb493, _, none⟩) NB484_493.out _).trans (((cell_far (p := ⟨gb493, _, none⟩) NB484_493.out _).trans (((cell_far (p := ⟨gb493, _, none⟩) NB484_493.out _).trans (((cell_far (p := ⟨gb493, _, none⟩) NB484_493.out _).trans (hHeld.2.2.2.1)))))))))), ((cell_far (p := ⟨gb493, _, none⟩) NB484_493.out _).trans (((cell_far (p := ⟨gb493, _, none⟩) NB484_493.out _).trans (((cell_far (p := ⟨gb493, _, none⟩) NB484_493.out _).trans (((cell_far (p := ⟨gb493, _, none⟩) NB484_493.out _).trans (((cell_far (p := ⟨gb493, _, none⟩) NB484_493.out _).trans (hHeld.2.2.2.2))))))))))⟩ (fun hHeld => ?_)
 clear hK K
 refine done_ (done_of HT_.out (by kernel_rfl)) ?_
 try go_wp2
 have n0_ : Aside0 (Kd.R (Kd.int .i64) 3 (((((w28.setCell ⟨gb493, 0, none⟩ (.int .i64 6)).setCell ⟨gb493, 1, none⟩ (.int .i64 0)).setCell ⟨gb493, 2, none⟩ (.int .i64 0)).setCell ⟨gb493, 3, none⟩ (.int .i64 0)).setCell ⟨gb493, 4, none⟩ (.slice Ao29 y490.length co29)) w.heap.size (fun k_ => (w.heap.size ≤ k_)) v486 y485) := ⟨by (with_reducible repeat (first | apply Kd.R_alloc | apply Kd.R_drewN | apply Kd.R_drew)); exact Kd.R_mono (Kd.R_far (p := ⟨gb493, 4, none⟩) (Kd.R_far (p := ⟨gb493, 3, none⟩) (Kd.R_far (p := ⟨gb493, 2, none⟩) (Kd.R_far (p := ⟨gb493, 1, none⟩) (Kd.R_far (p := ⟨gb493, 0, none⟩) (Kd.R_types HO487.out BK493.out (by decide)) (fun _ hk => hk.2) (.int .i64 6)) (fun _ hk => hk.2) (.int .i64 0)) (fun _ hk => hk.2) (.int .i64 0)) (fun _ hk => hk.2) (.int .i64 0)) (fun _ hk => hk.2) (.slice Ao29 y490.length co29)) (fun _ hk => hk.1)⟩
 have n1_ : Aside0 (Kd.N k46 46 (((((w28.setCell ⟨gb493, 0, none⟩ (.int .i64 6)).setCell ⟨gb493, 1, none⟩ (.int .i64 0)).setCell ⟨gb493, 2, none⟩ (.int .i64 0)).setCell ⟨gb493, 3, none⟩ (.int .i64 0)).setCell ⟨gb493, 4, none⟩ (.slice Ao29 y490.length co29)) w.heap.size (fun k_ => (w.heap.size ≤ k_) ∧ nB k_ v486 ∧ k_ ≠ g ∧ k_ ≠ gb480 ∧ k_ ≠ gb483 ∧ k_ ≠ gb484 ∧ k_ ≠ gb493) (.slice Ao29 y490.length co29) y490) := ⟨by (with_reducible repeat (first | apply Kd.N_alloc | apply Kd.N_drewN | apply Kd.N_drew)); exact Kd.N_mono (Kd.N_far (p := ⟨gb493, 4, none⟩) (Kd.N_far (p := ⟨gb493, 3, none⟩) (Kd.N_far (p := ⟨gb493, 2, none⟩) (Kd.N_far (p := ⟨gb493, 1, none⟩) (Kd.N_far (p := ⟨gb493, 0, none⟩) (Kd.N_mono HO492.out (fun k_ hk => (⟨hk, hk.2.2.2.2.2.2⟩ : _ ∧ k_ ≠ gb493))) (fun _ hk => hk.2) (.int .i64 6)) (fun _ hk => hk.2) (.int .i64 0)) (fun _ hk => hk.2) (.int .i64 0)) (fun _ hk => hk.2) (.int .i64 0)) (fun _ hk => hk.2) (.slice Ao29 y490.length co29)) (fun _ hk => ⟨hk.1.1, ⟨hk.1.2.1, ⟨hk.1.2.2.1, ⟨hk.1.2.2.2.1, ⟨hk.1.2.2.2.2.1, ⟨hk.1.2.2.2.2.2.1, hk.1.2.2.2.2.2.2⟩⟩⟩⟩⟩⟩)⟩
 have n2_ : Aside0 ((((((w28.setCell ⟨gb493, 0, none⟩ (.int .i64 6)).setCell ⟨gb493, 1, none⟩ (.int .i64 0)).setCell ⟨gb493, 2, none⟩ (.int .i64 0)).setCell ⟨gb493, 3, none⟩ (.int .i64 0)).setCell ⟨gb493, 4, none⟩ (.slice Ao29 y490.length co29)).heap[gb480]? = some (.cells #[.int .i64 0, .int .i64 0, .int .i64 0, .int .i64 0, .int .i64 0, .int .i64 0, .int .i64 0, .slice none 0 0, .slice none 0 0, .slice none 0 0] 69 (0, 0))) := ⟨mF BK480.out⟩
 have n3_ : Aside0 ((((((w28.setCell ⟨gb493, 0, none⟩ (.int .i64 6)).setCell ⟨gb493, 1, none⟩ (.int .i64 0)).setCell ⟨gb493, 2, none⟩ (.int .i64 0)).setCell ⟨gb493, 3, none⟩ (.int .i64 0)).setCell ⟨gb493, 4, none⟩ (.slice Ao29 y490.length co29)).heap[gb483]? = some (.cells #[.int .i64 3, .int .i64 t481] 37 (0, 0))) := ⟨mF BK483.out⟩
 have n4_ : Aside0 ((((((w28.setCell ⟨gb493, 0, none⟩ (.int .i64 6)).setCell ⟨gb493, 1, none⟩ (.int .i64 0)).setCell ⟨gb493, 2, none⟩ (.int .i64 0)).setCell ⟨gb493, 3, none⟩ (.int .i64 0)).setCell ⟨gb493, 4, none⟩ (.slice Ao29 y490.length co29)).heap[gb484]? = some (.cells #[.int .i64 2, .int .i64 0, .int .i64 3, .int .i64 t481, .slice none 0 0] 46 (0, 0))) := ⟨mF BK484.out⟩
 have n5_ : Aside0 ((((((w28.setCell ⟨gb493, 0, none⟩ (.int .i64 6)).setCell ⟨gb493, 1, none⟩ (.int .i64 0)).setCell ⟨gb493, 2, none⟩ (.int .i64 0)).setCell ⟨gb493, 3, none⟩ (.int .i64 0)).setCell ⟨gb493, 4, none⟩ (.slice Ao29 y490.length co29)).heap[gb493]? = some (.cells #[.int .i64 6, .int .i64 0, .int .i64 0, .int .i64 0, .slice Ao29 y490.length co29] 46 (0, 0))) := ⟨pF BK493.out⟩
 have n6_ : Aside0 (IsS116 w0 (((((w28.setCell ⟨gb493, 0, none⟩ (.int .i64 6)).setCell ⟨gb493, 1, none⟩ (.int .i64 0)).setCell ⟨gb493, 2, none⟩ (.int .i64 0)).setCell ⟨gb493, 3, none⟩ (.int .i64 0)).setCell ⟨gb493, 4, none⟩ (.slice Ao29 y490.length co29)) g s0_0 t489) := ⟨mI116_1 HI0.out⟩
 have n7_ : Aside0 (KeepBut w (((((w28.setCell ⟨gb493, 0, none⟩ (.int .i64 6)).setCell ⟨gb493, 1, none⟩ (.int .i64 0)).setCell ⟨gb493, 2, none⟩ (.int .i64 0)).setCell ⟨gb493, 3, none⟩ (.int .i64 0)).setCell ⟨gb493, 4, none⟩ (.slice Ao29 y490.length co29)) g none) := ⟨mKp HK.out⟩
 have n8_ : Aside0 (Below w0.heap.size w0 (((((w28.setCell ⟨gb493, 0, none⟩ (.int .i64 6)).setCell ⟨gb493, 1, none⟩ (.int .i64 0)).setCell ⟨gb493, 2, none⟩ (.int .i64 0)).setCell ⟨gb493, 3, none⟩ (.int .i64 0)).setCell ⟨gb493, 4, none⟩ (.slice Ao29 y490.length co29))) := ⟨mB116HI0 HB.out⟩
 (try clear HO487)
 (try clear HO492)
 (try clear BK480)
 (try clear BK483)
 (try clear BK484)
 (try clear BK493)
 (try clear HI0)
 (try clear HK)
 (try clear HB)
 generalize (((((w28.setCell ⟨gb493, 0, none⟩ (.int .i64 6)).setCell ⟨gb493, 1, none⟩ (.int .i64 0)).setCell ⟨gb493, 2, none⟩ (.int .i64 0)).setCell ⟨gb493, 3, none⟩ (.int .i64 0)).setCell ⟨gb493, 4, none⟩ (.slice Ao29 y490.length co29)) = w35 at n0_ n1_ n2_ n3_ n4_ n5_ n6_ n7_ n8_ ⊢
 have HO487 := n0_
 have HO492 := n1_
 have BK480 := n2_
 have BK483 := n3_
 have BK484 := n4_
 have BK493 := n5_
 have HI0 := n6_
 have HK := n7_
 have HB := n8_
 clear n0_ n1_ n2_ n3_ n4_ n5_ n6_ n7_ n8_
 have n_ := az (Kd.R_drew HO487.out) <| az (Kd.N_drew HO492.out) <| az (blk_drew BK480.out) <| az (blk_drew BK483.out) <| az (blk_drew BK484.out) <| az (blk_drew BK493.out) <| az (IsS116.drew HI0.out) <| az (keep_drew HK.out) <| z0 (below_drew1 HB.out)
 clear HO487 HO492 BK480 BK483 BK484 BK493 HI0 HK HB
 obtain ⟨HO487, HO492, BK480, BK483, BK484, BK493, HI0, HK, HB⟩ := n_
 refine start_ (n := 9) (S := fun w' => w'.cell? ⟨gb484, 0, none⟩ = some (.int .i64 2) ∧ w'.cell? ⟨gb484, 1, none⟩ = some (.int .i64 0) ∧ w'.cell? ⟨gb484, 2, none⟩ = some (.int .i64 3) ∧ w'.cell? ⟨gb484, 3, none⟩ = some (.int .i64 t481) ∧ w'.cell? ⟨gb484, 4, none⟩ = some (.slice none 0 0)) (ds := []) #[false, false, false, false, false, false, false, false, false] (by kernel_rfl) rfl rfl q103_1 (fun hHeld => ?_); refine with_tabW spec_l4Count.tab4 spec_l4Count.bits4 (fun HT_ HW_ => ?_)
 generalize w35.drew = w36 at HO487 HO492 BK480 BK483 BK484 BK493 HI0 HK HB hHeld ⊢
 refine pure_ (i := 1) (N := some 21) (v := ?_) (a' := ?_) #[false, true, false, false, false, false, false, false, false] rfl rfl (any_of HT_.out (by kernel_rfl)) (fun _ _ _ h => h) (Or.inl ⟨by rfl, ?_⟩) ?_ ?_
 rotate_left
 ·intro w'
  go_simp
  with_reducible rfl
 rotate_left
 ·simp only [Act.put, List.setIfInBounds_toArray, List.set_cons_zero, List.set_cons_succ, i64_w, i32_w]
  rfl
 refine take_ (i := 0) (N := some 20) (v := ?_) (a' := ?_) #[true, true, false, false, false, false, false, false, false] rfl rfl (take_ofW HT_.out HW_.out (by kernel_rfl)) (fun _ _ _ h => h) (Or.inl ⟨by rfl, ?_⟩) hHeld ?_ ?_
 rotate_left
 ·rintro w' ⟨s0, s1, s2, s3, s4⟩
  go_simp
  with_reducible rfl
 rotate_left
 ·simp only [Act.put, List.setIfInBounds_toArray, List.set_cons_zero, List.set_cons_succ, i64_w, i32_w]
  rfl
 refine join_ (σ := Value × Value × Nat) 1 #[true, true, true, true, true, true, true, true, false] (fun s_ => [(22, s_.1), (23, .int .i64 t497), (25, s_.2.1), (6, .pointer (some ⟨s_.2.2, 0, none⟩)), (24, .agg #[.int .i64 1, .int .i64 t497, .int .i64 0, .int .i64 0, .slice none 0 0]), (26, .agg #[.int .i64 3, .int .i64 0, .int .i64 0, .int .i64 0, s_.2.1])]) (fun s_ w' => (w'.cell? ⟨gb484, 0, none⟩ = some (.int .i64 2) ∧ w'.cell? ⟨gb484, 1, none⟩ = some (.int .i64 0) ∧ w'.cell? ⟨gb484, 2, none⟩ = some (.int .i64 3) ∧ w'.cell? ⟨gb484, 3, none⟩ = some (.int .i64 t481) ∧ w'.cell? ⟨gb484, 4, none⟩ = some (.slice none 0 0)) ∧ (Kd.R (Kd.int .i64) 3 w' w.heap.size (fun k_ => (w.heap.size ≤ k_) ∧ some k_ ≠ (s_.1 : Value).ownBlock) v486 y485) ∧ (Kd.N k46 46 w' w.heap.size (fun k_ => (w.heap.size ≤ k_) ∧ nB k_ v486 ∧ some k_ ≠ (s_.1 : Value).ownBlock ∧ some k_ ≠ (s_.2.1 : Value).ownBlock ∧ k_ ≠ g ∧ k_ ≠ gb480 ∧ k_ ≠ gb483 ∧ k_ ≠ gb484 ∧ k_ ≠ gb493 ∧ k_ ≠ s_.2.2) (.slice Ao29 y490.length co29) y490) ∧ (Kd.R (Kd.int .i64) 3 w' w.heap.size (fun k_ => (w.heap.size ≤ k_) ∧ nB k_ v486) s_.1 y494) ∧ (Kd.N k46 46 w' w.heap.size (fun k_ => (w.heap.size ≤ k_) ∧ nB k_ v486 ∧ nB k_ (.slice Ao29 y490.length co29) ∧ some k_ ≠ (s_.1 : Value).ownBlock ∧ k_ ≠ g ∧ k_ ≠ gb480 ∧ k_ ≠ gb483 ∧ k_ ≠ gb484 ∧ k_ ≠ gb493 ∧ k_ ≠ s_.2.2) s_.2.1 y499) ∧ (w'.heap[gb480]? = some (.cells #[.int .i64 0, .int .i64 0, .int .i64 0, .int .i64 0, .int .i64 0, .int .i64 0, .int .i64 0, .slice none 0 0, .slice none 0 0, .slice none 0 0] 69 (0, 0))) ∧ (w'.heap[gb483]? = some (.cells #[.int .i64 3, .int .i64 t481] 37 (0, 0))) ∧ (w'.heap[gb484]? = some (.cells #[.int .i64 2, .int .i64 0, .int .i64 3, .int .i64 t481, .slice none 0 0] 46 (0, 0))) ∧ (w'.heap[gb493]? = some (.cells #[.int .i64 6, .int .i64 0, .int .i64 0, .int .i64 0, .slice Ao29 y490.length co29] 46 (0, 0))) ∧ (w'.heap[s_.2.2]? = some (.cells #[.int .i64 0, .int .i64 0, .int .i64 0, .int .i64 0, .slice none 0 0] 46 (0, 0))) ∧ (w.heap.size ≤ s_.2.2) ∧ (w0.heap.size ≤ s_.2.2) ∧ (g ≠ s_.2.2) ∧ (s_.2.2 ≠ g) ∧ (gb480 ≠ s_.2.2) ∧ (s_.2.2 ≠ gb480) ∧ (gb483 ≠ s_.2.2) ∧ (s_.2.2 ≠ gb483) ∧ (gb484 ≠ s_.2.2) ∧ (s_.2.2 ≠ gb484) ∧ (gb493 ≠ s_.2.2) ∧ (s_.2.2 ≠ gb493) ∧ (IsS116 w0 w' g s0_0 t498) ∧ (KeepBut w w' g none) ∧ (Below w0.heap.size w0 w')) ?_ ?_
 rotate_left
 ·intro hCont
  refine two_ (i := 2) (j := 7) (Ni := some 22) (Nj := some 6) #[true, true, true, false, false, false, false, false, false] #[true, true, false, false, false, false, false, true, false] rfl rfl rfl rfl (two_of HT_.out (by kernel_rfl)) (by decide) (by decide) (fun K hK => ?_) (fun K hK => ?_)
  ·skip
   refine Kd.R_lit_step (Kd.int .i64) _ 3 ?hg (N := 22) ?hd (xs := ([1, 1, 2, 0] : List Int)) (inner := [.int .i64 1, .int .i64 1, .int .i64 2, .int .i64 0]) (ok := fun _ => True) (okp := fun _ => True) ?hr ?hp (fun _ hk => hk) trivial (Below.refl _ _) (Nat.le_refl _) (by simp) ?_; (case hd => rfl); (case hg => rfl); (case hr => first | (go_simp; done) | (go_simp; rfl)); (case hp => exact (Reps.one (show Kd.M (Kd.int .i64) _ _ _ 1 [.int .i64 1] from rfl) (Reps.one (show Kd.M (Kd.int .i64) _ _ _ 1 [.int .i64 1] from rfl) (Reps.one (show Kd.M (Kd.int .i64) _ _ _ 2 [.int .i64 2] from rfl) (Reps.one (show Kd.M (Kd.int .i64) _ _ _ 0 [.int .i64 0] from rfl) (Reps.none _ _))))))
   intro v495 w37 ho38 hb hg_ hnew_
   clear hg_ hnew_
   (first | rw [← Ny494.out] at ho38 | (simp only [Int.reduceToNat] at ho38; rw [← Ny494.out] at ho38))
   have n_ := az (Kd.R_elder' (mR HO487.out) (by first | exact Kd.R_base ho38 | exact Kd.R_base ho38) hb) <| az (Kd.N_elder' (mN HO492.out) (by first | exact Kd.R_base ho38 | exact Kd.R_base ho38) hb) <| And.intro (z0 (Kd.R_lower (Kd.R_new' (Kd.R_newM (M := fun k_ => (w.heap.size ≤ k_)) ho38 (kS HK.out) (fun k_ h_ => h_)) (Kd.R_lt (mR HO487.out))) (kS HK.out))) <| az (IsS116.below (mI116_1 HI0.out) hb) <| az (bB BK480.out hb) <| az (bB BK483.out hb) <| az (bB BK484.out hb) <| az (bB BK493.out hb) <| az (KeepBut.trans (mKp HK.out) (KeepBut.of_below hb g none) (.inl rfl)) <| z0 (below_step (mB116HI0 HB.out) hb)
   clear HO487 HO492 HI0 BK480 BK483 BK484 BK493 HK HB
   obtain ⟨HO487, HO492, HO496, HI0, BK480, BK483, BK484, BK493, HK, HB⟩ := n_
   clear hb ho38
   obtain ⟨Ao39, co39, eo39⟩ := Kd.R_slice HO496.out
   (first | subst eo39 | (injection eo39 with f1_ f2_ f3_; have f4_ := f1_.symm; have f5_ := f3_.symm; clear f1_ f2_ f3_; subst f4_; subst f5_))
   refine hK.out _ _ q103_1 (fun hHeld => ?_)
   clear hK K
   refine norm_ (a' := ?_) ?_ ?_
   rotate_left
   ·show Act.put _ (some 22) _ = _
    simp only [Act.put, List.setIfInBounds_toArray, List.set_cons_zero, List.set_cons_succ, i64_w, i32_w]
    rfl
   refine two_ (i := 3) (j := 7) (Ni := some 23) (Nj := some 6) #[true, true, true, true, false, false, false, false, false] #[true, true, true, false, false, false, false, true, false] rfl rfl rfl rfl (two_of HT_.out (by kernel_rfl)) (by decide) (by decide) (fun K hK => ?_) (fun K hK => ?_)
   ·skip
    refine goes_ Try.func74 (by kernel_rfl) rfl #[.pointer (some ⟨g, 0, none⟩), .slice Ao39 y494.length co39] (by rfl) rfl rfl argx ?_
    with_reducible refine (spec_l12Rd_num.calls k g s0_0 t489 _ _ y494 t497 t498 w0 _ ?side1 ?side2 ?side3 ?side4 ?side5 A4.out).mono ?_
    (case side1 => exact mI116_1 HI0.out)
    (case side2 => exact mB116HI0 HB.out)
    (case side3 => exact mC (Kd.R_reads' HO496.out).2.2)
    (case side4 => exact (Kd.R_reads' HO496.out).2.1)
    (case side5 => exact far_slice (IsS116.own_ne HI0.out HO496.out (by decide)))
    rintro e w40 ⟨rfl, hi, hb, hk⟩
    refine ⟨_, rfl, ?_⟩
    have n_ := az (kB hk BK480.out NB480_0.out) <| az (kB hk BK483.out NB483_0.out) <| az (kB hk BK484.out NB484_0.out) <| And.intro (z0 (Kd.R_mono (Kd.R_keep (IsS116.apart (show IsS116 w0 _ g s0_0 t489 from mI116_1 HI0.out) (mR HO487.out) (by decide)) hk (fun _ h => h.2)) (fun _ h => h.1))) <| And.intro (z0 (Kd.N_mono (Kd.N_keep (Kd.N_mono (ok := fun k_ => ((((w.heap.size ≤ k_)) ∧ (nB k_ v486 ∧ (k_ ≠ g ∧ (k_ ≠ gb480 ∧ (k_ ≠ gb483 ∧ (k_ ≠ gb484 ∧ k_ ≠ gb493)))))) ∧ nB k_ (.slice Ao39 y494.length co39))) (mN HO492.out) (fun k_ hk_ => (⟨hk_, hk_.1.2.2.1⟩ : _ ∧ k_ ≠ g))) hk (fun _ h => h.2)) (fun _ h => h.1))) <| az (kB hk BK493.out NB493_0.out) <| And.intro (z0 (Kd.R_mono (Kd.R_keep (IsS116.apart (show IsS116 w0 _ g s0_0 t489 from mI116_1 HI0.out) (mR HO496.out) (by decide)) hk (fun _ h => h.2)) (fun _ h => h.1))) <| az (KeepBut.trans (mKp HK.out) hk (.inl rfl)) <| az (hb) <| z0 (hi)
    clear BK480 BK483 BK484 HO487 HO492 BK493 HO496 HK HB HI0
    obtain ⟨BK480, BK483, BK484, HO487, HO492, BK493, HO496, HK, HB, HI0⟩ := n_
    (try clear hb)
    (try clear hb2)
    (try clear hk)
    (try clear hi)
    refine hK.out _ _ q103_1 (fun hHeld => ?_)
    clear hK K
    refine norm_ (a' := ?_) ?_ ?_
    rotate_left
    ·show Act.put _ (some 23) _ = _
     simp only [Act.put, List.setIfInBounds_toArray, List.set_cons_zero, List.set_cons_succ, i64_w, i32_w]
     rfl
    refine pure_ (i := 4) (N := some 24) (v := ?_) (a' := ?_) #[true, true, true, true, true, false, false, false, false] rfl rfl (any_of HT_.out (by kernel_rfl)) (fun _ _ _ h => h) (Or.inl ⟨by rfl, ?_⟩) ?_ ?_
    rotate_left
    ·intro w'
     go_simp
     with_reducible rfl
    rotate_left
    ·simp only [Act.put, List.setIfInBounds_toArray, List.set_cons_zero, List.set_cons_succ, i64_w, i32_w]
     rfl
    refine two_ (i := 5) (j := 7) (Ni := some 25) (Nj := some 6) #[true, true, true, true, true, true, false, false, false] #[true, true, true, true, true, false, false, true, false] rfl rfl rfl rfl (two_of HT_.out (by kernel_rfl)) (by decide) (by decide) (fun K hK => ?_) (fun K hK => ?_)
    ·skip
     refine Kd.N_lit_step k46 _ 46 ?hg (N' := 25) ?hd (xs := ([(⟨2, 0, (⟨3, t481⟩ : S37), ([] : List (S46))⟩ : S46), (⟨1, t497, (⟨0, 0⟩ : S37), ([] : List (S46))⟩ : S46)] : List (S46))) (inner := [.int .i64 2, .int .i64 0, .int .i64 3, .int .i64 t481, .slice none 0 0, .int .i64 1, .int .i64 t497, .int .i64 0, .int .i64 0, .slice none 0 0]) (ok := (fun k_ => (w.heap.size ≤ k_) ∧ nB k_ v486 ∧ nB k_ (.slice Ao29 y490.length co29) ∧ nB k_ (.slice Ao39 y494.length co39) ∧ k_ ≠ gb480 ∧ k_ ≠ gb483 ∧ k_ ≠ gb484 ∧ k_ ≠ gb493 ∧ k_ ≠ g)) (okp := (fun k_ => (w.heap.size ≤ k_) ∧ nB k_ v486 ∧ nB k_ (.slice Ao29 y490.length co29) ∧ nB k_ (.slice Ao39 y494.length co39) ∧ k_ ≠ gb480 ∧ k_ ≠ gb483 ∧ k_ ≠ gb484 ∧ k_ ≠ gb493 ∧ k_ ≠ g)) ?hr ?hp (fun _ hk => hk) ((show ∀ k_, w40.heap.size ≤ k_ → (fun k_ => (w.heap.size ≤ k_) ∧ nB k_ v486 ∧ nB k_ (.slice Ao29 y490.length co29) ∧ nB k_ (.slice Ao39 y494.length co39) ∧ k_ ≠ gb480 ∧ k_ ≠ gb483 ∧ k_ ≠ gb484 ∧ k_ ≠ gb493 ∧ k_ ≠ g) k_ from fun k_ hk => ⟨(Nat.le_trans (kS HK.out) hk), Kd.fresh' (Kd.R_lt (mR HO487.out)) k_ hk, Kd.fresh' (Kd.N_lt (mN HO492.out)) k_ hk, Kd.fresh' (Kd.R_lt (mR HO496.out)) k_ hk, fB BK480.out hk, fB BK483.out hk, fB BK484.out hk, fB BK493.out hk, IsS116.fresh (mI116_1 HI0.out) k_ hk⟩) _ (Nat.le_refl _)) (Below.refl _ _) (Nat.le_refl _) (by simp) ?_; (case hd => rfl); (case hg => rfl); (case hr => first | (go_simp; done) | (go_simp; rfl)); (case hp => exact (Reps.c5 (show Kd.FK k46 _ _ (⟨2, 0, (⟨3, t481⟩ : S37), ([] : List (S46))⟩ : S46) [.int .i64 2, .int .i64 0, .int .i64 3, .int .i64 t481, .slice none 0 0] from (k46_mkF _ _ (⟨2, 0, (⟨3, t481⟩ : S37), ([] : List (S46))⟩ : S46) (Nat.le_refl _) (Kd.F_nil _ _ _))) (Reps.c5 (show Kd.FK k46 _ _ (⟨1, t497, (⟨0, 0⟩ : S37), ([] : List (S46))⟩ : S46) [.int .i64 1, .int .i64 t497, .int .i64 0, .int .i64 0, .slice none 0 0] from (k46_mkF _ _ (⟨1, t497, (⟨0, 0⟩ : S37), ([] : List (S46))⟩ : S46) (Nat.le_refl _) (Kd.F_nil _ _ _))) (Reps.none _ _))))
     intro v500 w41 ho42 hb hg_ hnew_
     clear hg_ hnew_
     (first | rw [← Ny499.out] at ho42 | (simp only [Int.reduceToNat] at ho42; rw [← Ny499.out] at ho42))
     have n_ := az (Kd.R_below (mR HO487.out) hb) <| az (Kd.N_elder' (mN HO492.out) (by first | exact Kd.N_base ho42 | exact Kd.R_base ho42) hb) <| az (Kd.R_below (mR HO496.out) hb) <| az (Kd.N_lower ho42 (kS HK.out)) <| az (IsS116.below (mI116_1 HI0.out) hb) <| az (bB BK480.out hb) <| az (bB BK483.out hb) <| az (bB BK484.out hb) <| az (bB BK493.out hb) <| az (KeepBut.trans (mKp HK.out) (KeepBut.of_below hb g none) (.inl rfl)) <| z0 (below_step (mB116HI0 HB.out) hb)
     clear HO487 HO492 HO496 HI0 BK480 BK483 BK484 BK493 HK HB
     obtain ⟨HO487, HO492, HO496, HO501, HI0, BK480, BK483, BK484, BK493, HK, HB⟩ := n_
     clear hb ho42
     obtain ⟨Ao43, co43, eo43⟩ := Kd.N_slice HO501.out
     (first | subst eo43 | (injection eo43 with f1_ f2_ f3_; have f4_ := f1_.symm; have f5_ := f3_.symm; clear f1_ f2_ f3_; subst f4_; subst f5_))
     refine hK.out _ _ q103_1 (fun hHeld => ?_)
     clear hK K
     refine norm_ (a' := ?_) ?_ ?_
     rotate_left
     ·show Act.put _ (some 25) _ = _
      simp only [Act.put, List.setIfInBounds_toArray, List.set_cons_zero, List.set_cons_succ, i64_w, i32_w]
      rfl
     refine pure_ (i := 6) (N := some 26) (v := ?_) (a' := ?_) #[true, true, true, true, true, true, true, false, false] rfl rfl (any_of HT_.out (by kernel_rfl)) (fun _ _ _ h => h) (Or.inl ⟨by rfl, ?_⟩) ?_ ?_
     rotate_left
     ·intro w'
      go_simp
      with_reducible rfl
     rotate_left
     ·simp only [Act.put, List.setIfInBounds_toArray, List.set_cons_zero, List.set_cons_succ, i64_w, i32_w]
      rfl
     refine one_ (i := 7) (N := some 6) #[true, true, true, true, true, true, true, true, false] rfl rfl (one_of HT_.out (by kernel_rfl)) (by decide) (fun K hK => ?_)
     refine box_step ?hg (N := 6) ?hd (cs := #[.int .i64 0, .int .i64 0, .int .i64 0, .int .i64 0, .slice none 0 0]) (t := 46) ?hr ?_; (case hd => rfl); (case hg => rfl); (case hr => first | (go_simp; done) | (go_simp; rfl))
     intro gb502 hg w44 hbox hb
     have n_ := az (Kd.R_below (mR HO487.out) hb) <| az (Kd.N_below (Kd.N_elderB (mN HO492.out) gb502 (Nat.le_of_eq hg.symm)) hb) <| az (Kd.R_below (mR HO496.out) hb) <| az (Kd.N_below (Kd.N_elderB (mN HO501.out) gb502 (Nat.le_of_eq hg.symm)) hb) <| az (IsS116.below (mI116_1 HI0.out) hb) <| az (bB BK480.out hb) <| az (bB BK483.out hb) <| az (bB BK484.out hb) <| az (bB BK493.out hb) <| az (KeepBut.trans (mKp HK.out) (KeepBut.of_below hb g none) (.inl rfl)) <| az (below_step (mB116HI0 HB.out) hb) <| az (hbox) <| az ((gW hg HK.out)) <| az ((Nat.le_trans HW0.out (gW hg HK.out) : w0.heap.size ≤ gb502)) <| az ((nL hg BK480.out)) <| az ((nG hg BK480.out)) <| az ((nL hg BK483.out)) <| az ((nG hg BK483.out)) <| az ((nL hg BK484.out)) <| az ((nG hg BK484.out)) <| az ((nL hg BK493.out)) <| az ((nG hg BK493.out)) <| And.intro (z0 ((by rw [hg]; exact Nat.ne_of_lt (IsS116.lt (show IsS116 w0 _ g s0_0 t498 from mI116_1 HI0.out)) : g ≠ gb502))) <| z0 ((by rw [hg]; exact Nat.ne_of_gt (IsS116.lt (show IsS116 w0 _ g s0_0 t498 from mI116_1 HI0.out)) : gb502 ≠ g))
     clear HO487 HO492 HO496 HO501 HI0 BK480 BK483 BK484 BK493 HK HB
     obtain ⟨HO487, HO492, HO496, HO501, HI0, BK480, BK483, BK484, BK493, HK, HB, BK502, GW502, GE502, NB480_502, NB502_480, NB483_502, NB502_483, NB484_502, NB502_484, NB493_502, NB502_493, NB0_502, NB502_0⟩ := n_
     clear hb hbox hg
     refine hK.out _ _ q103_1 (fun hHeld => ?_)
     clear hK K
     refine norm_ (a' := ?_) ?_ ?_
     rotate_left
     ·show Act.put _ (some 6) _ = _
      simp only [Act.put, List.setIfInBounds_toArray, List.set_cons_zero, List.set_cons_succ, i64_w, i32_w]
      rfl
     exact norm_ q103_4 (hCont (.slice Ao39 y494.length co39, .slice Ao43 y499.length co43, gb502) _ ⟨hHeld, (mR HO487.out), (by (with_reducible repeat (first | apply Kd.N_alloc | apply Kd.N_drewN | apply Kd.N_drew)); exact Kd.N_mono HO492.out (fun _ hk => ⟨hk.1.1.1.1, ⟨hk.1.1.1.2.1, ⟨hk.1.1.2, ⟨hk.1.2, ⟨hk.1.1.1.2.2.1, ⟨hk.1.1.1.2.2.2.1, ⟨hk.1.1.1.2.2.2.2.1, ⟨hk.1.1.1.2.2.2.2.2.1, ⟨hk.1.1.1.2.2.2.2.2.2, hk.2⟩⟩⟩⟩⟩⟩⟩⟩⟩)), q103_7, (by (with_reducible repeat (first | apply Kd.N_alloc | apply Kd.N_drewN | apply Kd.N_drew)); exact Kd.N_mono HO501.out (fun _ hk => ⟨hk.1.1, ⟨hk.1.2.1, ⟨hk.1.2.2.1, ⟨hk.1.2.2.2.1, ⟨hk.1.2.2.2.2.2.2.2.2, ⟨hk.1.2.2.2.2.1, ⟨hk.1.2.2.2.2.2.1, ⟨hk.1.2.2.2.2.2.2.1, ⟨hk.1.2.2.2.2.2.2.2.1, hk.2⟩⟩⟩⟩⟩⟩⟩⟩⟩)), (mK BK480.out), (mK BK483.out), (mK BK484.out), (mK BK493.out), (mK BK502.out), GW502.out, GE502.out, NB0_502.out, NB502_0.out, NB480_502.out, NB502_480.out, NB483_502.out, NB502_483.out, NB484_502.out, NB502_484.out, NB493_502.out, NB502_493.out, (mI116_1 HI0.out), (mKp HK.out), (mB116HI0 HB.out)⟩)
    ·skip
     refine box_step ?hg (N := 6) ?hd (cs := #[.int .i64 0, .int .i64 0, .int .i64 0, .int .i64 0, .slice none 0 0]) (t := 46) ?hr ?_; (case hd => rfl); (case hg => rfl); (case hr => first | (go_simp; done) | (go_simp; rfl))
     intro gb502 hg w41 hbox hb
     have n_ := az (Kd.R_below (mR HO487.out) hb) <| az (Kd.N_below (Kd.N_elderB (mN HO492.out) gb502 (Nat.le_of_eq hg.symm)) hb) <| az (Kd.R_below (mR HO496.out) hb) <| az (IsS116.below (mI116_1 HI0.out) hb) <| az (bB BK480.out hb) <| az (bB BK483.out hb) <| az (bB BK484.out hb) <| az (bB BK493.out hb) <| az (KeepBut.trans (mKp HK.out) (KeepBut.of_below hb g none) (.inl rfl)) <| az (below_step (mB116HI0 HB.out) hb) <| az (hbox) <| az ((gW hg HK.out)) <| az ((Nat.le_trans HW0.out (gW hg HK.out) : w0.heap.size ≤ gb502)) <| az ((nL hg BK480.out)) <| az ((nG hg BK480.out)) <| az ((nL hg BK483.out)) <| az ((nG hg BK483.out)) <| az ((nL hg BK484.out)) <| az ((nG hg BK484.out)) <| az ((nL hg BK493.out)) <| az ((nG hg BK493.out)) <| And.intro (z0 ((by rw [hg]; exact Nat.ne_of_lt (IsS116.lt (show IsS116 w0 _ g s0_0 t498 from mI116_1 HI0.out)) : g ≠ gb502))) <| z0 ((by rw [hg]; exact Nat.ne_of_gt (IsS116.lt (show IsS116 w0 _ g s0_0 t498 from mI116_1 HI0.out)) : gb502 ≠ g))
     clear HO487 HO492 HO496 HI0 BK480 BK483 BK484 BK493 HK HB
     obtain ⟨HO487, HO492, HO496, HI0, BK480, BK483, BK484, BK493, HK, HB, BK502, GW502, GE502, NB480_502, NB502_480, NB483_502, NB502_483, NB484_502, NB502_484, NB493_502, NB502_493, NB0_502, NB502_0⟩ := n_
     clear hb hbox hg
     refine hK.out _ _ q103_1 (fun hHeld => ?_)
     clear hK K
     refine norm_ (a' := ?_) ?_ ?_
     rotate_left
     ·show Act.put _ (some 6) _ = _
      simp only [Act.put, List.setIfInBounds_toArray, List.set_cons_zero, List.set_cons_succ, i64_w, i32_w]
      rfl
     refine one_ (i := 5) (N := some 25) #[true, true, true, true, true, true, false, true, false] rfl rfl (one_of HT_.out (by kernel_rfl)) (by decide) (fun K hK => ?_)
     refine Kd.N_lit_step k46 _ 46 ?hg (N' := 25) ?hd (xs := ([(⟨2, 0, (⟨3, t481⟩ : S37), ([] : List (S46))⟩ : S46), (⟨1, t497, (⟨0, 0⟩ : S37), ([] : List (S46))⟩ : S46)] : List (S46))) (inner := [.int .i64 2, .int .i64 0, .int .i64 3, .int .i64 t481, .slice none 0 0, .int .i64 1, .int .i64 t497, .int .i64 0, .int .i64 0, .slice none 0 0]) (ok := (fun k_ => (w.heap.size ≤ k_) ∧ nB k_ v486 ∧ nB k_ (.slice Ao29 y490.length co29) ∧ nB k_ (.slice Ao39 y494.length co39) ∧ k_ ≠ gb480 ∧ k_ ≠ gb483 ∧ k_ ≠ gb484 ∧ k_ ≠ gb493 ∧ k_ ≠ gb502 ∧ k_ ≠ g)) (okp := (fun k_ => (w.heap.size ≤ k_) ∧ nB k_ v486 ∧ nB k_ (.slice Ao29 y490.length co29) ∧ nB k_ (.slice Ao39 y494.length co39) ∧ k_ ≠ gb480 ∧ k_ ≠ gb483 ∧ k_ ≠ gb484 ∧ k_ ≠ gb493 ∧ k_ ≠ gb502 ∧ k_ ≠ g)) ?hr ?hp (fun _ hk => hk) ((show ∀ k_, w41.heap.size ≤ k_ → (fun k_ => (w.heap.size ≤ k_) ∧ nB k_ v486 ∧ nB k_ (.slice Ao29 y490.length co29) ∧ nB k_ (.slice Ao39 y494.length co39) ∧ k_ ≠ gb480 ∧ k_ ≠ gb483 ∧ k_ ≠ gb484 ∧ k_ ≠ gb493 ∧ k_ ≠ gb502 ∧ k_ ≠ g) k_ from fun k_ hk => ⟨(Nat.le_trans (kS HK.out) hk), Kd.fresh' (Kd.R_lt (mR HO487.out)) k_ hk, Kd.fresh' (Kd.N_lt (mN HO492.out)) k_ hk, Kd.fresh' (Kd.R_lt (mR HO496.out)) k_ hk, fB BK480.out hk, fB BK483.out hk, fB BK484.out hk, fB BK493.out hk, fB BK502.out hk, IsS116.fresh (mI116_1 HI0.out) k_ hk⟩) _ (Nat.le_refl _)) (Below.refl _ _) (Nat.le_refl _) (by simp) ?_; (case hd => rfl); (case hg => rfl); (case hr => first | (go_simp; done) | (go_simp; rfl)); (case hp => exact (Reps.c5 (show Kd.FK k46 _ _ (⟨2, 0, (⟨3, t481⟩ : S37), ([] : List (S46))⟩ : S46) [.int .i64 2, .int .i64 0, .int .i64 3, .int .i64 t481, .slice none 0 0] from (k46_mkF _ _ (⟨2, 0, (⟨3, t481⟩ : S37), ([] : List (S46))⟩ : S46) (Nat.le_refl _) (Kd.F_nil _ _ _))) (Reps.c5 (show Kd.FK k46 _ _ (⟨1, t497, (⟨0, 0⟩ : S37), ([] : List (S46))⟩ : S46) [.int .i64 1, .int .i64 t497, .int .i64 0, .int .i64 0, .slice none 0 0] from (k46_mkF _ _ (⟨1, t497, (⟨0, 0⟩ : S37), ([] : List (S46))⟩ : S46) (Nat.le_refl _) (Kd.F_nil _ _ _))) (Reps.none _ _))))
     intro v500 w42 ho43 hb hg_ hnew_
     clear hg_ hnew_
     (first | rw [← Ny499.out] at ho43 | (simp only [Int.reduceToNat] at ho43; rw [← Ny499.out] at ho43))
     have n_ := az (Kd.R_below (mR HO487.out) hb) <| az (Kd.N_elder' (mN HO492.out) (by first | exact Kd.N_base ho43 | exact Kd.R_base ho43) hb) <| az (Kd.R_below (mR HO496.out) hb) <| az (Kd.N_lower ho43 (kS HK.out)) <| az (IsS116.below (mI116_1 HI0.out) hb) <| az (bB BK480.out hb) <| az (bB BK483.out hb) <| az (bB BK484.out hb) <| az (bB BK493.out hb) <| az (bB BK502.out hb) <| az (KeepBut.trans (mKp HK.out) (KeepBut.of_below hb g none) (.inl rfl)) <| z0 (below_step (mB116HI0 HB.out) hb)
     clear HO487 HO492 HO496 HI0 BK480 BK483 BK484 BK493 BK502 HK HB
     obtain ⟨HO487, HO492, HO496, HO501, HI0, BK480, BK483, BK484, BK493, BK502, HK, HB⟩ := n_
     clear hb ho43
     obtain ⟨Ao44, co44, eo44⟩ := Kd.N_slice HO501.out
     (first | subst eo44 | (injection eo44 with f1_ f2_ f3_; have f4_ := f1_.symm; have f5_ := f3_.symm; clear f1_ f2_ f3_; subst f4_; subst f5_))
     refine hK.out _ _ q103_1 (fun hHeld => ?_)
     clear hK K
     refine norm_ (a' := ?_) ?_ ?_
     rotate_left
     ·show Act.put _ (some 25) _ = _
      simp only [Act.put, List.setIfInBounds_toArray, List.set_cons_zero, List.set_cons_succ, i64_w, i32_w]
      rfl
     refine pure_ (i := 6) (N := some 26) (v := ?_) (a' := ?_) #[true, true, true, true, true, true, true, true, false] rfl rfl (any_of HT_.out (by kernel_rfl)) (fun _ _ _ h => h) (Or.inl ⟨by rfl, ?_⟩) ?_ ?_
     rotate_left
     ·intro w'
      go_simp
      with_reducible rfl
     rotate_left
     ·simp only [Act.put, List.setIfInBounds_toArray, List.set_cons_zero, List.set_cons_succ, i64_w, i32_w]
      rfl
     exact norm_ q103_4 (hCont (.slice Ao39 y494.length co39, .slice Ao44 y499.length co44, gb502) _ ⟨hHeld, (mR HO487.out), (by (with_reducible repeat (first | apply Kd.N_alloc | apply Kd.N_drewN | apply Kd.N_drew)); exact Kd.N_mono HO492.out (fun _ hk => ⟨hk.1.1.1.1, ⟨hk.1.1.1.2.1, ⟨hk.1.1.2, ⟨hk.2, ⟨hk.1.1.1.2.2.1, ⟨hk.1.1.1.2.2.2.1, ⟨hk.1.1.1.2.2.2.2.1, ⟨hk.1.1.1.2.2.2.2.2.1, ⟨hk.1.1.1.2.2.2.2.2.2, hk.1.2⟩⟩⟩⟩⟩⟩⟩⟩⟩)), q103_7, q103_5, (mK BK480.out), (mK BK483.out), (mK BK484.out), (mK BK493.out), (mK BK502.out), GW502.out, GE502.out, NB0_502.out, NB502_0.out, NB480_502.out, NB502_480.out, NB483_502.out, NB502_483.out, NB484_502.out, NB502_484.out, NB493_502.out, NB502_493.out, (mI116_1 HI0.out), (mKp HK.out), (mB116HI0 HB.out)⟩)
   ·skip
    refine box_step ?hg (N := 6) ?hd (cs := #[.int .i64 0, .int .i64 0, .int .i64 0, .int .i64 0, .slice none 0 0]) (t := 46) ?hr ?_; (case hd => rfl); (case hg => rfl); (case hr => first | (go_simp; done) | (go_simp; rfl))
    intro gb502 hg w39 hbox hb
    have n_ := az (Kd.R_below (mR HO487.out) hb) <| az (Kd.N_below (Kd.N_elderB (mN HO492.out) gb502 (Nat.le_of_eq hg.symm)) hb) <| az (Kd.R_below (mR HO496.out) hb) <| az (IsS116.below (mI116_1 HI0.out) hb) <| az (bB BK480.out hb) <| az (bB BK483.out hb) <| az (bB BK484.out hb) <| az (bB BK493.out hb) <| az (KeepBut.trans (mKp HK.out) (KeepBut.of_below hb g none) (.inl rfl)) <| az (below_step (mB116HI0 HB.out) hb) <| az (hbox) <| az ((gW hg HK.out)) <| az ((Nat.le_trans HW0.out (gW hg HK.out) : w0.heap.size ≤ gb502)) <| az ((nL hg BK480.out)) <| az ((nG hg BK480.out)) <| az ((nL hg BK483.out)) <| az ((nG hg BK483.out)) <| az ((nL hg BK484.out)) <| az ((nG hg BK484.out)) <| az ((nL hg BK493.out)) <| az ((nG hg BK493.out)) <| And.intro (z0 ((by rw [hg]; exact Nat.ne_of_lt (IsS116.lt (show IsS116 w0 _ g s0_0 t489 from mI116_1 HI0.out)) : g ≠ gb502))) <| z0 ((by rw [hg]; exact Nat.ne_of_gt (IsS116.lt (show IsS116 w0 _ g s0_0 t489 from mI116_1 HI0.out)) : gb502 ≠ g))
    clear HO487 HO492 HO496 HI0 BK480 BK483 BK484 BK493 HK HB
    obtain ⟨HO487, HO492, HO496, HI0, BK480, BK483, BK484, BK493, HK, HB, BK502, GW502, GE502, NB480_502, NB502_480, NB483_502, NB502_483, NB484_502, NB502_484, NB493_502, NB502_493, NB0_502, NB502_0⟩ := n_
    clear hb hbox hg
    obtain ⟨Ao40, co40, eo40⟩ := Kd.R_slice HO496.out
    (first | subst eo40 | (injection eo40 with f1_ f2_ f3_; have f4_ := f1_.symm; have f5_ := f3_.symm; clear f1_ f2_ f3_; subst f4_; subst f5_))
    refine hK.out _ _ q103_1 (fun hHeld => ?_)
    clear hK K
    refine norm_ (a' := ?_) ?_ ?_
    rotate_left
    ·show Act.put _ (some 6) _ = _
     simp only [Act.put, List.setIfInBounds_toArray, List.set_cons_zero, List.set_cons_succ, i64_w, i32_w]
     rfl
    refine one_ (i := 3) (N := some 23) #[true, true, true, true, false, false, false, true, false] rfl rfl (one_of HT_.out (by kernel_rfl)) (by decide) (fun K hK => ?_)
    refine goes_ Try.func74 (by kernel_rfl) rfl #[.pointer (some ⟨g, 0, none⟩), .slice Ao40 y494.length co40] (by rfl) rfl rfl argx ?_
    with_reducible refine (spec_l12Rd_num.calls k g s0_0 t489 _ _ y494 t497 t498 w0 _ ?side1 ?side2 ?side3 ?side4 ?side5 A4.out).mono ?_
    (case side1 => exact mI116_1 HI0.out)
    (case side2 => exact mB116HI0 HB.out)
    (case side3 => exact mC (Kd.R_reads' HO496.out).2.2)
    (case side4 => exact (Kd.R_reads' HO496.out).2.1)
    (case side5 => exact far_slice (IsS116.own_ne HI0.out HO496.out (by decide)))
    rintro e w41 ⟨rfl, hi, hb, hk⟩
    refine ⟨_, rfl, ?_⟩
    have n_ := az (kB hk BK480.out NB480_0.out) <| az (kB hk BK483.out NB483_0.out) <| az (kB hk BK484.out NB484_0.out) <| And.intro (z0 (Kd.R_mono (Kd.R_keep (IsS116.apart (show IsS116 w0 _ g s0_0 t489 from mI116_1 HI0.out) (mR HO487.out) (by decide)) hk (fun _ h => h.2)) (fun _ h => h.1))) <| And.intro (z0 (Kd.N_mono (Kd.N_keep (Kd.N_mono (ok := fun k_ => (((((w.heap.size ≤ k_)) ∧ (nB k_ v486 ∧ (k_ ≠ g ∧ (k_ ≠ gb480 ∧ (k_ ≠ gb483 ∧ (k_ ≠ gb484 ∧ k_ ≠ gb493)))))) ∧ nB k_ (.slice Ao40 y494.length co40)) ∧ k_ ≠ gb502)) (mN HO492.out) (fun k_ hk_ => (⟨hk_, hk_.1.1.2.2.1⟩ : _ ∧ k_ ≠ g))) hk (fun _ h => h.2)) (fun _ h => h.1))) <| az (kB hk BK493.out NB493_0.out) <| And.intro (z0 (Kd.R_mono (Kd.R_keep (IsS116.apart (show IsS116 w0 _ g s0_0 t489 from mI116_1 HI0.out) (mR HO496.out) (by decide)) hk (fun _ h => h.2)) (fun _ h => h.1))) <| az (kB hk BK502.out NB502_0.out) <| az (KeepBut.trans (mKp HK.out) hk (.inl rfl)) <| az (hb) <| z0 (hi)
    clear BK480 BK483 BK484 HO487 HO492 BK493 HO496 BK502 HK HB HI0
    obtain ⟨BK480, BK483, BK484, HO487, HO492, BK493, HO496, BK502, HK, HB, HI0⟩ := n_
    (try clear hb)
    (try clear hb2)
    (try clear hk)
    (try clear hi)
    refine hK.out _ _ q103_1 (fun hHeld => ?_)
    clear hK K
    refine norm_ (a' := ?_) ?_ ?_
    rotate_left
    ·show Act.put _ (some 23) _ = _
     simp only [Act.put, List.setIfInBounds_toArray, List.set_cons_zero, List.set_cons_succ, i64_w, i32_w]
     rfl
    refine pure_ (i := 4) (N := some 24) (v := ?_) (a' := ?_) #[true, true, true, true, true, false, false, true, false] rfl rfl (any_of HT_.out (by kernel_rfl)) (fun _ _ _ h => h) (Or.inl ⟨by rfl, ?_⟩) ?_ ?_
    rotate_left
    ·intro w'
     go_simp
     with_reducible rfl
    rotate_left
    ·simp only [Act.put, List.setIfInBounds_toArray, List.set_cons_zero, List.set_cons_succ, i64_w, i32_w]
     rfl
    refine one_ (i := 5) (N := some 25) #[true, true, true, true, true, true, false, true, false] rfl rfl (one_of HT_.out (by kernel_rfl)) (by decide) (fun K hK => ?_)
    refine Kd.N_lit_step k46 _ 46 ?hg (N' := 25) ?hd (xs := ([(⟨2, 0, (⟨3, t481⟩ : S37), ([] : List (S46))⟩ : S46), (⟨1, t497, (⟨0, 0⟩ : S37), ([] : List (S46))⟩ : S46)] : List (S46))) (inner := [.int .i64 2, .int .i64 0, .int .i64 3, .int .i64 t481, .slice none 0 0, .int .i64 1, .int .i64 t497, .int .i64 0, .int .i64 0, .slice none 0 0]) (ok := (fun k_ => (w.heap.size ≤ k_) ∧ nB k_ v486 ∧ nB k_ (.slice Ao29 y490.length co29) ∧ nB k_ (.slice Ao40 y494.length co40) ∧ k_ ≠ gb480 ∧ k_ ≠ gb483 ∧ k_ ≠ gb484 ∧ k_ ≠ gb493 ∧ k_ ≠ gb502 ∧ k_ ≠ g)) (okp := (fun k_ => (w.heap.size ≤ k_) ∧ nB k_ v486 ∧ nB k_ (.slice Ao29 y490.length co29) ∧ nB k_ (.slice Ao40 y494.length co40) ∧ k_ ≠ gb480 ∧ k_ ≠ gb483 ∧ k_ ≠ gb484 ∧ k_ ≠ gb493 ∧ k_ ≠ gb502 ∧ k_ ≠ g)) ?hr ?hp (fun _ hk => hk) ((show ∀ k_, w41.heap.size ≤ k_ → (fun k_ => (w.heap.size ≤ k_) ∧ nB k_ v486 ∧ nB k_ (.slice Ao29 y490.length co29) ∧ nB k_ (.slice Ao40 y494.length co40) ∧ k_ ≠ gb480 ∧ k_ ≠ gb483 ∧ k_ ≠ gb484 ∧ k_ ≠ gb493 ∧ k_ ≠ gb502 ∧ k_ ≠ g) k_ from fun k_ hk => ⟨(Nat.le_trans (kS HK.out) hk), Kd.fresh' (Kd.R_lt (mR HO487.out)) k_ hk, Kd.fresh' (Kd.N_lt (mN HO492.out)) k_ hk, Kd.fresh' (Kd.R_lt (mR HO496.out)) k_ hk, fB BK480.out hk, fB BK483.out hk, fB BK484.out hk, fB BK493.out hk, fB BK502.out hk, IsS116.fresh (mI116_1 HI0.out) k_ hk⟩) _ (Nat.le_refl _)) (Below.refl _ _) (Nat.le_refl _) (by simp) ?_; (case hd => rfl); (case hg => rfl); (case hr => first | (go_simp; done) | (go_simp; rfl)); (case hp => exact (Reps.c5 (show Kd.FK k46 _ _ (⟨2, 0, (⟨3, t481⟩ : S37), ([] : List (S46))⟩ : S46) [.int .i64 2, .int .i64 0, .int .i64 3, .int .i64 t481, .slice none 0 0] from (k46_mkF _ _ (⟨2, 0, (⟨3, t481⟩ : S37), ([] : List (S46))⟩ : S46) (Nat.le_refl _) (Kd.F_nil _ _ _))) (Reps.c5 (show Kd.FK k46 _ _ (⟨1, t497, (⟨0, 0⟩ : S37), ([] : List (S46))⟩ : S46) [.int .i64 1, .int .i64 t497, .int .i64 0, .int .i64 0, .slice none 0 0] from (k46_mkF _ _ (⟨1, t497, (⟨0, 0⟩ : S37), ([] : List (S46))⟩ : S46) (Nat.le_refl _) (Kd.F_nil _ _ _))) (Reps.none _ _))))
    intro v500 w42 ho43 hb hg_ hnew_
    clear hg_ hnew_
    (first | rw [← Ny499.out] at ho43 | (simp only [Int.reduceToNat] at ho43; rw [← Ny499.out] at ho43))
    have n_ := az (Kd.R_below (mR HO487.out) hb) <| az (Kd.N_elder' (mN HO492.out) (by first | exact Kd.N_base ho43 | exact Kd.R_base ho43) hb) <| az (Kd.R_below (mR HO496.out) hb) <| az (Kd.N_lower ho43 (kS HK.out)) <| az (IsS116.below (mI116_1 HI0.out) hb) <| az (bB BK480.out hb) <| az (bB BK483.out hb) <| az (bB BK484.out hb) <| az (bB BK493.out hb) <| az (bB BK502.out hb) <| az (KeepBut.trans (mKp HK.out) (KeepBut.of_below hb g none) (.inl rfl)) <| z0 (below_step (mB116HI0 HB.out) hb)
    clear HO487 HO492 HO496 HI0 BK480 BK483 BK484 BK493 BK502 HK HB
    obtain ⟨HO487, HO492, HO496, HO501, HI0, BK480, BK483, BK484, BK493, BK502, HK, HB⟩ := n_
    clear hb ho43
    obtain ⟨Ao44, co44, eo44⟩ := Kd.N_slice HO501.out
    (first | subst eo44 | (injection eo44 with f1_ f2_ f3_; have f4_ := f1_.symm; have f5_ := f3_.symm; clear f1_ f2_ f3_; subst f4_; subst f5_))
    refine hK.out _ _ q103_1 (fun hHeld => ?_)
    clear hK K
    refine norm_ (a' := ?_) ?_ ?_
    rotate_left
    ·show Act.put _ (some 25) _ = _
     simp only [Act.put, List.setIfInBounds_toArray, List.set_cons_zero, List.set_cons_succ, i64_w, i32_w]
     rfl
    refine pure_ (i := 6) (N := some 26) (v := ?_) (a' := ?_) #[true, true, true, true, true, true, true, true, false] rfl rfl (any_of HT_.out (by kernel_rfl)) (fun _ _ _ h => h) (Or.inl ⟨by rfl, ?_⟩) ?_ ?_
    rotate_left
    ·intro w'
     go_simp
     with_reducible rfl
    rotate_left
    ·simp only [Act.put, List.setIfInBounds_toArray, List.set_cons_zero, List.set_cons_succ, i64_w, i32_w]
     rfl
    exact norm_ q103_4 (hCont (.slice Ao40 y494.length co40, .slice Ao44 y499.length co44, gb502) _ ⟨hHeld, (mR HO487.out), (by (with_reducible repeat (first | apply Kd.N_alloc | apply Kd.N_drewN | apply Kd.N_drew)); exact Kd.N_mono HO492.out (fun _ hk => ⟨hk.1.1.1.1, ⟨hk.1.1.1.2.1, ⟨hk.1.1.2, ⟨hk.2, ⟨hk.1.1.1.2.2.1, ⟨hk.1.1.1.2.2.2.1, ⟨hk.1.1.1.2.2.2.2.1, ⟨hk.1.1.1.2.2.2.2.2.1, ⟨hk.1.1.1.2.2.2.2.2.2, hk.1.2⟩⟩⟩⟩⟩⟩⟩⟩⟩)), q103_7, q103_5, (mK BK480.out), (mK BK483.out), (mK BK484.out), (mK BK493.out), (mK BK502.out), GW502.out, GE502.out, NB0_502.out, NB502_0.out, NB480_502.out, NB502_480.out, NB483_502.out, NB502_483.out, NB484_502.out, NB502_484.out, NB493_502.out, NB502_493.out, (mI116_1 HI0.out), (mKp HK.out), (mB116HI0 HB.out)⟩)
  ·skip
   refine box_step ?hg (N := 6) ?hd (cs := #[.int .i64 0, .int .i64 0, .int .i64 0, .int .i64 0, .slice none 0 0]) (t := 46) ?hr ?_; (case hd => rfl); (case hg => rfl); (case hr => first | (go_simp; done) | (go_simp; rfl))
   intro gb502 hg w37 hbox hb
   have n_ := az (Kd.R_below (mR HO487.out) hb) <| az (Kd.N_below (Kd.N_elderB (mN HO492.out) gb502 (Nat.le_of_eq hg.symm)) hb) <| az (IsS116.below (mI116_1 HI0.out) hb) <| az (bB BK480.out hb) <| az (bB BK483.out hb) <| az (bB BK484.out hb) <| az (bB BK493.out hb) <| az (KeepBut.trans (mKp HK.out) (KeepBut.of_below hb g none) (.inl rfl)) <| az (below_step (mB116HI0 HB.out) hb) <| az (hbox) <| az ((gW hg HK.out)) <| az ((Nat.le_trans HW0.out (gW hg HK.out) : w0.heap.size ≤ gb502)) <| az ((nL hg BK480.out)) <| az ((nG hg BK480.out)) <| az ((nL hg BK483.out)) <| az ((nG hg BK483.out)) <| az ((nL hg BK484.out)) <| az ((nG hg BK484.out)) <| az ((nL hg BK493.out)) <| az ((nG hg BK493.out)) <| And.intro (z0 ((by rw [hg]; exact Nat.ne_of_lt (IsS116.lt (show IsS116 w0 _ g s0_0 t489 from mI116_1 HI0.out)) : g ≠ gb502))) <| z0 ((by rw [hg]; exact Nat.ne_of_gt (IsS116.lt (show IsS116 w0 _ g s0_0 t489 from mI116_1 HI0.out)) : gb502 ≠ g))
   clear HO487 HO492 HI0 BK480 BK483 BK484 BK493 HK HB
   obtain ⟨HO487, HO492, HI0, BK480, BK483, BK484, BK493, HK, HB, BK502, GW502, GE502, NB480_502, NB502_480, NB483_502, NB502_483, NB484_502, NB502_484, NB493_502, NB502_493, NB0_502, NB502_0⟩ := n_
   clear hb hbox hg
   refine hK.out _ _ q103_1 (fun hHeld => ?_)
   clear hK K
   refine norm_ (a' := ?_) ?_ ?_
   rotate_left
   ·show Act.put _ (some 6) _ = _
    simp only [Act.put, List.setIfInBounds_toArray, List.set_cons_zero, List.set_cons_succ, i64_w, i32_w]
    rfl
   refine one_ (i := 2) (N := some 22) #[true, true, true, false, false, false, false, true, false] rfl rfl (one_of HT_.out (by kernel_rfl)) (by decide) (fun K hK => ?_)
   refine Kd.R_lit_step (Kd.int .i64) _ 3 ?hg (N := 22) ?hd (xs := ([1, 1, 2, 0] : List Int)) (inner := [.int .i64 1, .int .i64 1, .int .i64 2, .int .i64 0]) (ok := fun _ => True) (okp := fun _ => True) ?hr ?hp (fun _ hk => hk) trivial (Below.refl _ _) (Nat.le_refl _) (by simp) ?_; (case hd => rfl); (case hg => rfl); (case hr => first | (go_simp; done) | (go_simp; rfl)); (case hp => exact (Reps.one (show Kd.M (Kd.int .i64) _ _ _ 1 [.int .i64 1] from rfl) (Reps.one (show Kd.M (Kd.int .i64) _ _ _ 1 [.int .i64 1] from rfl) (Reps.one (show Kd.M (Kd.int .i64) _ _ _ 2 [.int .i64 2] from rfl) (Reps.one (show Kd.M (Kd.int .i64) _ _ _ 0 [.int .i64 0] from rfl) (Reps.none _ _))))))
   intro v495 w38 ho39 hb hg_ hnew_
   clear hg_ hnew_
   (first | rw [← Ny494.out] at ho39 | (simp only [Int.reduceToNat] at ho39; rw [← Ny494.out] at ho39))
   have n_ := az (Kd.R_elder' (mR HO487.out) (by first | exact Kd.R_base ho39 | exact Kd.R_base ho39) hb) <| az (Kd.N_elder' (mN HO492.out) (by first | exact Kd.R_base ho39 | exact Kd.R_base ho39) hb) <| And.intro (z0 (Kd.R_lower (Kd.R_new' (Kd.R_newM (M := fun k_ => (w.heap.size ≤ k_)) ho39 (kS HK.out) (fun k_ h_ => h_)) (Kd.R_lt (mR HO487.out))) (kS HK.out))) <| az (IsS116.below (mI116_1 HI0.out) hb) <| az (bB BK480.out hb) <| az (bB BK483.out hb) <| az (bB BK484.out hb) <| az (bB BK493.out hb) <| az (bB BK502.out hb) <| az (KeepBut.trans (mKp HK.out) (KeepBut.of_below hb g none) (.inl rfl)) <| z0 (below_step (mB116HI0 HB.out) hb)
   clear HO487 HO492 HI0 BK480 BK483 BK484 BK493 BK502 HK HB
   obtain ⟨HO487, HO492, HO496, HI0, BK480, BK483, BK484, BK493, BK502, HK, HB⟩ := n_
   clear hb ho39
   obtain ⟨Ao40, co40, eo40⟩ := Kd.R_slice HO496.out
   (first | subst eo40 | (injection eo40 with f1_ f2_ f3_; have f4_ := f1_.symm; have f5_ := f3_.symm; clear f1_ f2_ f3_; subst f4_; subst f5_))
   refine hK.out _ _ q103_1 (fun hHeld => ?_)
   clear hK K
   refine norm_ (a' := ?_) ?_ ?_
   rotate_left
   ·show Act.put _ (some 22) _ = _
    simp only [Act.put, List.setIfInBounds_toArray, List.set_cons_zero, List.set_cons_succ, i64_w, i32_w]
    rfl
   refine one_ (i := 3) (N := some 23) #[true, true, true, true, false, false, false, true, false] rfl rfl (one_of HT_.out (by kernel_rfl)) (by decide) (fun K hK => ?_)
   refine goes_ Try.func74 (by kernel_rfl) rfl #[.pointer (some ⟨g, 0, none⟩), .slice Ao40 y494.length co40] (by rfl) rfl rfl argx ?_
   with_reducible refine (spec_l12Rd_num.calls k g s0_0 t489 _ _ y494 t497 t498 w0 _ ?side1 ?side2 ?side3 ?side4 ?side5 A4.out).mono ?_
   (case side1 => exact mI116_1 HI0.out)
   (case side2 => exact mB116HI0 HB.out)
   (case side3 => exact mC (Kd.R_reads' HO496.out).2.2)
   (case side4 => exact (Kd.R_reads' HO496.out).2.1)
   (case side5 => exact far_slice (IsS116.own_ne HI0.out HO496.out (by decide)))
   rintro e w41 ⟨rfl, hi, hb, hk⟩
   refine ⟨_, rfl, ?_⟩
   have n_ := az (kB hk BK480.out NB480_0.out) <| az (kB hk BK483.out NB483_0.out) <| az (kB hk BK484.out NB484_0.out) <| And.intro (z0 (Kd.R_mono (Kd.R_keep (IsS116.apart (show IsS116 w0 _ g s0_0 t489 from mI116_1 HI0.out) (mR HO487.out) (by decide)) hk (fun _ h => h.2)) (fun _ h => h.1))) <| And.intro (z0 (Kd.N_mono (Kd.N_keep (Kd.N_mono (ok := fun k_ => (((((w.heap.size ≤ k_)) ∧ (nB k_ v486 ∧ (k_ ≠ g ∧ (k_ ≠ gb480 ∧ (k_ ≠ gb483 ∧ (k_ ≠ gb484 ∧ k_ ≠ gb493)))))) ∧ k_ ≠ gb502) ∧ nB k_ (.slice Ao40 y494.length co40))) (mN HO492.out) (fun k_ hk_ => (⟨hk_, hk_.1.1.2.2.1⟩ : _ ∧ k_ ≠ g))) hk (fun _ h => h.2)) (fun _ h => h.1))) <| az (kB hk BK493.out NB493_0.out) <| az (kB hk BK502.out NB502_0.out) <| And.intro (z0 (Kd.R_mono (Kd.R_keep (IsS116.apart (show IsS116 w0 _ g s0_0 t489 from mI116_1 HI0.out) (mR HO496.out) (by decide)) hk (fun _ h => h.2)) (fun _ h => h.1))) <| az (KeepBut.trans (mKp HK.out) hk (.inl rfl)) <| az (hb) <| z0 (hi)
   clear BK480 BK483 BK484 HO487 HO492 BK493 BK502 HO496 HK HB HI0
   obtain ⟨BK480, BK483, BK484, HO487, HO492, BK493, BK502, HO496, HK, HB, HI0⟩ := n_
   (try clear hb)
   (try clear hb2)
   (try clear hk)
   (try clear hi)
   refine hK.out _ _ q103_1 (fun hHeld => ?_)
   clear hK K
   refine norm_ (a' := ?_) ?_ ?_
   rotate_left
   ·show Act.put _ (some 23) _ = _
    simp only [Act.put, List.setIfInBounds_toArray, List.set_cons_zero, List.set_cons_succ, i64_w, i32_w]
    rfl
   refine pure_ (i := 4) (N := some 24) (v := ?_) (a' := ?_) #[true, true, true, true, true, false, false, true, false] rfl rfl (any_of HT_.out (by kernel_rfl)) (fun _ _ _ h => h) (Or.inl ⟨by rfl, ?_⟩) ?_ ?_
   rotate_left
   ·intro w'
    go_simp
    with_reducible rfl
   rotate_left
   ·simp only [Act.put, List.setIfInBounds_toArray, List.set_cons_zero, List.set_cons_succ, i64_w, i32_w]
    rfl
   refine one_ (i := 5) (N := some 25) #[true, true, true, true, true, true, false, true, false] rfl rfl (one_of HT_.out (by kernel_rfl)) (by decide) (fun K hK => ?_)
   refine Kd.N_lit_step k46 _ 46 ?hg (N' := 25) ?hd (xs := ([(⟨2, 0, (⟨3, t481⟩ : S37), ([] : List (S46))⟩ : S46), (⟨1, t497, (⟨0, 0⟩ : S37), ([] : List (S46))⟩ : S46)] : List (S46))) (inner := [.int .i64 2, .int .i64 0, .int .i64 3, .int .i64 t481, .slice none 0 0, .int .i64 1, .int .i64 t497, .int .i64 0, .int .i64 0, .slice none 0 0]) (ok := (fun k_ => (w.heap.size ≤ k_) ∧ nB k_ v486 ∧ nB k_ (.slice Ao29 y490.length co29) ∧ nB k_ (.slice Ao40 y494.length co40) ∧ k_ ≠ gb480 ∧ k_ ≠ gb483 ∧ k_ ≠ gb484 ∧ k_ ≠ gb493 ∧ k_ ≠ gb502 ∧ k_ ≠ g)) (okp := (fun k_ => (w.heap.size ≤ k_) ∧ nB k_ v486 ∧ nB k_ (.slice Ao29 y490.length co29) ∧ nB k_ (.slice Ao40 y494.length co40) ∧ k_ ≠ gb480 ∧ k_ ≠ gb483 ∧ k_ ≠ gb484 ∧ k_ ≠ gb493 ∧ k_ ≠ gb502 ∧ k_ ≠ g)) ?hr ?hp (fun _ hk => hk) ((show ∀ k_, w41.heap.size ≤ k_ → (fun k_ => (w.heap.size ≤ k_) ∧ nB k_ v486 ∧ nB k_ (.slice Ao29 y490.length co29) ∧ nB k_ (.slice Ao40 y494.length co40) ∧ k_ ≠ gb480 ∧ k_ ≠ gb483 ∧ k_ ≠ gb484 ∧ k_ ≠ gb493 ∧ k_ ≠ gb502 ∧ k_ ≠ g) k_ from fun k_ hk => ⟨(Nat.le_trans (kS HK.out) hk), Kd.fresh' (Kd.R_lt (mR HO487.out)) k_ hk, Kd.fresh' (Kd.N_lt (mN HO492.out)) k_ hk, Kd.fresh' (Kd.R_lt (mR HO496.out)) k_ hk, fB BK480.out hk, fB BK483.out hk, fB BK484.out hk, fB BK493.out hk, fB BK502.out hk, IsS116.fresh (mI116_1 HI0.out) k_ hk⟩) _ (Nat.le_refl _)) (Below.refl _ _) (Nat.le_refl _) (by simp) ?_; (case hd => rfl); (case hg => rfl); (case hr => first | (go_simp; done) | (go_simp; rfl)); (case hp => exact (Reps.c5 (show Kd.FK k46 _ _ (⟨2, 0, (⟨3, t481⟩ : S37), ([] : List (S46))⟩ : S46) [.int .i64 2, .int .i64 0, .int .i64 3, .int .i64 t481, .slice none 0 0] from (k46_mkF _ _ (⟨2, 0, (⟨3, t481⟩ : S37), ([] : List (S46))⟩ : S46) (Nat.le_refl _) (Kd.F_nil _ _ _))) (Reps.c5 (show Kd.FK k46 _ _ (⟨1, t497, (⟨0, 0⟩ : S37), ([] : List (S46))⟩ : S46) [.int .i64 1, .int .i64 t497, .int .i64 0, .int .i64 0, .slice none 0 0] from (k46_mkF _ _ (⟨1, t497, (⟨0, 0⟩ : S37), ([] : List (S46))⟩ : S46) (Nat.le_refl _) (Kd.F_nil _ _ _))) (Reps.none _ _))))
   intro v500 w42 ho43 hb hg_ hnew_
   clear hg_ hnew_
   (first | rw [← Ny499.out] at ho43 | (simp only [Int.reduceToNat] at ho43; rw [← Ny499.out] at ho43))
   have n_ := az (Kd.R_below (mR HO487.out) hb) <| az (Kd.N_elder' (mN HO492.out) (by first | exact Kd.N_base ho43 | exact Kd.R_base ho43) hb) <| az (Kd.R_below (mR HO496.out) hb) <| az (Kd.N_lower ho43 (kS HK.out)) <| az (IsS116.below (mI116_1 HI0.out) hb) <| az (bB BK480.out hb) <| az (bB BK483.out hb) <| az (bB BK484.out hb) <| az (bB BK493.out hb) <| az (bB BK502.out hb) <| az (KeepBut.trans (mKp HK.out) (KeepBut.of_below hb g none) (.inl rfl)) <| z0 (below_step (mB116HI0 HB.out) hb)
   clear HO487 HO492 HO496 HI0 BK480 BK483 BK484 BK493 BK502 HK HB
   obtain ⟨HO487, HO492, HO496, HO501, HI0, BK480, BK483, BK484, BK493, BK502, HK, HB⟩ := n_
   clear hb ho43
   obtain ⟨Ao44, co44, eo44⟩ := Kd.N_slice HO501.out
   (first | subst eo44 | (injection eo44 with f1_ f2_ f3_; have f4_ := f1_.symm; have f5_ := f3_.symm; clear f1_ f2_ f3_; subst f4_; subst f5_))
   refine hK.out _ _ q103_1 (fun hHeld => ?_)
   clear hK K
   refine norm_ (a' := ?_) ?_ ?_
   rotate_left
   ·show Act.put _ (some 25) _ = _
    simp only [Act.put, List.setIfInBounds_toArray, List.set_cons_zero, List.set_cons_succ, i64_w, i32_w]
    rfl
   refine pure_ (i := 6) (N := some 26) (v := ?_) (a' := ?_) #[true, true, true, true, true, true, true, true, false] rfl rfl (any_of HT_.out (by kernel_rfl)) (fun _ _ _ h => h) (Or.inl ⟨by rfl, ?_⟩) ?_ ?_
   rotate_left
   ·intro w'
    go_simp
    with_reducible rfl
   rotate_left
   ·simp only [Act.put, List.setIfInBounds_toArray, List.set_cons_zero, List.set_cons_succ, i64_w, i32_w]
    rfl
   exact norm_ q103_4 (hCont (.slice Ao40 y494.length co40, .slice Ao44 y499.length co44, gb502) _ ⟨hHeld, (mR HO487.out), (by (with_reducible repeat (first | apply Kd.N_alloc | apply Kd.N_drewN | apply Kd.N_drew)); exact Kd.N_mono HO492.out (fun _ hk => ⟨hk.1.1.1.1, ⟨hk.1.1.1.2.1, ⟨hk.1.2, ⟨hk.2, ⟨hk.1.1.1.2.2.1, ⟨hk.1.1.1.2.2.2.1, ⟨hk.1.1.1.2.2.2.2.1, ⟨hk.1.1.1.2.2.2.2.2.1, ⟨hk.1.1.1.2.2.2.2.2.2, hk.1.1.2⟩⟩⟩⟩⟩⟩⟩⟩⟩)), q103_7, q103_5, (mK BK480.out), (mK BK483.out), (mK BK484.out), (mK BK493.out), (mK BK502.out), GW502.out, GE502.out, NB0_502.out, NB502_0.out, NB480_502.out, NB502_480.out, NB483_502.out, NB502_483.out, NB484_502.out, NB502_484.out, NB493_502.out, NB502_493.out, (mI116_1 HI0.out), (mKp HK.out), (mB116HI0 HB.out)⟩)
 rintro ⟨v495, v500, gb502⟩ w45 ⟨hS_, h0_, h1_, h2_, h3_, h4_, h5_, h6_, h7_, h8_, h9_, h10_, h11_, h12_, h13_, h14_, h15_, h16_, h17_, h18_, h19_, h20_, h21_, h22_, h23_⟩
 have n0_ : Aside0 (Kd.R (Kd.int .i64) 3 w45 w.heap.size (fun k_ => (w.heap.size ≤ k_) ∧ nB k_ v495) v486 y485) := ⟨h0_⟩
 have n1_ : Aside0 (Kd.N k46 46 w45 w.heap.size (fun k_ => (w.heap.size ≤ k_) ∧ nB k_ v486 ∧ nB k_ v495 ∧ nB k_ v500 ∧ k_ ≠ g ∧ k_ ≠ gb480 ∧ k_ ≠ gb483 ∧ k_ ≠ gb484 ∧ k_ ≠ gb493 ∧ k_ ≠ gb502) (.slice Ao29 y490.length co29) y490) := ⟨h1_⟩
 have n2_ : Aside0 (Kd.R (Kd.int .i64) 3 w45 w.heap.size (fun k_ => (w.heap.size ≤ k_) ∧ nB k_ v486) v495 y494) := ⟨h2_⟩
 have n3_ : Aside0 (Kd.N k46 46 w45 w.heap.size (fun k_ => (w.heap.size ≤ k_) ∧ nB k_ v486 ∧ nB k_ (.slice Ao29 y490.length co29) ∧ nB k_ v495 ∧ k_ ≠ g ∧ k_ ≠ gb480 ∧ k_ ≠ gb483 ∧ k_ ≠ gb484 ∧ k_ ≠ gb493 ∧ k_ ≠ gb502) v500 y499) := ⟨h3_⟩
 have n4_ : Aside0 (w45.heap[gb480]? = some (.cells #[.int .i64 0, .int .i64 0, .int .i64 0, .int .i64 0, .int .i64 0, .int .i64 0, .int .i64 0, .slice none 0 0, .slice none 0 0, .slice none 0 0] 69 (0, 0))) := ⟨h4_⟩
 have n5_ : Aside0 (w45.heap[gb483]? = some (.cells #[.int .i64 3, .int .i64 t481] 37 (0, 0))) := ⟨h5_⟩
 have n6_ : Aside0 (w45.heap[gb484]? = some (.cells #[.int .i64 2, .int .i64 0, .int .i64 3, .int .i64 t481, .slice none 0 0] 46 (0, 0))) := ⟨h6_⟩
 have n7_ : Aside0 (w45.heap[gb493]? = some (.cells #[.int .i64 6, .int .i64 0, .int .i64 0, .int .i64 0, .slice Ao29 y490.length co29] 46 (0, 0))) := ⟨h7_⟩
 have n8_ : Aside0 (w45.heap[gb502]? = some (.cells #[.int .i64 0, .int .i64 0, .int .i64 0, .int .i64 0, .slice none 0 0] 46 (0, 0))) := ⟨h8_⟩
 have n9_ : Aside0 (w.heap.size ≤ gb502) := ⟨h9_⟩
 have n10_ : Aside0 (w0.heap.size ≤ gb502) := ⟨h10_⟩
 have n11_ : Aside0 (g ≠ gb502) := ⟨h11_⟩
 have n12_ : Aside0 (gb502 ≠ g) := ⟨h12_⟩
 have n13_ : Aside0 (gb480 ≠ gb502) := ⟨h13_⟩
 have n14_ : Aside0 (gb502 ≠ gb480) := ⟨h14_⟩
 have n15_ : Aside0 (gb483 ≠ gb502) := ⟨h15_⟩
 have n16_ : Aside0 (gb502 ≠ gb483) := ⟨h16_⟩
 have n17_ : Aside0 (gb484 ≠ gb502) := ⟨h17_⟩
 have n18_ : Aside0 (gb502 ≠ gb484) := ⟨h18_⟩
 have n19_ : Aside0 (gb493 ≠ gb502) := ⟨h19_⟩
 have n20_ : Aside0 (gb502 ≠ gb493) := ⟨h20_⟩
 have n21_ : Aside0 (IsS116 w0 w45 g s0_0 t498) := ⟨h21_⟩
 have n22_ : Aside0 (KeepBut w w45 g none) := ⟨h22_⟩
 have n23_ : Aside0 (Below w0.heap.size w0 w45) := ⟨h23_⟩
 clear HO487 HO492 BK480 BK483 BK484 BK493 HI0 HK HB h0_ h1_ h2_ h3_ h4_ h5_ h6_ h7_ h8_ h9_ h10_ h11_ h12_ h13_ h14_ h15_ h16_ h17_ h18_ h19_ h20_ h21_ h22_ h23_
 have HO487 := n0_
 have HO492 := n1_
 have HO496 := n2_
 have HO501 := n3_
 have BK480 := n4_
 have BK483 := n5_
 have BK484 := n6_
 have BK493 := n7_
 have BK502 := n8_
 have GW502 := n9_
 have GE502 := n10_
 have NB0_502 := n11_
 have NB502_0 := n12_
 have NB480_502 := n13_
 have NB502_480 := n14_
 have NB483_502 := n15_
 have NB502_483 := n16_
 have NB484_502 := n17_
 have NB502_484 := n18_
 have NB493_502 := n19_
 have NB502_493 := n20_
 have HI0 := n21_
 have HK := n22_
 have HB := n23_
 clear n0_ n1_ n2_ n3_ n4_ n5_ n6_ n7_ n8_ n9_ n10_ n11_ n12_ n13_ n14_ n15_ n16_ n17_ n18_ n19_ n20_ n21_ n22_ n23_
 have hHeld : w45.cell? ⟨gb484, 0, none⟩ = some (.int .i64 2) ∧ w45.cell? ⟨gb484, 1, none⟩ = some (.int .i64 0) ∧ w45.cell? ⟨gb484, 2, none⟩ = some (.int .i64 3) ∧ w45.cell? ⟨gb484, 3, none⟩ = some (.int .i64 t481) ∧ w45.cell? ⟨gb484, 4, none⟩ = some (.slice none 0 0) := hS_
 obtain ⟨Ao46, co46, eo46⟩ := Kd.N_slice HO501.out
 (first | subst eo46 | (injection eo46 with f1_ f2_ f3_; have f4_ := f1_.symm; have f5_ := f3_.symm; clear f1_ f2_ f3_; subst f4_; subst f5_))
 refine norm_ (a' := ?_) ?_ ?_
 rotate_left
 ·simp only [putAll, Act.put, List.setIfInBounds_toArray, List.set_cons_zero, List.set_cons_succ]
  rfl
 refine one_ (i := 8) (N := none) #[true, true, true, true, true, true, true, true, true] rfl rfl (one_of HT_.out (by kernel_rfl)) (by decide) (fun K hK => ?_)
 have hs47 : w45.cell? ⟨gb502, 0, none⟩ = some (.int .i64 0) := (blk_cell BK502.out 0).trans rfl
 have hfs47 := blk_frozen BK502.out 0
 have hns47_0 := NB480_502.out
 have hns47_1 := NB483_502.out
 have hns47_2 := NB484_502.out
 have hns47_3 := NB493_502.out
 have hms47_0 := NB502_480.out
 have hms47_1 := NB502_483.out
 have hms47_2 := NB502_484.out
 have hms47_3 := NB502_493.out
 have hs48 : w45.cell? ⟨gb502, 1, none⟩ = some (.int .i64 0) := (blk_cell BK502.out 1).trans rfl
 have hfs48 := blk_frozen BK502.out 1
 have hns48_0 := NB480_502.out
 have hns48_1 := NB483_502.out
 have hns48_2 := NB484_502.out
 have hns48_3 := NB493_502.out
 have hms48_0 := NB502_480.out
 have hms48_1 := NB502_483.out
 have hms48_2 := NB502_484.out
 have hms48_3 := NB502_493.out
 have hs49 : w45.cell? ⟨gb502, 2, none⟩ = some (.int .i64 0) := (blk_cell BK502.out 2).trans rfl
 have hfs49 := blk_frozen BK502.out 2
 have hns49_0 := NB480_502.out
 have hns49_1 := NB483_502.out
 have hns49_2 := NB484_502.out
 have hns49_3 := NB493_502.out
 have hms49_0 := NB502_480.out
 have hms49_1 := NB502_483.out
 have hms49_2 := NB502_484.out
 have hms49_3 := NB502_493.out
 have hs50 : w45.cell? ⟨gb502, 3, none⟩ = some (.int .i64 0) := (blk_cell BK502.out 3).trans rfl
 have hfs50 := blk_frozen BK502.out 3
 have hns50_0 := NB480_502.out
 have hns50_1 := NB483_502.out
 have hns50_2 := NB484_502.out
 have hns50_3 := NB493_502.out
 have hms50_0 := NB502_480.out
 have hms50_1 := NB502_483.out
 have hms50_2 := NB502_484.out
 have hms50_3 := NB502_493.out
 have hs51 : w45.cell? ⟨gb502, 4, none⟩ = some (.slice none 0 0) := (blk_cell BK502.out 4).trans rfl
 have hfs51 := blk_frozen BK502.out 4
 have hns51_0 := NB480_502.out
 have hns51_1 := NB483_502.out
 have hns51_2 := NB484_502.out
 have hns51_3 := NB493_502.out
 have hms51_0 := NB502_480.out
 have hms51_1 := NB502_483.out
 have hms51_2 := NB502_484.out
 have hms51_3 := NB502_493.out
 refine skip_ (w1 := ?_) (by rfl) rfl ?_ ?_
 rotate_left
 ·go_simp
  rfl
 refine hK.out _ _ ⟨((cell_far (p := ⟨gb502, _, none⟩) NB484_502.out _).trans (((cell_far (p := ⟨gb502, _, none⟩) NB484_502.out _).trans (((cell_far (p := ⟨gb502, _, none⟩) NB484_502.out _).trans (((cell_far (p := ⟨gb502, _, none⟩) NB484_502.out _).trans (((cell_far (p := ⟨gb502, _, none⟩) NB484_502.out _).trans (hHeld.1)))))))))), ((cell_far (p := ⟨gb502, _, none⟩) NB484_502.out _).trans (((cell_far (p := ⟨gb502, _, none⟩) NB484_502.out _).trans (((cell_far (p := ⟨gb502, _, none⟩) NB484_502.out _).trans (((cell_far (p := ⟨gb502, _, none⟩) NB484_502.out _).trans (((cell_far (p := ⟨gb502, _, none⟩) NB484_502.out _).trans (hHeld.2.1)))))))))), ((cell_far (p := ⟨gb502, _, none⟩) NB484_502.out _).trans (((cell_far (p := ⟨gb502, _, none⟩) NB484_502.out _).trans (((cell_far (p := ⟨gb502, _, none⟩) NB484_502.out _).trans (((cell_far (p := ⟨gb502, _, none⟩) NB484_502.out _).trans (((cell_far (p := ⟨gb502, _, none⟩) NB484_502.out _).trans (hHeld.2.2.1)))))))))), ((cell_far (p := ⟨gb502, _, none⟩) NB484_502.out _).trans (((cell_far (p := ⟨gb502, _, none⟩) NB484_502.out _).trans (((cell_far (p := ⟨gb502, _, none⟩) NB484_502.out _).trans (((cell_far (p := ⟨gb502, _, none⟩) NB484_502.out _).trans (((cell_far (p := ⟨gb502, _, none⟩) NB484_502.out _).trans (hHeld.2.2.2.1)))))))))), ((cell_far (p := ⟨gb502, _, none⟩) NB484_502.out _).trans (((cell_far (p := ⟨gb502, _, none⟩) NB484_502.out _).trans (((cell_far (p := ⟨gb502, _, none⟩) NB484_502.out _).trans (((cell_far (p := ⟨gb502, _, none⟩) NB484_502.out _).trans (((cell_far (p := ⟨gb502, _, none⟩) NB484_502.out _).trans (hHeld.2.2.2.2))))))))))⟩ (fun hHeld => ?_)
 clear hK K
 refine done_ (done_of HT_.out (by kernel_rfl)) ?_
 have n0_ : Aside0 (Kd.R (Kd.int .i64) 3 (((((w45.setCell ⟨gb502, 0, none⟩ (.int .i64 3)).setCell ⟨gb502, 1, none⟩ (.int .i64 0)).setCell ⟨gb502, 2, none⟩ (.int .i64 0)).setCell ⟨gb502, 3, none⟩ (.int .i64 0)).setCell ⟨gb502, 4, none⟩ (.slice Ao46 y499.length co46)) w.heap.size (fun k_ => (w.heap.size ≤ k_) ∧ nB k_ v495) v486 y485) := ⟨by (with_reducible repeat (first | apply Kd.R_alloc | apply Kd.R_drewN | apply Kd.R_drew)); exact Kd.R_mono (Kd.R_far (p := ⟨gb502, 4, none⟩) (Kd.R_far (p := ⟨gb502, 3, none⟩) (Kd.R_far (p := ⟨gb502, 2, none⟩) (Kd.R_far (p := ⟨gb502, 1, none⟩) (Kd.R_far (p := ⟨gb502, 0, none⟩) (Kd.R_types HO487.out BK502.out (by decide)) (fun _ hk => hk.2) (.int .i64 3)) (fun _ hk => hk.2) (.int .i64 0)) (fun _ hk => hk.2) (.int .i64 0)) (fun _ hk => hk.2) (.int .i64 0)) (fun _ hk => hk.2) (.slice Ao46 y499.length co46)) (fun _ hk => ⟨hk.1.1, hk.1.2⟩)⟩
 have n1_ : Aside0 (Kd.N k46 46 (((((w45.setCell ⟨gb502, 0, none⟩ (.int .i64 3)).setCell ⟨gb502, 1, none⟩ (.int .i64 0)).setCell ⟨gb502, 2, none⟩ (.int .i64 0)).setCell ⟨gb502, 3, none⟩ (.int .i64 0)).setCell ⟨gb502, 4, none⟩ (.slice Ao46 y499.length co46)) w.heap.size (fun k_ => (w.heap.size ≤ k_) ∧ nB k_ v486 ∧ nB k_ v495 ∧ nB k_ (.slice Ao46 y499.length co46) ∧ k_ ≠ g ∧ k_ ≠ gb480 ∧ k_ ≠ gb483 ∧ k_ ≠ gb484 ∧ k_ ≠ gb493 ∧ k_ ≠ gb502) (.slice Ao29 y490.length co29) y490) := ⟨by (with_reducible repeat (first | apply Kd.N_alloc | apply Kd.N_drewN | apply Kd.N_drew)); exact Kd.N_mono (Kd.N_far (p := ⟨gb502, 4, none⟩) (Kd.N_far (p := ⟨gb502, 3, none⟩) (Kd.N_far (p := ⟨gb502, 2, none⟩) (Kd.N_far (p := ⟨gb502, 1, none⟩) (Kd.N_far (p := ⟨gb502, 0, none⟩) (Kd.N_mono HO492.out (fun k_ hk => (⟨hk, hk.2.2.2.2.2.2.2.2.2⟩ : _ ∧ k_ ≠ gb502))) (fun _ hk => hk.2) (.int .i64 3)) (fun _ hk => hk.2) (.int .i64 0)) (fun _ hk => hk.2) (.int .i64 0)) (fun _ hk => hk.2) (.int .i64 0)) (fun _ hk => hk.2) (.slice Ao46 y499.length co46)) (fun _ hk => ⟨hk.1.1, ⟨hk.1.2.1, ⟨hk.1.2.2.1, ⟨hk.1.2.2.2.1, ⟨hk.1.2.2.2.2.1, ⟨hk.1.2.2.2.2.2.1, ⟨hk.1.2.2.2.2.2.2.1, ⟨hk.1.2.2.2.2.2.2.2.1, ⟨hk.1.2.2.2.2.2.2.2.2.1, hk.1.2.2.2.2.2.2.2.2.2⟩⟩⟩⟩⟩⟩⟩⟩⟩)⟩
 have n2_ : Aside0 (Kd.R (Kd.int .i64) 3 (((((w45.setCell ⟨gb502, 0, none⟩ (.int .i64 3)).setCell ⟨gb502, 1, none⟩ (.int .i64 0)).setCell ⟨gb502, 2, none⟩ (.int .i64 0)).setCell ⟨gb502, 3, none⟩ (.int .i64 0)).setCell ⟨gb502, 4, none⟩ (.slice Ao46 y499.length co46)) w.heap.size (fun k_ => (w.heap.size ≤ k_) ∧ nB k_ v486) v495 y494) := ⟨by (with_reducible repeat (first | apply Kd.R_alloc | apply Kd.R_drewN | apply Kd.R_drew)); exact Kd.R_mono (Kd.R_far (p := ⟨gb502, 4, none⟩) (Kd.R_far (p := ⟨gb502, 3, none⟩) (Kd.R_far (p := ⟨gb502, 2, none⟩) (Kd.R_far (p := ⟨gb502, 1, none⟩) (Kd.R_far (p := ⟨gb502, 0, none⟩) (Kd.R_types HO496.out BK502.out (by decide)) (fun _ hk => hk.2) (.int .i64 3)) (fun _ hk => hk.2) (.int .i64 0)) (fun _ hk => hk.2) (.int .i64 0)) (fun _ hk => hk.2) (.int .i64 0)) (fun _ hk => hk.2) (.slice Ao46 y499.length co46)) (fun _ hk => ⟨hk.1.1, hk.1.2⟩)⟩
 have n3_ : Aside0 (Kd.N k46 46 (((((w45.setCell ⟨gb502, 0, none⟩ (.int .i64 3)).setCell ⟨gb502, 1, none⟩ (.int .i64 0)).setCell ⟨gb502, 2, none⟩ (.int .i64 0)).setCell ⟨gb502, 3, none⟩ (.int .i64 0)).setCell ⟨gb502, 4, none⟩ (.slice Ao46 y499.length co46)) w.heap.size (fun k_ => (w.heap.size ≤ k_) ∧ nB k_ v486 ∧ nB k_ (.slice Ao29 y490.length co29) ∧ nB k_ v495 ∧ k_ ≠ g ∧ k_ ≠ gb480 ∧ k_ ≠ gb483 ∧ k_ ≠ gb484 ∧ k_ ≠ gb493 ∧ k_ ≠ gb502) (.slice Ao46 y499.length co46) y499) := ⟨by (with_reducible repeat (first | apply Kd.N_alloc | apply Kd.N_drewN | apply Kd.N_drew)); exact Kd.N_mono (Kd.N_far (p := ⟨gb502, 4, none⟩) (Kd.N_far (p := ⟨gb502, 3, none⟩) (Kd.N_far (p := ⟨gb502, 2, none⟩) (Kd.N_far (p := ⟨gb502, 1, none⟩) (Kd.N_far (p := ⟨gb502, 0, none⟩) (Kd.N_mono HO501.out (fun k_ hk => (⟨hk, hk.2.2.2.2.2.2.2.2.2⟩ : _ ∧ k_ ≠ gb502))) (fun _ hk => hk.2) (.int .i64 3)) (fun _ hk => hk.2) (.int .i64 0)) (fun _ hk => hk.2) (.int .i64 0)) (fun _ hk => hk.2) (.int .i64 0)) (fun _ hk => hk.2) (.slice Ao46 y499.length co46)) (fun _ hk => ⟨hk.1.1, ⟨hk.1.2.1, ⟨hk.1.2.2.1, ⟨hk.1.2.2.2.1, ⟨hk.1.2.2.2.2.1, ⟨hk.1.2.2.2.2.2.1, ⟨hk.1.2.2.2.2.2.2.1, ⟨hk.1.2.2.2.2.2.2.2.1, ⟨hk.1.2.2.2.2.2.2.2.2.1, hk.1.2.2.2.2.2.2.2.2.2⟩⟩⟩⟩⟩⟩⟩⟩⟩)⟩
 have n4_ : Aside0 ((((((w45.setCell ⟨gb502, 0, none⟩ (.int .i64 3)).setCell ⟨gb502, 1, none⟩ (.int .i64 0)).setCell ⟨gb502, 2, none⟩ (.int .i64 0)).setCell ⟨gb502, 3, none⟩ (.int .i64 0)).setCell ⟨gb502, 4, none⟩ (.slice Ao46 y499.length co46)).heap[gb480]? = some (.cells #[.int .i64 0, .int .i64 0, .int .i64 0, .int .i64 0, .int .i64 0, .int .i64 0, .int .i64 0, .slice none 0 0, .slice none 0 0, .slice none 0 0] 69 (0, 0))) := ⟨mF BK480.out⟩
 have n5_ : Aside0 ((((((w45.setCell ⟨gb502, 0, none⟩ (.int .i64 3)).setCell ⟨gb502, 1, none⟩ (.int .i64 0)).setCell ⟨gb502, 2, none⟩ (.int .i64 0)).setCell ⟨gb502, 3, none⟩ (.int .i64 0)).setCell ⟨gb502, 4, none⟩ (.slice Ao46 y499.length co46)).heap[gb483]? = some (.cells #[.int .i64 3, .int .i64 t481] 37 (0, 0))) := ⟨mF BK483.out⟩
 have n6_ : Aside0 ((((((w45.setCell ⟨gb502, 0, none⟩ (.int .i64 3)).setCell ⟨gb502, 1, none⟩ (.int .i64 0)).setCell ⟨gb502, 2, none⟩ (.int .i64 0)).setCell ⟨gb502, 3, none⟩ (.int .i64 0)).setCell ⟨gb502, 4, none⟩ (.slice Ao46 y499.length co46)).heap[gb484]? = some (.cells #[.int .i64 2, .int .i64 0, .int .i64 3, .int .i64 t481, .slice none 0 0] 46 (0, 0))) := ⟨mF BK484.out⟩
 have n7_ : Aside0 ((((((w45.setCell ⟨gb502, 0, none⟩ (.int .i64 3)).setCell ⟨gb502, 1, none⟩ (.int .i64 0)).setCell ⟨gb502, 2, none⟩ (.int .i64 0)).setCell ⟨gb502, 3, none⟩ (.int .i64 0)).setCell ⟨gb502, 4, none⟩ (.slice Ao46 y499.length co46)).heap[gb493]? = some (.cells #[.int .i64 6, .int .i64 0, .int .i64 0, .int .i64 0, .slice Ao29 y490.length co29] 46 (0, 0))) := ⟨mF BK493.out⟩
 have n8_ : Aside0 ((((((w45.setCell ⟨gb502, 0, none⟩ (.int .i64 3)).setCell ⟨gb502, 1, none⟩ (.int .i64 0)).setCell ⟨gb502, 2, none⟩ (.int .i64 0)).setCell ⟨gb502, 3, none⟩ (.int .i64 0)).setCell ⟨gb502, 4, none⟩ (.slice Ao46 y499.length co46)).heap[gb502]? = some (.cells #[.int .i64 3, .int .i64 0, .int .i64 0, .int .i64 0, .slice Ao46 y499.length co46] 46 (0, 0))) := ⟨pF BK502.out⟩
 have n9_ : Aside0 (IsS116 w0 (((((w45.setCell ⟨gb502, 0, none⟩ (.int .i64 3)).setCell ⟨gb502, 1, none⟩ (.int .i64 0)).setCell ⟨gb502, 2, none⟩ (.int .i64 0)).setCell ⟨gb502, 3, none⟩ (.int .i64 0)).setCell ⟨gb502, 4, none⟩ (.slice Ao46 y499.length co46)) g s0_0 t498) := ⟨mI116_1 HI0.out⟩
 have n10_ : Aside0 (KeepBut w (((((w45.setCell ⟨gb502, 0, none⟩ (.int .i64 3)).setCell ⟨gb502, 1, none⟩ (.int .i64 0)).setCell ⟨gb502, 2, none⟩ (.int .i64 0)).setCell ⟨gb502, 3, none⟩ (.int .i64 0)).setCell ⟨gb502, 4, none⟩ (.slice Ao46 y499.length co46)) g none) := ⟨mKp HK.out⟩
 have n11_ : Aside0 (Below w0.heap.size w0 (((((w45.setCell ⟨gb502, 0, none⟩ (.int .i64 3)).setCell ⟨gb502, 1, none⟩ (.int .i64 0)).setCell ⟨gb502, 2, none⟩ (.int .i64 0)).setCell ⟨gb502, 3, none⟩ (.int .i64 0)).setCell ⟨gb502, 4, none⟩ (.slice Ao46 y499.length co46))) := ⟨mB116HI0 HB.out⟩
 (try clear HO487)
 (try clear HO492)
 (try clear HO496)
 (try clear HO501)
 (try clear BK480)
 (try clear BK483)
 (try clear BK484)
 (try clear BK493)
 (try clear BK502)
 (try clear HI0)
 (try clear HK)
 (try clear HB)
 generalize (((((w45.setCell ⟨gb502, 0, none⟩ (.int .i64 3)).setCell ⟨gb502, 1, none⟩ (.int .i64 0)).setCell ⟨gb502, 2, none⟩ (.int .i64 0)).setCell ⟨gb502, 3, none⟩ (.int .i64 0)).setCell ⟨gb502, 4, none⟩ (.slice Ao46 y499.length co46)) = w52 at n0_ n1_ n2_ n3_ n4_ n5_ n6_ n7_ n8_ n9_ n10_ n11_ ⊢
 have HO487 := n0_
 have HO492 := n1_
 have HO496 := n2_
 have HO501 := n3_
 have BK480 := n4_
 have BK483 := n5_
 have BK484 := n6_
 have BK493 := n7_
 have BK502 := n8_
 have HI0 := n9_
 have HK := n10_
 have HB := n11_
 clear n0_ n1_ n2_ n3_ n4_ n5_ n6_ n7_ n8_ n9_ n10_ n11_
 have hnb53 := NB493_480.out
 have hnc53 := NB480_493.out
 have hnb54 := NB493_483.out
 have hnc54 := NB483_493.out
 have hnb55 := NB493_484.out
 have hnc55 := NB484_493.out
 have hnb56 := NB493_502.out
 have hnc56 := NB502_493.out
 have hnb57 := NB493_0.out
 have hnc57 := NB0_493.out
 obtain ⟨hcz58_0, hcz58_1, hcz58_2, hcz58_3, hcz58_4, hfz58_0, hfz58_1, hfz58_2, hfz58_3, hfz58_4⟩ := cel5 BK493.out
 have hnb59 := NB483_502.out
 have hnc59 := NB502_483.out
 obtain ⟨hcz60_0, hcz60_1, hfz60_0, hfz60_1⟩ := cel2 BK483.out
 have hnb61 := NB502_480.out
 have hnc61 := NB480_502.out
 have hnb62 := NB502_484.out
 have hnc62 := NB484_502.out
 have hnb63 := NB502_0.out
 have hnc63 := NB0_502.out
 obtain ⟨hcz64_0, hcz64_1, hcz64_2, hcz64_3, hcz64_4, hfz64_0, hfz64_1, hfz64_2, hfz64_3, hfz64_4⟩ := cel5 BK502.out
 go_upto_if 35 with (first | ((with_reducible refine gate_dst (N := 31) rfl ?_); refine Kd.N_lit k69 _ 69 ?hg (N' := 31) ?hd (xs := ([(⟨1, (⟨3, t481⟩ : S37), (⟨3, 0, (⟨0, 0⟩ : S37), y499⟩ : S46), ([] : List (S69)), ([] : List (S69))⟩ : S69)] : List (S69))) (inner := [.int .i64 1, .int .i64 3, .int .i64 t481, .int .i64 3, .int .i64 0, .int .i64 0, .int .i64 0, .slice Ao46 y499.length co46, .slice none 0 0, .slice none 0 0]) (ok := (fun k_ => (w.heap.size ≤ k_) ∧ nB k_ v486 ∧ nB k_ (.slice Ao29 y490.length co29) ∧ nB k_ v495 ∧ k_ ≠ gb480 ∧ k_ ≠ gb483 ∧ k_ ≠ gb484 ∧ k_ ≠ gb493 ∧ k_ ≠ gb502 ∧ k_ ≠ g)) (okp := (fun k_ => (w.heap.size ≤ k_) ∧ nB k_ v486 ∧ nB k_ (.slice Ao29 y490.length co29) ∧ nB k_ v495 ∧ k_ ≠ gb480 ∧ k_ ≠ gb483 ∧ k_ ≠ gb484 ∧ k_ ≠ gb493 ∧ k_ ≠ gb502 ∧ k_ ≠ g)) ?hr ?hp (fun _ hk => hk) ((show ∀ k_, w52.heap.size ≤ k_ → (fun k_ => (w.heap.size ≤ k_) ∧ nB k_ v486 ∧ nB k_ (.slice Ao29 y490.length co29) ∧ nB k_ v495 ∧ k_ ≠ gb480 ∧ k_ ≠ gb483 ∧ k_ ≠ gb484 ∧ k_ ≠ gb493 ∧ k_ ≠ gb502 ∧ k_ ≠ g) k_ from fun k_ hk => ⟨(Nat.le_trans (kS HK.out) hk), Kd.fresh' (Kd.R_lt (mR HO487.out)) k_ hk, Kd.fresh' (Kd.N_lt (mN HO492.out)) k_ hk, Kd.fresh' (Kd.R_lt (mR HO496.out)) k_ hk, fB BK480.out hk, fB BK483.out hk, fB BK484.out hk, fB BK493.out hk, fB BK502.out hk, IsS116.fresh (mI116_1 HI0.out) k_ hk⟩) _ (Nat.le_refl _)) (Below.refl _ _) (Nat.le_refl _) (by simp) ?_; (case hd => rfl); (case hg => rfl); (case hr => first | (go_simp; done) | (go_simp; rfl)); (case hp => exact (Reps.c10 (show Kd.FK k69 _ _ (⟨1, (⟨3, t481⟩ : S37), (⟨3, 0, (⟨0, 0⟩ : S37), y499⟩ : S46), ([] : List (S69)), ([] : List (S69))⟩ : S69) [.int .i64 1, .int .i64 3, .int .i64 t481, .int .i64 3, .int .i64 0, .int .i64 0, .int .i64 0, .slice Ao46 y499.length co46, .slice none 0 0, .slice none 0 0] from (k69_mkF _ _ (⟨1, (⟨3, t481⟩ : S37), (⟨3, 0, (⟨0, 0⟩ : S37), y499⟩ : S46), ([] : List (S69)), ([] : List (S69))⟩ : S69) (Kd.N_reads' (Kd.N_mono (ok' := (fun k_ => (w.heap.size ≤ k_) ∧ nB k_ v486 ∧ nB k_ (.slice Ao29 y490.length co29) ∧ nB k_ v495 ∧ k_ ≠ gb480 ∧ k_ ≠ gb483 ∧ k_ ≠ gb484 ∧ k_ ≠ gb493 ∧ k_ ≠ gb502 ∧ k_ ≠ g)) (HO501.out) (fun k_ hk => ⟨hk.1, ⟨hk.2.1, ⟨hk.2.2.1, ⟨hk.2.2.2.1, ⟨hk.2.2.2.2.2.1, ⟨hk.2.2.2.2.2.2.1, ⟨hk.2.2.2.2.2.2.2.1, ⟨hk.2.2.2.2.2.2.2.2.1, ⟨hk.2.2.2.2.2.2.2.2.2, hk.2.2.2.2.1⟩⟩⟩⟩⟩⟩⟩⟩⟩))).2.1 (Kd.N_F (Kd.N_mono (ok' := (fun k_ => (w.heap.size ≤ k_) ∧ nB k_ v486 ∧ nB k_ (.slice Ao29 y490.length co29) ∧ nB k_ v495 ∧ k_ ≠ gb480 ∧ k_ ≠ gb483 ∧ k_ ≠ gb484 ∧ k_ ≠ gb493 ∧ k_ ≠ gb502 ∧ k_ ≠ g)) (HO501.out) (fun k_ hk => ⟨hk.1, ⟨hk.2.1, ⟨hk.2.2.1, ⟨hk.2.2.2.1, ⟨hk.2.2.2.2.2.1, ⟨hk.2.2.2.2.2.2.1, ⟨hk.2.2.2.2.2.2.2.1, ⟨hk.2.2.2.2.2.2.2.2.1, ⟨hk.2.2.2.2.2.2.2.2.2, hk.2.2.2.2.1⟩⟩⟩⟩⟩⟩⟩⟩⟩))) (Nat.le_refl _) (Kd.F_nil _ _ _) (Nat.le_refl _) (Kd.F_nil _ _ _))) (Reps.none _ _))); intro v504 w65 ho66 hb hg_ hnew_; clear hg_ hnew_; (first | rw [← Ny503.out] at ho66 | (simp only [Int.reduceToNat] at ho66; rw [← Ny503.out] at ho66)); have n_ := az (Kd.R_below (mR HO487.out) hb) <| az (Kd.N_elder' (mN HO492.out) (by first | exact Kd.N_base ho66 | exact Kd.R_base ho66) hb) <| az (Kd.R_below (mR HO496.out) hb) <| az (Kd.N_lower ho66 (kS HK.out)) <| az (IsS116.below (mI116_1 HI0.out) hb) <| az (bB BK480.out hb) <| az (bB BK483.out hb) <| az (bB BK484.out hb) <| az (bB BK493.out hb) <| az (bB BK502.out hb) <| az (KeepBut.trans (mKp HK.out) (KeepBut.of_below hb g none) (.inl rfl)) <| z0 (below_step (mB116HI0 HB.out) hb); clear HO487 HO492 HO496 HI0 BK480 BK483 BK484 BK493 BK502 HK HB HO501; obtain ⟨HO487, HO492, HO496, HO505, HI0, BK480, BK483, BK484, BK493, BK502, HK, HB⟩ := n_; clear hb ho66; obtain ⟨Ao67, co67, eo67⟩ := Kd.N_slice HO505.out; subst eo67) | ((with_reducible refine gate_dst (N := 7) rfl ?_); refine box_event ?hg (N := 7) ?hd (cs := #[.int .i64 0, .int .i64 0, .int .i64 0, .int .i64 0, .int .i64 0, .int .i64 0, .int .i64 0, .slice none 0 0, .slice none 0 0, .slice none 0 0]) (t := 69) ?hr ?_; (case hd => rfl); (case hg => rfl); (case hr => first | (go_simp; done) | (go_simp; rfl)); intro gb506 hg w68 hbox hb; have n_ := az (Kd.R_below (mR HO487.out) hb) <| az (Kd.N_below (Kd.N_elderB (mN HO492.out) gb506 (Nat.le_of_eq hg.symm)) hb) <| az (Kd.R_below (mR HO496.out) hb) <| az (Kd.N_below (Kd.N_elderB (mN HO505.out) gb506 (Nat.le_of_eq hg.symm)) hb) <| az (IsS116.below (mI116_1 HI0.out) hb) <| az (bB BK480.out hb) <| az (bB BK483.out hb) <| az (bB BK484.out hb) <| az (bB BK493.out hb) <| az (bB BK502.out hb) <| az (KeepBut.trans (mKp HK.out) (KeepBut.of_below hb g none) (.inl rfl)) <| az (below_step (mB116HI0 HB.out) hb) <| az (hbox) <| az ((gW hg HK.out)) <| az ((Nat.le_trans HW0.out (gW hg HK.out) : w0.heap.size ≤ gb506)) <| az ((nL hg BK480.out)) <| az ((nG hg BK480.out)) <| az ((nL hg BK483.out)) <| az ((nG hg BK483.out)) <| az ((nL hg BK484.out)) <| az ((nG hg BK484.out)) <| az ((nL hg BK493.out)) <| az ((nG hg BK493.out)) <| az ((nL hg BK502.out)) <| az ((nG hg BK502.out)) <| az ((by rw [hg]; exact Nat.ne_of_lt (IsS116.lt (show IsS116 w0 _ g s0_0 t498 from mI116_1 HI0.out)) : g ≠ gb506)) <| z0 ((by rw [hg]; exact Nat.ne_of_gt (IsS116.lt (show IsS116 w0 _ g s0_0 t498 from mI116_1 HI0.out)) : gb506 ≠ g)); clear HO487 HO492 HO496 HO505 HI0 BK480 BK483 BK484 BK493 BK502 HK HB; obtain ⟨HO487, HO492, HO496, HO505, HI0, BK480, BK483, BK484, BK493, BK502, HK, HB, BK506, GW506, GE506, NB480_506, NB506_480, NB483_506, NB506_483, NB484_506, NB506_484, NB493_506, NB506_493, NB502_506, NB506_502, NB0_506, NB506_0⟩ := n_; clear hb hbox hg; have hnb69 := NB506_480.out; have hnc69 := NB480_506.out; have hnb70 := NB506_483.out; have hnc70 := NB483_506.out; have hnb71 := NB506_484.out; have hnc71 := NB484_506.out; have hnb72 := NB506_493.out; have hnc72 := NB493_506.out; have hnb73 := NB506_502.out; have hnc73 := NB502_506.out; have hnb74 := NB506_0.out; have hnc74 := NB0_506.out; obtain ⟨hcz75_0, hcz75_1, hcz75_2, hcz75_3, hcz75_4, hcz75_5, hcz75_6, hcz75_7, hcz75_8, hcz75_9, hfz75_0, hfz75_1, hfz75_2, hfz75_3, hfz75_4, hfz75_5, hfz75_6, hfz75_7, hfz75_8, hfz75_9⟩ := cel10 BK506.out) | ((with_reducible refine gate_callee (f := 73) rfl ?_); refine goesL_ (some 34) rfl rfl Try.func73 (by kernel_rfl) rfl #[.pointer (some ⟨g, 0, none⟩), .int .i64 2] rfl argx ?_; (with_reducible refine (spec_l12Rd_pick.calls k g s0_0 t498 2 t507 t508 w0 _ ?side1 ?side2 A5.out).mono ?_); (case side1 => exact mI116_1 HI0.out); (case side2 => exact mB116HI0 HB.out); rintro e w76 ⟨rfl, hi, hb, hk⟩; refine ⟨_, rfl, ?_⟩; have n_ := az (KeepBut.blk hk (g' := gb480) (o := .cells #[.int .i64 0, .int .i64 0, .int .i64 0, .int .i64 0, .int .i64 0, .int .i64 0, .int .i64 0, .slice none 0 0, .slice none 0 0, .slice none 0 0] 69 (0, 0)) (mF BK480.out) NB480_0.out (by simp)) <| az (KeepBut.blk hk (g' := gb483) (o := .cells #[.int .i64 3, .int .i64 t481] 37 (0, 0)) (mF BK483.out) NB483_0.out (by simp)) <| az (KeepBut.blk hk (g' := gb484) (o := .cells #[.int .i64 2, .int .i64 0, .int .i64 3, .int .i64 t481, .slice none 0 0] 46 (0, 0)) (mF BK484.out) NB484_0.out (by simp)) <| az (Kd.R_mono (Kd.R_keep (IsS116.apart (show IsS116 w0 _ g s0_0 t498 from mI116_1 HI0.out) (by (with_reducible repeat (first | apply Kd.R_alloc | apply Kd.R_drewN | apply Kd.R_drew)); exact (Kd.R_mono (Kd.R_far (p := ⟨gb506, 9, none⟩) (Kd.R_far (p := ⟨gb506, 8, none⟩) (Kd.R_far (p := ⟨gb506, 7, none⟩) (Kd.R_far (p := ⟨gb506, 6, none⟩) (Kd.R_far (p := ⟨gb506, 5, none⟩) (Kd.R_far (p := ⟨gb506, 4, none⟩) (Kd.R_far (p := ⟨gb506, 3, none⟩) (Kd.R_far (p := ⟨gb506, 2, none⟩) (Kd.R_far (p := ⟨gb506, 1, none⟩) (Kd.R_far (p := ⟨gb506, 0, none⟩) (Kd.R_types HO487.out BK506.out (by decide)) (fun _ hk => hk.2) (.int .i64 3)) (fun _ hk => hk.2) (.int .i64 0)) (fun _ hk => hk.2) (.int .i64 0)) (fun _ hk => hk.2) (.int .i64 6)) (fun _ hk => hk.2) (.int .i64 0)) (fun _ hk => hk.2) (.int .i64 0)) (fun _ hk => hk.2) (.int .i64 0)) (fun _ hk => hk.2) (.slice Ao29 y490.length co29)) (fun _ hk => hk.2) (.slice Ao67 y503.length co67)) (fun _ hk => hk.2) (.slice none 0 0)) (fun _ h_ => h_.1))) (by decide)) hk (fun _ h => h.2)) (fun _ h => h.1)) <| az (Kd.N_mono (Kd.N_keep (Kd.N_mono (ok := fun k_ => (((((w.heap.size ≤ k_)) ∧ (nB k_ v486 ∧ (nB k_ v495 ∧ (nB k_ (.slice Ao46 y499.length co46) ∧ (k_ ≠ g ∧ (k_ ≠ gb480 ∧ (k_ ≠ gb483 ∧ (k_ ≠ gb484 ∧ (k_ ≠ gb493 ∧ k_ ≠ gb502))))))))) ∧ nB k_ (.slice Ao67 y503.length co67)) ∧ k_ ≠ gb506)) (by (with_reducible repeat (first | apply Kd.N_alloc | apply Kd.N_drewN | apply Kd.N_drew)); exact (Kd.N_mono (Kd.N_far (p := ⟨gb506, 9, none⟩) (Kd.N_far (p := ⟨gb506, 8, none⟩) (Kd.N_far (p := ⟨gb506, 7, none⟩) (Kd.N_far (p := ⟨gb506, 6, none⟩) (Kd.N_far (p := ⟨gb506, 5, none⟩) (Kd.N_far (p := ⟨gb506, 4, none⟩) (Kd.N_far (p := ⟨gb506, 3, none⟩) (Kd.N_far (p := ⟨gb506, 2, none⟩) (Kd.N_far (p := ⟨gb506, 1, none⟩) (Kd.N_far (p := ⟨gb506, 0, none⟩) (Kd.N_mono HO492.out (fun k_ hk => (⟨hk, hk.2⟩ : _ ∧ k_ ≠ gb506))) (fun _ hk => hk.2) (.int .i64 3)) (fun _ hk => hk.2) (.int .i64 0)) (fun _ hk => hk.2) (.int .i64 0)) (fun _ hk => hk.2) (.int .i64 6)) (fun _ hk => hk.2) (.int .i64 0)) (fun _ hk => hk.2) (.int .i64 0)) (fun _ hk => hk.2) (.int .i64 0)) (fun _ hk => hk.2) (.slice Ao29 y490.length co29)) (fun _ hk => hk.2) (.slice Ao67 y503.length co67)) (fun _ hk => hk.2) (.slice none 0 0)) (fun _ h_ => h_.1))) (fun k_ hk_ => (⟨hk_, hk_.1.1.2.2.2.2.1⟩ : _ ∧ k_ ≠ g))) hk (fun _ h => h.2)) (fun _ h => h.1)) <| az (KeepBut.blk hk (g' := gb493) (o := .cells #[.int .i64 6, .int .i64 0, .int .i64 0, .int .i64 0, .slice Ao29 y490.length co29] 46 (0, 0)) (mF BK493.out) NB493_0.out (by simp)) <| az (Kd.R_mono (Kd.R_keep (IsS116.apart (show IsS116 w0 _ g s0_0 t498 from mI116_1 HI0.out) (by (with_reducible repeat (first | apply Kd.R_alloc | apply Kd.R_drewN | apply Kd.R_drew)); exact (Kd.R_mono (Kd.R_far (p := ⟨gb506, 9, none⟩) (Kd.R_far (p := ⟨gb506, 8, none⟩) (Kd.R_far (p := ⟨gb506, 7, none⟩) (Kd.R_far (p := ⟨gb506, 6, none⟩) (Kd.R_far (p := ⟨gb506, 5, none⟩) (Kd.R_far (p := ⟨gb506, 4, none⟩) (Kd.R_far (p := ⟨gb506, 3, none⟩) (Kd.R_far (p := ⟨gb506, 2, none⟩) (Kd.R_far (p := ⟨gb506, 1, none⟩) (Kd.R_far (p := ⟨gb506, 0, none⟩) (Kd.R_types HO496.out BK506.out (by decide)) (fun _ hk => hk.2) (.int .i64 3)) (fun _ hk => hk.2) (.int .i64 0)) (fun _ hk => hk.2) (.int .i64 0)) (fun _ hk => hk.2) (.int .i64 6)) (fun _ hk => hk.2) (.int .i64 0)) (fun _ hk => hk.2) (.int .i64 0)) (fun _ hk => hk.2) (.int .i64 0)) (fun _ hk => hk.2) (.slice Ao29 y490.length co29)) (fun _ hk => hk.2) (.slice Ao67 y503.length co67)) (fun _ hk => hk.2) (.slice none 0 0)) (fun _ h_ => h_.1))) (by decide)) hk (fun _ h => h.2)) (fun _ h => h.1)) <| az (KeepBut.blk hk (g' := gb502) (o := .cells #[.int .i64 3, .int .i64 0, .int .i64 0, .int .i64 0, .slice Ao46 y499.length co46] 46 (0, 0)) (mF BK502.out) NB502_0.out (by simp)) <| az (Kd.N_mono (Kd.N_keep (Kd.N_mono (ok := fun k_ => ((((w.heap.size ≤ k_)) ∧ (nB k_ v486 ∧ (nB k_ (.slice Ao29 y490.length co29) ∧ (nB k_ v495 ∧ (k_ ≠ gb480 ∧ (k_ ≠ gb483 ∧ (k_ ≠ gb484 ∧ (k_ ≠ gb493 ∧ (k_ ≠ gb502 ∧ k_ ≠ g))))))))) ∧ k_ ≠ gb506)) (by (with_reducible repeat (first | apply Kd.N_alloc | apply Kd.N_drewN | apply Kd.N_drew)); exact (Kd.N_mono (Kd.N_far (p := ⟨gb506, 9, none⟩) (Kd.N_far (p := ⟨gb506, 8, none⟩) (Kd.N_far (p := ⟨gb506, 7, none⟩) (Kd.N_far (p := ⟨gb506, 6, none⟩) (Kd.N_far (p := ⟨gb506, 5, none⟩) (Kd.N_far (p := ⟨gb506, 4, none⟩) (Kd.N_far (p := ⟨gb506, 3, none⟩) (Kd.N_far (p := ⟨gb506, 2, none⟩) (Kd.N_far (p := ⟨gb506, 1, none⟩) (Kd.N_far (p := ⟨gb506, 0, none⟩) (Kd.N_mono HO505.out (fun k_ hk => (⟨hk, hk.2⟩ : _ ∧ k_ ≠ gb506))) (fun _ hk => hk.2) (.int .i64 3)) (fun _ hk => hk.2) (.int .i64 0)) (fun _ hk => hk.2) (.int .i64 0)) (fun _ hk => hk.2) (.int .i64 6)) (fun _ hk => hk.2) (.int .i64 0)) (fun _ hk => hk.2) (.int .i64 0)) (fun _ hk => hk.2) (.int .i64 0)) (fun _ hk => hk.2) (.slice Ao29 y490.length co29)) (fun _ hk => hk.2) (.slice Ao67 y503.length co67)) (fun _ hk => hk.2) (.slice none 0 0)) (fun _ h_ => h_.1))) (fun k_ hk_ => (⟨hk_, hk_.1.2.2.2.2.2.2.2.2.2⟩ : _ ∧ k_ ≠ g))) hk (fun _ h => h.2)) (fun _ h => h.1)) <| az (KeepBut.blk hk (g' := gb506) (o := .cells #[.int .i64 3, .int .i64 0, .int .i64 0, .int .i64 6, .int .i64 0, .int .i64 0, .int .i64 0, .slice Ao29 y490.length co29, .slice Ao67 y503.length co67, .slice none 0 0] 69 (0, 0)) (by (with_reducible repeat (first | refine blk_drewN ?_ _ | refine blk_drew ?_ | refine blk_alloc ?_ _)); refine blk_put (cs := #[.int .i64 3, .int .i64 0, .int .i64 0, .int .i64 6, .int .i64 0, .int .i64 0, .int .i64 0, .slice Ao29 y490.length co29, .slice Ao67 y503.length co67, .slice none 0 0]) ?_ 9 _ rfl; (with_reducible repeat (first | refine blk_drewN ?_ _ | refine blk_drew ?_ | refine blk_alloc ?_ _)); refine blk_put (cs := #[.int .i64 3, .int .i64 0, .int .i64 0, .int .i64 6, .int .i64 0, .int .i64 0, .int .i64 0, .slice Ao29 y490.length co29, .slice none 0 0, .slice none 0 0]) ?_ 8 _ rfl; (with_reducible repeat (first | refine blk_drewN ?_ _ | refine blk_drew ?_ | refine blk_alloc ?_ _)); refine blk_put (cs := #[.int .i64 3, .int .i64 0, .int .i64 0, .int .i64 6, .int .i64 0, .int .i64 0, .int .i64 0, .slice none 0 0, .slice none 0 0, .slice none 0 0]) ?_ 7 _ rfl; (with_reducible repeat (first | refine blk_drewN ?_ _ | refine blk_drew ?_ | refine blk_alloc ?_ _)); refine blk_put (cs := #[.int .i64 3, .int .i64 0, .int .i64 0, .int .i64 6, .int .i64 0, .int .i64 0, .int .i64 0, .slice none 0 0, .slice none 0 0, .slice none 0 0]) ?_ 6 _ rfl; (with_reducible repeat (first | refine blk_drewN ?_ _ | refine blk_drew ?_ | refine blk_alloc ?_ _)); refine blk_put (cs := #[.int .i64 3, .int .i64 0, .int .i64 0, .int .i64 6, .int .i64 0, .int .i64 0, .int .i64 0, .slice none 0 0, .slice none 0 0, .slice none 0 0]) ?_ 5 _ rfl; (with_reducible repeat (first | refine blk_drewN ?_ _ | refine blk_drew ?_ | refine blk_alloc ?_ _)); refine blk_put (cs := #[.int .i64 3, .int .i64 0, .int .i64 0, .int .i64 6, .int .i64 0, .int .i64 0, .int .i64 0, .slice none 0 0, .slice none 0 0, .slice none 0 0]) ?_ 4 _ rfl; (with_reducible repeat (first | refine blk_drewN ?_ _ | refine blk_drew ?_ | refine blk_alloc ?_ _)); refine blk_put (cs := #[.int .i64 3, .int .i64 0, .int .i64 0, .int .i64 0, .int .i64 0, .int .i64 0, .int .i64 0, .slice none 0 0, .slice none 0 0, .slice none 0 0]) ?_ 3 _ rfl; (with_reducible repeat (first | refine blk_drewN ?_ _ | refine blk_drew ?_ | refine blk_alloc ?_ _)); refine blk_put (cs := #[.int .i64 3, .int .i64 0, .int .i64 0, .int .i64 0, .int .i64 0, .int .i64 0, .int .i64 0, .slice none 0 0, .slice none 0 0, .slice none 0 0]) ?_ 2 _ rfl; (with_reducible repeat (first | refine blk_drewN ?_ _ | refine blk_drew ?_ | refine blk_alloc ?_ _)); refine blk_put (cs := #[.int .i64 3, .int .i64 0, .int .i64 0, .int .i64 0, .int .i64 0, .int .i64 0, .int .i64 0, .slice none 0 0, .slice none 0 0, .slice none 0 0]) ?_ 1 _ rfl; (with_reducible repeat (first | refine blk_drewN ?_ _ | refine blk_drew ?_ | refine blk_alloc ?_ _)); refine blk_put (cs := #[.int .i64 0, .int .i64 0, .int .i64 0, .int .i64 0, .int .i64 0, .int .i64 0, .int .i64 0, .slice none 0 0, .slice none 0 0, .slice none 0 0]) ?_ 0 _ rfl; (with_reducible repeat (first | refine blk_drewN ?_ _ | refine blk_drew ?_ | refine blk_alloc ?_ _)); exact BK506.out) NB506_0.out (by simp)) <| az (KeepBut.trans (mKp HK.out) hk (.inl rfl)) <| az (hb) <| z0 (hi); clear BK480 BK483 BK484 HO487 HO492 BK493 HO496 BK502 HO505 BK506 HK HB HI0; obtain ⟨BK480, BK483, BK484, HO487, HO492, BK493, HO496, BK502, HO505, BK506, HK, HB, HI0⟩ := n_; clear hb hk hi))
 (try simp only [Act.put, List.setIfInBounds_toArray, List.set_cons_zero, List.set_cons_succ])
 have H := HF6.out
 clear HF6
 (try clear c10); (try clear hcz58_0); (try clear hcz58_1); (try clear hcz58_2); (try clear hcz58_3); (try clear hcz58_4); (try clear hcz60_0); (try clear hcz60_1); (try clear hcz64_0); (try clear hcz64_1); (try clear hcz64_2); (try clear hcz64_3); (try clear hcz64_4); (try clear hcz75_0); (try clear hcz75_1); (try clear hcz75_2); (try clear hcz75_3); (try clear hcz75_4); (try clear hcz75_5); (try clear hcz75_6); (try clear hcz75_7); (try clear hcz75_8); (try clear hcz75_9); (try clear hfz58_0); (try clear hfz58_1); (try clear hfz58_2); (try clear hfz58_3); (try clear hfz58_4); (try clear hfz60_0); (try clear hfz60_1); (try clear hfz64_0); (try clear hfz64_1); (try clear hfz64_2); (try clear hfz64_3); (try clear hfz64_4); (try clear hfz75_0); (try clear hfz75_1); (try clear hfz75_2); (try clear hfz75_3); (try clear hfz75_4); (try clear hfz75_5); (try clear hfz75_6); (try clear hfz75_7); (try clear hfz75_8); (try clear hfz75_9)
 by_cases c77 : t507 = 0
 ·rw [if_pos c77] at H
  have c77b0 : (t507 == 0) = true := beq_iff_eq.mpr c77
  have c77b1 : (t507 != 0) = false := bne_eq_false_iff_eq.mpr c77
  clear c77
  (first | rw [c77b0] | (simp only [i64_w, i32_w]; rw [c77b0]) | skip)
  replace H := Option.bind_eq_some_iff.mp H
  obtain ⟨⟨t509, t510, t511⟩, A780, H⟩ := H
  try dsimp only at H
  have A78 := z0 A780
  clear A780
  replace H := Option.bind_eq_some_iff.mp H
  obtain ⟨⟨t512, t513, t514, t515, t516, t519⟩, A790, H⟩ := H
  try dsimp only at H
  have A79 := z0 A790
  clear A790
  by_cases c80 : y503.length < 1099511627776
  ·rw [if_pos c80] at H
   have LMc80 := z0 c80
   clear c80
   obtain ⟨y520, hy520⟩ : ∃ y_ : List (S69), y_ = (y503 ++ [(⟨1, (⟨t509, t510⟩ : S37), (⟨t512, t513, (⟨t514, t515⟩ : S37), t516⟩ : S46), ([] : List (S69)), ([] : List (S69))⟩ : S69)]) := ⟨_, rfl⟩
   replace H : (some (3, 0, 0, 6, 0, 0, 0, y490, y520, ([] : List (S69)), t519)) = some (r1, r2, r3, r4, r5, r6, r7, r8, r9, r10, r11) := by first | (rw [hy520]; with_reducible exact H) | (have H2_ := (Option.bind_some _ _).symm.trans H; rw [hy520]; with_reducible exact H2_) | (have H2_ := (Option.bind_some _ _).symm.trans H; with_reducible exact H2_) | with_reducible exact H | (rw [hy520]; exact H) | exact H
   have Ny520 := z0 hy520
   clear hy520
   simp only [Option.some.injEq, Prod.mk.injEq] at H
   obtain ⟨rfl, rfl, rfl, rfl, rfl, rfl, rfl, rfl, rfl, rfl, rfl⟩ := H
   try go_wp2
   have n_ := az (Kd.R_drew HO487.out) <| az (Kd.N_drew HO492.out) <| az (Kd.R_drew HO496.out) <| az (Kd.N_drew HO505.out) <| az (blk_drew BK480.out) <| az (blk_drew BK483.out) <| az (blk_drew BK484.out) <| az (blk_drew BK493.out) <| az (blk_drew BK502.out) <| az (blk_drew BK506.out) <| az (IsS116.drew HI0.out) <| az (keep_drew HK.out) <| z0 (below_drew1 HB.out)
   clear HO487 HO492 HO496 HO505 BK480 BK483 BK484 BK493 BK502 BK506 HI0 HK HB
   obtain ⟨HO487, HO492, HO496, HO505, BK480, BK483, BK484, BK493, BK502, BK506, HI0, HK, HB⟩ := n_
   refine start_ (n := 11) (S := fun w' => w'.cell? ⟨gb506, 0, none⟩ = some (.int .i64 3) ∧ w'.cell? ⟨gb506, 1, none⟩ = some (.int .i64 0) ∧ w'.cell? ⟨gb506, 2, none⟩ = some (.int .i64 0) ∧ w'.cell? ⟨gb506, 3, none⟩ = some (.int .i64 6) ∧ w'.cell? ⟨gb506, 4, none⟩ = some (.int .i64 0) ∧ w'.cell? ⟨gb506, 5, none⟩ = some (.int .i64 0) ∧ w'.cell? ⟨gb506, 6, none⟩ = some (.int .i64 0) ∧ w'.cell? ⟨gb506, 7, none⟩ = some (.slice Ao29 y490.length co29) ∧ w'.cell? ⟨gb506, 8, none⟩ = some (.slice Ao67 y503.length co67) ∧ w'.cell? ⟨gb506, 9, none⟩ = some (.slice none 0 0)) (ds := [10]) #[false, false, false, false, false, false, false, false, false, false, false] (by kernel_rfl) rfl rfl q103_3 (fun hHeld => ?_); refine with_tabW spec_l4Count.tab7 spec_l4Count.bits7 (fun HT_ HW_ => ?_)
   generalize w76.drew = w81 at HO487 HO492 HO496 HO505 BK480 BK483 BK484 BK493 BK502 BK506 HI0 HK HB hHeld ⊢
   refine pure_ (i := 0) (N := some 36) (v := ?_) (a' := ?_) #[true, false, false, false, false, false, false, false, false, false, false] rfl rfl (any_of HT_.out (by kernel_rfl)) (fun _ _ _ h => h) (Or.inl ⟨by rfl, ?_⟩) ?_ ?_
   rotate_left
   ·intro w'
    go_simp
    with_reducible rfl
   rotate_left
   ·simp only [Act.put, List.setIfInBounds_toArray, List.set_cons_zero, List.set_cons_succ, i64_w, i32_w]
    rfl
   refine pure_ (i := 2) (N := some 38) (v := ?_) (a' := ?_) #[true, false, true, false, false, false, false, false, false, false, false] rfl rfl (any_of HT_.out (by kernel_rfl)) (fun _ _ _ h => h) (Or.inl ⟨by rfl, ?_⟩) ?_ ?_
   rotate_left
   ·intro w'
    go_simp
    with_reducible rfl
   rotate_left
   ·simp only [Act.put, List.setIfInBounds_toArray, List.set_cons_zero, List.set_cons_succ, i64_w, i32_w]
    rfl
   refine pure_ (i := 4) (N := some 40) (v := ?_) (a' := ?_) #[true, false, true, false, true, false, false, false, false, false, false] rfl rfl (any_of HT_.out (by kernel_rfl)) (fun _ _ _ h => h) (Or.inl ⟨by rfl, ?_⟩) ?_ ?_
   rotate_left
   ·intro w'
    go_simp
    with_reducible rfl
   rotate_left
   ·simp only [Act.put, List.setIfInBounds_toArray, List.set_cons_zero, List.set_cons_succ, i64_w, i32_w]
    rfl
   refine take_ (i := 1) (N := some 37) (v := ?_) (a' := ?_) #[true, true, true, false, true, false, false, false, false, false, false] rfl rfl (take_ofW HT_.out HW_.out (by kernel_rfl)) (fun _ _ _ h => h) (Or.inl ⟨by rfl, ?_⟩) hHeld ?_ ?_
   rotate_left
   ·rintro w' ⟨s0, s1, s2, s3, s4, s5, s6, s7, s8, s9⟩
    go_simp
    with_reducible rfl
   rotate_left
   ·simp only [Act.put, List.setIfInBounds_toArray, List.set_cons_zero, List.set_cons_succ, i64_w, i32_w]
    rfl
   refine one_ (i := 3) (N := some 39) #[true, true, true, true, true, false, false, false, false, false, false] rfl rfl (one_of HT_.out (by kernel_rfl)) (by decide) (fun K hK => ?_)
   refine goes_ Try.func77 (by kernel_rfl) rfl #[.pointer (some ⟨g, 0, none⟩)] (by rfl) rfl rfl argx ?_
   with_reducible refine (spec_l2To.calls k g s0_0 t508 t509 t510 t511 w0 _ ?side1 ?side2 A78.out).mono ?_
   (case side1 => exact mI116_1 HI0.out)
   (case side2 => exact mB116HI0 HB.out)
   rintro e w82 ⟨rfl, hi, hb, hk⟩
   refine ⟨_, rfl, ?_⟩
   have n_ := az (kB hk BK480.out NB480_0.out) <| az (kB hk BK483.out NB483_0.out) <| az (kB hk BK484.out NB484_0.out) <| And.intro (z0 (Kd.R_mono (Kd.R_keep (IsS116.apart (show IsS116 w0 _ g s0_0 t508 from mI116_1 HI0.out) (mR HO487.out) (by decide)) hk (fun _ h => h.2)) (fun _ h => h.1))) <| And.intro (z0 (Kd.N_mono (Kd.N_keep (Kd.N_mono (ok := fun k_ => (((((w.heap.size ≤ k_)) ∧ (nB k_ v486 ∧ (nB k_ v495 ∧ (nB k_ (.slice Ao46 y499.length co46) ∧ (k_ ≠ g ∧ (k_ ≠ gb480 ∧ (k_ ≠ gb483 ∧ (k_ ≠ gb484 ∧ (k_ ≠ gb493 ∧ k_ ≠ gb502))))))))) ∧ nB k_ (.slice Ao67 y503.length co67)) ∧ k_ ≠ gb506)) (mN HO492.out) (fun k_ hk_ => (⟨hk_, hk_.1.1.2.2.2.2.1⟩ : _ ∧ k_ ≠ g))) hk (fun _ h => h.2)) (fun _ h => h.1))) <| az (kB hk BK493.out NB493_0.out) <| And.intro (z0 (Kd.R_mono (Kd.R_keep (IsS116.apart (show IsS116 w0 _ g s0_0 t508 from mI116_1 HI0.out) (mR HO496.out) (by decide)) hk (fun _ h => h.2)) (fun _ h => h.1))) <| az (kB hk BK502.out NB502_0.out) <| And.intro (z0 (Kd.N_mono (Kd.N_keep (Kd.N_mono (ok := fun k_ => ((((w.heap.size ≤ k_)) ∧ (nB k_ v486 ∧ (nB k_ (.slice Ao29 y490.length co29) ∧ (nB k_ v495 ∧ (k_ ≠ gb480 ∧ (k_ ≠ gb483 ∧ (k_ ≠ gb484 ∧ (k_ ≠ gb493 ∧ (k_ ≠ gb502 ∧ k_ ≠ g))))))))) ∧ k_ ≠ gb506)) (mN HO505.out) (fun k_ hk_ => (⟨hk_, hk_.1.2.2.2.2.2.2.2.2.2⟩ : _ ∧ k_ ≠ g))) hk (fun _ h => h.2)) (fun _ h => h.1))) <| az (kB hk BK506.out NB506_0.out) <| az (KeepBut.trans (mKp HK.out) hk (.inl rfl)) <| az (hb) <| z0 (hi)
   clear BK480 BK483 BK484 HO487 HO492 BK493 HO496 BK502 HO505 BK506 HK HB HI0
   obtain ⟨BK480, BK483, BK484, HO487, HO492, BK493, HO496, BK502, HO505, BK506, HK, HB, HI0⟩ := n_
   (try clear hb)
   (try clear hb2)
   (try clear hk)
   (try clear hi)
   refine hK.out _ _ q103_3 (fun hHeld => ?_)
   clear hK K
   refine norm_ (a' := ?_) ?_ ?_
   rotate_left
   ·show Act.put _ (some 39) _ = _
    simp only [Act.put, List.setIfInBounds_toArray, List.set_cons_zero, List.set_cons_succ, i64_w, i32_w]
    rfl
   refine one_ (i := 5) (N := some 41) #[true, true, true, true, true, true, false, false, false, false, false] rfl rfl (one_of HT_.out (by kernel_rfl)) (by decide) (fun K hK => ?_)
   refine goes_ Try.func76 (by kernel_rfl) rfl #[.pointer (some ⟨g, 0, none⟩), .int .i64 2] (by rfl) rfl rfl argx ?_
   with_reducible refine (spec_l3Expr.calls k g s0_0 t511 2 t512 t513 t514 t515 t516 t519 w0 _ ?side1 ?side2 A79.out).mono ?_
   (case side1 => exact mI116_1 HI0.out)
   (case side2 => exact mB116HI0 HB.out)
   rintro e w83 ⟨v517, rfl, ho0, hi, hb, hk⟩
   refine ⟨_, rfl, ?_⟩
   have n_ := az (kB hk BK480.out NB480_0.out) <| az (kB hk BK483.out NB483_0.out) <| az (kB hk BK484.out NB484_0.out) <| And.intro (z0 (Kd.R_mono (Kd.R_keep (IsS116.apart (show IsS116 w0 _ g s0_0 t511 from mI116_1 HI0.out) (mR HO487.out) (by decide)) hk (fun _ h => h.2)) (fun _ h => h.1))) <| And.intro (z0 (Kd.N_mono (Kd.N_told (Kd.N_oldK (Kd.N_mono (ok := fun k_ => (((((w.heap.size ≤ k_)) ∧ (nB k_ v486 ∧ (nB k_ v495 ∧ (nB k_ (.slice Ao46 y499.length co46) ∧ (k_ ≠ g ∧ (k_ ≠ gb480 ∧ (k_ ≠ gb483 ∧ (k_ ≠ gb484 ∧ (k_ ≠ gb493 ∧ k_ ≠ gb502))))))))) ∧ nB k_ (.slice Ao67 y503.length co67)) ∧ k_ ≠ gb506)) (mN HO492.out) (fun k_ hk_ => (⟨hk_, hk_.1.1.2.2.2.2.1⟩ : _ ∧ k_ ≠ g))) hk) (by first | exact Kd.N_base ho0 | exact Kd.R_base ho0)) (fun _ h_ => h_.1))) <| az (kB hk BK493.out NB493_0.out) <| And.intro (z0 (Kd.R_mono (Kd.R_keep (IsS116.apart (show IsS116 w0 _ g s0_0 t511 from mI116_1 HI0.out) (mR HO496.out) (by decide)) hk (fun _ h => h.2)) (fun _ h => h.1))) <| az (kB hk BK502.out NB502_0.out) <| And.intro (z0 (Kd.N_mono (Kd.N_told (Kd.N_oldK (Kd.N_mono (ok := fun k_ => ((((w.heap.size ≤ k_)) ∧ (nB k_ v486 ∧ (nB k_ (.slice Ao29 y490.length co29) ∧ (nB k_ v495 ∧ (k_ ≠ gb480 ∧ (k_ ≠ gb483 ∧ (k_ ≠ gb484 ∧ (k_ ≠ gb493 ∧ (k_ ≠ gb502 ∧ k_ ≠ g))))))))) ∧ k_ ≠ gb506)) (mN HO505.out) (fun k_ hk_ => (⟨hk_, hk_.1.2.2.2.2.2.2.2.2.2⟩ : _ ∧ k_ ≠ g))) hk) (by first | exact Kd.N_base ho0 | exact Kd.R_base ho0)) (fun _ h_ => h_.1))) <| az (kB hk BK506.out NB506_0.out) <| And.intro (z0 (Kd.N_lower (Kd.N_mono (ok' := fun k_ => (w.heap.size ≤ k_) ∧ nB k_ v486 ∧ nB k_ (.slice Ao29 y490.length co29) ∧ nB k_ v495 ∧ nB k_ (.slice Ao67 y503.length co67) ∧ k_ ≠ gb480 ∧ k_ ≠ gb483 ∧ k_ ≠ gb484 ∧ k_ ≠ gb493 ∧ k_ ≠ gb502 ∧ k_ ≠ gb506 ∧ k_ ≠ g) (Kd.R_N (Kd.R_bound ho0)) (fun k_ hk_ => ⟨(Nat.le_trans (kS HK.out) hk_.2.1), (Kd.fresh' (Kd.R_lt (mR HO487.out)) k_ hk_.2.1), (Kd.fresh' (Kd.N_lt (mN HO492.out)) k_ hk_.2.1), (Kd.fresh' (Kd.R_lt (mR HO496.out)) k_ hk_.2.1), (Kd.fresh' (Kd.N_lt (mN HO505.out)) k_ hk_.2.1), (fB BK480.out hk_.2.1), (fB BK483.out hk_.2.1), (fB BK484.out hk_.2.1), (fB BK493.out hk_.2.1), (fB BK502.out hk_.2.1), (fB BK506.out hk_.2.1), (IsS116.fresh (mI116_1 HI0.out) k_ hk_.2.1)⟩)) (kS HK.out))) <| az (KeepBut.trans (mKp HK.out) hk (.inl rfl)) <| az (hb) <| z0 (hi)
   clear BK480 BK483 BK484 HO487 HO492 BK493 HO496 BK502 HO505 BK506 HK HB HI0
   obtain ⟨BK480, BK483, BK484, HO487, HO492, BK493, HO496, BK502, HO505, BK506, HO518, HK, HB, HI0⟩ := n_
   (try clear hb)
   (try clear hb2)
   (try clear hk)
   (try clear hi)
   (try clear ho0)
   obtain ⟨Ao84, co84, eo84⟩ := Kd.N_slice HO518.out
   (first | subst eo84 | (injection eo84 with f1_ f2_ f3_; have f4_ := f1_.symm; have f5_ := f3_.symm; clear f1_ f2_ f3_; subst f4_; subst f5_))
   refine hK.out _ _ q103_3 (fun hHeld => ?_)
   clear hK K
   refine norm_ (a' := ?_) ?_ ?_
   rotate_left
   ·show Act.put _ (some 41) _ = _
    simp only [Act.put, List.setIfInBounds_toArray, List.set_cons_zero, List.set_cons_succ, i64_w, i32_w]
    rfl
   refine pure_ (i := 6) (N := some 42) (v := ?_) (a' := ?_) #[true, true, true, true, true, true, true, false, false, false, false] rfl rfl (any_of HT_.out (by kernel_rfl)) (fun _ _ _ h => h) (Or.inl ⟨by rfl, ?_⟩) ?_ ?_
   rotate_left
   ·intro w'
    go_simp
    with_reducible rfl
   rotate_left
   ·simp only [Act.put, List.setIfInBounds_toArray, List.set_cons_zero, List.set_cons_succ, i64_w, i32_w]
    rfl
   refine one_ (i := 7) (N := some 43) #[true, true, true, true, true, true, true, true, false, false, false] rfl rfl (one_of HT_.out (by kernel_rfl)) (by decide) (fun K hK => ?_)
   refine value_ (w1 := ?_) (v := ?_) (by rfl) rfl ?_ ?_
   rotate_left 2
   ·go_simp
    constructor
    ·rfl
    ·rfl
   refine hK.out _ _ ⟨(blk_cell (blk_alloc BK506.out _) 0).trans rfl, (blk_cell (blk_alloc BK506.out _) 1).trans rfl, (blk_cell (blk_alloc BK506.out _) 2).trans rfl, (blk_cell (blk_alloc BK506.out _) 3).trans rfl, (blk_cell (blk_alloc BK506.out _) 4).trans rfl, (blk_cell (blk_alloc BK506.out _) 5).trans rfl, (blk_cell (blk_alloc BK506.out _) 6).trans rfl, (blk_cell (blk_alloc BK506.out _) 7).trans rfl, (blk_cell (blk_alloc BK506.out _) 8).trans rfl, (blk_cell (blk_alloc BK506.out _) 9).trans rfl⟩ (fun hHeld => ?_)
   clear hK K
   refine norm_ (a' := ?_) ?_ ?_
   rotate_left
   ·show Act.put _ (some 43) _ = _
    simp only [Act.put, List.setIfInBounds_toArray, List.set_cons_zero, List.set_cons_succ, i64_w, i32_w]
    rfl
   refine one_ (i := 8) (N := some 44) #[true, true, true, true, true, true, true, true, true, false, false] rfl rfl (one_of HT_.out (by kernel_rfl)) (by decide) (fun K hK => ?_)
   refine Kd.N_append_step k69 w.heap.size (by rfl) (.tmp 37) (.tmp 43) 26 69 (.agg #[(.int .i64 0), (.int .i64 0), (.int .i64 0), (.int .i64 0), (.int .i64 0), (.int .i64 0), (.int .i64 0), (.slice none 0 0), (.slice none 0 0), (.slice none 0 0)]) 128 rfl Try.underlying26 info69 rfl (by decide) (by omega) (.slice Ao67 y503.length co67) y503 (⟨1, (⟨t509, t510⟩ : S37), (⟨t512, t513, (⟨t514, t515⟩ : S37), t516⟩ : S46), ([] : List (S69)), ([] : List (S69))⟩ : S69) [.int .i64 1, .int .i64 t509, .int .i64 t510, .int .i64 t512, .int .i64 t513, .int .i64 t514, .int .i64 t515, .slice Ao84 t516.length co84, .slice none 0 0, .slice none 0 0] (fun k_ => (w.heap.size ≤ k_) ∧ nB k_ v486 ∧ nB k_ (.slice Ao29 y490.length co29) ∧ nB k_ v495 ∧ k_ ≠ gb480 ∧ k_ ≠ gb483 ∧ k_ ≠ gb484 ∧ k_ ≠ gb493 ∧ k_ ≠ gb502 ∧ k_ ≠ gb506 ∧ k_ ≠ g) (fun k_ => ((fun k_ => (w.heap.size ≤ k_) ∧ nB k_ v486 ∧ nB k_ (.slice Ao29 y490.length co29) ∧ nB k_ v495 ∧ k_ ≠ gb480 ∧ k_ ≠ gb483 ∧ k_ ≠ gb484 ∧ k_ ≠ gb493 ∧ k_ ≠ gb502 ∧ k_ ≠ gb506 ∧ k_ ≠ g)) k_ ∧ nB k_ (.slice Ao67 y503.length co67)) rfl rfl ?aP (fun _ hk => hk) ?aF ?aO (Below.refl _ _) ?aS ?aL ?_
   (case aP => exact (k69_mkF _ _ (⟨1, (⟨t509, t510⟩ : S37), (⟨t512, t513, (⟨t514, t515⟩ : S37), t516⟩ : S46), ([] : List (S69)), ([] : List (S69))⟩ : S69) (Kd.N_reads' (Kd.N_mono (ok' := (fun k_ => ((fun k_ => (w.heap.size ≤ k_) ∧ nB k_ v486 ∧ nB k_ (.slice Ao29 y490.length co29) ∧ nB k_ v495 ∧ k_ ≠ gb480 ∧ k_ ≠ gb483 ∧ k_ ≠ gb484 ∧ k_ ≠ gb493 ∧ k_ ≠ gb502 ∧ k_ ≠ gb506 ∧ k_ ≠ g)) k_ ∧ nB k_ (.slice Ao67 y503.length co67))) (HO518.out) (fun k_ hk => ⟨⟨hk.1, ⟨hk.2.1, ⟨hk.2.2.1, ⟨hk.2.2.2.1, ⟨hk.2.2.2.2.2.1, ⟨hk.2.2.2.2.2.2.1, ⟨hk.2.2.2.2.2.2.2.1, ⟨hk.2.2.2.2.2.2.2.2.1, ⟨hk.2.2.2.2.2.2.2.2.2.1, ⟨hk.2.2.2.2.2.2.2.2.2.2.1, hk.2.2.2.2.2.2.2.2.2.2.2⟩⟩⟩⟩⟩⟩⟩⟩⟩⟩, hk.2.2.2.2.1⟩))).2.1 (Kd.N_F (Kd.N_mono (ok' := (fun k_ => ((fun k_ => (w.heap.size ≤ k_) ∧ nB k_ v486 ∧ nB k_ (.slice Ao29 y490.length co29) ∧ nB k_ v495 ∧ k_ ≠ gb480 ∧ k_ ≠ gb483 ∧ k_ ≠ gb484 ∧ k_ ≠ gb493 ∧ k_ ≠ gb502 ∧ k_ ≠ gb506 ∧ k_ ≠ g)) k_ ∧ nB k_ (.slice Ao67 y503.length co67))) (HO518.out) (fun k_ hk => ⟨⟨hk.1, ⟨hk.2.1, ⟨hk.2.2.1, ⟨hk.2.2.2.1, ⟨hk.2.2.2.2.2.1, ⟨hk.2.2.2.2.2.2.1, ⟨hk.2.2.2.2.2.2.2.1, ⟨hk.2.2.2.2.2.2.2.2.1, ⟨hk.2.2.2.2.2.2.2.2.2.1, ⟨hk.2.2.2.2.2.2.2.2.2.2.1, hk.2.2.2.2.2.2.2.2.2.2.2⟩⟩⟩⟩⟩⟩⟩⟩⟩⟩, hk.2.2.2.2.1⟩))) (Nat.le_refl _) (Kd.F_nil _ _ _) (Nat.le_refl _) (Kd.F_nil _ _ _)))
   (case aF => exact (fun k_ hk => ⟨(Nat.le_trans (kS HK.out) hk), Kd.fresh' (Kd.R_lt (mR HO487.out)) k_ hk, Kd.fresh' (Kd.N_lt (mN HO492.out)) k_ hk, Kd.fresh' (Kd.R_lt (mR HO496.out)) k_ hk, fB BK480.out hk, fB BK483.out hk, fB BK484.out hk, fB BK493.out hk, fB BK502.out hk, fB BK506.out hk, IsS116.fresh (mI116_1 HI0.out) k_ hk⟩))
   (case aO => exact (by (with_reducible repeat (first | apply Kd.N_alloc | apply Kd.N_drewN | apply Kd.N_drew)); exact Kd.N_mono HO505.out (fun _ hk => ⟨hk.1.1.1, ⟨hk.1.1.2.1, ⟨hk.1.1.2.2.1, ⟨hk.1.1.2.2.2.1, ⟨hk.1.1.2.2.2.2.1, ⟨hk.1.1.2.2.2.2.2.1, ⟨hk.1.1.2.2.2.2.2.2.1, ⟨hk.1.1.2.2.2.2.2.2.2.1, ⟨hk.1.1.2.2.2.2.2.2.2.2.1, ⟨hk.1.2, hk.1.1.2.2.2.2.2.2.2.2.2⟩⟩⟩⟩⟩⟩⟩⟩⟩⟩)))
   (case aS => exact (kS HK.out))
   (case aL => have := LMc80.out; omega)
   intro v521 w85 ho hb hg hat
   rw [← Ny520.out] at ho
   have n_ := az (IsS116.grown (mI116_1 HI0.out) hg (IsS116.own_neN HI0.out HO505.out (by decide))) <| az (blk_grown (g := gb480) (o := .cells #[.int .i64 0, .int .i64 0, .int .i64 0, .int .i64 0, .int .i64 0, .int .i64 0, .int .i64 0, .slice none 0 0, .slice none 0 0, .slice none 0 0] 69 (0, 0)) (mK BK480.out) hg (Kd.N_away HO505.out (fun _ hk => hk.1.1.2.2.2.2.1))) <| az (blk_grown (g := gb483) (o := .cells #[.int .i64 3, .int .i64 t481] 37 (0, 0)) (mK BK483.out) hg (Kd.N_ne HO505.out BK483.out (by decide))) <| az (blk_grown (g := gb484) (o := .cells #[.int .i64 2, .int .i64 0, .int .i64 3, .int .i64 t481, .slice none 0 0] 46 (0, 0)) (mK BK484.out) hg (Kd.N_ne HO505.out BK484.out (by decide))) <| az (Kd.R_over' (mR HO487.out) (Kd.N_typed (mN HO505.out)) (by decide) hg) <| And.intro (z0 (Kd.N_afterv (ok := (fun k_ => (w.heap.size ≤ k_) ∧ nB k_ v486 ∧ nB k_ v495 ∧ nB k_ (.slice Ao84 t516.length co84) ∧ k_ ≠ g ∧ k_ ≠ gb480 ∧ k_ ≠ gb483 ∧ k_ ≠ gb484 ∧ k_ ≠ gb493 ∧ k_ ≠ gb502 ∧ k_ ≠ gb506)) (by (with_reducible repeat (first | apply Kd.N_alloc | apply Kd.N_drewN | apply Kd.N_drew)); exact Kd.N_mono HO492.out (fun _ hk => ⟨⟨hk.1.1.1.1, ⟨hk.1.1.1.2.1, ⟨hk.1.1.1.2.2.1, ⟨hk.2, ⟨hk.1.1.1.2.2.2.2.1, ⟨hk.1.1.1.2.2.2.2.2.1, ⟨hk.1.1.1.2.2.2.2.2.2.1, ⟨hk.1.1.1.2.2.2.2.2.2.2.1, ⟨hk.1.1.1.2.2.2.2.2.2.2.2.1, ⟨hk.1.1.1.2.2.2.2.2.2.2.2.2, hk.1.2⟩⟩⟩⟩⟩⟩⟩⟩⟩⟩, hk.1.1.2⟩)) hg hat)) <| az (blk_grown (g := gb493) (o := .cells #[.int .i64 6, .int .i64 0, .int .i64 0, .int .i64 0, .slice Ao29 y490.length co29] 46 (0, 0)) (mK BK493.out) hg (Kd.N_ne HO505.out BK493.out (by decide))) <| az (Kd.R_over' (mR HO496.out) (Kd.N_typed (mN HO505.out)) (by decide) hg) <| az (blk_grown (g := gb502) (o := .cells #[.int .i64 3, .int .i64 0, .int .i64 0, .int .i64 0, .slice Ao46 y499.length co46] 46 (0, 0)) (mK BK502.out) hg (Kd.N_ne HO505.out BK502.out (by decide))) <| az (blk_grown (g := gb506) (o := .cells #[.int .i64 3, .int .i64 0, .int .i64 0, .int .i64 6, .int .i64 0, .int .i64 0, .int .i64 0, .slice Ao29 y490.length co29, .slice Ao67 y503.length co67, .slice none 0 0] 69 (0, 0)) (mK BK506.out) hg (Kd.N_away HO505.out (fun _ hk => hk.1.2))) <| az (below_weaken (mB116HI0 HB.out) HL.out hb) <| az (KeepBut.trans (mKp HK.out) (KeepBut.of_grown hg g) (Kd.N_base2 HO505.out)) <| z0 (ho)
   clear HI0 BK480 BK483 BK484 HO487 HO492 BK493 HO496 BK502 BK506 HB HK HO505 HO518
   obtain ⟨HI0, BK480, BK483, BK484, HO487, HO492, BK493, HO496, BK502, BK506, HB, HK, HO522⟩ := n_
   clear ho hb hg hat
   obtain ⟨Ao86, co86, eo86⟩ := Kd.N_slice HO522.out
   (first | subst eo86 | (injection eo86 with f1_ f2_ f3_; have f4_ := f1_.symm; have f5_ := f3_.symm; clear f1_ f2_ f3_; subst f4_; subst f5_))
   refine hK.out _ _ q103_3 (fun hHeld => ?_)
   clear hK K
   refine norm_ (a' := ?_) ?_ ?_
   rotate_left
   ·show Act.put _ (some 44) _ = _
    simp only [Act.put, List.setIfInBounds_toArray, List.set_cons_zero, List.set_cons_succ, i64_w, i32_w]
    rfl
   refine pure_ (i := 9) (N := some 45) (v := ?_) (a' := ?_) #[true, true, true, true, true, true, true, true, true, true, false] rfl rfl (any_of HT_.out (by kernel_rfl)) (fun _ _ _ h => h) (Or.inl ⟨by rfl, ?_⟩) ?_ ?_
   rotate_left
   ·intro w'
    go_simp
    with_reducible rfl
   rotate_left
   ·simp only [Act.put, List.setIfInBounds_toArray, List.set_cons_zero, List.set_cons_succ, i64_w, i32_w]
    rfl
   refine last_ (i := 10) (N := none) #[true, true, true, true, true, true, true, true, true, true, true] rfl rfl (one_of HT_.out (by kernel_rfl)) (by decide) (fun K hK => ?_)
   have hs87 : w85.cell? ⟨gb506, 8, none⟩ = some (.slice Ao67 y503.length co67) := (blk_cell BK506.out 8).trans rfl
   have hfs87 := blk_frozen BK506.out 8
   have hns87_0 := NB480_506.out
   have hns87_1 := NB483_506.out
   have hns87_2 := NB484_506.out
   have hns87_3 := NB493_506.out
   have hns87_4 := NB502_506.out
   have hms87_0 := NB506_480.out
   have hms87_1 := NB506_483.out
   have hms87_2 := NB506_484.out
   have hms87_3 := NB506_493.out
   have hms87_4 := NB506_502.out
   refine skip_ (w1 := ?_) (by rfl) rfl ?_ ?_
   rotate_left
   ·go_simp
    rfl
   refine hK.out _ _ ?_
   clear hK K
   refine done_ (done_of HT_.out (by kernel_rfl)) ?_
   have hnb88 := NB506_480.out
   have hnc88 := NB480_506.out
   have hnb89 := NB506_483.out
   have hnc89 := NB483_506.out
   have hnb90 := NB506_484.out
   have hnc90 := NB484_506.out
   have hnb91 := NB506_493.out
   have hnc91 := NB493_506.out
   have hnb92 := NB506_502.out
   have hnc92 := NB502_506.out
   have hnb93 := NB506_0.out
   have hnc93 := NB0_506.out
   obtain ⟨hcz94_0, hcz94_1, hcz94_2, hcz94_3, hcz94_4, hcz94_5, hcz94_6, hcz94_7, hcz94_8, hcz94_9, hfz94_0, hfz94_1, hfz94_2, hfz94_3, hfz94_4, hfz94_5, hfz94_6, hfz94_7, hfz94_8, hfz94_9⟩ := cel10 BK506.out
   have hnb95 := NB480_483.out
   have hnc95 := NB483_480.out
   have hnb96 := NB480_484.out
   have hnc96 := NB484_480.out
   have hnb97 := NB480_493.out
   have hnc97 := NB493_480.out
   have hnb98 := NB480_502.out
   have hnc98 := NB502_480.out
   have hnb99 := NB480_0.out
   have hnc99 := NB0_480.out
   obtain ⟨hcz100_0, hcz100_1, hcz100_2, hcz100_3, hcz100_4, hcz100_5, hcz100_6, hcz100_7, hcz100_8, hcz100_9, hfz100_0, hfz100_1, hfz100_2, hfz100_3, hfz100_4, hfz100_5, hfz100_6, hfz100_7, hfz100_8, hfz100_9⟩ := cel10 BK480.out
   try go_wp2
   refine bodyPost_ret (results_cell_row rfl _ _ gb480 69 #[.int .i64 3, .int .i64 0, .int .i64 0, .int .i64 6, .int .i64 0, .int .i64 0, .int .i64 0, .slice Ao29 y490.length co29, .slice Ao86 y520.length co86, .slice none 0 0] (0, 0) _ rfl (by (with_reducible repeat (first | refine blk_drewN ?_ _ | refine blk_drew ?_ | refine blk_alloc ?_ _)); refine blk_put (cs := #[.int .i64 3, .int .i64 0, .int .i64 0, .int .i64 6, .int .i64 0, .int .i64 0, .int .i64 0, .slice Ao29 y490.length co29, .slice Ao86 y520.length co86, .slice none 0 0]) ?_ 9 _ rfl; (with_reducible repeat (first | refine blk_drewN ?_ _ | refine blk_drew ?_ | refine blk_alloc ?_ _)); refine blk_put (cs := #[.int .i64 3, .int .i64 0, .int .i64 0, .int .i64 6, .int .i64 0, .int .i64 0, .int .i64 0, .slice Ao29 y490.length co29, .slice none 0 0, .slice none 0 0]) ?_ 8 _ rfl; (with_reducible repeat (first | refine blk_drewN ?_ _ | refine blk_drew ?_ | refine blk_alloc ?_ _)); refine blk_put (cs := #[.int .i64 3, .int .i64 0, .int .i64 0, .int .i64 6, .int .i64 0, .int .i64 0, .int .i64 0, .slice none 0 0, .slice none 0 0, .slice none 0 0]) ?_ 7 _ rfl; (with_reducible repeat (first | refine blk_drewN ?_ _ | refine blk_drew ?_ | refine blk_alloc ?_ _)); refine blk_put (cs := #[.int .i64 3, .int .i64 0, .int .i64 0, .int .i64 6, .int .i64 0, .int .i64 0, .int .i64 0, .slice none 0 0, .slice none 0 0, .slice none 0 0]) ?_ 6 _ rfl; (with_reducible repeat (first | refine blk_drewN ?_ _ | refine blk_drew ?_ | refine blk_alloc ?_ _)); refine blk_put (cs := #[.int .i64 3, .int .i64 0, .int .i64 0, .int .i64 6, .int .i64 0, .int .i64 0, .int .i64 0, .slice none 0 0, .slice none 0 0, .slice none 0 0]) ?_ 5 _ rfl; (with_reducible repeat (first | refine blk_drewN ?_ _ | refine blk_drew ?_ | refine blk_alloc ?_ _)); refine blk_put (cs := #[.int .i64 3, .int .i64 0, .int .i64 0, .int .i64 6, .int .i64 0, .int .i64 0, .int .i64 0, .slice none 0 0, .slice none 0 0, .slice none 0 0]) ?_ 4 _ rfl; (with_reducible repeat (first | refine blk_drewN ?_ _ | refine blk_drew ?_ | refine blk_alloc ?_ _)); refine blk_put (cs := #[.int .i64 3, .int .i64 0, .int .i64 0, .int .i64 0, .int .i64 0, .int .i64 0, .int .i64 0, .slice none 0 0, .slice none 0 0, .slice none 0 0]) ?_ 3 _ rfl; (with_reducible repeat (first | refine blk_drewN ?_ _ | refine blk_drew ?_ | refine blk_alloc ?_ _)); refine blk_put (cs := #[.int .i64 3, .int .i64 0, .int .i64 0, .int .i64 0, .int .i64 0, .int .i64 0, .int .i64 0, .slice none 0 0, .slice none 0 0, .slice none 0 0]) ?_ 2 _ rfl; (with_reducible repeat (first | refine blk_drewN ?_ _ | refine blk_drew ?_ | refine blk_alloc ?_ _)); refine blk_put (cs := #[.int .i64 3, .int .i64 0, .int .i64 0, .int .i64 0, .int .i64 0, .int .i64 0, .int .i64 0, .slice none 0 0, .slice none 0 0, .slice none 0 0]) ?_ 1 _ rfl; (with_reducible repeat (first | refine blk_drewN ?_ _ | refine blk_drew ?_ | refine blk_alloc ?_ _)); refine blk_put (cs := #[.int .i64 0, .int .i64 0, .int .i64 0, .int .i64 0, .int .i64 0, .int .i64 0, .int .i64 0, .slice none 0 0, .slice none 0 0, .slice none 0 0]) ?_ 0 _ rfl; (with_reducible repeat (first | refine blk_drewN ?_ _ | refine blk_drew ?_ | refine blk_alloc ?_ _)); refine blk_far ?_ NB480_506.out _; (with_reducible repeat (first | refine blk_drewN ?_ _ | refine blk_drew ?_ | refine blk_alloc ?_ _)); exact BK480.out) Try.underlying69 rfl (by kernel_rfl)) rfl ?_
   exact ⟨_, _, _, rfx, by (with_reducible repeat (first | apply Kd.N_alloc | apply Kd.N_drewN | apply Kd.N_drew)); exact Kd.N_mono (Kd.N_far (p := ⟨gb480, 9, none⟩) (Kd.N_far (p := ⟨gb480, 8, none⟩) (Kd.N_far (p := ⟨gb480, 7, none⟩) (Kd.N_far (p := ⟨gb480, 6, none⟩) (Kd.N_far (p := ⟨gb480, 5, none⟩) (Kd.N_far (p := ⟨gb480, 4, none⟩) (Kd.N_far (p := ⟨gb480, 3, none⟩) (Kd.N_far (p := ⟨gb480, 2, none⟩) (Kd.N_far (p := ⟨gb480, 1, none⟩) (Kd.N_far (p := ⟨gb480, 0, none⟩) (Kd.N_far (p := ⟨gb506, 8, none⟩) (Kd.N_mono (Kd.N_mono HO492.out (fun k_ hk => (⟨hk, hk.1.2.2.2.2.2.2.2.2.2.2⟩ : _ ∧ k_ ≠ gb506))) (fun k_ hk => (⟨hk, hk.1.1.2.2.2.2.2.1⟩ : _ ∧ k_ ≠ gb480))) (fun _ hk => hk.1.2) (.slice Ao86 y520.length co86)) (fun _ hk => hk.2) (.int .i64 3)) (fun _ hk => hk.2) (.int .i64 0)) (fun _ hk => hk.2) (.int .i64 0)) (fun _ hk => hk.2) (.int .i64 6)) (fun _ hk => hk.2) (.int .i64 0)) (fun _ hk => hk.2) (.int .i64 0)) (fun _ hk => hk.2) (.int .i64 0)) (fun _ hk => hk.2) (.slice Ao29 y490.length co29)) (fun _ hk => hk.2) (.slice Ao86 y520.length co86)) (fun _ hk => hk.2) (.slice none 0 0)) (fun _ hk => ⟨hk.1.1.1.1, ⟨hk.1.1.2, (by simp [Value.ownBlock])⟩⟩), by (with_reducible repeat (first | apply Kd.N_alloc | apply Kd.N_drewN | apply Kd.N_drew)); exact Kd.N_mono (Kd.N_far (p := ⟨gb480, 9, none⟩) (Kd.N_far (p := ⟨gb480, 8, none⟩) (Kd.N_far (p := ⟨gb480, 7, none⟩) (Kd.N_far (p := ⟨gb480, 6, none⟩) (Kd.N_far (p := ⟨gb480, 5, none⟩) (Kd.N_far (p := ⟨gb480, 4, none⟩) (Kd.N_far (p := ⟨gb480, 3, none⟩) (Kd.N_far (p := ⟨gb480, 2, none⟩) (Kd.N_far (p := ⟨gb480, 1, none⟩) (Kd.N_far (p := ⟨gb480, 0, none⟩) (Kd.N_far (p := ⟨gb506, 8, none⟩) (Kd.N_mono (Kd.N_mono HO522.out (fun k_ hk => (⟨hk, hk.2.2.2.2.2.2.2.2.2.1⟩ : _ ∧ k_ ≠ gb506))) (fun k_ hk => (⟨hk, hk.1.2.2.2.2.1⟩ : _ ∧ k_ ≠ gb480))) (fun _ hk => hk.1.2) (.slice Ao86 y520.length co86)) (fun _ hk => hk.2) (.int .i64 3)) (fun _ hk => hk.2) (.int .i64 0)) (fun _ hk => hk.2) (.int .i64 0)) (fun _ hk => hk.2) (.int .i64 6)) (fun _ hk => hk.2) (.int .i64 0)) (fun _ hk => hk.2) (.int .i64 0)) (fun _ hk => hk.2) (.int .i64 0)) (fun _ hk => hk.2) (.slice Ao29 y490.length co29)) (fun _ hk => hk.2) (.slice Ao86 y520.length co86)) (fun _ hk => hk.2) (.slice none 0 0)) (fun _ hk => ⟨hk.1.1.1, ⟨hk.1.1.2.2.1, (by simp [Value.ownBlock])⟩⟩), by first | exact Kd.R_nil _ _ _ _ _ | exact Kd.N_nil _ _ _ _ _ | exact Kd.V_nil _ _ _ _ _ | exact Kd.Q_nil _ _ _ _ _ | exact Kd.S_nil _ _ _ _ _, mI116_1 HI0.out, mB116HI0 HB.out, mKp HK.out⟩
  ·rw [if_neg c80] at H
   exact absurd H (by simp)
 ·rw [if_neg c77] at H
  have c77b0 : (t507 == 0) = false := beq_eq_false_iff_ne.mpr c77
  have c77b1 : (t507 != 0) = true := bne_iff_ne.mpr c77
  (first | rw [c77b0] | (simp only [i64_w, i32_w]; rw [c77b0]) | skip)
  simp only [Option.some.injEq, Prod.mk.injEq] at H
  obtain ⟨rfl, rfl, rfl, rfl, rfl, rfl, rfl, rfl, rfl, rfl, rfl⟩ := H
  have hnb101 := NB506_480.out
  have hnc101 := NB480_506.out
  have hnb102 := NB506_483.out
  have hnc102 := NB483_506.out
  have hnb103 := NB506_484.out
  have hnc103 := NB484_506.out
  have hnb104 := NB506_493.out
  have hnc104 := NB493_506.out
  have hnb105 := NB506_502.out
  have hnc105 := NB502_506.out
  have hnb106 := NB506_0.out
  have hnc106 := NB0_506.out
  obtain ⟨hcz107_0, hcz107_1, hcz107_2, hcz107_3, hcz107_4, hcz107_5, hcz107_6, hcz107_7, hcz107_8, hcz107_9, hfz107_0, hfz107_1, hfz107_2, hfz107_3, hfz107_4, hfz107_5, hfz107_6, hfz107_7, hfz107_8, hfz107_9⟩ := cel10 BK506.out
  have hnb108 := NB480_483.out
  have hnc108 := NB483_480.out
  have hnb109 := NB480_484.out
  have hnc109 := NB484_480.out
  have hnb110 := NB480_493.out
  have hnc110 := NB493_480.out
  have hnb111 := NB480_502.out
  have hnc111 := NB502_480.out
  have hnb112 := NB480_0.out
  have hnc112 := NB0_480.out
  obtain ⟨hcz113_0, hcz113_1, hcz113_2, hcz113_3, hcz113_4, hcz113_5, hcz113_6, hcz113_7, hcz113_8, hcz113_9, hfz113_0, hfz113_1, hfz113_2, hfz113_3, hfz113_4, hfz113_5, hfz113_6, hfz113_7, hfz113_8, hfz113_9⟩ := cel10 BK480.out
  go_wp2
  refine bodyPost_ret (results_cell_row rfl _ _ gb480 69 #[.int .i64 3, .int .i64 0, .int .i64 0, .int .i64 6, .int .i64 0, .int .i64 0, .int .i64 0, .slice Ao29 y490.length co29, .slice Ao67 y503.length co67, .slice none 0 0] (0, 0) _ rfl (pF BK480.out) Try.underlying69 rfl (by kernel_rfl)) rfl ?_
  exact ⟨_, _, _, rfx, by (with_reducible repeat (first | apply Kd.N_alloc | apply Kd.N_drewN | apply Kd.N_drew)); exact Kd.N_mono (Kd.N_far (p := ⟨gb480, 9, none⟩) (Kd.N_far (p := ⟨gb480, 8, none⟩) (Kd.N_far (p := ⟨gb480, 7, none⟩) (Kd.N_far (p := ⟨gb480, 6, none⟩) (Kd.N_far (p := ⟨gb480, 5, none⟩) (Kd.N_far (p := ⟨gb480, 4, none⟩) (Kd.N_far (p := ⟨gb480, 3, none⟩) (Kd.N_far (p := ⟨gb480, 2, none⟩) (Kd.N_far (p := ⟨gb480, 1, none⟩) (Kd.N_far (p := ⟨gb480, 0, none⟩) (Kd.N_mono HO492.out (fun k_ hk => (⟨hk, hk.1.1.2.2.2.2.2.1⟩ : _ ∧ k_ ≠ gb480))) (fun _ hk => hk.2) (.int .i64 3)) (fun _ hk => hk.2) (.int .i64 0)) (fun _ hk => hk.2) (.int .i64 0)) (fun _ hk => hk.2) (.int .i64 6)) (fun _ hk => hk.2) (.int .i64 0)) (fun _ hk => hk.2) (.int .i64 0)) (fun _ hk => hk.2) (.int .i64 0)) (fun _ hk => hk.2) (.slice Ao29 y490.length co29)) (fun _ hk => hk.2) (.slice Ao67 y503.length co67)) (fun _ hk => hk.2) (.slice none 0 0)) (fun _ hk => ⟨hk.1.1.1.1, ⟨hk.1.1.2, (by simp [Value.ownBlock])⟩⟩), by (with_reducible repeat (first | apply Kd.N_alloc | apply Kd.N_drewN | apply Kd.N_drew)); exact Kd.N_mono (Kd.N_far (p := ⟨gb480, 9, none⟩) (Kd.N_far (p := ⟨gb480, 8, none⟩) (Kd.N_far (p := ⟨gb480, 7, none⟩) (Kd.N_far (p := ⟨gb480, 6, none⟩) (Kd.N_far (p := ⟨gb480, 5, none⟩) (Kd.N_far (p := ⟨gb480, 4, none⟩) (Kd.N_far (p := ⟨gb480, 3, none⟩) (Kd.N_far (p := ⟨gb480, 2, none⟩) (Kd.N_far (p := ⟨gb480, 1, none⟩) (Kd.N_far (p := ⟨gb480, 0, none⟩) (Kd.N_mono HO505.out (fun k_ hk => (⟨hk, hk.1.2.2.2.2.1⟩ : _ ∧ k_ ≠ gb480))) (fun _ hk => hk.2) (.int .i64 3)) (fun _ hk => hk.2) (.int .i64 0)) (fun _ hk => hk.2) (.int .i64 0)) (fun _ hk => hk.2) (.int .i64 6)) (fun _ hk => hk.2) (.int .i64 0)) (fun _ hk => hk.2) (.int .i64 0)) (fun _ hk => hk.2) (.int .i64 0)) (fun _ hk => hk.2) (.slice Ao29 y490.length co29)) (fun _ hk => hk.2) (.slice Ao67 y503.length co67)) (fun _ hk => hk.2) (.slice none 0 0)) (fun _ hk => ⟨hk.1.1.1, ⟨hk.1.1.2.2.1, (by simp [Value.ownBlock])⟩⟩), by first | exact Kd.R_nil _ _ _ _ _ | exact Kd.N_nil _ _ _ _ _ | exact Kd.V_nil _ _ _ _ _ | exact Kd.Q_nil _ _ _ _ _ | exact Kd.S_nil _ _ _ _ _, mI116_1 HI0.out, mB116HI0 HB.out, mKp HK.out⟩

/-! ### spec_l4List: function 102 -/
mutual
def spec_l4List.l0 : Nat → Int → List (S69) → Int → List Int → Int → Option ((List (S69)) × Int)
 | 0, _, _, _, _, _ => none
 | k + 1, x1, x5, x6, x1000, x1001 => if x6 > 0 then (spec_l4List.j1 k x1 x5 x6 (decide (x1 > 0)) x1000 x1001) else (spec_l4List.j1 k x1 x5 x6 false x1000 x1001)
def spec_l4List.j1 : Nat → Int → List (S69) → Int → Bool → List Int → Int → Option ((List (S69)) × Int)
 | 0, _, _, _, _, _, _ => none
 | k + 1, x1, x5, x6, x15, x1000, x1001 => if x15 = true then ((spec_l12Rd_pick.f k x1000 x1001 7).bind fun bt528 => (if bt528.1 = 0 then (spec_l4List.j2 k x1 x5 x6 bt528.1 (bt528.1 == 0) x1000 bt528.2) else (spec_l4List.j2 k x1 x5 x6 bt528.1 (bt528.1 == 1) x1000 bt528.2))) else (some (x5, x1001))
def spec_l4List.j2 : Nat → Int → List (S69) → Int → Int → Bool → List Int → Int → Option ((List (S69)) × Int)
 | 0, _, _, _, _, _, _, _ => none
 | k + 1, x1, x5, x6, x19, x28, x1000, x1001 => if x28 = true then ((spec_l3Expr.f k x1000 x1001 3).bind fun bt530 => ((spec_l4List.f k x1000 bt530.2.2.2.2.2 (wrap64 (x1 - 1))).bind fun bt538 => ((spec_l4List.f k x1000 bt538.2 (wrap64 (x1 - 2))).bind fun bt542 => (if x5.length < 1099511627776 then (spec_l4List.l0 k x1 (x5 ++ [(⟨2, (⟨0, 0⟩ : S37), (⟨bt530.1, bt530.2.1, (⟨bt530.2.2.1, bt530.2.2.2.1⟩ : S37), bt530.2.2.2.2.1⟩ : S46), bt538.1, bt542.1⟩ : S69)]) (wrap64 (x6 - 1)) x1000 bt542.2) else (none))))) else (if x19 = 2 then (if x1 > 1 then ((spec_l4Count.f k x1000 x1001).bind fun bt549 => (if x5.length < 1099511627776 then (spec_l4List.l0 k x1 (x5 ++ [(⟨bt549.1, (⟨bt549.2.1, bt549.2.2.1⟩ : S37), (⟨bt549.2.2.2.1, bt549.2.2.2.2.1, (⟨bt549.2.2.2.2.2.1, bt549.2.2.2.2.2.2.1⟩ : S37), bt549.2.2.2.2.2.2.2.1⟩ : S46), bt549.2.2.2.2.2.2.2.2.1, bt549.2.2.2.2.2.2.2.2.2.1⟩ : S69)]) (wrap64 (x6 - 1)) x1000 bt549.2.2.2.2.2.2.2.2.2.2) else (none))) else (spec_l4List.l0 k x1 x5 (wrap64 (x6 - 1)) x1000 x1001)) else (if x19 = 3 then ((spec_l12Rd_pick.f k x1000 x1001 3).bind fun bt569 => (if bt569.1 = 0 then ((spec_l3Expr.f k x1000 bt569.2 2).bind fun bt571 => ((spec_l4List.f k x1000 bt571.2.2.2.2.2 (wrap64 (x1 - 1))).bind fun bt579 => (if x5.length < 1099511627776 then (spec_l4List.l0 k x1 (x5 ++ [(⟨3, (⟨0, 0⟩ : S37), (⟨bt571.1, bt571.2.1, (⟨bt571.2.2.1, bt571.2.2.2.1⟩ : S37), bt571.2.2.2.2.1⟩ : S46), bt579.1, ([] : List (S69))⟩ : S69)]) (wrap64 (x6 - 1)) x1000 bt579.2) else (none)))) else (spec_l4List.l0 k x1 x5 (wrap64 (x6 - 1)) x1000 bt569.2))) else ((spec_l2To.f k x1000 x1001).bind fun bt586 => ((spec_l3Expr.f k x1000 bt586.2.2 3).bind fun bt589 => (if x5.length < 1099511627776 then (spec_l4List.l0 k x1 (x5 ++ [(⟨1, (⟨bt586.1, bt586.2.1⟩ : S37), (⟨bt589.1, bt589.2.1, (⟨bt589.2.2.1, bt589.2.2.2.1⟩ : S37), bt589.2.2.2.2.1⟩ : S46), ([] : List (S69)), ([] : List (S69))⟩ : S69)]) (wrap64 (x6 - 1)) x1000 bt589.2.2.2.2.2) else (none))))))
def spec_l4List.f : Nat → List Int → Int → Int → Option ((List (S69)) × Int)
 | 0, _, _, _ => none
 | k + 1, s0_0, s0_1, a1 => (spec_l12Rd_pick.f k s0_0 s0_1 4).bind fun bt526 => (spec_l4List.l0 k a1 (([] : List (S69))) bt526.1 s0_0 bt526.2)
end
theorem q102_1 {p : Prop} (h : p := by first | exact Kd.N_base ho0 | exact Kd.R_base ho0) : p := h
set_option maxHeartbeats 8000000 in
set_option maxRecDepth 100000 in
theorem spec_l4List.calls (k : Nat) : ∀ (g : Nat) (s0_0 : List Int) (s0_1 : Int) (a1 : Int) (r1 : List (S69)) (r2 : Int) (w0 w : World) (hI : IsS116 w0 w g s0_0 s0_1) (hB : Below w0.heap.size w0 w) (h : spec_l4List.f k s0_0 s0_1 a1 = some (r1, r2)),
  Calls Try.prog 102 #[.pointer (some ⟨g, 0, none⟩), .int .i64 a1] w fun e w' => ∃ v0_ : Value, e = .returned (v0_) ∧ Kd.N k69 69 w' w.heap.size (fun k_ => (w.heap.size ≤ k_)) v0_ r1 ∧ IsS116 w0 w' g s0_0 r2 ∧ Below w0.heap.size w0 w' ∧ KeepBut w w' g none := by
 induction k using Nat.strongRecOn with
 | _ k ih =>
 intro g s0_0 s0_1 a1 r1 r2 w0 w hI hB h
 cases k with
 | zero => exact absurd h (by simp [spec_l4List.f])
 | succ k =>
 simp only [spec_l4List.f] at h
 have hu69 := Try.underlying69
 have HI0 := z0 hI
 have HK := z0 (KeepBut.refl w g none)
 have HL := z0 hB.size
 clear hI
 have HW0 := z0 hB.size
 have HB := z0 hB
 clear hB
 have H : ((spec_l12Rd_pick.f k s0_0 s0_1 4).bind fun bt526 => (spec_l4List.l0 k a1 (([] : List (S69))) bt526.1 s0_0 bt526.2)) = some (r1, r2) := h
 clear h
 obtain ⟨y523, hy523⟩ : ∃ y_ : List (S69), y_ = (([] : List (S69))) := ⟨_, rfl⟩
 replace H : ((spec_l12Rd_pick.f k s0_0 s0_1 4).bind fun bt526 => (spec_l4List.l0 k a1 y523 bt526.1 s0_0 bt526.2)) = some (r1, r2) := by first | (rw [hy523]; with_reducible exact H) | (have H2_ := (Option.bind_some _ _).symm.trans H; rw [hy523]; with_reducible exact H2_) | (have H2_ := (Option.bind_some _ _).symm.trans H; with_reducible exact H2_) | with_reducible exact H | (rw [hy523]; exact H) | exact H
 have Ny523 := z0 hy523
 clear hy523
 replace H := Option.bind_eq_some_iff.mp H
 obtain ⟨⟨t526, t527⟩, A30, H⟩ := H
 try dsimp only at H
 have A3 := z0 A30
 clear A30
 have H' := z0 H
 clear H
 go_enter Try.func102, Try.ntmps102
 go_wp2_with (first | ((with_reducible refine gate_dst (N := 7) rfl ?_); refine Kd.N_lit k69 _ 69 ?hg (N' := 7) ?hd (xs := ([] : List (S69))) (inner := []) (ok := (fun k_ => (w.heap.size ≤ k_) ∧ k_ ≠ g)) (okp := (fun k_ => (w.heap.size ≤ k_) ∧ k_ ≠ g)) ?hr ?hp (fun _ hk => hk) ((show ∀ k_, w.heap.size ≤ k_ → (fun k_ => (w.heap.size ≤ k_) ∧ k_ ≠ g) k_ from fun k_ hk => ⟨(Nat.le_trans (kS HK.out) hk), IsS116.fresh (mI116_1 HI0.out) k_ hk⟩) _ (Nat.le_refl _)) (Below.refl _ _) (Nat.le_refl _) (by simp) ?_; (case hd => rfl); (case hg => rfl); (case hr => first | (go_simp; done) | (go_simp; rfl)); (case hp => exact (Reps.none _ _)); intro v524 w4 ho5 hb hg_ hnew_; clear hg_ hnew_; (first | rw [← Ny523.out] at ho5 | (simp only [Int.reduceToNat] at ho5; rw [← Ny523.out] at ho5)); have n_ := az (Kd.N_lower ho5 (kS HK.out)) <| az (IsS116.below (mI116_1 HI0.out) hb) <| az (KeepBut.trans (mKp HK.out) (KeepBut.of_below hb g none) (.inl rfl)) <| z0 (below_step (mB116HI0 HB.out) hb); clear HI0 HK HB; obtain ⟨HO525, HI0, HK, HB⟩ := n_; clear hb ho5) | ((with_reducible refine gate_callee (f := 73) rfl ?_); refine goesL_ (some 9) rfl rfl Try.func73 (by kernel_rfl) rfl #[.pointer (some ⟨g, 0, none⟩), .int .i64 4] rfl argx ?_; (with_reducible refine (spec_l12Rd_pick.calls k g s0_0 s0_1 4 t526 t527 w0 _ ?side1 ?side2 A3.out).mono ?_); (case side1 => exact mI116_1 HI0.out); (case side2 => exact mB116HI0 HB.out); rintro e w6 ⟨rfl, hi, hb, hk⟩; refine ⟨_, rfl, ?_⟩; have n_ := az (Kd.N_mono (Kd.N_keep (Kd.N_mono (ok := fun k_ => (((w.heap.size ≤ k_)) ∧ k_ ≠ g)) (mN HO525.out) (fun k_ hk_ => (⟨hk_, hk_.2⟩ : _ ∧ k_ ≠ g))) hk (fun _ h => h.2)) (fun _ h => h.1)) <| az (KeepBut.trans (mKp HK.out) hk (.inl rfl)) <| az (hb) <| z0 (hi); clear HO525 HK HB HI0; obtain ⟨HO525, HK, HB, HI0⟩ := n_; clear hb hk hi))
 go_loopg [5, 6] k (fun kq v5 v6 w' => ∃ (x5_1 : List (S69)) (x6_1 : Int) (x1001_1 : Int), v6 = .int .i64 x6_1 ∧ Aside0 (spec_l4List.l0 kq a1 x5_1 x6_1 s0_0 x1001_1 = some (r1, r2)) ∧ Aside0 (kq ≤ k) ∧ Aside0 (Kd.N k69 69 w' w.heap.size (fun k_ => (w.heap.size ≤ k_) ∧ k_ ≠ g) v5 x5_1) ∧ Aside0 (IsS116 w0 w' g s0_0 x1001_1) ∧ Aside0 (KeepBut w w' g none) ∧ Aside0 (Below w0.heap.size w0 w'))
 case atStart => exact ⟨(y523), (t526), (t527), rfy, H', ⟨Nat.le_refl _⟩, ⟨mN HO525.out⟩, ⟨mI116_1 HI0.out⟩, ⟨mKp HK.out⟩, ⟨mB116HI0 HB.out⟩⟩
 case round =>
  clear H'
  skip
  obtain ⟨x5_1, x6_1, x1001_1, rfl, HA, HK1, HO_5, HI0, HK, HB⟩ := hrel
  cases gk with
  | zero => exact absurd HA.out (by simp [spec_l4List.l0])
  | succ k1 =>
   have H := HA.out
   clear HA
   simp only [spec_l4List.l0] at H
   have HC7 := z0 H
   clear H
   go_upto_region 3 with (fail)
   go_cut [15] (fun v15 wc => ∃ (kq : Nat) (x15_6 : Bool), v15 = .bool x15_6 ∧ Aside0 (spec_l4List.j1 kq a1 x5_1 x6_1 x15_6 s0_0 x1001_1 = some (r1, r2)) ∧ Aside0 (kq ≤ k1) ∧ Aside0 (Kd.N k69 69 wc w.heap.size (fun k_ => (w.heap.size ≤ k_) ∧ k_ ≠ g) u5 x5_1) ∧ Aside0 (IsS116 w0 wc g s0_0 x1001_1) ∧ Aside0 (KeepBut w wc g none) ∧ Aside0 (Below w0.heap.size w0 wc))
   case first =>
    have H := HC7.out
    clear HC7
    by_cases c8 : x6_1 > 0
    ·rw [if_pos c8] at H
     have c8b0 : decide (0 < x6_1) = true := decide_eq_true c8
     clear c8
     (first | rw [c8b0] | (simp only [i64_w, i32_w]; rw [c8b0]) | skip)
     have H' := z0 H
     clear H
     go_wp2
     go_meet
     case rel => exact ⟨_, (decide (a1 > 0)), rfy, H', ⟨by have := HK1.out; first | omega | exact Nat.le_refl _⟩, ⟨mN HO_5.out⟩, ⟨mI116_1 HI0.out⟩, ⟨mKp HK.out⟩, ⟨mB116HI0 HB.out⟩⟩
    ·rw [if_neg c8] at H
     have c8b0 : decide (0 < x6_1) = false := decide_eq_false c8
     clear c8
     (first | rw [c8b0] | (simp only [i64_w, i32_w]; rw [c8b0]) | skip)
     have H' := z0 H
     clear H
     go_wp2
     go_meet
     case rel => exact ⟨_, (false), rfy, H', ⟨by have := HK1.out; first | omega | exact Nat.le_refl _⟩, ⟨mN HO_5.out⟩, ⟨mI116_1 HI0.out⟩, ⟨mKp HK.out⟩, ⟨mB116HI0 HB.out⟩⟩
   case rest =>
    clear HC7
    skip
    obtain ⟨kq, x15_6, rfl, HA, HJ6, HO_5, HI0, HK, HB⟩ := hcut
    cases kq with
    | zero => exact absurd HA.out (by simp [spec_l4List.j1])
    | succ kj6 =>
     have H := HA.out
     clear HA
     simp only [spec_l4List.j1] at H
     by_cases c9 : x15_6 = true
     ·subst c9
      have H1 : ((spec_l12Rd_pick.f kj6 s0_0 x1001_1 7).bind fun bt528 => (if bt528.1 = 0 then (spec_l4List.j2 kj6 a1 x5_1 x6_1 bt528.1 (bt528.1 == 0) s0_0 bt528.2) else (spec_l4List.j2 kj6 a1 x5_1 x6_1 bt528.1 (bt528.1 == 1) s0_0 bt528.2))) = some (r1, r2) := by rw [if_pos rfl] at H; exact H
      clear H
      have H := H1
      clear H1
      replace H := Option.bind_eq_some_iff.mp H
      obtain ⟨⟨t528, t529⟩, A100, H⟩ := H
      try dsimp only at H
      have A10 := z0 A100
      clear A100
      have HC11 := z0 H
      clear H
      go_upto_if 28 with (first | ((with_reducible refine gate_callee (f := 73) rfl ?_); refine goesL_ (some 19) rfl rfl Try.func73 (by kernel_rfl) rfl #[.pointer (some ⟨g, 0, none⟩), .int .i64 7] rfl argx ?_; (with_reducible refine (spec_l12Rd_pick.calls kj6 g s0_0 x1001_1 7 t528 t529 w0 _ ?side1 ?side2 A10.out).mono ?_); (case side1 => exact mI116_1 HI0.out); (case side2 => exact mB116HI0 HB.out); rintro e w12 ⟨rfl, hi, hb, hk⟩; refine ⟨_, rfl, ?_⟩; have n_ := az (Kd.N_mono (Kd.N_keep (Kd.N_mono (ok := fun k_ => (((w.heap.size ≤ k_)) ∧ k_ ≠ g)) (mN HO_5.out) (fun k_ hk_ => (⟨hk_, hk_.2⟩ : _ ∧ k_ ≠ g))) hk (fun _ h => h.2)) (fun _ h => h.1)) <| az (KeepBut.trans (mKp HK.out) hk (.inl rfl)) <| az (hb) <| z0 (hi); clear HO_5 HK HB HI0; obtain ⟨HO_5, HK, HB, HI0⟩ := n_; clear hb hk hi))
      (try simp only [Act.put, List.setIfInBounds_toArray, List.set_cons_zero, List.set_cons_succ])
      go_cut [28] (fun v28 wc => ∃ (kq : Nat) (x28_10 : Bool), v28 = .bool x28_10 ∧ Aside0 (spec_l4List.j2 kq a1 x5_1 x6_1 t528 x28_10 s0_0 t529 = some (r1, r2)) ∧ Aside0 (kq ≤ kj6) ∧ Aside0 (Kd.N k69 69 wc w.heap.size (fun k_ => (w.heap.size ≤ k_) ∧ k_ ≠ g) u5 x5_1) ∧ Aside0 (IsS116 w0 wc g s0_0 t529) ∧ Aside0 (KeepBut w wc g none) ∧ Aside0 (Below w0.heap.size w0 wc))
      case first =>
       have H := HC11.out
       clear HC11
       by_cases c13 : t528 = 0
       ·rw [if_pos c13] at H
        have c13b0 : (t528 == 0) = true := beq_iff_eq.mpr c13
        have c13b1 : (t528 != 0) = false := bne_eq_false_iff_eq.mpr c13
        clear c13
        (first | rw [c13b0] | (simp only [i64_w, i32_w]; rw [c13b0]) | skip)
        have H' := z0 H
        clear H
        go_wp2
        go_meet
        case rel => exact ⟨_, ((t528 == 0)), rfy, H', ⟨by have := HK1.out; have := HJ6.out; first | omega | exact Nat.le_refl _⟩, ⟨mN HO_5.out⟩, ⟨mI116_1 HI0.out⟩, ⟨mKp HK.out⟩, ⟨mB116HI0 HB.out⟩⟩
       ·rw [if_neg c13] at H
        have c13b0 : (t528 == 0) = false := beq_eq_false_iff_ne.mpr c13
        have c13b1 : (t528 != 0) = true := bne_iff_ne.mpr c13
        (first | rw [c13b0] | (simp only [i64_w, i32_w]; rw [c13b0]) | skip)
        have H' := z0 H
        clear H
        go_wp2
        go_meet
        case rel => exact ⟨_, ((t528 == 1)), rfy, H', ⟨by have := HK1.out; have := HJ6.out; first | omega | exact Nat.le_refl _⟩, ⟨mN HO_5.out⟩, ⟨mI116_1 HI0.out⟩, ⟨mKp HK.out⟩, ⟨mB116HI0 HB.out⟩⟩
      case rest =>
       clear HC11
       (try clear c9)
       obtain ⟨kq, x28_10, rfl, HA, HJ10, HO_5, HI0, HK, HB⟩ := hcut
       cases kq with
       | zero => exact absurd HA.out (by simp [spec_l4List.j2])
       | succ kj10 =>
        have H := HA.out
        clear HA
        simp only [spec_l4List.j2] at H
        by_cases c14 : x28_10 = true
        ·subst c14
         have H1 : ((spec_l3Expr.f kj10 s0_0 t529 3).bind fun bt530 => ((spec_l4List.f kj10 s0_0 bt530.2.2.2.2.2 (wrap64 (a1 - 1))).bind fun bt538 => ((spec_l4List.f kj10 s0_0 bt538.2 (wrap64 (a1 - 2))).bind fun bt542 => (if x5_1.length < 1099511627776 then (spec_l4List.l0 kj10 a1 (x5_1 ++ [(⟨2, (⟨0, 0⟩ : S37), (⟨bt530.1, bt530.2.1, (⟨bt530.2.2.1, bt530.2.2.2.1⟩ : S37), bt530.2.2.2.2.1⟩ : S46), bt538.1, bt542.1⟩ : S69)]) (wrap64 (x6_1 - 1)) s0_0 bt542.2) else (none))))) = some (r1, r2) := by rw [if_pos rfl] at H; exact H
         clear H
         have H := H1
         clear H1
         replace H := Option.bind_eq_some_iff.mp H
         obtain ⟨⟨t530, t531, t532, t533, t534, t537⟩, A150, H⟩ := H
         try dsimp only at H
         have A15 := z0 A150
         clear A150
         replace H := Option.bind_eq_some_iff.mp H
         obtain ⟨⟨t538, t541⟩, A160, H⟩ := H
         try dsimp only at H
         have A16 := z0 A160
         clear A160
         replace H := Option.bind_eq_some_iff.mp H
         obtain ⟨⟨t542, t545⟩, A170, H⟩ := H
         try dsimp only at H
         have A17 := z0 A170
         clear A170
         by_cases c18 : x5_1.length < 1099511627776
         ·rw [if_pos c18] at H
          have LMc18 := z0 c18
          clear c18
          obtain ⟨y546, hy546⟩ : ∃ y_ : List (S69), y_ = (x5_1 ++ [(⟨2, (⟨0, 0⟩ : S37), (⟨t530, t531, (⟨t532, t533⟩ : S37), t534⟩ : S46), t538, t542⟩ : S69)]) := ⟨_, rfl⟩
          replace H : (spec_l4List.l0 kj10 a1 y546 (wrap64 (x6_1 - 1)) s0_0 t545) = some (r1, r2) := by first | (rw [hy546]; with_reducible exact H) | (have H2_ := (Option.bind_some _ _).symm.trans H; rw [hy546]; with_reducible exact H2_) | (have H2_ := (Option.bind_some _ _).symm.trans H; with_reducible exact H2_) | with_reducible exact H | (rw [hy546]; exact H) | exact H
          have Ny546 := z0 hy546
          clear hy546
          have H' := z0 H
          clear H
          go_wp2_with (first | ((with_reducible refine gate_callee (f := 76) rfl ?_); refine goesL_ (some 33) rfl rfl Try.func76 (by kernel_rfl) rfl #[.pointer (some ⟨g, 0, none⟩), .int .i64 3] rfl argx ?_; (with_reducible refine (spec_l3Expr.calls kj10 g s0_0 t529 3 t530 t531 t532 t533 t534 t537 w0 _ ?side1 ?side2 A15.out).mono ?_); (case side1 => exact mI116_1 HI0.out); (case side2 => exact mB116HI0 HB.out); rintro e w19 ⟨v535, rfl, ho0, hi, hb, hk⟩; refine ⟨_, rfl, ?_⟩; have n_ := az (Kd.N_mono (Kd.N_told (Kd.N_oldK (Kd.N_mono (ok := fun k_ => (((w.heap.size ≤ k_)) ∧ k_ ≠ g)) (mN HO_5.out) (fun k_ hk_ => (⟨hk_, hk_.2⟩ : _ ∧ k_ ≠ g))) hk) q102_1) (fun _ h_ => h_.1)) <| az (Kd.N_lower (Kd.N_mono (ok' := fun k_ => (w.heap.size ≤ k_) ∧ nB k_ u5 ∧ k_ ≠ g) (Kd.R_N (Kd.R_bound ho0)) (fun k_ hk_ => ⟨(Nat.le_trans (kS HK.out) hk_.2.1), (Kd.fresh' (Kd.N_lt (mN HO_5.out)) k_ hk_.2.1), (IsS116.fresh (mI116_1 HI0.out) k_ hk_.2.1)⟩)) (kS HK.out)) <| az (KeepBut.trans (mKp HK.out) hk (.inl rfl)) <| az (hb) <| z0 (hi); clear HO_5 HK HB HI0; obtain ⟨HO_5, HO536, HK, HB, HI0⟩ := n_; clear hb hk hi ho0) | ((with_reducible refine gate_callee (f := 102) rfl ?_); refine goesL_ (some 37) rfl rfl Try.func102 (by kernel_rfl) rfl #[.pointer (some ⟨g, 0, none⟩), .int .i64 (wrap64 (a1 - 1))] rfl argx ?_; (with_reducible refine (ih kj10 (by have := HK1.out; have := HJ6.out; have := HJ10.out; omega) g s0_0 t537 (wrap64 (a1 - 1)) t538 t541 w0 _ ?side1 ?side2 A16.out).mono ?_); (case side1 => exact mI116_1 HI0.out); (case side2 => exact mB116HI0 HB.out); rintro e w20 ⟨v539, rfl, ho0, hi, hb, hk⟩; refine ⟨_, rfl, ?_⟩; have n_ := az (Kd.N_mono (Kd.N_told (Kd.N_oldK (Kd.N_mono (ok := fun k_ => ((((w.heap.size ≤ k_)) ∧ k_ ≠ g) ∧ nB k_ v535)) (mN HO_5.out) (fun k_ hk_ => (⟨hk_, hk_.1.2⟩ : _ ∧ k_ ≠ g))) hk) q102_1) (fun _ h_ => h_.1)) <| az (Kd.N_mono (Kd.N_told (Kd.N_oldK (Kd.N_mono (ok := fun k_ => (((w.heap.size ≤ k_)) ∧ (nB k_ u5 ∧ k_ ≠ g))) (mN HO536.out) (fun k_ hk_ => (⟨hk_, hk_.2.2⟩ : _ ∧ k_ ≠ g))) hk) q102_1) (fun _ h_ => h_.1)) <| az (Kd.N_lower (Kd.N_mono (ok' := fun k_ => (w.heap.size ≤ k_) ∧ nB k_ u5 ∧ nB k_ v535 ∧ k_ ≠ g) ho0 (fun k_ hk_ => ⟨(Nat.le_trans (kS HK.out) hk_), (Kd.fresh' (Kd.N_lt (mN HO_5.out)) k_ hk_), (Kd.fresh' (Kd.N_lt (mN HO536.out)) k_ hk_), (IsS116.fresh (mI116_1 HI0.out) k_ hk_)⟩)) (kS HK.out)) <| az (KeepBut.trans (mKp HK.out) hk (.inl rfl)) <| az (hb) <| z0 (hi); clear HO_5 HO536 HK HB HI0; obtain ⟨HO_5, HO536, HO540, HK, HB, HI0⟩ := n_; clear hb hk hi ho0) | ((with_reducible refine gate_callee (f := 102) rfl ?_); refine goesL_ (some 41) rfl rfl Try.func102 (by kernel_rfl) rfl #[.pointer (some ⟨g, 0, none⟩), .int .i64 (wrap64 (a1 - 2))] rfl argx ?_; (with_reducible refine (ih kj10 (by have := HK1.out; have := HJ6.out; have := HJ10.out; omega) g s0_0 t541 (wrap64 (a1 - 2)) t542 t545 w0 _ ?side1 ?side2 A17.out).mono ?_); (case side1 => exact mI116_1 HI0.out); (case side2 => exact mB116HI0 HB.out); rintro e w21 ⟨v543, rfl, ho0, hi, hb, hk⟩; refine ⟨_, rfl, ?_⟩; have n_ := az (Kd.N_mono (Kd.N_told (Kd.N_oldK (Kd.N_mono (ok := fun k_ => (((((w.heap.size ≤ k_)) ∧ k_ ≠ g) ∧ nB k_ v535) ∧ nB k_ v539)) (mN HO_5.out) (fun k_ hk_ => (⟨hk_, hk_.1.1.2⟩ : _ ∧ k_ ≠ g))) hk) q102_1) (fun _ h_ => h_.1)) <| az (Kd.N_mono (Kd.N_told (Kd.N_oldK (Kd.N_mono (ok := fun k_ => ((((w.heap.size ≤ k_)) ∧ (nB k_ u5 ∧ k_ ≠ g)) ∧ nB k_ v539)) (mN HO536.out) (fun k_ hk_ => (⟨hk_, hk_.1.2.2⟩ : _ ∧ k_ ≠ g))) hk) q102_1) (fun _ h_ => h_.1)) <| az (Kd.N_mono (Kd.N_told (Kd.N_oldK (Kd.N_mono (ok := fun k_ => (((w.heap.size ≤ k_)) ∧ (nB k_ u5 ∧ (nB k_ v535 ∧ k_ ≠ g)))) (mN HO540.out) (fun k_ hk_ => (⟨hk_, hk_.2.2.2⟩ : _ ∧ k_ ≠ g))) hk) q102_1) (fun _ h_ => h_.1)) <| az (Kd.N_lower (Kd.N_mono (ok' := fun k_ => (w.heap.size ≤ k_) ∧ nB k_ u5 ∧ nB k_ v535 ∧ nB k_ v539 ∧ k_ ≠ g) ho0 (fun k_ hk_ => ⟨(Nat.le_trans (kS HK.out) hk_), (Kd.fresh' (Kd.N_lt (mN HO_5.out)) k_ hk_), (Kd.fresh' (Kd.N_lt (mN HO536.out)) k_ hk_), (Kd.fresh' (Kd.N_lt (mN HO540.out)) k_ hk_), (IsS116.fresh (mI116_1 HI0.out) k_ hk_)⟩)) (kS HK.out)) <| az (KeepBut.trans (mKp HK.out) hk (.inl rfl)) <| az (hb) <| z0 (hi); clear HO_5 HO536 HO540 HK HB HI0; obtain ⟨HO_5, HO536, HO540, HO544, HK, HB, HI0⟩ := n_; clear hb hk hi ho0; obtain ⟨Ao22, co22, eo22⟩ := Kd.N_slice HO544.out; subst eo22; obtain ⟨Ao23, co23, eo23⟩ := Kd.N_slice HO540.out; subst eo23; obtain ⟨Ao24, co24, eo24⟩ := Kd.N_slice HO536.out; subst eo24) | ((with_reducible refine gate_builtin (b := .append) (xs := #[.tmp 31, .tmp 43]) rfl ?_); at_builtin; refine Kd.N_append k69 w.heap.size rfl (.tmp 31) (.tmp 43) 26 69 (.agg #[(.int .i64 0), (.int .i64 0), (.int .i64 0), (.int .i64 0), (.int .i64 0), (.int .i64 0), (.int .i64 0), (.slice none 0 0), (.slice none 0 0), (.slice none 0 0)]) 128 rfl Try.underlying26 info69 rfl (by decide) (by omega) u5 x5_1 (⟨2, (⟨0, 0⟩ : S37), (⟨t530, t531, (⟨t532, t533⟩ : S37), t534⟩ : S46), t538, t542⟩ : S69) [.int .i64 2, .int .i64 0, .int .i64 0, .int .i64 t530, .int .i64 t531, .int .i64 t532, .int .i64 t533, .slice Ao24 t534.length co24, .slice Ao23 t538.length co23, .slice Ao22 t542.length co22] (fun k_ => (w.heap.size ≤ k_) ∧ k_ ≠ g) (fun k_ => ((fun k_ => (w.heap.size ≤ k_) ∧ k_ ≠ g)) k_ ∧ nB k_ u5) rfl rfl ?aP (fun _ hk => hk) ?aF ?aO (Below.refl _ _) ?aS ?aL ?_; (case aP => exact (k69_mkF _ _ (⟨2, (⟨0, 0⟩ : S37), (⟨t530, t531, (⟨t532, t533⟩ : S37), t534⟩ : S46), t538, t542⟩ : S69) (Kd.N_reads' (Kd.N_mono (ok' := (fun k_ => ((fun k_ => (w.heap.size ≤ k_) ∧ k_ ≠ g)) k_ ∧ nB k_ u5)) (HO536.out) (fun k_ hk => ⟨⟨hk.1.1.1, hk.1.1.2.2⟩, hk.1.1.2.1⟩))).2.1 (Kd.N_F (Kd.N_mono (ok' := (fun k_ => ((fun k_ => (w.heap.size ≤ k_) ∧ k_ ≠ g)) k_ ∧ nB k_ u5)) (HO536.out) (fun k_ hk => ⟨⟨hk.1.1.1, hk.1.1.2.2⟩, hk.1.1.2.1⟩))) (Kd.N_reads' (Kd.N_mono (ok' := (fun k_ => ((fun k_ => (w.heap.size ≤ k_) ∧ k_ ≠ g)) k_ ∧ nB k_ u5)) (HO540.out) (fun k_ hk => ⟨⟨hk.1.1, hk.1.2.2.2⟩, hk.1.2.1⟩))).2.1 (Kd.N_F (Kd.N_mono (ok' := (fun k_ => ((fun k_ => (w.heap.size ≤ k_) ∧ k_ ≠ g)) k_ ∧ nB k_ u5)) (HO540.out) (fun k_ hk => ⟨⟨hk.1.1, hk.1.2.2.2⟩, hk.1.2.1⟩))) (Kd.N_reads' (Kd.N_mono (ok' := (fun k_ => ((fun k_ => (w.heap.size ≤ k_) ∧ k_ ≠ g)) k_ ∧ nB k_ u5)) (HO544.out) (fun k_ hk => ⟨⟨hk.1, hk.2.2.2.2⟩, hk.2.1⟩))).2.1 (Kd.N_F (Kd.N_mono (ok' := (fun k_ => ((fun k_ => (w.heap.size ≤ k_) ∧ k_ ≠ g)) k_ ∧ nB k_ u5)) (HO544.out) (fun k_ hk => ⟨⟨hk.1, hk.2.2.2.2⟩, hk.2.1⟩))))); (case aF => exact (fun k_ hk => ⟨(Nat.le_trans (kS HK.out) hk), IsS116.fresh (mI116_1 HI0.out) k_ hk⟩)); (case aO => exact (by (with_reducible repeat (first | apply Kd.N_alloc | apply Kd.N_drewN | apply Kd.N_drew)); exact Kd.N_mono HO_5.out (fun _ hk => ⟨hk.1.1.1.1, hk.1.1.1.2⟩))); (case aS => exact (kS HK.out)); (case aL => have := LMc18.out; omega); intro v547 w25 ho hb hg hat; rw [← Ny546.out] at ho; have n_ := az (IsS116.grown (mI116_1 HI0.out) hg (IsS116.own_neN HI0.out HO_5.out (by decide))) <| az (below_weaken (mB116HI0 HB.out) HL.out hb) <| az (KeepBut.trans (mKp HK.out) (KeepBut.of_grown hg g) (Kd.N_base2 HO_5.out)) <| z0 (ho); clear HI0 HB HK HO_5 HO536 HO540 HO544; obtain ⟨HI0, HB, HK, HO548⟩ := n_; clear ho hb hg hat))
          go_roundg kj10
          case measure => have := HK1.out; have := HJ6.out; have := HJ10.out; omega
          case rel => exact ⟨(y546), (wrap64 (x6_1 - 1)), (t545), rfy, H', ⟨by have := HK1.out; have := HJ6.out; have := HJ10.out; omega⟩, ⟨mN HO548.out⟩, ⟨mI116_1 HI0.out⟩, ⟨mKp HK.out⟩, ⟨mB116HI0 HB.out⟩⟩
         ·rw [if_neg c18] at H
          exact absurd H (by simp)
        ·replace c14 := Bool.eq_false_iff.mpr c14
         subst c14
         have H1 : (if t528 = 2 then (if a1 > 1 then ((spec_l4Count.f kj10 s0_0 t529).bind fun bt549 => (if x5_1.length < 1099511627776 then (spec_l4List.l0 kj10 a1 (x5_1 ++ [(⟨bt549.1, (⟨bt549.2.1, bt549.2.2.1⟩ : S37), (⟨bt549.2.2.2.1, bt549.2.2.2.2.1, (⟨bt549.2.2.2.2.2.1, bt549.2.2.2.2.2.2.1⟩ : S37), bt549.2.2.2.2.2.2.2.1⟩ : S46), bt549.2.2.2.2.2.2.2.2.1, bt549.2.2.2.2.2.2.2.2.2.1⟩ : S69)]) (wrap64 (x6_1 - 1)) s0_0 bt549.2.2.2.2.2.2.2.2.2.2) else (none))) else (spec_l4List.l0 kj10 a1 x5_1 (wrap64 (x6_1 - 1)) s0_0 t529)) else (if t528 = 3 then ((spec_l12Rd_pick.f kj10 s0_0 t529 3).bind fun bt569 => (if bt569.1 = 0 then ((spec_l3Expr.f kj10 s0_0 bt569.2 2).bind fun bt571 => ((spec_l4List.f kj10 s0_0 bt571.2.2.2.2.2 (wrap64 (a1 - 1))).bind fun bt579 => (if x5_1.length < 1099511627776 then (spec_l4List.l0 kj10 a1 (x5_1 ++ [(⟨3, (⟨0, 0⟩ : S37), (⟨bt571.1, bt571.2.1, (⟨bt571.2.2.1, bt571.2.2.2.1⟩ : S37), bt571.2.2.2.2.1⟩ : S46), bt579.1, ([] : List (S69))⟩ : S69)]) (wrap64 (x6_1 - 1)) s0_0 bt579.2) else (none)))) else (spec_l4List.l0 kj10 a1 x5_1 (wrap64 (x6_1 - 1)) s0_0 bt569.2))) else ((spec_l2To.f kj10 s0_0 t529).bind fun bt586 => ((spec_l3Expr.f kj10 s0_0 bt586.2.2 3).bind fun bt589 => (if x5_1.length < 1099511627776 then (spec_l4List.l0 kj10 a1 (x5_1 ++ [(⟨1, (⟨bt586.1, bt586.2.1⟩ : S37), (⟨bt589.1, bt589.2.1, (⟨bt589.2.2.1, bt589.2.2.2.1⟩ : S37), bt589.2.2.2.2.1⟩ : S46), ([] : List (S69)), ([] : List (S69))⟩ : S69)]) (wrap64 (x6_1 - 1)) s0_0 bt589.2.2.2.2.2) else (none)))))) = some (r1, r2) := by rw [if_neg (show ¬ (false = true) by decide)] at H; exact H
         clear H
         have H := H1
         clear H1
         by_cases c26 : t528 = 2
         ·rw [if_pos c26] at H
          have c26b0 : (t528 == 2) = true := beq_iff_eq.mpr c26
          have c26b1 : (t528 != 2) = false := bne_eq_false_iff_eq.mpr c26
          clear c26
          by_cases c27 : a1 > 1
          ·rw [if_pos c27] at H
           have c27b0 : decide (1 < a1) = true := decide_eq_true c27
           clear c27
           replace H := Option.bind_eq_some_iff.mp H
           obtain ⟨⟨t549, t550, t551, t552, t553, t554, t555, t556, t559, t562, t565⟩, A280, H⟩ := H
           try dsimp only at H
           have A28 := z0 A280
           clear A280
           by_cases c29 : x5_1.length < 1099511627776
           ·rw [if_pos c29] at H
            have LMc29 := z0 c29
            clear c29
            obtain ⟨y566, hy566⟩ : ∃ y_ : List (S69), y_ = (x5_1 ++ [(⟨t549, (⟨t550, t551⟩ : S37), (⟨t552, t553, (⟨t554, t555⟩ : S37), t556⟩ : S46), t559, t562⟩ : S69)]) := ⟨_, rfl⟩
            replace H : (spec_l4List.l0 kj10 a1 y566 (wrap64 (x6_1 - 1)) s0_0 t565) = some (r1, r2) := by first | (rw [hy566]; with_reducible exact H) | (have H2_ := (Option.bind_some _ _).symm.trans H; rw [hy566]; with_reducible exact H2_) | (have H2_ := (Option.bind_some _ _).symm.trans H; with_reducible exact H2_) | with_reducible exact H | (rw [hy566]; exact H) | exact H
            have Ny566 := z0 hy566
            clear hy566
            have H' := z0 H
            clear H
            go_wp2_with (first | ((with_reducible refine gate_callee (f := 103) rfl ?_); refine goesL_ (some 51) rfl rfl Try.func103 (by kernel_rfl) rfl #[.pointer (some ⟨g, 0, none⟩)] rfl argx ?_; (with_reducible refine (spec_l4Count.calls kj10 g s0_0 t529 t549 t550 t551 t552 t553 t554 t555 t556 t559 t562 t565 w0 _ ?side1 ?side2 A28.out).mono ?_); (case side1 => exact mI116_1 HI0.out); (case side2 => exact mB116HI0 HB.out); rintro e w30 ⟨v557, v560, v563, rfl, ho0, ho1, ho2, hi, hb, hk⟩; refine ⟨_, rfl, ?_⟩; have n_ := az (Kd.N_mono (Kd.N_told (Kd.N_told (Kd.N_told (Kd.N_oldK (Kd.N_mono (ok := fun k_ => (((w.heap.size ≤ k_)) ∧ k_ ≠ g)) (mN HO_5.out) (fun k_ hk_ => (⟨hk_, hk_.2⟩ : _ ∧ k_ ≠ g))) hk) q102_1) (by first | exact Kd.N_base ho1 | exact Kd.R_base ho1)) (by first | exact Kd.N_base ho2 | exact Kd.R_base ho2)) (fun _ h_ => h_.1)) <| az (Kd.N_lower (Kd.N_mono (ok' := fun k_ => (w.heap.size ≤ k_) ∧ nB k_ v560 ∧ nB k_ v563 ∧ nB k_ u5 ∧ k_ ≠ g) ho0 (fun k_ hk_ => ⟨(Nat.le_trans (kS HK.out) hk_.1), hk_.2.1, hk_.2.2, (Kd.fresh' (Kd.N_lt (mN HO_5.out)) k_ hk_.1), (IsS116.fresh (mI116_1 HI0.out) k_ hk_.1)⟩)) (kS HK.out)) <| az (Kd.N_lower (Kd.N_mono (ok' := fun k_ => (w.heap.size ≤ k_) ∧ nB k_ v557 ∧ nB k_ v563 ∧ nB k_ u5 ∧ k_ ≠ g) ho1 (fun k_ hk_ => ⟨(Nat.le_trans (kS HK.out) hk_.1), hk_.2.1, hk_.2.2, (Kd.fresh' (Kd.N_lt (mN HO_5.out)) k_ hk_.1), (IsS116.fresh (mI116_1 HI0.out) k_ hk_.1)⟩)) (kS HK.out)) <| az (Kd.N_lower (Kd.N_mono (ok' := fun k_ => (w.heap.size ≤ k_) ∧ nB k_ v557 ∧ nB k_ v560 ∧ nB k_ u5 ∧ k_ ≠ g) ho2 (fun k_ hk_ => ⟨(Nat.le_trans (kS HK.out) hk_.1), hk_.2.1, hk_.2.2, (Kd.fresh' (Kd.N_lt (mN HO_5.out)) k_ hk_.1), (IsS116.fresh (mI116_1 HI0.out) k_ hk_.1)⟩)) (kS HK.out)) <| az (KeepBut.trans (mKp HK.out) hk (.inl rfl)) <| az (hb) <| z0 (hi); clear HO_5 HK HB HI0; obtain ⟨HO_5, HO558, HO561, HO564, HK, HB, HI0⟩ := n_; clear hb hk hi ho0; (try clear ho1); (try clear ho2); obtain ⟨Ao32, co32, eo32⟩ := Kd.N_slice HO558.out; subst eo32; obtain ⟨Ao33, co33, eo33⟩ := Kd.N_slice HO561.out; subst eo33; obtain ⟨Ao34, co34, eo34⟩ := Kd.N_slice HO564.out; subst eo34) | ((with_reducible refine gate_builtin (b := .append) (xs := #[.tmp 49, .tmp 52]) rfl ?_); at_builtin; refine Kd.N_append k69 w.heap.size rfl (.tmp 49) (.tmp 52) 26 69 (.agg #[(.int .i64 0), (.int .i64 0), (.int .i64 0), (.int .i64 0), (.int .i64 0), (.int .i64 0), (.int .i64 0), (.slice none 0 0), (.slice none 0 0), (.slice none 0 0)]) 128 rfl Try.underlying26 info69 rfl (by decide) (by omega) u5 x5_1 (⟨t549, (⟨t550, t551⟩ : S37), (⟨t552, t553, (⟨t554, t555⟩ : S37), t556⟩ : S46), t559, t562⟩ : S69) [.int .i64 t549, .int .i64 t550, .int .i64 t551, .int .i64 t552, .int .i64 t553, .int .i64 t554, .int .i64 t555, .slice Ao32 t556.length co32, .slice Ao33 t559.length co33, .slice Ao34 t562.length co34] (fun k_ => (w.heap.size ≤ k_) ∧ k_ ≠ g) (fun k_ => ((fun k_ => (w.heap.size ≤ k_) ∧ k_ ≠ g)) k_ ∧ nB k_ u5) rfl rfl ?aP (fun _ hk => hk) ?aF ?aO (Below.refl _ _) ?aS ?aL ?_; (case aP => exact (k69_mkF _ _ (⟨t549, (⟨t550, t551⟩ : S37), (⟨t552, t553, (⟨t554, t555⟩ : S37), t556⟩ : S46), t559, t562⟩ : S69) (Kd.N_reads' (Kd.N_mono (ok' := (fun k_ => ((fun k_ => (w.heap.size ≤ k_) ∧ k_ ≠ g)) k_ ∧ nB k_ u5)) (HO558.out) (fun k_ hk => ⟨⟨hk.1, hk.2.2.2.2⟩, hk.2.2.2.1⟩))).2.1 (Kd.N_F (Kd.N_mono (ok' := (fun k_ => ((fun k_ => (w.heap.size ≤ k_) ∧ k_ ≠ g)) k_ ∧ nB k_ u5)) (HO558.out) (fun k_ hk => ⟨⟨hk.1, hk.2.2.2.2⟩, hk.2.2.2.1⟩))) (Kd.N_reads' (Kd.N_mono (ok' := (fun k_ => ((fun k_ => (w.heap.size ≤ k_) ∧ k_ ≠ g)) k_ ∧ nB k_ u5)) (HO561.out) (fun k_ hk => ⟨⟨hk.1, hk.2.2.2.2⟩, hk.2.2.2.1⟩))).2.1 (Kd.N_F (Kd.N_mono (ok' := (fun k_ => ((fun k_ => (w.heap.size ≤ k_) ∧ k_ ≠ g)) k_ ∧ nB k_ u5)) (HO561.out) (fun k_ hk => ⟨⟨hk.1, hk.2.2.2.2⟩, hk.2.2.2.1⟩))) (Kd.N_reads' (Kd.N_mono (ok' := (fun k_ => ((fun k_ => (w.heap.size ≤ k_) ∧ k_ ≠ g)) k_ ∧ nB k_ u5)) (HO564.out) (fun k_ hk => ⟨⟨hk.1, hk.2.2.2.2⟩, hk.2.2.2.1⟩))).2.1 (Kd.N_F (Kd.N_mono (ok' := (fun k_ => ((fun k_ => (w.heap.size ≤ k_) ∧ k_ ≠ g)) k_ ∧ nB k_ u5)) (HO564.out) (fun k_ hk => ⟨⟨hk.1, hk.2.2.2.2⟩, hk.2.2.2.1⟩))))); (case aF => exact (fun k_ hk => ⟨(Nat.le_trans (kS HK.out) hk), IsS116.fresh (mI116_1 HI0.out) k_ hk⟩)); (case aO => exact (by (with_reducible repeat (first | apply Kd.N_alloc | apply Kd.N_drewN | apply Kd.N_drew)); exact Kd.N_mono HO_5.out (fun _ hk => ⟨hk.1.1.1.1, hk.1.1.1.2⟩))); (case aS => exact (kS HK.out)); (case aL => have := LMc29.out; omega); intro v567 w31 ho hb hg hat; rw [← Ny566.out] at ho; have n_ := az (IsS116.grown (mI116_1 HI0.out) hg (IsS116.own_neN HI0.out HO_5.out (by decide))) <| az (below_weaken (mB116HI0 HB.out) HL.out hb) <| az (KeepBut.trans (mKp HK.out) (KeepBut.of_grown hg g) (Kd.N_base2 HO_5.out)) <| z0 (ho); clear HI0 HB HK HO_5 HO558 HO561 HO564; obtain ⟨HI0, HB, HK, HO568⟩ := n_; clear ho hb hg hat))
            go_roundg kj10
            case measure => have := HK1.out; have := HJ6.out; have := HJ10.out; omega
            case rel => exact ⟨(y566), (wrap64 (x6_1 - 1)), (t565), rfy, H', ⟨by have := HK1.out; have := HJ6.out; have := HJ10.out; omega⟩, ⟨mN HO568.out⟩, ⟨mI116_1 HI0.out⟩, ⟨mKp HK.out⟩, ⟨mB116HI0 HB.out⟩⟩
           ·rw [if_neg c29] at H
            exact absurd H (by simp)
          ·rw [if_neg c27] at H
           have c27b0 : decide (1 < a1) = false := decide_eq_false c27
           clear c27
           have H' := z0 H
           clear H
           go_wp2
           go_roundg kj10
           case measure => have := HK1.out; have := HJ6.out; have := HJ10.out; omega
           case rel => exact ⟨(x5_1), (wrap64 (x6_1 - 1)), (t529), rfy, H', ⟨by have := HK1.out; have := HJ6.out; have := HJ10.out; omega⟩, ⟨mN HO_5.out⟩, ⟨mI116_1 HI0.out⟩, ⟨mKp HK.out⟩, ⟨mB116HI0 HB.out⟩⟩
         ·rw [if_neg c26] at H
          have c26b0 : (t528 == 2) = false := beq_eq_false_iff_ne.mpr c26
          have c26b1 : (t528 != 2) = true := bne_iff_ne.mpr c26
          by_cases c35 : t528 = 3
          ·rw [if_pos c35] at H
           have c35b0 : (t528 == 3) = true := beq_iff_eq.mpr c35
           have c35b1 : (t528 != 3) = false := bne_eq_false_iff_eq.mpr c35
           clear c35
           replace H := Option.bind_eq_some_iff.mp H
           obtain ⟨⟨t569, t570⟩, A360, H⟩ := H
           try dsimp only at H
           have A36 := z0 A360
           clear A360
           have HF37 := z0 H
           clear H
           go_upto_if 58 with (first | ((with_reducible refine gate_callee (f := 73) rfl ?_); refine goesL_ (some 57) rfl rfl Try.func73 (by kernel_rfl) rfl #[.pointer (some ⟨g, 0, none⟩), .int .i64 3] rfl argx ?_; (with_reducible refine (spec_l12Rd_pick.calls kj10 g s0_0 t529 3 t569 t570 w0 _ ?side1 ?side2 A36.out).mono ?_); (case side1 => exact mI116_1 HI0.out); (case side2 => exact mB116HI0 HB.out); rintro e w38 ⟨rfl, hi, hb, hk⟩; refine ⟨_, rfl, ?_⟩; have n_ := az (Kd.N_mono (Kd.N_keep (Kd.N_mono (ok := fun k_ => (((w.heap.size ≤ k_)) ∧ k_ ≠ g)) (mN HO_5.out) (fun k_ hk_ => (⟨hk_, hk_.2⟩ : _ ∧ k_ ≠ g))) hk (fun _ h => h.2)) (fun _ h => h.1)) <| az (KeepBut.trans (mKp HK.out) hk (.inl rfl)) <| az (hb) <| z0 (hi); clear HO_5 HK HB HI0; obtain ⟨HO_5, HK, HB, HI0⟩ := n_; clear hb hk hi))
           (try simp only [Act.put, List.setIfInBounds_toArray, List.set_cons_zero, List.set_cons_succ])
           have H := HF37.out
           clear HF37
           (try clear c9); (try clear c14); (try clear c18); (try clear c26); (try clear c26b0); (try clear c26b1); (try clear c27); (try clear c35); (try clear c35b0); (try clear c35b1)
           by_cases c39 : t569 = 0
           ·rw [if_pos c39] at H
            have c39b0 : (t569 == 0) = true := beq_iff_eq.mpr c39
            have c39b1 : (t569 != 0) = false := bne_eq_false_iff_eq.mpr c39
            clear c39
            (first | rw [c39b0] | (simp only [i64_w, i32_w]; rw [c39b0]) | skip)
            replace H := Option.bind_eq_some_iff.mp H
            obtain ⟨⟨t571, t572, t573, t574, t575, t578⟩, A400, H⟩ := H
            try dsimp only at H
            have A40 := z0 A400
            clear A400
            replace H := Option.bind_eq_some_iff.mp H
            obtain ⟨⟨t579, t582⟩, A410, H⟩ := H
            try dsimp only at H
            have A41 := z0 A410
            clear A410
            by_cases c42 : x5_1.length < 1099511627776
            ·rw [if_pos c42] at H
             have LMc42 := z0 c42
             clear c42
             obtain ⟨y583, hy583⟩ : ∃ y_ : List (S69), y_ = (x5_1 ++ [(⟨3, (⟨0, 0⟩ : S37), (⟨t571, t572, (⟨t573, t574⟩ : S37), t575⟩ : S46), t579, ([] : List (S69))⟩ : S69)]) := ⟨_, rfl⟩
             replace H : (spec_l4List.l0 kj10 a1 y583 (wrap64 (x6_1 - 1)) s0_0 t582) = some (r1, r2) := by first | (rw [hy583]; with_reducible exact H) | (have H2_ := (Option.bind_some _ _).symm.trans H; rw [hy583]; with_reducible exact H2_) | (have H2_ := (Option.bind_some _ _).symm.trans H; with_reducible exact H2_) | with_reducible exact H | (rw [hy583]; exact H) | exact H
             have Ny583 := z0 hy583
             clear hy583
             have H' := z0 H
             clear H
             go_wp2_with (first | ((with_reducible refine gate_callee (f := 76) rfl ?_); refine goesL_ (some 61) rfl rfl Try.func76 (by kernel_rfl) rfl #[.pointer (some ⟨g, 0, none⟩), .int .i64 2] rfl argx ?_; (with_reducible refine (spec_l3Expr.calls kj10 g s0_0 t570 2 t571 t572 t573 t574 t575 t578 w0 _ ?side1 ?side2 A40.out).mono ?_); (case side1 => exact mI116_1 HI0.out); (case side2 => exact mB116HI0 HB.out); rintro e w43 ⟨v576, rfl, ho0, hi, hb, hk⟩; refine ⟨_, rfl, ?_⟩; have n_ := az (Kd.N_mono (Kd.N_told (Kd.N_oldK (Kd.N_mono (ok := fun k_ => (((w.heap.size ≤ k_)) ∧ k_ ≠ g)) (mN HO_5.out) (fun k_ hk_ => (⟨hk_, hk_.2⟩ : _ ∧ k_ ≠ g))) hk) q102_1) (fun _ h_ => h_.1)) <| az (Kd.N_lower (Kd.N_mono (ok' := fun k_ => (w.heap.size ≤ k_) ∧ nB k_ u5 ∧ k_ ≠ g) (Kd.R_N (Kd.R_bound ho0)) (fun k_ hk_ => ⟨(Nat.le_trans (kS HK.out) hk_.2.1), (Kd.fresh' (Kd.N_lt (mN HO_5.out)) k_ hk_.2.1), (IsS116.fresh (mI116_1 HI0.out) k_ hk_.2.1)⟩)) (kS HK.out)) <| az (KeepBut.trans (mKp HK.out) hk (.inl rfl)) <| az (hb) <| z0 (hi); clear HO_5 HK HB HI0; obtain ⟨HO_5, HO577, HK, HB, HI0⟩ := n_; clear hb hk hi ho0) | ((with_reducible refine gate_callee (f := 102) rfl ?_); refine goesL_ (some 65) rfl rfl Try.func102 (by kernel_rfl) rfl #[.pointer (some ⟨g, 0, none⟩), .int .i64 (wrap64 (a1 - 1))] rfl argx ?_; (with_reducible refine (ih kj10 (by have := HK1.out; have := HJ6.out; have := HJ10.out; omega) g s0_0 t578 (wrap64 (a1 - 1)) t579 t582 w0 _ ?side1 ?side2 A41.out).mono ?_); (case side1 => exact mI116_1 HI0.out); (case side2 => exact mB116HI0 HB.out); rintro e w44 ⟨v580, rfl, ho0, hi, hb, hk⟩; refine ⟨_, rfl, ?_⟩; have n_ := az (Kd.N_mono (Kd.N_told (Kd.N_oldK (Kd.N_mono (ok := fun k_ => ((((w.heap.size ≤ k_)) ∧ k_ ≠ g) ∧ nB k_ v576)) (mN HO_5.out) (fun k_ hk_ => (⟨hk_, hk_.1.2⟩ : _ ∧ k_ ≠ g))) hk) q102_1) (fun _ h_ => h_.1)) <| az (Kd.N_mono (Kd.N_told (Kd.N_oldK (Kd.N_mono (ok := fun k_ => (((w.heap.size ≤ k_)) ∧ (nB k_ u5 ∧ k_ ≠ g))) (mN HO577.out) (fun k_ hk_ => (⟨hk_, hk_.2.2⟩ : _ ∧ k_ ≠ g))) hk) q102_1) (fun _ h_ => h_.1)) <| az (Kd.N_lower (Kd.N_mono (ok' := fun k_ => (w.heap.size ≤ k_) ∧ nB k_ u5 ∧ nB k_ v576 ∧ k_ ≠ g) ho0 (fun k_ hk_ => ⟨(Nat.le_trans (kS HK.out) hk_), (Kd.fresh' (Kd.N_lt (mN HO_5.out)) k_ hk_), (Kd.fresh' (Kd.N_lt (mN HO577.out)) k_ hk_), (IsS116.fresh (mI116_1 HI0.out) k_ hk_)⟩)) (kS HK.out)) <| az (KeepBut.trans (mKp HK.out) hk (.inl rfl)) <| az (hb) <| z0 (hi); clear HO_5 HO577 HK HB HI0; obtain ⟨HO_5, HO577, HO581, HK, HB, HI0⟩ := n_; clear hb hk hi ho0; obtain ⟨Ao45, co45, eo45⟩ := Kd.N_slice HO581.out; subst eo45; obtain ⟨Ao46, co46, eo46⟩ := Kd.N_slice HO577.out; subst eo46) | ((with_reducible refine gate_builtin (b := .append) (xs := #[.tmp 59, .tmp 67]) rfl ?_); at_builtin; refine Kd.N_append k69 w.heap.size rfl (.tmp 59) (.tmp 67) 26 69 (.agg #[(.int .i64 0), (.int .i64 0), (.int .i64 0), (.int .i64 0), (.int .i64 0), (.int .i64 0), (.int .i64 0), (.slice none 0 0), (.slice none 0 0), (.slice none 0 0)]) 128 rfl Try.underlying26 info69 rfl (by decide) (by omega) u5 x5_1 (⟨3, (⟨0, 0⟩ : S37), (⟨t571, t572, (⟨t573, t574⟩ : S37), t575⟩ : S46), t579, ([] : List (S69))⟩ : S69) [.int .i64 3, .int .i64 0, .int .i64 0, .int .i64 t571, .int .i64 t572, .int .i64 t573, .int .i64 t574, .slice Ao46 t575.length co46, .slice Ao45 t579.length co45, .slice none 0 0] (fun k_ => (w.heap.size ≤ k_) ∧ k_ ≠ g) (fun k_ => ((fun k_ => (w.heap.size ≤ k_) ∧ k_ ≠ g)) k_ ∧ nB k_ u5) rfl rfl ?aP (fun _ hk => hk) ?aF ?aO (Below.refl _ _) ?aS ?aL ?_; (case aP => exact (k69_mkF _ _ (⟨3, (⟨0, 0⟩ : S37), (⟨t571, t572, (⟨t573, t574⟩ : S37), t575⟩ : S46), t579, ([] : List (S69))⟩ : S69) (Kd.N_reads' (Kd.N_mono (ok' := (fun k_ => ((fun k_ => (w.heap.size ≤ k_) ∧ k_ ≠ g)) k_ ∧ nB k_ u5)) (HO577.out) (fun k_ hk => ⟨⟨hk.1.1, hk.1.2.2⟩, hk.1.2.1⟩))).2.1 (Kd.N_F (Kd.N_mono (ok' := (fun k_ => ((fun k_ => (w.heap.size ≤ k_) ∧ k_ ≠ g)) k_ ∧ nB k_ u5)) (HO577.out) (fun k_ hk => ⟨⟨hk.1.1, hk.1.2.2⟩, hk.1.2.1⟩))) (Kd.N_reads' (Kd.N_mono (ok' := (fun k_ => ((fun k_ => (w.heap.size ≤ k_) ∧ k_ ≠ g)) k_ ∧ nB k_ u5)) (HO581.out) (fun k_ hk => ⟨⟨hk.1, hk.2.2.2⟩, hk.2.1⟩))).2.1 (Kd.N_F (Kd.N_mono (ok' := (fun k_ => ((fun k_ => (w.heap.size ≤ k_) ∧ k_ ≠ g)) k_ ∧ nB k_ u5)) (HO581.out) (fun k_ hk => ⟨⟨hk.1, hk.2.2.2⟩, hk.2.1⟩))) (Nat.le_refl _) (Kd.F_nil _ _ _))); (case aF => exact (fun k_ hk => ⟨(Nat.le_trans (kS HK.out) hk), IsS116.fresh (mI116_1 HI0.out) k_ hk⟩)); (case aO => exact (by (with_reducible repeat (first | apply Kd.N_alloc | apply Kd.N_drewN | apply Kd.N_drew)); exact Kd.N_mono HO_5.out (fun _ hk => ⟨hk.1.1.1, hk.1.1.2⟩))); (case aS => exact (kS HK.out)); (case aL => have := LMc42.out; omega); intro v584 w47 ho hb hg hat; rw [← Ny583.out] at ho; have n_ := az (IsS116.grown (mI116_1 HI0.out) hg (IsS116.own_neN HI0.out HO_5.out (by decide))) <| az (below_weaken (mB116HI0 HB.out) HL.out hb) <| az (KeepBut.trans (mKp HK.out) (KeepBut.of_grown hg g) (Kd.N_base2 HO_5.out)) <| z0 (ho); clear HI0 HB HK HO_5 HO577 HO581; obtain ⟨HI0, HB, HK, HO585⟩ := n_; clear ho hb hg hat))
             go_roundg kj10
             case measure => have := HK1.out; have := HJ6.out; have := HJ10.out; omega
             case rel => exact ⟨(y583), (wrap64 (x6_1 - 1)), (t582), rfy, H', ⟨by have := HK1.out; have := HJ6.out; have := HJ10.out; omega⟩, ⟨mN HO585.out⟩, ⟨mI116_1 HI0.out⟩, ⟨mKp HK.out⟩, ⟨mB116HI0 HB.out⟩⟩
            ·rw [if_neg c42] at H
             exact absurd H (by simp)
           ·rw [if_neg c39] at H
            have c39b0 : (t569 == 0) = false := beq_eq_false_iff_ne.mpr c39
            have c39b1 : (t569 != 0) = true := bne_iff_ne.mpr c39
            (first | rw [c39b0] | (simp only [i64_w, i32_w]; rw [c39b0]) | skip)
            have H' := z0 H
            clear H
            go_wp2
            go_roundg kj10
            case measure => have := HK1.out; have := HJ6.out; have := HJ10.out; omega
            case rel => exact ⟨(x5_1), (wrap64 (x6_1 - 1)), (t570), rfy, H', ⟨by have := HK1.out; have := HJ6.out; have := HJ10.out; omega⟩, ⟨mN HO_5.out⟩, ⟨mI116_1 HI0.out⟩, ⟨mKp HK.out⟩, ⟨mB116HI0 HB.out⟩⟩
          ·rw [if_neg c35] at H
           have c35b0 : (t528 == 3) = false := beq_eq_false_iff_ne.mpr c35
           have c35b1 : (t528 != 3) = true := bne_iff_ne.mpr c35
           replace H := Option.bind_eq_some_iff.mp H
           obtain ⟨⟨t586, t587, t588⟩, A480, H⟩ := H
           try dsimp only at H
           have A48 := z0 A480
           clear A480
           replace H := Option.bind_eq_some_iff.mp H
           obtain ⟨⟨t589, t590, t591, t592, t593, t596⟩, A490, H⟩ := H
           try dsimp only at H
           have A49 := z0 A490
           clear A490
           by_cases c50 : x5_1.length < 1099511627776
           ·rw [if_pos c50] at H
            have LMc50 := z0 c50
            clear c50
            obtain ⟨y597, hy597⟩ : ∃ y_ : List (S69), y_ = (x5_1 ++ [(⟨1, (⟨t586, t587⟩ : S37), (⟨t589, t590, (⟨t591, t592⟩ : S37), t593⟩ : S46), ([] : List (S69)), ([] : List (S69))⟩ : S69)]) := ⟨_, rfl⟩
            replace H : (spec_l4List.l0 kj10 a1 y597 (wrap64 (x6_1 - 1)) s0_0 t596) = some (r1, r2) := by first | (rw [hy597]; with_reducible exact H) | (have H2_ := (Option.bind_some _ _).symm.trans H; rw [hy597]; with_reducible exact H2_) | (have H2_ := (Option.bind_some _ _).symm.trans H; with_reducible exact H2_) | with_reducible exact H | (rw [hy597]; exact H) | exact H
            have Ny597 := z0 hy597
            clear hy597
            have H' := z0 H
            clear H
            go_wp2_with (first | ((with_reducible refine gate_callee (f := 77) rfl ?_); refine goesL_ (some 22) rfl rfl Try.func77 (by kernel_rfl) rfl #[.pointer (some ⟨g, 0, none⟩)] rfl argx ?_; (with_reducible refine (spec_l2To.calls kj10 g s0_0 t529 t586 t587 t588 w0 _ ?side1 ?side2 A48.out).mono ?_); (case side1 => exact mI116_1 HI0.out); (case side2 => exact mB116HI0 HB.out); rintro e w51 ⟨rfl, hi, hb, hk⟩; refine ⟨_, rfl, ?_⟩; have n_ := az (Kd.N_mono (Kd.N_keep (Kd.N_mono (ok := fun k_ => (((w.heap.size ≤ k_)) ∧ k_ ≠ g)) (mN HO_5.out) (fun k_ hk_ => (⟨hk_, hk_.2⟩ : _ ∧ k_ ≠ g))) hk (fun _ h => h.2)) (fun _ h => h.1)) <| az (KeepBut.trans (mKp HK.out) hk (.inl rfl)) <| az (hb) <| z0 (hi); clear HO_5 HK HB HI0; obtain ⟨HO_5, HK, HB, HI0⟩ := n_; clear hb hk hi) | ((with_reducible refine gate_callee (f := 76) rfl ?_); refine goesL_ (some 24) rfl rfl Try.func76 (by kernel_rfl) rfl #[.pointer (some ⟨g, 0, none⟩), .int .i64 3] rfl argx ?_; (with_reducible refine (spec_l3Expr.calls kj10 g s0_0 t588 3 t589 t590 t591 t592 t593 t596 w0 _ ?side1 ?side2 A49.out).mono ?_); (case side1 => exact mI116_1 HI0.out); (case side2 => exact mB116HI0 HB.out); rintro e w52 ⟨v594, rfl, ho0, hi, hb, hk⟩; refine ⟨_, rfl, ?_⟩; have n_ := az (Kd.N_mono (Kd.N_told (Kd.N_oldK (Kd.N_mono (ok := fun k_ => (((w.heap.size ≤ k_)) ∧ k_ ≠ g)) (mN HO_5.out) (fun k_ hk_ => (⟨hk_, hk_.2⟩ : _ ∧ k_ ≠ g))) hk) q102_1) (fun _ h_ => h_.1)) <| az (Kd.N_lower (Kd.N_mono (ok' := fun k_ => (w.heap.size ≤ k_) ∧ nB k_ u5 ∧ k_ ≠ g) (Kd.R_N (Kd.R_bound ho0)) (fun k_ hk_ => ⟨(Nat.le_trans (kS HK.out) hk_.2.1), (Kd.fresh' (Kd.N_lt (mN HO_5.out)) k_ hk_.2.1), (IsS116.fresh (mI116_1 HI0.out) k_ hk_.2.1)⟩)) (kS HK.out)) <| az (KeepBut.trans (mKp HK.out) hk (.inl rfl)) <| az (hb) <| z0 (hi); clear HO_5 HK HB HI0; obtain ⟨HO_5, HO595, HK, HB, HI0⟩ := n_; clear hb hk hi ho0; obtain ⟨Ao53, co53, eo53⟩ := Kd.N_slice HO595.out; subst eo53) | ((with_reducible refine gate_builtin (b := .append) (xs := #[.tmp 20, .tmp 26]) rfl ?_); at_builtin; refine Kd.N_append k69 w.heap.size rfl (.tmp 20) (.tmp 26) 26 69 (.agg #[(.int .i64 0), (.int .i64 0), (.int .i64 0), (.int .i64 0), (.int .i64 0), (.int .i64 0), (.int .i64 0), (.slice none 0 0), (.slice none 0 0), (.slice none 0 0)]) 128 rfl Try.underlying26 info69 rfl (by decide) (by omega) u5 x5_1 (⟨1, (⟨t586, t587⟩ : S37), (⟨t589, t590, (⟨t591, t592⟩ : S37), t593⟩ : S46), ([] : List (S69)), ([] : List (S69))⟩ : S69) [.int .i64 1, .int .i64 t586, .int .i64 t587, .int .i64 t589, .int .i64 t590, .int .i64 t591, .int .i64 t592, .slice Ao53 t593.length co53, .slice none 0 0, .slice none 0 0] (fun k_ => (w.heap.size ≤ k_) ∧ k_ ≠ g) (fun k_ => ((fun k_ => (w.heap.size ≤ k_) ∧ k_ ≠ g)) k_ ∧ nB k_ u5) rfl rfl ?aP (fun _ hk => hk) ?aF ?aO (Below.refl _ _) ?aS ?aL ?_; (case aP => exact (k69_mkF _ _ (⟨1, (⟨t586, t587⟩ : S37), (⟨t589, t590, (⟨t591, t592⟩ : S37), t593⟩ : S46), ([] : List (S69)), ([] : List (S69))⟩ : S69) (Kd.N_reads' (Kd.N_mono (ok' := (fun k_ => ((fun k_ => (w.heap.size ≤ k_) ∧ k_ ≠ g)) k_ ∧ nB k_ u5)) (HO595.out) (fun k_ hk => ⟨⟨hk.1, hk.2.2⟩, hk.2.1⟩))).2.1 (Kd.N_F (Kd.N_mono (ok' := (fun k_ => ((fun k_ => (w.heap.size ≤ k_) ∧ k_ ≠ g)) k_ ∧ nB k_ u5)) (HO595.out) (fun k_ hk => ⟨⟨hk.1, hk.2.2⟩, hk.2.1⟩))) (Nat.le_refl _) (Kd.F_nil _ _ _) (Nat.le_refl _) (Kd.F_nil _ _ _))); (case aF => exact (fun k_ hk => ⟨(Nat.le_trans (kS HK.out) hk), IsS116.fresh (mI116_1 HI0.out) k_ hk⟩)); (case aO => exact (by (with_reducible repeat (first | apply Kd.N_alloc | apply Kd.N_drewN | apply Kd.N_drew)); exact Kd.N_mono HO_5.out (fun _ hk => ⟨hk.1.1, hk.1.2⟩))); (case aS => exact (kS HK.out)); (case aL => have := LMc50.out; omega); intro v598 w54 ho hb hg hat; rw [← Ny597.out] at ho; have n_ := az (IsS116.grown (mI116_1 HI0.out) hg (IsS116.own_neN HI0.out HO_5.out (by decide))) <| az (below_weaken (mB116HI0 HB.out) HL.out hb) <| az (KeepBut.trans (mKp HK.out) (KeepBut.of_grown hg g) (Kd.N_base2 HO_5.out)) <| z0 (ho); clear HI0 HB HK HO_5 HO595; obtain ⟨HI0, HB, HK, HO599⟩ := n_; clear ho hb hg hat))
            go_roundg kj10
            case measure => have := HK1.out; have := HJ6.out; have := HJ10.out; omega
            case rel => exact ⟨(y597), (wrap64 (x6_1 - 1)), (t596), rfy, H', ⟨by have := HK1.out; have := HJ6.out; have := HJ10.out; omega⟩, ⟨mN HO599.out⟩, ⟨mI116_1 HI0.out⟩, ⟨mKp HK.out⟩, ⟨mB116HI0 HB.out⟩⟩
           ·rw [if_neg c50] at H
            exact absurd H (by simp)
     ·replace c9 := Bool.eq_false_iff.mpr c9
      subst c9
      have H1 : (some (x5_1, x1001_1)) = some (r1, r2) := by rw [if_neg (show ¬ (false = true) by decide)] at H; exact H
      clear H
      have H := H1
      clear H1
      simp only [Option.some.injEq, Prod.mk.injEq] at H
      obtain ⟨rfl, rfl⟩ := H
      go_wp2
      go_ret
      exact ⟨_, rfx, by (with_reducible repeat (first | apply Kd.N_alloc | apply Kd.N_drewN | apply Kd.N_drew)); exact Kd.N_mono HO_5.out (fun _ hk => hk.1), mI116_1 HI0.out, mB116HI0 HB.out, mKp HK.out⟩

end Go.Proofs.Ytddnijmgipffeaa.B
