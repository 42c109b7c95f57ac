/- Printed functions of this seat, in one text. -/
import Derived.Test.YtbckpgipehjgmaaGreatB0
import Derived.Test.YtbckpgipehjgmaaGreatSq
import Derived.Test.YtbckpgipehjgmaaGreatPkA
namespace Go.Proofs.YtbckpgipehjgmaaGreat.B
open Go.RowKit Go.Proofs.YtbckpgipehjgmaaGreatW.PrintWords Go.Proofs.YtbckpgipehjgmaaGreatW.PrintLast Go.Proofs.YtbckpgipehjgmaaGreatW.PrintMore
attribute [local go_sem] max2_int min2_int max_two min_two max_three min_three max_four min_four   -- for this text's walks alone
set_option linter.unusedVariables false
set_option linter.unusedSimpArgs false

/-! ### spec_l4Count: function 32 -/
def spec_l4Count.f (k : Nat) (s0_0 : List Int) (s0_1 : Int) : Option (Int × Int × Int × Int × Int × Int × Int × (List (S31)) × (List (S33)) × (List (S33)) × Int) := (spec_l12Rd_pick.f k s0_0 s0_1 3).bind fun bt176 => ((spec_l12Rd_num.f k s0_0 bt176.2 (([1, 3, 5, 9, 200] : List Int))).bind fun bt183 => ((some (([(⟨2, 0, (⟨3, bt176.1⟩ : S28), ([] : List (S31))⟩ : S31), (⟨1, bt183.1, (⟨0, 0⟩ : S28), ([] : List (S31))⟩ : S31)] : List (S31)) : List (S31))).bind fun y185 => ((spec_l12Rd_num.f k s0_0 bt183.2 (([1, 1, 2, 0] : List Int))).bind fun bt192 => ((some (([(⟨1, (⟨3, bt176.1⟩ : S28), (⟨3, 0, (⟨0, 0⟩ : S28), (([(⟨2, 0, (⟨3, bt176.1⟩ : S28), ([] : List (S31))⟩ : S31), (⟨1, bt192.1, (⟨0, 0⟩ : S28), ([] : List (S31))⟩ : S31)] : List (S31)))⟩ : S31), ([] : List (S33)), ([] : List (S33))⟩ : S33)] : List (S33)) : List (S33))).bind fun y198 => ((spec_l12Rd_pick.f k s0_0 bt192.2 2).bind fun bt202 => (if bt202.1 = 0 then ((spec_l2To.f k s0_0 bt202.2).bind fun bt204 => ((spec_l3Expr.f k s0_0 bt204.2.2 2).bind fun bt207 => (if y198.length < 1099511627776 then (some (3, 0, 0, 6, 0, 0, 0, y185, (y198 ++ [(⟨1, (⟨bt204.1, bt204.2.1⟩ : S28), (⟨bt207.1, bt207.2.1, (⟨bt207.2.2.1, bt207.2.2.2.1⟩ : S28), bt207.2.2.2.2.1⟩ : S31), ([] : List (S33)), ([] : List (S33))⟩ : S33)]), ([] : List (S33)), bt207.2.2.2.2.2)) else (none)))) else (some (3, 0, 0, 6, 0, 0, 0, y185, y198, ([] : List (S33)), bt202.2))))))))
def spec_l4Count.T3 : Bool × List (List Nat × List Nat) := (true, [([], []), ([], []), ([], []), ([1, 2], [1, 2]), ([3], [3]), ([0, 4], [0, 4]), ([5], [5]), ([], []), ([7, 6, 3, 0, 1, 2, 3, 4, 5, 6, 7], [6, 7])])
def spec_l4Count.B3 : List Nat := [0, 0, 0, 6, 14, 31, 63, 0, 255]
theorem spec_l4Count.tab3 : rtab .any (opsOf Tryz.f32 3) = spec_l4Count.T3 := by kernel_rfl
theorem spec_l4Count.bits3 : waitsOk spec_l4Count.T3.2 spec_l4Count.B3 = true := by kernel_rfl
def spec_l4Count.T4 : Bool × List (List Nat × List Nat) := (true, [([], []), ([], []), ([], []), ([1, 2], [1, 2]), ([3], [3]), ([0, 4], [0, 4]), ([5], [5]), ([], []), ([7, 6, 3, 0, 1, 2, 3, 4, 5, 6, 7], [6, 7])])
def spec_l4Count.B4 : List Nat := [0, 0, 0, 6, 14, 31, 63, 0, 255]
theorem spec_l4Count.tab4 : rtab .any (opsOf Tryz.f32 4) = spec_l4Count.T4 := by kernel_rfl
theorem spec_l4Count.bits4 : waitsOk spec_l4Count.T4.2 spec_l4Count.B4 = true := by kernel_rfl
def spec_l4Count.T7 : Bool × List (List Nat × List Nat) := (true, [([], []), ([0], [0]), ([], []), ([2], [2]), ([], []), ([4, 3], [4]), ([3, 5], [3, 5]), ([6], [6]), ([1, 7, 5], [1, 7]), ([0, 1, 2, 3, 4, 5, 6, 7, 8], []), ([9, 8, 8, 0, 1, 2, 3, 4, 5, 6, 7, 8], [8, 9])])
def spec_l4Count.B7 : List Nat := [0, 1, 0, 4, 0, 28, 60, 124, 255, 511, 1023]
theorem spec_l4Count.tab7 : rtab .any (opsOf Tryz.f32 7) = spec_l4Count.T7 := by kernel_rfl
theorem spec_l4Count.bits7 : waitsOk spec_l4Count.T7.2 spec_l4Count.B7 = true := by kernel_rfl
theorem q32_1 {p : Prop} (h : p := by exact ⟨(blk_cell BK179.out 0).trans rfl, (blk_cell BK179.out 1).trans rfl, (blk_cell BK179.out 2).trans rfl, (blk_cell BK179.out 3).trans rfl, (blk_cell BK179.out 4).trans rfl⟩) : p := h
theorem q32_2 {p : Prop} (h : p := by (with_reducible repeat (first | refine blk_drewN ?_ _ | refine blk_drew ?_ | refine blk_alloc ?_ _)); refine blk_put (cs := #[.int .i64 3, .int .i64 0]) ?_ 1 _ rfl; (with_reducible repeat (first | refine blk_drewN ?_ _ | refine blk_drew ?_ | refine blk_alloc ?_ _)); refine blk_put (cs := #[.int .i64 0, .int .i64 0]) ?_ 0 _ rfl; (with_reducible repeat (first | refine blk_drewN ?_ _ | refine blk_drew ?_ | refine blk_alloc ?_ _)); exact BK178.out) : p := h
theorem q32_3 {p : Prop} (h : p := by exact ⟨(blk_cell BK201.out 0).trans rfl, (blk_cell BK201.out 1).trans rfl, (blk_cell BK201.out 2).trans rfl, (blk_cell BK201.out 3).trans rfl, (blk_cell BK201.out 4).trans rfl, (blk_cell BK201.out 5).trans rfl, (blk_cell BK201.out 6).trans rfl, (blk_cell BK201.out 7).trans rfl, (blk_cell BK201.out 8).trans rfl, (blk_cell BK201.out 9).trans rfl⟩) : p := h
theorem q32_4 {p : Prop} (h : p := by simp only [putAll, Act.put, List.setIfInBounds_toArray, List.set_cons_zero, List.set_cons_succ]) : p := h
theorem q32_5 {p : Prop} (h : p := by (with_reducible repeat (first | apply Kd.N_alloc | apply Kd.N_drewN | apply Kd.N_drew)); exact Kd.N_mono HO196.out (fun _ hk => ⟨hk.1, ⟨hk.2.1, ⟨hk.2.2.1, ⟨hk.2.2.2.1, ⟨hk.2.2.2.2.2.2.2.2.2, ⟨hk.2.2.2.2.1, ⟨hk.2.2.2.2.2.1, ⟨hk.2.2.2.2.2.2.1, ⟨hk.2.2.2.2.2.2.2.1, hk.2.2.2.2.2.2.2.2.1⟩⟩⟩⟩⟩⟩⟩⟩⟩)) : p := h
theorem q32_6 {p : Prop} (h : p := by (with_reducible repeat (first | apply Kd.N_alloc | apply Kd.N_drewN | apply Kd.N_drew)); exact Kd.N_mono HO187.out (fun _ hk => ⟨hk.1, ⟨hk.2.1, ⟨hk.2.2.2.2.2.2, ⟨hk.2.2.1, ⟨hk.2.2.2.1, ⟨hk.2.2.2.2.1, hk.2.2.2.2.2.1⟩⟩⟩⟩⟩⟩)) : p := h
theorem q32_7 {p : Prop} (h : p := by (with_reducible repeat (first | apply Kd.R_alloc | apply Kd.R_drewN | apply Kd.R_drew)); exact Kd.R_mono HO191.out (fun _ hk => ⟨hk.1.1, hk.2⟩)) : p := h
theorem q32_8 {p : Prop} (h : p := by (with_reducible repeat (first | apply Kd.R_alloc | apply Kd.R_drewN | apply Kd.R_drew)); exact Kd.R_mono HO182.out (fun _ hk => hk.1)) : p := h
set_option maxHeartbeats 8000000 in
set_option maxRecDepth 100000 in
theorem spec_l4Count.calls (k : Nat) (g : Nat) (s0_0 : List Int) (s0_1 : Int) (r1 : Int) (r2 : Int) (r3 : Int) (r4 : Int) (r5 : Int) (r6 : Int) (r7 : Int) (r8 : List (S31)) (r9 : List (S33)) (r10 : List (S33)) (r11 : Int) (w0 w : World) (hI : IsS53 w0 w g s0_0 s0_1) (hB : Below w0.heap.size w0 w) (h : spec_l4Count.f k s0_0 s0_1 = some (r1, r2, r3, r4, r5, r6, r7, r8, r9, r10, r11)) :
  Calls Tryz.prog 32 #[.pointer (some ⟨g, 0, none⟩)] w fun e w' => ∃ v7_ v8_ v9_ : Value, e = .returned (.agg #[.int .i64 r1, .int .i64 r2, .int .i64 r3, .int .i64 r4, .int .i64 r5, .int .i64 r6, .int .i64 r7, v7_, v8_, v9_]) ∧ Kd.N k31 31 w' w.heap.size (fun k_ => (w.heap.size ≤ k_) ∧ nB k_ v8_ ∧ nB k_ v9_) v7_ r8 ∧ Kd.N k33 33 w' w.heap.size (fun k_ => (w.heap.size ≤ k_) ∧ nB k_ v7_ ∧ nB k_ v9_) v8_ r9 ∧ Kd.N k33 33 w' w.heap.size (fun k_ => (w.heap.size ≤ k_) ∧ nB k_ v7_ ∧ nB k_ v8_) v9_ r10 ∧ IsS53 w0 w' g s0_0 r11 ∧ Below w0.heap.size w0 w' ∧ KeepBut w w' g none := by
 have hu33 := Tryz.underlying33
 have hu28 := Tryz.underlying28
 have hu31 := Tryz.underlying31
 have HI0 := z0 hI
 have HK := z0 (KeepBut.refl w g none)
 have HL := z0 hB.size
 clear hI
 have HW0 := z0 hB.size
 have HB := z0 hB
 clear hB
 have H : ((spec_l12Rd_pick.f k s0_0 s0_1 3).bind fun bt176 => ((spec_l12Rd_num.f k s0_0 bt176.2 (([1, 3, 5, 9, 200] : List Int))).bind fun bt183 => ((some (([(⟨2, 0, (⟨3, bt176.1⟩ : S28), ([] : List (S31))⟩ : S31), (⟨1, bt183.1, (⟨0, 0⟩ : S28), ([] : List (S31))⟩ : S31)] : List (S31)) : List (S31))).bind fun y185 => ((spec_l12Rd_num.f k s0_0 bt183.2 (([1, 1, 2, 0] : List Int))).bind fun bt192 => ((some (([(⟨1, (⟨3, bt176.1⟩ : S28), (⟨3, 0, (⟨0, 0⟩ : S28), (([(⟨2, 0, (⟨3, bt176.1⟩ : S28), ([] : List (S31))⟩ : S31), (⟨1, bt192.1, (⟨0, 0⟩ : S28), ([] : List (S31))⟩ : S31)] : List (S31)))⟩ : S31), ([] : List (S33)), ([] : List (S33))⟩ : S33)] : List (S33)) : List (S33))).bind fun y198 => ((spec_l12Rd_pick.f k s0_0 bt192.2 2).bind fun bt202 => (if bt202.1 = 0 then ((spec_l2To.f k s0_0 bt202.2).bind fun bt204 => ((spec_l3Expr.f k s0_0 bt204.2.2 2).bind fun bt207 => (if y198.length < 1099511627776 then (some (3, 0, 0, 6, 0, 0, 0, y185, (y198 ++ [(⟨1, (⟨bt204.1, bt204.2.1⟩ : S28), (⟨bt207.1, bt207.2.1, (⟨bt207.2.2.1, bt207.2.2.2.1⟩ : S28), bt207.2.2.2.2.1⟩ : S31), ([] : List (S33)), ([] : List (S33))⟩ : S33)]), ([] : List (S33)), bt207.2.2.2.2.2)) else (none)))) else (some (3, 0, 0, 6, 0, 0, 0, y185, y198, ([] : List (S33)), bt202.2))))))))) = some (r1, r2, r3, r4, r5, r6, r7, r8, r9, r10, r11) := h
 clear h
 replace H := Option.bind_eq_some_iff.mp H
 obtain ⟨⟨t176, t177⟩, A20, H⟩ := H
 try dsimp only at H
 have A2 := z0 A20
 clear A20
 obtain ⟨y180, hy180⟩ : ∃ y_ : List Int, y_ = (([1, 3, 5, 9, 200] : List Int)) := ⟨_, rfl⟩
 replace H : ((spec_l12Rd_num.f k s0_0 t177 y180).bind fun bt183 => ((some (([(⟨2, 0, (⟨3, t176⟩ : S28), ([] : List (S31))⟩ : S31), (⟨1, bt183.1, (⟨0, 0⟩ : S28), ([] : List (S31))⟩ : S31)] : List (S31)) : List (S31))).bind fun y185 => ((spec_l12Rd_num.f k s0_0 bt183.2 (([1, 1, 2, 0] : List Int))).bind fun bt192 => ((some (([(⟨1, (⟨3, t176⟩ : S28), (⟨3, 0, (⟨0, 0⟩ : S28), (([(⟨2, 0, (⟨3, t176⟩ : S28), ([] : List (S31))⟩ : S31), (⟨1, bt192.1, (⟨0, 0⟩ : S28), ([] : List (S31))⟩ : S31)] : List (S31)))⟩ : S31), ([] : List (S33)), ([] : List (S33))⟩ : S33)] : List (S33)) : List (S33))).bind fun y198 => ((spec_l12Rd_pick.f k s0_0 bt192.2 2).bind fun bt202 => (if bt202.1 = 0 then ((spec_l2To.f k s0_0 bt202.2).bind fun bt204 => ((spec_l3Expr.f k s0_0 bt204.2.2 2).bind fun bt207 => (if y198.length < 1099511627776 then (some (3, 0, 0, 6, 0, 0, 0, y185, (y198 ++ [(⟨1, (⟨bt204.1, bt204.2.1⟩ : S28), (⟨bt207.1, bt207.2.1, (⟨bt207.2.2.1, bt207.2.2.2.1⟩ : S28), bt207.2.2.2.2.1⟩ : S31), ([] : List (S33)), ([] : List (S33))⟩ : S33)]), ([] : List (S33)), bt207.2.2.2.2.2)) else (none)))) else (some (3, 0, 0, 6, 0, 0, 0, y185, y198, ([] : List (S33)), bt202.2)))))))) = some (r1, r2, r3, r4, r5, r6, r7, r8, r9, r10, r11) := by first | (rw [hy180]; with_reducible exact H) | (have H2_ := (Option.bind_some _ _).symm.trans H; rw [hy180]; with_reducible exact H2_) | (have H2_ := (Option.bind_some _ _).symm.trans H; with_reducible exact H2_) | with_reducible exact H | (rw [hy180]; exact H) | exact H
 have Ny180 := z0 hy180
 clear hy180
 replace H := Option.bind_eq_some_iff.mp H
 obtain ⟨⟨t183, t184⟩, A30, H⟩ := H
 try dsimp only at H
 have A3 := z0 A30
 clear A30
 obtain ⟨y185, hy185⟩ : ∃ y_ : List (S31), y_ = (([(⟨2, 0, (⟨3, t176⟩ : S28), ([] : List (S31))⟩ : S31), (⟨1, t183, (⟨0, 0⟩ : S28), ([] : List (S31))⟩ : S31)] : List (S31))) := ⟨_, rfl⟩
 replace H : ((spec_l12Rd_num.f k s0_0 t184 (([1, 1, 2, 0] : List Int))).bind fun bt192 => ((some (([(⟨1, (⟨3, t176⟩ : S28), (⟨3, 0, (⟨0, 0⟩ : S28), (([(⟨2, 0, (⟨3, t176⟩ : S28), ([] : List (S31))⟩ : S31), (⟨1, bt192.1, (⟨0, 0⟩ : S28), ([] : List (S31))⟩ : S31)] : List (S31)))⟩ : S31), ([] : List (S33)), ([] : List (S33))⟩ : S33)] : List (S33)) : List (S33))).bind fun y198 => ((spec_l12Rd_pick.f k s0_0 bt192.2 2).bind fun bt202 => (if bt202.1 = 0 then ((spec_l2To.f k s0_0 bt202.2).bind fun bt204 => ((spec_l3Expr.f k s0_0 bt204.2.2 2).bind fun bt207 => (if y198.length < 1099511627776 then (some (3, 0, 0, 6, 0, 0, 0, y185, (y198 ++ [(⟨1, (⟨bt204.1, bt204.2.1⟩ : S28), (⟨bt207.1, bt207.2.1, (⟨bt207.2.2.1, bt207.2.2.2.1⟩ : S28), bt207.2.2.2.2.1⟩ : S31), ([] : List (S33)), ([] : List (S33))⟩ : S33)]), ([] : List (S33)), bt207.2.2.2.2.2)) else (none)))) else (some (3, 0, 0, 6, 0, 0, 0, y185, y198, ([] : List (S33)), bt202.2)))))) = some (r1, r2, r3, r4, r5, r6, r7, r8, r9, r10, r11) := by first | (rw [hy185]; with_reducible exact H) | (have H2_ := (Option.bind_some _ _).symm.trans H; rw [hy185]; with_reducible exact H2_) | (have H2_ := (Option.bind_some _ _).symm.trans H; with_reducible exact H2_) | with_reducible exact H | (rw [hy185]; exact H) | exact H
 have Ny185 := z0 hy185
 clear hy185
 obtain ⟨y189, hy189⟩ : ∃ y_ : List Int, y_ = (([1, 1, 2, 0] : List Int)) := ⟨_, rfl⟩
 replace H : ((spec_l12Rd_num.f k s0_0 t184 y189).bind fun bt192 => ((some (([(⟨1, (⟨3, t176⟩ : S28), (⟨3, 0, (⟨0, 0⟩ : S28), (([(⟨2, 0, (⟨3, t176⟩ : S28), ([] : List (S31))⟩ : S31), (⟨1, bt192.1, (⟨0, 0⟩ : S28), ([] : List (S31))⟩ : S31)] : List (S31)))⟩ : S31), ([] : List (S33)), ([] : List (S33))⟩ : S33)] : List (S33)) : List (S33))).bind fun y198 => ((spec_l12Rd_pick.f k s0_0 bt192.2 2).bind fun bt202 => (if bt202.1 = 0 then ((spec_l2To.f k s0_0 bt202.2).bind fun bt204 => ((spec_l3Expr.f k s0_0 bt204.2.2 2).bind fun bt207 => (if y198.length < 1099511627776 then (some (3, 0, 0, 6, 0, 0, 0, y185, (y198 ++ [(⟨1, (⟨bt204.1, bt204.2.1⟩ : S28), (⟨bt207.1, bt207.2.1, (⟨bt207.2.2.1, bt207.2.2.2.1⟩ : S28), bt207.2.2.2.2.1⟩ : S31), ([] : List (S33)), ([] : List (S33))⟩ : S33)]), ([] : List (S33)), bt207.2.2.2.2.2)) else (none)))) else (some (3, 0, 0, 6, 0, 0, 0, y185, y198, ([] : List (S33)), bt202.2)))))) = some (r1, r2, r3, r4, r5, r6, r7, r8, r9, r10, r11) := by first | (rw [hy189]; with_reducible exact H) | (have H2_ := (Option.bind_some _ _).symm.trans H; rw [hy189]; with_reducible exact H2_) | (have H2_ := (Option.bind_some _ _).symm.trans H; with_reducible exact H2_) | with_reducible exact H | (rw [hy189]; exact H) | exact H
 have Ny189 := z0 hy189
 clear hy189
 replace H := Option.bind_eq_some_iff.mp H
 obtain ⟨⟨t192, t193⟩, A40, H⟩ := H
 try dsimp only at H
 have A4 := z0 A40
 clear A40
 obtain ⟨y194, hy194⟩ : ∃ y_ : List (S31), y_ = (([(⟨2, 0, (⟨3, t176⟩ : S28), ([] : List (S31))⟩ : S31), (⟨1, t192, (⟨0, 0⟩ : S28), ([] : List (S31))⟩ : S31)] : List (S31))) := ⟨_, rfl⟩
 replace H : ((some (([(⟨1, (⟨3, t176⟩ : S28), (⟨3, 0, (⟨0, 0⟩ : S28), y194⟩ : S31), ([] : List (S33)), ([] : List (S33))⟩ : S33)] : List (S33)) : List (S33))).bind fun y198 => ((spec_l12Rd_pick.f k s0_0 t193 2).bind fun bt202 => (if bt202.1 = 0 then ((spec_l2To.f k s0_0 bt202.2).bind fun bt204 => ((spec_l3Expr.f k s0_0 bt204.2.2 2).bind fun bt207 => (if y198.length < 1099511627776 then (some (3, 0, 0, 6, 0, 0, 0, y185, (y198 ++ [(⟨1, (⟨bt204.1, bt204.2.1⟩ : S28), (⟨bt207.1, bt207.2.1, (⟨bt207.2.2.1, bt207.2.2.2.1⟩ : S28), bt207.2.2.2.2.1⟩ : S31), ([] : List (S33)), ([] : List (S33))⟩ : S33)]), ([] : List (S33)), bt207.2.2.2.2.2)) else (none)))) else (some (3, 0, 0, 6, 0, 0, 0, y185, y198, ([] : List (S33)), bt202.2))))) = some (r1, r2, r3, r4, r5, r6, r7, r8, r9, r10, r11) := by first | (rw [hy194]; with_reducible exact H) | (have H2_ := (Option.bind_some _ _).symm.trans H; rw [hy194]; with_reducible exact H2_) | (have H2_ := (Option.bind_some _ _).symm.trans H; with_reducible exact H2_) | with_reducible exact H | (rw [hy194]; exact H) | exact H
 have Ny194 := z0 hy194
 clear hy194
 obtain ⟨y198, hy198⟩ : ∃ y_ : List (S33), y_ = (([(⟨1, (⟨3, t176⟩ : S28), (⟨3, 0, (⟨0, 0⟩ : S28), y194⟩ : S31), ([] : List (S33)), ([] : List (S33))⟩ : S33)] : List (S33))) := ⟨_, rfl⟩
 replace H : ((spec_l12Rd_pick.f k s0_0 t193 2).bind fun bt202 => (if bt202.1 = 0 then ((spec_l2To.f k s0_0 bt202.2).bind fun bt204 => ((spec_l3Expr.f k s0_0 bt204.2.2 2).bind fun bt207 => (if y198.length < 1099511627776 then (some (3, 0, 0, 6, 0, 0, 0, y185, (y198 ++ [(⟨1, (⟨bt204.1, bt204.2.1⟩ : S28), (⟨bt207.1, bt207.2.1, (⟨bt207.2.2.1, bt207.2.2.2.1⟩ : S28), bt207.2.2.2.2.1⟩ : S31), ([] : List (S33)), ([] : List (S33))⟩ : S33)]), ([] : List (S33)), bt207.2.2.2.2.2)) else (none)))) else (some (3, 0, 0, 6, 0, 0, 0, y185, y198, ([] : List (S33)), bt202.2)))) = some (r1, r2, r3, r4, r5, r6, r7, r8, r9, r10, r11) := by first | (rw [hy198]; with_reducible exact H) | (have H2_ := (Option.bind_some _ _).symm.trans H; rw [hy198]; with_reducible exact H2_) | (have H2_ := (Option.bind_some _ _).symm.trans H; with_reducible exact H2_) | with_reducible exact H | (rw [hy198]; exact H) | exact H
 have Ny198 := z0 hy198
 clear hy198
 replace H := Option.bind_eq_some_iff.mp H
 obtain ⟨⟨t202, t203⟩, A50, H⟩ := H
 try dsimp only at H
 have A5 := z0 A50
 clear A50
 have HF6 := z0 H
 clear H
 go_enter Tryz.func32, Tryz.ntmps32
 try go_wp2_with (first | ((with_reducible refine gate_dst (N := 2) rfl ?_); refine box_event ?hg (N := 2) ?hd (cs := #[.int .i64 0, .int .i64 0, .int .i64 0, .int .i64 0, .int .i64 0, .int .i64 0, .int .i64 0, .slice none 0 0, .slice none 0 0, .slice none 0 0]) (t := 33) ?hr ?_; (case hd => rfl); (case hg => rfl); (case hr => first | (go_simp; done) | (go_simp; rfl)); intro gb175 hg w7 hbox hb; have n_ := az (IsS53.below (mI53_1 HI0.out) hb) <| az (KeepBut.trans (mKp HK.out) (KeepBut.of_below hb g none) (.inl rfl)) <| az (below_step (mB53HI0 HB.out) hb) <| az (hbox) <| az ((gW hg HK.out)) <| az ((Nat.le_trans HW0.out (gW hg HK.out) : w0.heap.size ≤ gb175)) <| az ((by rw [hg]; exact Nat.ne_of_lt (IsS53.lt (show IsS53 w0 _ g s0_0 s0_1 from mI53_1 HI0.out)) : g ≠ gb175)) <| z0 ((by rw [hg]; exact Nat.ne_of_gt (IsS53.lt (show IsS53 w0 _ g s0_0 s0_1 from mI53_1 HI0.out)) : gb175 ≠ g)); clear HI0 HK HB; obtain ⟨HI0, HK, HB, BK175, GW175, GE175, NB0_175, NB175_0⟩ := n_; clear hb hbox hg) | ((with_reducible refine gate_callee (f := 18) rfl ?_); refine goesL_ (some 9) rfl rfl Tryz.func18 (by kernel_rfl) rfl #[.pointer (some ⟨g, 0, none⟩), .int .i64 3] rfl argx ?_; (with_reducible refine (spec_l12Rd_pick.calls k g s0_0 s0_1 3 t176 t177 w0 _ ?side1 ?side2 A2.out).mono ?_); (case side1 => exact mI53_1 HI0.out); (case side2 => exact mB53HI0 HB.out); rintro e w8 ⟨rfl, hi, hb, hk⟩; refine ⟨_, rfl, ?_⟩; have n_ := az (kB hk BK175.out NB175_0.out) <| az (KeepBut.trans (mKp HK.out) hk (.inl rfl)) <| az (hb) <| z0 (hi); clear BK175 HK HB HI0; obtain ⟨BK175, HK, HB, HI0⟩ := n_; clear hb hk hi) | ((with_reducible refine gate_dst (N := 3) rfl ?_); refine box_event ?hg (N := 3) ?hd (cs := #[.int .i64 0, .int .i64 0]) (t := 28) ?hr ?_; (case hd => rfl); (case hg => rfl); (case hr => first | (go_simp; done) | (go_simp; rfl)); intro gb178 hg w9 hbox hb; have n_ := az (IsS53.below (mI53_1 HI0.out) hb) <| az (bB BK175.out hb) <| az (KeepBut.trans (mKp HK.out) (KeepBut.of_below hb g none) (.inl rfl)) <| az (below_step (mB53HI0 HB.out) hb) <| az (hbox) <| az ((gW hg HK.out)) <| az ((Nat.le_trans HW0.out (gW hg HK.out) : w0.heap.size ≤ gb178)) <| az ((nL hg BK175.out)) <| az ((nG hg BK175.out)) <| az ((by rw [hg]; exact Nat.ne_of_lt (IsS53.lt (show IsS53 w0 _ g s0_0 t177 from mI53_1 HI0.out)) : g ≠ gb178)) <| z0 ((by rw [hg]; exact Nat.ne_of_gt (IsS53.lt (show IsS53 w0 _ g s0_0 t177 from mI53_1 HI0.out)) : gb178 ≠ g)); clear HI0 BK175 HK HB; obtain ⟨HI0, BK175, HK, HB, BK178, GW178, GE178, NB175_178, NB178_175, NB0_178, NB178_0⟩ := n_; clear hb hbox hg; have hnb10 := NB178_175.out; have hnc10 := NB175_178.out; have hnb11 := NB178_0.out; have hnc11 := NB0_178.out; obtain ⟨hcz12_0, hcz12_1, hfz12_0, hfz12_1⟩ := cel2 BK178.out) | ((with_reducible refine gate_dst (N := 4) rfl ?_); refine box_event ?hg (N := 4) ?hd (cs := #[.int .i64 0, .int .i64 0, .int .i64 0, .int .i64 0, .slice none 0 0]) (t := 31) ?hr ?_; (case hd => rfl); (case hg => rfl); (case hr => first | (go_simp; done) | (go_simp; rfl)); intro gb179 hg w13 hbox hb; have n_ := az (IsS53.below (show IsS53 w0 ((w9.setCell ⟨gb178, 0, none⟩ (.int .i64 3)).setCell ⟨gb178, 1, none⟩ (.int .i64 t176)) g s0_0 t177 from mI53_1 HI0.out) hb) <| az (blk_below (g := gb175) (o := .cells #[.int .i64 0, .int .i64 0, .int .i64 0, .int .i64 0, .int .i64 0, .int .i64 0, .int .i64 0, .slice none 0 0, .slice none 0 0, .slice none 0 0] 33 (0, 0)) (mF BK175.out) hb) <| az (blk_below (g := gb178) (o := .cells #[.int .i64 3, .int .i64 t176] 28 (0, 0)) q32_2 hb) <| az (KeepBut.trans (mKp HK.out) (KeepBut.of_below hb g none) (.inl rfl)) <| az (below_step (mB53HI0 HB.out) hb) <| az (hbox) <| az ((gW hg HK.out)) <| az ((Nat.le_trans HW0.out (gW hg HK.out) : w0.heap.size ≤ gb179)) <| az ((by rw [hg]; exact Nat.ne_of_lt (blk_lt (g := gb175) (o := .cells #[.int .i64 0, .int .i64 0, .int .i64 0, .int .i64 0, .int .i64 0, .int .i64 0, .int .i64 0, .slice none 0 0, .slice none 0 0, .slice none 0 0] 33 (0, 0)) (mF BK175.out)) : gb175 ≠ gb179)) <| az ((by rw [hg]; exact Nat.ne_of_gt (blk_lt (g := gb175) (o := .cells #[.int .i64 0, .int .i64 0, .int .i64 0, .int .i64 0, .int .i64 0, .int .i64 0, .int .i64 0, .slice none 0 0, .slice none 0 0, .slice none 0 0] 33 (0, 0)) (mF BK175.out)) : gb179 ≠ gb175)) <| az ((by rw [hg]; exact Nat.ne_of_lt (blk_lt (g := gb178) (o := .cells #[.int .i64 3, .int .i64 t176] 28 (0, 0)) q32_2) : gb178 ≠ gb179)) <| az ((by rw [hg]; exact Nat.ne_of_gt (blk_lt (g := gb178) (o := .cells #[.int .i64 3, .int .i64 t176] 28 (0, 0)) q32_2) : gb179 ≠ gb178)) <| az ((by rw [hg]; exact Nat.ne_of_lt (IsS53.lt (show IsS53 w0 _ g s0_0 t177 from mI53_1 HI0.out)) : g ≠ gb179)) <| z0 ((by rw [hg]; exact Nat.ne_of_gt (IsS53.lt (show IsS53 w0 _ g s0_0 t177 from mI53_1 HI0.out)) : gb179 ≠ g)); clear HI0 BK175 BK178 HK HB; obtain ⟨HI0, BK175, BK178, HK, HB, BK179, GW179, GE179, NB175_179, NB179_175, NB178_179, NB179_178, NB0_179, NB179_0⟩ := n_; clear hb hbox hg; have hnb14 := NB179_175.out; have hnc14 := NB175_179.out; have hnb15 := NB179_178.out; have hnc15 := NB178_179.out; have hnb16 := NB179_0.out; have hnc16 := NB0_179.out; obtain ⟨hcz17_0, hcz17_1, hcz17_2, hcz17_3, hcz17_4, hfz17_0, hfz17_1, hfz17_2, hfz17_3, hfz17_4⟩ := cel5 BK179.out))
 have n0_ : Aside0 ((((((w13.setCell ⟨gb179, 0, none⟩ (.int .i64 2)).setCell ⟨gb179, 1, none⟩ (.int .i64 0)).setCell ⟨gb179, 2, none⟩ (.int .i64 3)).setCell ⟨gb179, 3, none⟩ (.int .i64 t176)).setCell ⟨gb179, 4, none⟩ (.slice none 0 0)).heap[gb175]? = some (.cells #[.int .i64 0, .int .i64 0, .int .i64 0, .int .i64 0, .int .i64 0, .int .i64 0, .int .i64 0, .slice none 0 0, .slice none 0 0, .slice none 0 0] 33 (0, 0))) := ⟨mF BK175.out⟩
 have n1_ : Aside0 ((((((w13.setCell ⟨gb179, 0, none⟩ (.int .i64 2)).setCell ⟨gb179, 1, none⟩ (.int .i64 0)).setCell ⟨gb179, 2, none⟩ (.int .i64 3)).setCell ⟨gb179, 3, none⟩ (.int .i64 t176)).setCell ⟨gb179, 4, none⟩ (.slice none 0 0)).heap[gb178]? = some (.cells #[.int .i64 3, .int .i64 t176] 28 (0, 0))) := ⟨mF BK178.out⟩
 have n2_ : Aside0 ((((((w13.setCell ⟨gb179, 0, none⟩ (.int .i64 2)).setCell ⟨gb179, 1, none⟩ (.int .i64 0)).setCell ⟨gb179, 2, none⟩ (.int .i64 3)).setCell ⟨gb179, 3, none⟩ (.int .i64 t176)).setCell ⟨gb179, 4, none⟩ (.slice none 0 0)).heap[gb179]? = some (.cells #[.int .i64 2, .int .i64 0, .int .i64 3, .int .i64 t176, .slice none 0 0] 31 (0, 0))) := ⟨pF BK179.out⟩
 have n3_ : Aside0 (IsS53 w0 (((((w13.setCell ⟨gb179, 0, none⟩ (.int .i64 2)).setCell ⟨gb179, 1, none⟩ (.int .i64 0)).setCell ⟨gb179, 2, none⟩ (.int .i64 3)).setCell ⟨gb179, 3, none⟩ (.int .i64 t176)).setCell ⟨gb179, 4, none⟩ (.slice none 0 0)) g s0_0 t177) := ⟨mI53_1 HI0.out⟩
 have n4_ : Aside0 (KeepBut w (((((w13.setCell ⟨gb179, 0, none⟩ (.int .i64 2)).setCell ⟨gb179, 1, none⟩ (.int .i64 0)).setCell ⟨gb179, 2, none⟩ (.int .i64 3)).setCell ⟨gb179, 3, none⟩ (.int .i64 t176)).setCell ⟨gb179, 4, none⟩ (.slice none 0 0)) g none) := ⟨mKp HK.out⟩
 have n5_ : Aside0 (Below w0.heap.size w0 (((((w13.setCell ⟨gb179, 0, none⟩ (.int .i64 2)).setCell ⟨gb179, 1, none⟩ (.int .i64 0)).setCell ⟨gb179, 2, none⟩ (.int .i64 3)).setCell ⟨gb179, 3, none⟩ (.int .i64 t176)).setCell ⟨gb179, 4, none⟩ (.slice none 0 0))) := ⟨mB53HI0 HB.out⟩
 (try clear BK175)
 (try clear BK178)
 (try clear BK179)
 (try clear HI0)
 (try clear HK)
 (try clear HB)
 generalize (((((w13.setCell ⟨gb179, 0, none⟩ (.int .i64 2)).setCell ⟨gb179, 1, none⟩ (.int .i64 0)).setCell ⟨gb179, 2, none⟩ (.int .i64 3)).setCell ⟨gb179, 3, none⟩ (.int .i64 t176)).setCell ⟨gb179, 4, none⟩ (.slice none 0 0)) = w18 at n0_ n1_ n2_ n3_ n4_ n5_ ⊢
 have BK175 := n0_
 have BK178 := n1_
 have BK179 := n2_
 have HI0 := n3_
 have HK := n4_
 have HB := n5_
 clear n0_ n1_ n2_ n3_ n4_ n5_
 have n_ := az (blk_drew BK175.out) <| az (blk_drew BK178.out) <| az (blk_drew BK179.out) <| az (IsS53.drew HI0.out) <| az (keep_drew HK.out) <| z0 (below_drew1 HB.out)
 clear BK175 BK178 BK179 HI0 HK HB
 obtain ⟨BK175, BK178, BK179, HI0, HK, HB⟩ := n_
 refine start_ (n := 9) (S := fun w' => w'.cell? ⟨gb179, 0, none⟩ = some (.int .i64 2) ∧ w'.cell? ⟨gb179, 1, none⟩ = some (.int .i64 0) ∧ w'.cell? ⟨gb179, 2, none⟩ = some (.int .i64 3) ∧ w'.cell? ⟨gb179, 3, none⟩ = some (.int .i64 t176) ∧ w'.cell? ⟨gb179, 4, none⟩ = some (.slice none 0 0)) (ds := []) #[false, false, false, false, false, false, false, false, false] (by kernel_rfl) rfl rfl q32_1 (fun hHeld => ?_); refine with_tabW spec_l4Count.tab3 spec_l4Count.bits3 (fun HT_ HW_ => ?_)
 generalize w18.drew = w19 at BK175 BK178 BK179 HI0 HK HB hHeld ⊢
 refine pure_ (i := 1) (N := some 14) (v := ?_) (a' := ?_) #[false, true, false, false, false, false, false, false, false] rfl rfl (any_of HT_.out (by kernel_rfl)) (fun _ _ _ h => h) (Or.inl ⟨by rfl, ?_⟩) ?_ ?_
 rotate_left
 ·intro w'
  go_simp
  with_reducible rfl
 rotate_left
 ·simp only [Act.put, List.setIfInBounds_toArray, List.set_cons_zero, List.set_cons_succ, i64_w, i32_w]
  rfl
 refine take_ (i := 0) (N := some 13) (v := ?_) (a' := ?_) #[true, true, false, false, false, false, false, false, false] rfl rfl (take_ofW HT_.out HW_.out (by kernel_rfl)) (fun _ _ _ h => h) (Or.inl ⟨by rfl, ?_⟩) hHeld ?_ ?_
 rotate_left
 ·rintro w' ⟨s0, s1, s2, s3, s4⟩
  go_simp
  with_reducible rfl
 rotate_left
 ·simp only [Act.put, List.setIfInBounds_toArray, List.set_cons_zero, List.set_cons_succ, i64_w, i32_w]
  rfl
 refine join_ (σ := Value × Value × Nat) 1 #[true, true, true, true, true, true, true, true, false] (fun s_ => [(15, s_.1), (16, .int .i64 t183), (18, s_.2.1), (5, .pointer (some ⟨s_.2.2, 0, none⟩)), (17, .agg #[.int .i64 1, .int .i64 t183, .int .i64 0, .int .i64 0, .slice none 0 0]), (19, .agg #[.int .i64 6, .int .i64 0, .int .i64 0, .int .i64 0, s_.2.1])]) (fun s_ w' => (w'.cell? ⟨gb179, 0, none⟩ = some (.int .i64 2) ∧ w'.cell? ⟨gb179, 1, none⟩ = some (.int .i64 0) ∧ w'.cell? ⟨gb179, 2, none⟩ = some (.int .i64 3) ∧ w'.cell? ⟨gb179, 3, none⟩ = some (.int .i64 t176) ∧ w'.cell? ⟨gb179, 4, none⟩ = some (.slice none 0 0)) ∧ (Kd.R (Kd.int .i64) 3 w' w.heap.size (fun k_ => (w.heap.size ≤ k_)) s_.1 y180) ∧ (Kd.N k31 31 w' w.heap.size (fun k_ => (w.heap.size ≤ k_) ∧ some k_ ≠ (s_.1 : Value).ownBlock ∧ k_ ≠ g ∧ k_ ≠ gb175 ∧ k_ ≠ gb178 ∧ k_ ≠ gb179 ∧ k_ ≠ s_.2.2) s_.2.1 y185) ∧ (w'.heap[gb175]? = some (.cells #[.int .i64 0, .int .i64 0, .int .i64 0, .int .i64 0, .int .i64 0, .int .i64 0, .int .i64 0, .slice none 0 0, .slice none 0 0, .slice none 0 0] 33 (0, 0))) ∧ (w'.heap[gb178]? = some (.cells #[.int .i64 3, .int .i64 t176] 28 (0, 0))) ∧ (w'.heap[gb179]? = some (.cells #[.int .i64 2, .int .i64 0, .int .i64 3, .int .i64 t176, .slice none 0 0] 31 (0, 0))) ∧ (w'.heap[s_.2.2]? = some (.cells #[.int .i64 0, .int .i64 0, .int .i64 0, .int .i64 0, .slice none 0 0] 31 (0, 0))) ∧ (w.heap.size ≤ s_.2.2) ∧ (w0.heap.size ≤ s_.2.2) ∧ (g ≠ s_.2.2) ∧ (s_.2.2 ≠ g) ∧ (gb175 ≠ s_.2.2) ∧ (s_.2.2 ≠ gb175) ∧ (gb178 ≠ s_.2.2) ∧ (s_.2.2 ≠ gb178) ∧ (gb179 ≠ s_.2.2) ∧ (s_.2.2 ≠ gb179) ∧ (IsS53 w0 w' g s0_0 t184) ∧ (KeepBut w w' g none) ∧ (Below w0.heap.size w0 w')) ?_ ?_
 rotate_left
 ·intro hCont
  refine two_ (i := 2) (j := 7) (Ni := some 15) (Nj := some 5) #[true, true, true, false, false, false, false, false, false] #[true, true, false, false, false, false, false, true, false] rfl rfl rfl rfl (two_of HT_.out (by kernel_rfl)) (by decide) (by decide) (fun K hK => ?_) (fun K hK => ?_)
  ·skip
   refine Kd.R_lit_step (Kd.int .i64) _ 3 ?hg (N := 15) ?hd (xs := ([1, 3, 5, 9, 200] : List Int)) (inner := [.int .i64 1, .int .i64 3, .int .i64 5, .int .i64 9, .int .i64 200]) (ok := fun _ => True) (okp := fun _ => True) ?hr ?hp (fun _ hk => hk) trivial (Below.refl _ _) (Nat.le_refl _) (by simp) ?_; (case hd => rfl); (case hg => rfl); (case hr => first | (go_simp; done) | (go_simp; rfl)); (case hp => exact (Reps.one (show Kd.M (Kd.int .i64) _ _ _ 1 [.int .i64 1] from rfl) (Reps.one (show Kd.M (Kd.int .i64) _ _ _ 3 [.int .i64 3] from rfl) (Reps.one (show Kd.M (Kd.int .i64) _ _ _ 5 [.int .i64 5] from rfl) (Reps.one (show Kd.M (Kd.int .i64) _ _ _ 9 [.int .i64 9] from rfl) (Reps.one (show Kd.M (Kd.int .i64) _ _ _ 200 [.int .i64 200] from rfl) (Reps.none _ _)))))))
   intro v181 w20 ho21 hb hg_ hnew_
   clear hg_ hnew_
   (first | rw [← Ny180.out] at ho21 | (simp only [Int.reduceToNat] at ho21; rw [← Ny180.out] at ho21))
   have n_ := And.intro (z0 (Kd.R_lower (Kd.R_newM (M := fun k_ => (w.heap.size ≤ k_)) ho21 (kS HK.out) (fun k_ h_ => h_)) (kS HK.out))) <| az (IsS53.below (mI53_1 HI0.out) hb) <| az (bB BK175.out hb) <| az (bB BK178.out hb) <| az (bB BK179.out hb) <| az (KeepBut.trans (mKp HK.out) (KeepBut.of_below hb g none) (.inl rfl)) <| z0 (below_step (mB53HI0 HB.out) hb)
   clear HI0 BK175 BK178 BK179 HK HB
   obtain ⟨HO182, HI0, BK175, BK178, BK179, HK, HB⟩ := n_
   clear hb ho21
   obtain ⟨Ao22, co22, eo22⟩ := Kd.R_slice HO182.out
   (first | subst eo22 | (injection eo22 with f1_ f2_ f3_; have f4_ := f1_.symm; have f5_ := f3_.symm; clear f1_ f2_ f3_; subst f4_; subst f5_))
   refine hK.out _ _ q32_1 (fun hHeld => ?_)
   clear hK K
   refine norm_ (a' := ?_) ?_ ?_
   rotate_left
   ·show Act.put _ (some 15) _ = _
    simp only [Act.put, List.setIfInBounds_toArray, List.set_cons_zero, List.set_cons_succ, i64_w, i32_w]
    rfl
   refine two_ (i := 3) (j := 7) (Ni := some 16) (Nj := some 5) #[true, true, true, true, false, false, false, false, false] #[true, true, true, false, false, false, false, true, false] rfl rfl rfl rfl (two_of HT_.out (by kernel_rfl)) (by decide) (by decide) (fun K hK => ?_) (fun K hK => ?_)
   ·skip
    refine goes_ Tryz.func19 (by kernel_rfl) rfl #[.pointer (some ⟨g, 0, none⟩), .slice Ao22 y180.length co22] (by rfl) rfl rfl argx ?_
    with_reducible refine (spec_l12Rd_num.calls k g s0_0 t177 _ _ y180 t183 t184 w0 _ ?side1 ?side2 ?side3 ?side4 ?side5 A3.out).mono ?_
    (case side1 => exact mI53_1 HI0.out)
    (case side2 => exact mB53HI0 HB.out)
    (case side3 => exact mC (Kd.R_reads' HO182.out).2.2)
    (case side4 => exact (Kd.R_reads' HO182.out).2.1)
    (case side5 => exact far_slice (IsS53.own_ne HI0.out HO182.out (by decide)))
    rintro e w23 ⟨rfl, hi, hb, hk⟩
    refine ⟨_, rfl, ?_⟩
    have n_ := az (kB hk BK175.out NB175_0.out) <| az (kB hk BK178.out NB178_0.out) <| az (kB hk BK179.out NB179_0.out) <| And.intro (z0 (Kd.R_mono (Kd.R_keep (IsS53.apart (show IsS53 w0 _ g s0_0 t177 from mI53_1 HI0.out) (mR HO182.out) (by decide)) hk (fun _ h => h.2)) (fun _ h => h.1))) <| az (KeepBut.trans (mKp HK.out) hk (.inl rfl)) <| az (hb) <| z0 (hi)
    clear BK175 BK178 BK179 HO182 HK HB HI0
    obtain ⟨BK175, BK178, BK179, HO182, HK, HB, HI0⟩ := n_
    (try clear hb)
    (try clear hb2)
    (try clear hk)
    (try clear hi)
    refine hK.out _ _ q32_1 (fun hHeld => ?_)
    clear hK K
    refine norm_ (a' := ?_) ?_ ?_
    rotate_left
    ·show Act.put _ (some 16) _ = _
     simp only [Act.put, List.setIfInBounds_toArray, List.set_cons_zero, List.set_cons_succ, i64_w, i32_w]
     rfl
    refine pure_ (i := 4) (N := some 17) (v := ?_) (a' := ?_) #[true, true, true, true, true, false, false, false, false] rfl rfl (any_of HT_.out (by kernel_rfl)) (fun _ _ _ h => h) (Or.inl ⟨by rfl, ?_⟩) ?_ ?_
    rotate_left
    ·intro w'
     go_simp
     with_reducible rfl
    rotate_left
    ·simp only [Act.put, List.setIfInBounds_toArray, List.set_cons_zero, List.set_cons_succ, i64_w, i32_w]
     rfl
    refine two_ (i := 5) (j := 7) (Ni := some 18) (Nj := some 5) #[true, true, true, true, true, true, false, false, false] #[true, true, true, true, true, false, false, true, false] rfl rfl rfl rfl (two_of HT_.out (by kernel_rfl)) (by decide) (by decide) (fun K hK => ?_) (fun K hK => ?_)
    ·skip
     refine Kd.N_lit_step k31 _ 31 ?hg (N' := 18) ?hd (xs := ([(⟨2, 0, (⟨3, t176⟩ : S28), ([] : List (S31))⟩ : S31), (⟨1, t183, (⟨0, 0⟩ : S28), ([] : List (S31))⟩ : S31)] : List (S31))) (inner := [.int .i64 2, .int .i64 0, .int .i64 3, .int .i64 t176, .slice none 0 0, .int .i64 1, .int .i64 t183, .int .i64 0, .int .i64 0, .slice none 0 0]) (ok := (fun k_ => (w.heap.size ≤ k_) ∧ nB k_ (.slice Ao22 y180.length co22) ∧ k_ ≠ gb175 ∧ k_ ≠ gb178 ∧ k_ ≠ gb179 ∧ k_ ≠ g)) (okp := (fun k_ => (w.heap.size ≤ k_) ∧ nB k_ (.slice Ao22 y180.length co22) ∧ k_ ≠ gb175 ∧ k_ ≠ gb178 ∧ k_ ≠ gb179 ∧ k_ ≠ g)) ?hr ?hp (fun _ hk => hk) ((show ∀ k_, w23.heap.size ≤ k_ → (fun k_ => (w.heap.size ≤ k_) ∧ nB k_ (.slice Ao22 y180.length co22) ∧ k_ ≠ gb175 ∧ k_ ≠ gb178 ∧ k_ ≠ gb179 ∧ k_ ≠ g) k_ from fun k_ hk => ⟨(Nat.le_trans (kS HK.out) hk), Kd.fresh' (Kd.R_lt (mR HO182.out)) k_ hk, fB BK175.out hk, fB BK178.out hk, fB BK179.out hk, IsS53.fresh (mI53_1 HI0.out) k_ hk⟩) _ (Nat.le_refl _)) (Below.refl _ _) (Nat.le_refl _) (by simp) ?_; (case hd => rfl); (case hg => rfl); (case hr => first | (go_simp; done) | (go_simp; rfl)); (case hp => exact (Reps.c5 (show Kd.FK k31 _ _ (⟨2, 0, (⟨3, t176⟩ : S28), ([] : List (S31))⟩ : S31) [.int .i64 2, .int .i64 0, .int .i64 3, .int .i64 t176, .slice none 0 0] from (k31_mkF _ _ (⟨2, 0, (⟨3, t176⟩ : S28), ([] : List (S31))⟩ : S31) (Nat.le_refl _) (Kd.F_nil _ _ _))) (Reps.c5 (show Kd.FK k31 _ _ (⟨1, t183, (⟨0, 0⟩ : S28), ([] : List (S31))⟩ : S31) [.int .i64 1, .int .i64 t183, .int .i64 0, .int .i64 0, .slice none 0 0] from (k31_mkF _ _ (⟨1, t183, (⟨0, 0⟩ : S28), ([] : List (S31))⟩ : S31) (Nat.le_refl _) (Kd.F_nil _ _ _))) (Reps.none _ _))))
     intro v186 w24 ho25 hb hg_ hnew_
     clear hg_ hnew_
     (first | rw [← Ny185.out] at ho25 | (simp only [Int.reduceToNat] at ho25; rw [← Ny185.out] at ho25))
     have n_ := az (Kd.R_below (mR HO182.out) hb) <| az (Kd.N_lower ho25 (kS HK.out)) <| az (IsS53.below (mI53_1 HI0.out) hb) <| az (bB BK175.out hb) <| az (bB BK178.out hb) <| az (bB BK179.out hb) <| az (KeepBut.trans (mKp HK.out) (KeepBut.of_below hb g none) (.inl rfl)) <| z0 (below_step (mB53HI0 HB.out) hb)
     clear HO182 HI0 BK175 BK178 BK179 HK HB
     obtain ⟨HO182, HO187, HI0, BK175, BK178, BK179, HK, HB⟩ := n_
     clear hb ho25
     obtain ⟨Ao26, co26, eo26⟩ := Kd.N_slice HO187.out
     (first | subst eo26 | (injection eo26 with f1_ f2_ f3_; have f4_ := f1_.symm; have f5_ := f3_.symm; clear f1_ f2_ f3_; subst f4_; subst f5_))
     refine hK.out _ _ q32_1 (fun hHeld => ?_)
     clear hK K
     refine norm_ (a' := ?_) ?_ ?_
     rotate_left
     ·show Act.put _ (some 18) _ = _
      simp only [Act.put, List.setIfInBounds_toArray, List.set_cons_zero, List.set_cons_succ, i64_w, i32_w]
      rfl
     refine pure_ (i := 6) (N := some 19) (v := ?_) (a' := ?_) #[true, true, true, true, true, true, true, false, false] rfl rfl (any_of HT_.out (by kernel_rfl)) (fun _ _ _ h => h) (Or.inl ⟨by rfl, ?_⟩) ?_ ?_
     rotate_left
     ·intro w'
      go_simp
      with_reducible rfl
     rotate_left
     ·simp only [Act.put, List.setIfInBounds_toArray, List.set_cons_zero, List.set_cons_succ, i64_w, i32_w]
      rfl
     refine one_ (i := 7) (N := some 5) #[true, true, true, true, true, true, true, true, false] rfl rfl (one_of HT_.out (by kernel_rfl)) (by decide) (fun K hK => ?_)
     refine box_step ?hg (N := 5) ?hd (cs := #[.int .i64 0, .int .i64 0, .int .i64 0, .int .i64 0, .slice none 0 0]) (t := 31) ?hr ?_; (case hd => rfl); (case hg => rfl); (case hr => first | (go_simp; done) | (go_simp; rfl))
     intro gb188 hg w27 hbox hb
     have n_ := az (Kd.R_below (mR HO182.out) hb) <| az (Kd.N_below (Kd.N_elderB (mN HO187.out) gb188 (Nat.le_of_eq hg.symm)) hb) <| az (IsS53.below (mI53_1 HI0.out) hb) <| az (bB BK175.out hb) <| az (bB BK178.out hb) <| az (bB BK179.out hb) <| az (KeepBut.trans (mKp HK.out) (KeepBut.of_below hb g none) (.inl rfl)) <| az (below_step (mB53HI0 HB.out) hb) <| az (hbox) <| az ((gW hg HK.out)) <| az ((Nat.le_trans HW0.out (gW hg HK.out) : w0.heap.size ≤ gb188)) <| az ((nL hg BK175.out)) <| az ((nG hg BK175.out)) <| az ((nL hg BK178.out)) <| az ((nG hg BK178.out)) <| az ((nL hg BK179.out)) <| az ((nG hg BK179.out)) <| And.intro (z0 ((by rw [hg]; exact Nat.ne_of_lt (IsS53.lt (show IsS53 w0 _ g s0_0 t184 from mI53_1 HI0.out)) : g ≠ gb188))) <| z0 ((by rw [hg]; exact Nat.ne_of_gt (IsS53.lt (show IsS53 w0 _ g s0_0 t184 from mI53_1 HI0.out)) : gb188 ≠ g))
     clear HO182 HO187 HI0 BK175 BK178 BK179 HK HB
     obtain ⟨HO182, HO187, HI0, BK175, BK178, BK179, HK, HB, BK188, GW188, GE188, NB175_188, NB188_175, NB178_188, NB188_178, NB179_188, NB188_179, NB0_188, NB188_0⟩ := n_
     clear hb hbox hg
     refine hK.out _ _ q32_1 (fun hHeld => ?_)
     clear hK K
     refine norm_ (a' := ?_) ?_ ?_
     rotate_left
     ·show Act.put _ (some 5) _ = _
      simp only [Act.put, List.setIfInBounds_toArray, List.set_cons_zero, List.set_cons_succ, i64_w, i32_w]
      rfl
     exact norm_ q32_4 (hCont (.slice Ao22 y180.length co22, .slice Ao26 y185.length co26, gb188) _ ⟨hHeld, q32_8, (by (with_reducible repeat (first | apply Kd.N_alloc | apply Kd.N_drewN | apply Kd.N_drew)); exact Kd.N_mono HO187.out (fun _ hk => ⟨hk.1.1, ⟨hk.1.2.1, ⟨hk.1.2.2.2.2.2, ⟨hk.1.2.2.1, ⟨hk.1.2.2.2.1, ⟨hk.1.2.2.2.2.1, hk.2⟩⟩⟩⟩⟩⟩)), (mK BK175.out), (mK BK178.out), (mK BK179.out), (mK BK188.out), GW188.out, GE188.out, NB0_188.out, NB188_0.out, NB175_188.out, NB188_175.out, NB178_188.out, NB188_178.out, NB179_188.out, NB188_179.out, (mI53_1 HI0.out), (mKp HK.out), (mB53HI0 HB.out)⟩)
    ·skip
     refine box_step ?hg (N := 5) ?hd (cs := #[.int .i64 0, .int .i64 0, .int .i64 0, .int .i64 0, .slice none 0 0]) (t := 31) ?hr ?_; (case hd => rfl); (case hg => rfl); (case hr => first | (go_simp; done) | (go_simp; rfl))
     intro gb188 hg w24 hbox hb
     have n_ := az (Kd.R_below (mR HO182.out) hb) <| az (IsS53.below (mI53_1 HI0.out) hb) <| az (bB BK175.out hb) <| az (bB BK178.out hb) <| az (bB BK179.out hb) <| az (KeepBut.trans (mKp HK.out) (KeepBut.of_below hb g none) (.inl rfl)) <| az (below_step (mB53HI0 HB.out) hb) <| az (hbox) <| az ((gW hg HK.out)) <| az ((Nat.le_trans HW0.out (gW hg HK.out) : w0.heap.size ≤ gb188)) <| az ((nL hg BK175.out)) <| az ((nG hg BK175.out)) <| az ((nL hg BK178.out)) <| az ((nG hg BK178.out)) <| az ((nL hg BK179.out)) <| az ((nG hg BK179.out)) <| And.intro (z0 ((by rw [hg]; exact Nat.ne_of_lt (IsS53.lt (show IsS53 w0 _ g s0_0 t184 from mI53_1 HI0.out)) : g ≠ gb188))) <| z0 ((by rw [hg]; exact Nat.ne_of_gt (IsS53.lt (show IsS53 w0 _ g s0_0 t184 from mI53_1 HI0.out)) : gb188 ≠ g))
     clear HO182 HI0 BK175 BK178 BK179 HK HB
     obtain ⟨HO182, HI0, BK175, BK178, BK179, HK, HB, BK188, GW188, GE188, NB175_188, NB188_175, NB178_188, NB188_178, NB179_188, NB188_179, NB0_188, NB188_0⟩ := n_
     clear hb hbox hg
     refine hK.out _ _ q32_1 (fun hHeld => ?_)
     clear hK K
     refine norm_ (a' := ?_) ?_ ?_
     rotate_left
     ·show Act.put _ (some 5) _ = _
      simp only [Act.put, List.setIfInBounds_toArray, List.set_cons_zero, List.set_cons_succ, i64_w, i32_w]
      rfl
     refine one_ (i := 5) (N := some 18) #[true, true, true, true, true, true, false, true, false] rfl rfl (one_of HT_.out (by kernel_rfl)) (by decide) (fun K hK => ?_)
     refine Kd.N_lit_step k31 _ 31 ?hg (N' := 18) ?hd (xs := ([(⟨2, 0, (⟨3, t176⟩ : S28), ([] : List (S31))⟩ : S31), (⟨1, t183, (⟨0, 0⟩ : S28), ([] : List (S31))⟩ : S31)] : List (S31))) (inner := [.int .i64 2, .int .i64 0, .int .i64 3, .int .i64 t176, .slice none 0 0, .int .i64 1, .int .i64 t183, .int .i64 0, .int .i64 0, .slice none 0 0]) (ok := (fun k_ => (w.heap.size ≤ k_) ∧ nB k_ (.slice Ao22 y180.length co22) ∧ k_ ≠ gb175 ∧ k_ ≠ gb178 ∧ k_ ≠ gb179 ∧ k_ ≠ gb188 ∧ k_ ≠ g)) (okp := (fun k_ => (w.heap.size ≤ k_) ∧ nB k_ (.slice Ao22 y180.length co22) ∧ k_ ≠ gb175 ∧ k_ ≠ gb178 ∧ k_ ≠ gb179 ∧ k_ ≠ gb188 ∧ k_ ≠ g)) ?hr ?hp (fun _ hk => hk) ((show ∀ k_, w24.heap.size ≤ k_ → (fun k_ => (w.heap.size ≤ k_) ∧ nB k_ (.slice Ao22 y180.length co22) ∧ k_ ≠ gb175 ∧ k_ ≠ gb178 ∧ k_ ≠ gb179 ∧ k_ ≠ gb188 ∧ k_ ≠ g) k_ from fun k_ hk => ⟨(Nat.le_trans (kS HK.out) hk), Kd.fresh' (Kd.R_lt (mR HO182.out)) k_ hk, fB BK175.out hk, fB BK178.out hk, fB BK179.out hk, fB BK188.out hk, IsS53.fresh (mI53_1 HI0.out) k_ hk⟩) _ (Nat.le_refl _)) (Below.refl _ _) (Nat.le_refl _) (by simp) ?_; (case hd => rfl); (case hg => rfl); (case hr => first | (go_simp; done) | (go_simp; rfl)); (case hp => exact (Reps.c5 (show Kd.FK k31 _ _ (⟨2, 0, (⟨3, t176⟩ : S28), ([] : List (S31))⟩ : S31) [.int .i64 2, .int .i64 0, .int .i64 3, .int .i64 t176, .slice none 0 0] from (k31_mkF _ _ (⟨2, 0, (⟨3, t176⟩ : S28), ([] : List (S31))⟩ : S31) (Nat.le_refl _) (Kd.F_nil _ _ _))) (Reps.c5 (show Kd.FK k31 _ _ (⟨1, t183, (⟨0, 0⟩ : S28), ([] : List (S31))⟩ : S31) [.int .i64 1, .int .i64 t183, .int .i64 0, .int .i64 0, .slice none 0 0] from (k31_mkF _ _ (⟨1, t183, (⟨0, 0⟩ : S28), ([] : List (S31))⟩ : S31) (Nat.le_refl _) (Kd.F_nil _ _ _))) (Reps.none _ _))))
     intro v186 w25 ho26 hb hg_ hnew_
     clear hg_ hnew_
     (first | rw [← Ny185.out] at ho26 | (simp only [Int.reduceToNat] at ho26; rw [← Ny185.out] at ho26))
     have n_ := az (Kd.R_below (mR HO182.out) hb) <| az (Kd.N_lower ho26 (kS HK.out)) <| az (IsS53.below (mI53_1 HI0.out) hb) <| az (bB BK175.out hb) <| az (bB BK178.out hb) <| az (bB BK179.out hb) <| az (bB BK188.out hb) <| az (KeepBut.trans (mKp HK.out) (KeepBut.of_below hb g none) (.inl rfl)) <| z0 (below_step (mB53HI0 HB.out) hb)
     clear HO182 HI0 BK175 BK178 BK179 BK188 HK HB
     obtain ⟨HO182, HO187, HI0, BK175, BK178, BK179, BK188, HK, HB⟩ := n_
     clear hb ho26
     obtain ⟨Ao27, co27, eo27⟩ := Kd.N_slice HO187.out
     (first | subst eo27 | (injection eo27 with f1_ f2_ f3_; have f4_ := f1_.symm; have f5_ := f3_.symm; clear f1_ f2_ f3_; subst f4_; subst f5_))
     refine hK.out _ _ q32_1 (fun hHeld => ?_)
     clear hK K
     refine norm_ (a' := ?_) ?_ ?_
     rotate_left
     ·show Act.put _ (some 18) _ = _
      simp only [Act.put, List.setIfInBounds_toArray, List.set_cons_zero, List.set_cons_succ, i64_w, i32_w]
      rfl
     refine pure_ (i := 6) (N := some 19) (v := ?_) (a' := ?_) #[true, true, true, true, true, true, true, true, false] rfl rfl (any_of HT_.out (by kernel_rfl)) (fun _ _ _ h => h) (Or.inl ⟨by rfl, ?_⟩) ?_ ?_
     rotate_left
     ·intro w'
      go_simp
      with_reducible rfl
     rotate_left
     ·simp only [Act.put, List.setIfInBounds_toArray, List.set_cons_zero, List.set_cons_succ, i64_w, i32_w]
      rfl
     exact norm_ q32_4 (hCont (.slice Ao22 y180.length co22, .slice Ao27 y185.length co27, gb188) _ ⟨hHeld, q32_8, q32_6, (mK BK175.out), (mK BK178.out), (mK BK179.out), (mK BK188.out), GW188.out, GE188.out, NB0_188.out, NB188_0.out, NB175_188.out, NB188_175.out, NB178_188.out, NB188_178.out, NB179_188.out, NB188_179.out, (mI53_1 HI0.out), (mKp HK.out), (mB53HI0 HB.out)⟩)
   ·skip
    refine box_step ?hg (N := 5) ?hd (cs := #[.int .i64 0, .int .i64 0, .int .i64 0, .int .i64 0, .slice none 0 0]) (t := 31) ?hr ?_; (case hd => rfl); (case hg => rfl); (case hr => first | (go_simp; done) | (go_simp; rfl))
    intro gb188 hg w22 hbox hb
    have n_ := az (Kd.R_below (mR HO182.out) hb) <| az (IsS53.below (mI53_1 HI0.out) hb) <| az (bB BK175.out hb) <| az (bB BK178.out hb) <| az (bB BK179.out hb) <| az (KeepBut.trans (mKp HK.out) (KeepBut.of_below hb g none) (.inl rfl)) <| az (below_step (mB53HI0 HB.out) hb) <| az (hbox) <| az ((gW hg HK.out)) <| az ((Nat.le_trans HW0.out (gW hg HK.out) : w0.heap.size ≤ gb188)) <| az ((nL hg BK175.out)) <| az ((nG hg BK175.out)) <| az ((nL hg BK178.out)) <| az ((nG hg BK178.out)) <| az ((nL hg BK179.out)) <| az ((nG hg BK179.out)) <| And.intro (z0 ((by rw [hg]; exact Nat.ne_of_lt (IsS53.lt (show IsS53 w0 _ g s0_0 t177 from mI53_1 HI0.out)) : g ≠ gb188))) <| z0 ((by rw [hg]; exact Nat.ne_of_gt (IsS53.lt (show IsS53 w0 _ g s0_0 t177 from mI53_1 HI0.out)) : gb188 ≠ g))
    clear HO182 HI0 BK175 BK178 BK179 HK HB
    obtain ⟨HO182, HI0, BK175, BK178, BK179, HK, HB, BK188, GW188, GE188, NB175_188, NB188_175, NB178_188, NB188_178, NB179_188, NB188_179, NB0_188, NB188_0⟩ := n_
    clear hb hbox hg
    obtain ⟨Ao23, co23, eo23⟩ := Kd.R_slice HO182.out
    (first | subst eo23 | (injection eo23 with f1_ f2_ f3_; have f4_ := f1_.symm; have f5_ := f3_.symm; clear f1_ f2_ f3_; subst f4_; subst f5_))
    refine hK.out _ _ q32_1 (fun hHeld => ?_)
    clear hK K
    refine norm_ (a' := ?_) ?_ ?_
    rotate_left
    ·show Act.put _ (some 5) _ = _
     simp only [Act.put, List.setIfInBounds_toArray, List.set_cons_zero, List.set_cons_succ, i64_w, i32_w]
     rfl
    refine one_ (i := 3) (N := some 16) #[true, true, true, true, false, false, false, true, false] rfl rfl (one_of HT_.out (by kernel_rfl)) (by decide) (fun K hK => ?_)
    refine goes_ Tryz.func19 (by kernel_rfl) rfl #[.pointer (some ⟨g, 0, none⟩), .slice Ao23 y180.length co23] (by rfl) rfl rfl argx ?_
    with_reducible refine (spec_l12Rd_num.calls k g s0_0 t177 _ _ y180 t183 t184 w0 _ ?side1 ?side2 ?side3 ?side4 ?side5 A3.out).mono ?_
    (case side1 => exact mI53_1 HI0.out)
    (case side2 => exact mB53HI0 HB.out)
    (case side3 => exact mC (Kd.R_reads' HO182.out).2.2)
    (case side4 => exact (Kd.R_reads' HO182.out).2.1)
    (case side5 => exact far_slice (IsS53.own_ne HI0.out HO182.out (by decide)))
    rintro e w24 ⟨rfl, hi, hb, hk⟩
    refine ⟨_, rfl, ?_⟩
    have n_ := az (kB hk BK175.out NB175_0.out) <| az (kB hk BK178.out NB178_0.out) <| az (kB hk BK179.out NB179_0.out) <| And.intro (z0 (Kd.R_mono (Kd.R_keep (IsS53.apart (show IsS53 w0 _ g s0_0 t177 from mI53_1 HI0.out) (mR HO182.out) (by decide)) hk (fun _ h => h.2)) (fun _ h => h.1))) <| az (kB hk BK188.out NB188_0.out) <| az (KeepBut.trans (mKp HK.out) hk (.inl rfl)) <| az (hb) <| z0 (hi)
    clear BK175 BK178 BK179 HO182 BK188 HK HB HI0
    obtain ⟨BK175, BK178, BK179, HO182, BK188, HK, HB, HI0⟩ := n_
    (try clear hb)
    (try clear hb2)
    (try clear hk)
    (try clear hi)
    refine hK.out _ _ q32_1 (fun hHeld => ?_)
    clear hK K
    refine norm_ (a' := ?_) ?_ ?_
    rotate_left
    ·show Act.put _ (some 16) _ = _
     simp only [Act.put, List.setIfInBounds_toArray, List.set_cons_zero, List.set_cons_succ, i64_w, i32_w]
     rfl
    refine pure_ (i := 4) (N := some 17) (v := ?_) (a' := ?_) #[true, true, true, true, true, false, false, true, false] rfl rfl (any_of HT_.out (by kernel_rfl)) (fun _ _ _ h => h) (Or.inl ⟨by rfl, ?_⟩) ?_ ?_
    rotate_left
    ·intro w'
     go_simp
     with_reducible rfl
    rotate_left
    ·simp only [Act.put, List.setIfInBounds_toArray, List.set_cons_zero, List.set_cons_succ, i64_w, i32_w]
     rfl
    refine one_ (i := 5) (N := some 18) #[true, true, true, true, true, true, false, true, false] rfl rfl (one_of HT_.out (by kernel_rfl)) (by decide) (fun K hK => ?_)
    refine Kd.N_lit_step k31 _ 31 ?hg (N' := 18) ?hd (xs := ([(⟨2, 0, (⟨3, t176⟩ : S28), ([] : List (S31))⟩ : S31), (⟨1, t183, (⟨0, 0⟩ : S28), ([] : List (S31))⟩ : S31)] : List (S31))) (inner := [.int .i64 2, .int .i64 0, .int .i64 3, .int .i64 t176, .slice none 0 0, .int .i64 1, .int .i64 t183, .int .i64 0, .int .i64 0, .slice none 0 0]) (ok := (fun k_ => (w.heap.size ≤ k_) ∧ nB k_ (.slice Ao23 y180.length co23) ∧ k_ ≠ gb175 ∧ k_ ≠ gb178 ∧ k_ ≠ gb179 ∧ k_ ≠ gb188 ∧ k_ ≠ g)) (okp := (fun k_ => (w.heap.size ≤ k_) ∧ nB k_ (.slice Ao23 y180.length co23) ∧ k_ ≠ gb175 ∧ k_ ≠ gb178 ∧ k_ ≠ gb179 ∧ k_ ≠ gb188 ∧ k_ ≠ g)) ?hr ?hp (fun _ hk => hk) ((show ∀ k_, w24.heap.size ≤ k_ → (fun k_ => (w.heap.size ≤ k_) ∧ nB k_ (.slice Ao23 y180.length co23) ∧ k_ ≠ gb175 ∧ k_ ≠ gb178 ∧ k_ ≠ gb179 ∧ k_ ≠ gb188 ∧ k_ ≠ g) k_ from fun k_ hk => ⟨(Nat.le_trans (kS HK.out) hk), Kd.fresh' (Kd.R_lt (mR HO182.out)) k_ hk, fB BK175.out hk, fB BK178.out hk, fB BK179.out hk, fB BK188.out hk, IsS53.fresh (mI53_1 HI0.out) k_ hk⟩) _ (Nat.le_refl _)) (Below.refl _ _) (Nat.le_refl _) (by simp) ?_; (case hd => rfl); (case hg => rfl); (case hr => first | (go_simp; done) | (go_simp; rfl)); (case hp => exact (Reps.c5 (show Kd.FK k31 _ _ (⟨2, 0, (⟨3, t176⟩ : S28), ([] : List (S31))⟩ : S31) [.int .i64 2, .int .i64 0, .int .i64 3, .int .i64 t176, .slice none 0 0] from (k31_mkF _ _ (⟨2, 0, (⟨3, t176⟩ : S28), ([] : List (S31))⟩ : S31) (Nat.le_refl _) (Kd.F_nil _ _ _))) (Reps.c5 (show Kd.FK k31 _ _ (⟨1, t183, (⟨0, 0⟩ : S28), ([] : List (S31))⟩ : S31) [.int .i64 1, .int .i64 t183, .int .i64 0, .int .i64 0, .slice none 0 0] from (k31_mkF _ _ (⟨1, t183, (⟨0, 0⟩ : S28), ([] : List (S31))⟩ : S31) (Nat.le_refl _) (Kd.F_nil _ _ _))) (Reps.none _ _))))
    intro v186 w25 ho26 hb hg_ hnew_
    clear hg_ hnew_
    (first | rw [← Ny185.out] at ho26 | (simp only [Int.reduceToNat] at ho26; rw [← Ny185.out] at ho26))
    have n_ := az (Kd.R_below (mR HO182.out) hb) <| az (Kd.N_lower ho26 (kS HK.out)) <| az (IsS53.below (mI53_1 HI0.out) hb) <| az (bB BK175.out hb) <| az (bB BK178.out hb) <| az (bB BK179.out hb) <| az (bB BK188.out hb) <| az (KeepBut.trans (mKp HK.out) (KeepBut.of_below hb g none) (.inl rfl)) <| z0 (below_step (mB53HI0 HB.out) hb)
    clear HO182 HI0 BK175 BK178 BK179 BK188 HK HB
    obtain ⟨HO182, HO187, HI0, BK175, BK178, BK179, BK188, HK, HB⟩ := n_
    clear hb ho26
    obtain ⟨Ao27, co27, eo27⟩ := Kd.N_slice HO187.out
    (first | subst eo27 | (injection eo27 with f1_ f2_ f3_; have f4_ := f1_.symm; have f5_ := f3_.symm; clear f1_ f2_ f3_; subst f4_; subst f5_))
    refine hK.out _ _ q32_1 (fun hHeld => ?_)
    clear hK K
    refine norm_ (a' := ?_) ?_ ?_
    rotate_left
    ·show Act.put _ (some 18) _ = _
     simp only [Act.put, List.setIfInBounds_toArray, List.set_cons_zero, List.set_cons_succ, i64_w, i32_w]
     rfl
    refine pure_ (i := 6) (N := some 19) (v := ?_) (a' := ?_) #[true, true, true, true, true, true, true, true, false] rfl rfl (any_of HT_.out (by kernel_rfl)) (fun _ _ _ h => h) (Or.inl ⟨by rfl, ?_⟩) ?_ ?_
    rotate_left
    ·intro w'
     go_simp
     with_reducible rfl
    rotate_left
    ·simp only [Act.put, List.setIfInBounds_toArray, List.set_cons_zero, List.set_cons_succ, i64_w, i32_w]
     rfl
    exact norm_ q32_4 (hCont (.slice Ao23 y180.length co23, .slice Ao27 y185.length co27, gb188) _ ⟨hHeld, q32_8, q32_6, (mK BK175.out), (mK BK178.out), (mK BK179.out), (mK BK188.out), GW188.out, GE188.out, NB0_188.out, NB188_0.out, NB175_188.out, NB188_175.out, NB178_188.out, NB188_178.out, NB179_188.out, NB188_179.out, (mI53_1 HI0.out), (mKp HK.out), (mB53HI0 HB.out)⟩)
  ·skip
   refine box_step ?hg (N := 5) ?hd (cs := #[.int .i64 0, .int .i64 0, .int .i64 0, .int .i64 0, .slice none 0 0]) (t := 31) ?hr ?_; (case hd => rfl); (case hg => rfl); (case hr => first | (go_simp; done) | (go_simp; rfl))
   intro gb188 hg w20 hbox hb
   have n_ := az (IsS53.below (mI53_1 HI0.out) hb) <| az (bB BK175.out hb) <| az (bB BK178.out hb) <| az (bB BK179.out hb) <| az (KeepBut.trans (mKp HK.out) (KeepBut.of_below hb g none) (.inl rfl)) <| az (below_step (mB53HI0 HB.out) hb) <| az (hbox) <| az ((gW hg HK.out)) <| az ((Nat.le_trans HW0.out (gW hg HK.out) : w0.heap.size ≤ gb188)) <| az ((nL hg BK175.out)) <| az ((nG hg BK175.out)) <| az ((nL hg BK178.out)) <| az ((nG hg BK178.out)) <| az ((nL hg BK179.out)) <| az ((nG hg BK179.out)) <| And.intro (z0 ((by rw [hg]; exact Nat.ne_of_lt (IsS53.lt (show IsS53 w0 _ g s0_0 t177 from mI53_1 HI0.out)) : g ≠ gb188))) <| z0 ((by rw [hg]; exact Nat.ne_of_gt (IsS53.lt (show IsS53 w0 _ g s0_0 t177 from mI53_1 HI0.out)) : gb188 ≠ g))
   clear HI0 BK175 BK178 BK179 HK HB
   obtain ⟨HI0, BK175, BK178, BK179, HK, HB, BK188, GW188, GE188, NB175_188, NB188_175, NB178_188, NB188_178, NB179_188, NB188_179, NB0_188, NB188_0⟩ := n_
   clear hb hbox hg
   refine hK.out _ _ q32_1 (fun hHeld => ?_)
   clear hK K
   refine norm_ (a' := ?_) ?_ ?_
   rotate_left
   ·show Act.put _ (some 5) _ = _
    simp only [Act.put, List.setIfInBounds_toArray, List.set_cons_zero, List.set_cons_succ, i64_w, i32_w]
    rfl
   refine one_ (i := 2) (N := some 15) #[true, true, true, false, false, false, false, true, false] rfl rfl (one_of HT_.out (by kernel_rfl)) (by decide) (fun K hK => ?_)
   refine Kd.R_lit_step (Kd.int .i64) _ 3 ?hg (N := 15) ?hd (xs := ([1, 3, 5, 9, 200] : List Int)) (inner := [.int .i64 1, .int .i64 3, .int .i64 5, .int .i64 9, .int .i64 200]) (ok := fun _ => True) (okp := fun _ => True) ?hr ?hp (fun _ hk => hk) trivial (Below.refl _ _) (Nat.le_refl _) (by simp) ?_; (case hd => rfl); (case hg => rfl); (case hr => first | (go_simp; done) | (go_simp; rfl)); (case hp => exact (Reps.one (show Kd.M (Kd.int .i64) _ _ _ 1 [.int .i64 1] from rfl) (Reps.one (show Kd.M (Kd.int .i64) _ _ _ 3 [.int .i64 3] from rfl) (Reps.one (show Kd.M (Kd.int .i64) _ _ _ 5 [.int .i64 5] from rfl) (Reps.one (show Kd.M (Kd.int .i64) _ _ _ 9 [.int .i64 9] from rfl) (Reps.one (show Kd.M (Kd.int .i64) _ _ _ 200 [.int .i64 200] from rfl) (Reps.none _ _)))))))
   intro v181 w21 ho22 hb hg_ hnew_
   clear hg_ hnew_
   (first | rw [← Ny180.out] at ho22 | (simp only [Int.reduceToNat] at ho22; rw [← Ny180.out] at ho22))
   have n_ := And.intro (z0 (Kd.R_lower (Kd.R_newM (M := fun k_ => (w.heap.size ≤ k_)) ho22 (kS HK.out) (fun k_ h_ => h_)) (kS HK.out))) <| az (IsS53.below (mI53_1 HI0.out) hb) <| az (bB BK175.out hb) <| az (bB BK178.out hb) <| az (bB BK179.out hb) <| az (bB BK188.out hb) <| az (KeepBut.trans (mKp HK.out) (KeepBut.of_below hb g none) (.inl rfl)) <| z0 (below_step (mB53HI0 HB.out) hb)
   clear HI0 BK175 BK178 BK179 BK188 HK HB
   obtain ⟨HO182, HI0, BK175, BK178, BK179, BK188, HK, HB⟩ := n_
   clear hb ho22
   obtain ⟨Ao23, co23, eo23⟩ := Kd.R_slice HO182.out
   (first | subst eo23 | (injection eo23 with f1_ f2_ f3_; have f4_ := f1_.symm; have f5_ := f3_.symm; clear f1_ f2_ f3_; subst f4_; subst f5_))
   refine hK.out _ _ q32_1 (fun hHeld => ?_)
   clear hK K
   refine norm_ (a' := ?_) ?_ ?_
   rotate_left
   ·show Act.put _ (some 15) _ = _
    simp only [Act.put, List.setIfInBounds_toArray, List.set_cons_zero, List.set_cons_succ, i64_w, i32_w]
    rfl
   refine one_ (i := 3) (N := some 16) #[true, true, true, true, false, false, false, true, false] rfl rfl (one_of HT_.out (by kernel_rfl)) (by decide) (fun K hK => ?_)
   refine goes_ Tryz.func19 (by kernel_rfl) rfl #[.pointer (some ⟨g, 0, none⟩), .slice Ao23 y180.length co23] (by rfl) rfl rfl argx ?_
   with_reducible refine (spec_l12Rd_num.calls k g s0_0 t177 _ _ y180 t183 t184 w0 _ ?side1 ?side2 ?side3 ?side4 ?side5 A3.out).mono ?_
   (case side1 => exact mI53_1 HI0.out)
   (case side2 => exact mB53HI0 HB.out)
   (case side3 => exact mC (Kd.R_reads' HO182.out).2.2)
   (case side4 => exact (Kd.R_reads' HO182.out).2.1)
   (case side5 => exact far_slice (IsS53.own_ne HI0.out HO182.out (by decide)))
   rintro e w24 ⟨rfl, hi, hb, hk⟩
   refine ⟨_, rfl, ?_⟩
   have n_ := az (kB hk BK175.out NB175_0.out) <| az (kB hk BK178.out NB178_0.out) <| az (kB hk BK179.out NB179_0.out) <| az (kB hk BK188.out NB188_0.out) <| And.intro (z0 (Kd.R_mono (Kd.R_keep (IsS53.apart (show IsS53 w0 _ g s0_0 t177 from mI53_1 HI0.out) (mR HO182.out) (by decide)) hk (fun _ h => h.2)) (fun _ h => h.1))) <| az (KeepBut.trans (mKp HK.out) hk (.inl rfl)) <| az (hb) <| z0 (hi)
   clear BK175 BK178 BK179 BK188 HO182 HK HB HI0
   obtain ⟨BK175, BK178, BK179, BK188, HO182, HK, HB, HI0⟩ := n_
   (try clear hb)
   (try clear hb2)
   (try clear hk)
   (try clear hi)
   refine hK.out _ _ q32_1 (fun hHeld => ?_)
   clear hK K
   refine norm_ (a' := ?_) ?_ ?_
   rotate_left
   ·show Act.put _ (some 16) _ = _
    simp only [Act.put, List.setIfInBounds_toArray, List.set_cons_zero, List.set_cons_succ, i64_w, i32_w]
    rfl
   refine pure_ (i := 4) (N := some 17) (v := ?_) (a' := ?_) #[true, true, true, true, true, false, false, true, false] rfl rfl (any_of HT_.out (by kernel_rfl)) (fun _ _ _ h => h) (Or.inl ⟨by rfl, ?_⟩) ?_ ?_
   rotate_left
   ·intro w'
    go_simp
    with_reducible rfl
   rotate_left
   ·simp only [Act.put, List.setIfInBounds_toArray, List.set_cons_zero, List.set_cons_succ, i64_w, i32_w]
    rfl
   refine one_ (i := 5) (N := some 18) #[true, true, true, true, true, true, false, true, false] rfl rfl (one_of HT_.out (by kernel_rfl)) (by decide) (fun K hK => ?_)
   refine Kd.N_lit_step k31 _ 31 ?hg (N' := 18) ?hd (xs := ([(⟨2, 0, (⟨3, t176⟩ : S28), ([] : List (S31))⟩ : S31), (⟨1, t183, (⟨0, 0⟩ : S28), ([] : List (S31))⟩ : S31)] : List (S31))) (inner := [.int .i64 2, .int .i64 0, .int .i64 3, .int .i64 t176, .slice none 0 0, .int .i64 1, .int .i64 t183, .int .i64 0, .int .i64 0, .slice none 0 0]) (ok := (fun k_ => (w.heap.size ≤ k_) ∧ nB k_ (.slice Ao23 y180.length co23) ∧ k_ ≠ gb175 ∧ k_ ≠ gb178 ∧ k_ ≠ gb179 ∧ k_ ≠ gb188 ∧ k_ ≠ g)) (okp := (fun k_ => (w.heap.size ≤ k_) ∧ nB k_ (.slice Ao23 y180.length co23) ∧ k_ ≠ gb175 ∧ k_ ≠ gb178 ∧ k_ ≠ gb179 ∧ k_ ≠ gb188 ∧ k_ ≠ g)) ?hr ?hp (fun _ hk => hk) ((show ∀ k_, w24.heap.size ≤ k_ → (fun k_ => (w.heap.size ≤ k_) ∧ nB k_ (.slice Ao23 y180.length co23) ∧ k_ ≠ gb175 ∧ k_ ≠ gb178 ∧ k_ ≠ gb179 ∧ k_ ≠ gb188 ∧ k_ ≠ g) k_ from fun k_ hk => ⟨(Nat.le_trans (kS HK.out) hk), Kd.fresh' (Kd.R_lt (mR HO182.out)) k_ hk, fB BK175.out hk, fB BK178.out hk, fB BK179.out hk, fB BK188.out hk, IsS53.fresh (mI53_1 HI0.out) k_ hk⟩) _ (Nat.le_refl _)) (Below.refl _ _) (Nat.le_refl _) (by simp) ?_; (case hd => rfl); (case hg => rfl); (case hr => first | (go_simp; done) | (go_simp; rfl)); (case hp => exact (Reps.c5 (show Kd.FK k31 _ _ (⟨2, 0, (⟨3, t176⟩ : S28), ([] : List (S31))⟩ : S31) [.int .i64 2, .int .i64 0, .int .i64 3, .int .i64 t176, .slice none 0 0] from (k31_mkF _ _ (⟨2, 0, (⟨3, t176⟩ : S28), ([] : List (S31))⟩ : S31) (Nat.le_refl _) (Kd.F_nil _ _ _))) (Reps.c5 (show Kd.FK k31 _ _ (⟨1, t183, (⟨0, 0⟩ : S28), ([] : List (S31))⟩ : S31) [.int .i64 1, .int .i64 t183, .int .i64 0, .int .i64 0, .slice none 0 0] from (k31_mkF _ _ (⟨1, t183, (⟨0, 0⟩ : S28), ([] : List (S31))⟩ : S31) (Nat.le_refl _) (Kd.F_nil _ _ _))) (Reps.none _ _))))
   intro v186 w25 ho26 hb hg_ hnew_
   clear hg_ hnew_
   (first | rw [← Ny185.out] at ho26 | (simp only [Int.reduceToNat] at ho26; rw [← Ny185.out] at ho26))
   have n_ := az (Kd.R_below (mR HO182.out) hb) <| az (Kd.N_lower ho26 (kS HK.out)) <| az (IsS53.below (mI53_1 HI0.out) hb) <| az (bB BK175.out hb) <| az (bB BK178.out hb) <| az (bB BK179.out hb) <| az (bB BK188.out hb) <| az (KeepBut.trans (mKp HK.out) (KeepBut.of_below hb g none) (.inl rfl)) <| z0 (below_step (mB53HI0 HB.out) hb)
   clear HO182 HI0 BK175 BK178 BK179 BK188 HK HB
   obtain ⟨HO182, HO187, HI0, BK175, BK178, BK179, BK188, HK, HB⟩ := n_
   clear hb ho26
   obtain ⟨Ao27, co27, eo27⟩ := Kd.N_slice HO187.out
   (first | subst eo27 | (injection eo27 with f1_ f2_ f3_; have f4_ := f1_.symm; have f5_ := f3_.symm; clear f1_ f2_ f3_; subst f4_; subst f5_))
   refine hK.out _ _ q32_1 (fun hHeld => ?_)
   clear hK K
   refine norm_ (a' := ?_) ?_ ?_
   rotate_left
   ·show Act.put _ (some 18) _ = _
    simp only [Act.put, List.setIfInBounds_toArray, List.set_cons_zero, List.set_cons_succ, i64_w, i32_w]
    rfl
   refine pure_ (i := 6) (N := some 19) (v := ?_) (a' := ?_) #[true, true, true, true, true, true, true, true, false] rfl rfl (any_of HT_.out (by kernel_rfl)) (fun _ _ _ h => h) (Or.inl ⟨by rfl, ?_⟩) ?_ ?_
   rotate_left
   ·intro w'
    go_simp
    with_reducible rfl
   rotate_left
   ·simp only [Act.put, List.setIfInBounds_toArray, List.set_cons_zero, List.set_cons_succ, i64_w, i32_w]
    rfl
   exact norm_ q32_4 (hCont (.slice Ao23 y180.length co23, .slice Ao27 y185.length co27, gb188) _ ⟨hHeld, q32_8, q32_6, (mK BK175.out), (mK BK178.out), (mK BK179.out), (mK BK188.out), GW188.out, GE188.out, NB0_188.out, NB188_0.out, NB175_188.out, NB188_175.out, NB178_188.out, NB188_178.out, NB179_188.out, NB188_179.out, (mI53_1 HI0.out), (mKp HK.out), (mB53HI0 HB.out)⟩)
 rintro ⟨v181, v186, gb188⟩ w28 ⟨hS_, h0_, h1_, h2_, h3_, h4_, h5_, h6_, h7_, h8_, h9_, h10_, h11_, h12_, h13_, h14_, h15_, h16_, h17_, h18_⟩
 have n0_ : Aside0 (Kd.R (Kd.int .i64) 3 w28 w.heap.size (fun k_ => (w.heap.size ≤ k_)) v181 y180) := ⟨h0_⟩
 have n1_ : Aside0 (Kd.N k31 31 w28 w.heap.size (fun k_ => (w.heap.size ≤ k_) ∧ nB k_ v181 ∧ k_ ≠ g ∧ k_ ≠ gb175 ∧ k_ ≠ gb178 ∧ k_ ≠ gb179 ∧ k_ ≠ gb188) v186 y185) := ⟨h1_⟩
 have n2_ : Aside0 (w28.heap[gb175]? = some (.cells #[.int .i64 0, .int .i64 0, .int .i64 0, .int .i64 0, .int .i64 0, .int .i64 0, .int .i64 0, .slice none 0 0, .slice none 0 0, .slice none 0 0] 33 (0, 0))) := ⟨h2_⟩
 have n3_ : Aside0 (w28.heap[gb178]? = some (.cells #[.int .i64 3, .int .i64 t176] 28 (0, 0))) := ⟨h3_⟩
 have n4_ : Aside0 (w28.heap[gb179]? = some (.cells #[.int .i64 2, .int .i64 0, .int .i64 3, .int .i64 t176, .slice none 0 0] 31 (0, 0))) := ⟨h4_⟩
 have n5_ : Aside0 (w28.heap[gb188]? = some (.cells #[.int .i64 0, .int .i64 0, .int .i64 0, .int .i64 0, .slice none 0 0] 31 (0, 0))) := ⟨h5_⟩
 have n6_ : Aside0 (w.heap.size ≤ gb188) := ⟨h6_⟩
 have n7_ : Aside0 (w0.heap.size ≤ gb188) := ⟨h7_⟩
 have n8_ : Aside0 (g ≠ gb188) := ⟨h8_⟩
 have n9_ : Aside0 (gb188 ≠ g) := ⟨h9_⟩
 have n10_ : Aside0 (gb175 ≠ gb188) := ⟨h10_⟩
 have n11_ : Aside0 (gb188 ≠ gb175) := ⟨h11_⟩
 have n12_ : Aside0 (gb178 ≠ gb188) := ⟨h12_⟩
 have n13_ : Aside0 (gb188 ≠ gb178) := ⟨h13_⟩
 have n14_ : Aside0 (gb179 ≠ gb188) := ⟨h14_⟩
 have n15_ : Aside0 (gb188 ≠ gb179) := ⟨h15_⟩
 have n16_ : Aside0 (IsS53 w0 w28 g s0_0 t184) := ⟨h16_⟩
 have n17_ : Aside0 (KeepBut w w28 g none) := ⟨h17_⟩
 have n18_ : Aside0 (Below w0.heap.size w0 w28) := ⟨h18_⟩
 clear BK175 BK178 BK179 HI0 HK HB h0_ h1_ h2_ h3_ h4_ h5_ h6_ h7_ h8_ h9_ h10_ h11_ h12_ h13_ h14_ h15_ h16_ h17_ h18_
 have HO182 := n0_
 have HO187 := n1_
 have BK175 := n2_
 have BK178 := n3_
 have BK179 := n4_
 have BK188 := n5_
 have GW188 := n6_
 have GE188 := n7_
 have NB0_188 := n8_
 have NB188_0 := n9_
 have NB175_188 := n10_
 have NB188_175 := n11_
 have NB178_188 := n12_
 have NB188_178 := n13_
 have NB179_188 := n14_
 have NB188_179 := n15_
 have HI0 := n16_
 have HK := n17_
 have HB := n18_
 clear n0_ n1_ n2_ n3_ n4_ n5_ n6_ n7_ n8_ n9_ n10_ n11_ n12_ n13_ n14_ n15_ n16_ n17_ n18_
 have hHeld : w28.cell? ⟨gb179, 0, none⟩ = some (.int .i64 2) ∧ w28.cell? ⟨gb179, 1, none⟩ = some (.int .i64 0) ∧ w28.cell? ⟨gb179, 2, none⟩ = some (.int .i64 3) ∧ w28.cell? ⟨gb179, 3, none⟩ = some (.int .i64 t176) ∧ w28.cell? ⟨gb179, 4, none⟩ = some (.slice none 0 0) := hS_
 obtain ⟨Ao29, co29, eo29⟩ := Kd.N_slice HO187.out
 (first | subst eo29 | (injection eo29 with f1_ f2_ f3_; have f4_ := f1_.symm; have f5_ := f3_.symm; clear f1_ f2_ f3_; subst f4_; subst f5_))
 refine norm_ (a' := ?_) ?_ ?_
 rotate_left
 ·simp only [putAll, Act.put, List.setIfInBounds_toArray, List.set_cons_zero, List.set_cons_succ]
  rfl
 refine one_ (i := 8) (N := none) #[true, true, true, true, true, true, true, true, true] rfl rfl (one_of HT_.out (by kernel_rfl)) (by decide) (fun K hK => ?_)
 have hs30 : w28.cell? ⟨gb188, 0, none⟩ = some (.int .i64 0) := (blk_cell BK188.out 0).trans rfl
 have hfs30 := blk_frozen BK188.out 0
 have hns30_0 := NB175_188.out
 have hns30_1 := NB178_188.out
 have hns30_2 := NB179_188.out
 have hms30_0 := NB188_175.out
 have hms30_1 := NB188_178.out
 have hms30_2 := NB188_179.out
 have hs31 : w28.cell? ⟨gb188, 1, none⟩ = some (.int .i64 0) := (blk_cell BK188.out 1).trans rfl
 have hfs31 := blk_frozen BK188.out 1
 have hns31_0 := NB175_188.out
 have hns31_1 := NB178_188.out
 have hns31_2 := NB179_188.out
 have hms31_0 := NB188_175.out
 have hms31_1 := NB188_178.out
 have hms31_2 := NB188_179.out
 have hs32 : w28.cell? ⟨gb188, 2, none⟩ = some (.int .i64 0) := (blk_cell BK188.out 2).trans rfl
 have hfs32 := blk_frozen BK188.out 2
 have hns32_0 := NB175_188.out
 have hns32_1 := NB178_188.out
 have hns32_2 := NB179_188.out
 have hms32_0 := NB188_175.out
 have hms32_1 := NB188_178.out
 have hms32_2 := NB188_179.out
 have hs33 : w28.cell? ⟨gb188, 3, none⟩ = some (.int .i64 0) := (blk_cell BK188.out 3).trans rfl
 have hfs33 := blk_frozen BK188.out 3
 have hns33_0 := NB175_188.out
 have hns33_1 := NB178_188.out
 have hns33_2 := NB179_188.out
 have hms33_0 := NB188_175.out
 have hms33_1 := NB188_178.out
 have hms33_2 := NB188_179.out
 have hs34 : w28.cell? ⟨gb188, 4, none⟩ = some (.slice none 0 0) := (blk_cell BK188.out 4).trans rfl
 have hfs34 := blk_frozen BK188.out 4
 have hns34_0 := NB175_188.out
 have hns34_1 := NB178_188.out
 have hns34_2 := NB179_188.out
 have hms34_0 := NB188_175.out
 have hms34_1 := NB188_178.out
 have hms34_2 := NB188_179.out
 refine skip_ (w1 := ?_) (by rfl) rfl ?_ ?_
 rotate_left
 ·go_simp
  rfl
 refine hK.out _ _ ⟨((cell_far (p := ⟨gb188, _, none⟩) NB179_188.out _).trans (((cell_far (p := ⟨gb188, _, none⟩) NB179_188.out _).trans (((cell_far (p := ⟨gb188, _, none⟩) NB179_188.out _).trans (((cell_far (p := ⟨gb188, _, none⟩) NB179_188.out _).trans (((cell_far (p := ⟨gb188, _, none⟩) NB179_188.out _).trans (hHeld.1)))))))))), ((cell_far (p := ⟨gb188, _, none⟩) NB179_188.out _).trans (((cell_far (p := ⟨gb188, _, none⟩) NB179_188.out _).trans (((cell_far (p := ⟨gb188, _, none⟩) NB179_188.out _).trans (((cell_far (p := ⟨gb188, _, none⟩) NB179_188.out _).trans (((cell_far (p := ⟨gb188, _, none⟩) NB179_188.out _).trans (hHeld.2.1)))))))))), ((cell_far (p := ⟨gb188, _, none⟩) NB179_188.out _).trans (((cell_far (p := ⟨gb188, _, none⟩) NB179_188.out _).trans (((cell_far (p := ⟨gb188, _, none⟩) NB179_188.out _).trans (((cell_far (p := ⟨gb188, _, none⟩) NB179_188.out _).trans (((cell_far (p := ⟨gb188, _, none⟩) NB179_188.out _).trans (hHeld.2.2.1)))))))))), ((cell_far (p := ⟨gb188, _, none⟩) NB179_188.out _).trans (((cell_far (p := ⟨gb188, _, none⟩) NB179_188.out _).trans (((cell_far (p := ⟨gb188, _, none⟩) NB179_188.out _).trans (((cell_far (p := ⟨gb188, _, none⟩) NB179_188.out _).trans (((cell_far (p := ⟨gb188, _, none⟩) NB179_188.out _).trans (hHeld.2.2.2.1)))))))))), ((cell_far (p := ⟨gb188, _, none⟩) NB179_188.out _).trans (((cell_far (p := ⟨gb188, _, none⟩) NB179_188.out _).trans (((cell_far (p := ⟨gb188, _, none⟩) NB179_188.out _).trans (((cell_far (p := ⟨gb188, _, none⟩) NB179_188.out _).trans (((cell_far (p := ⟨gb188, _, none⟩) NB179_188.out _).trans (hHeld.2.2.2.2))))))))))⟩ (fun hHeld => ?_)
 clear hK K
 refine done_ (done_of HT_.out (by kernel_rfl)) ?_
 try go_wp2
 have n0_ : Aside0 (Kd.R (Kd.int .i64) 3 (((((w28.setCell ⟨gb188, 0, none⟩ (.int .i64 6)).setCell ⟨gb188, 1, none⟩ (.int .i64 0)).setCell ⟨gb188, 2, none⟩ (.int .i64 0)).setCell ⟨gb188, 3, none⟩ (.int .i64 0)).setCell ⟨gb188, 4, none⟩ (.slice Ao29 y185.length co29)) w.heap.size (fun k_ => (w.heap.size ≤ k_)) v181 y180) := ⟨by (with_reducible repeat (first | apply Kd.R_alloc | apply Kd.R_drewN | apply Kd.R_drew)); exact Kd.R_mono (Kd.R_far (p := ⟨gb188, 4, none⟩) (Kd.R_far (p := ⟨gb188, 3, none⟩) (Kd.R_far (p := ⟨gb188, 2, none⟩) (Kd.R_far (p := ⟨gb188, 1, none⟩) (Kd.R_far (p := ⟨gb188, 0, none⟩) (Kd.R_types HO182.out BK188.out (by decide)) (fun _ hk => hk.2) (.int .i64 6)) (fun _ hk => hk.2) (.int .i64 0)) (fun _ hk => hk.2) (.int .i64 0)) (fun _ hk => hk.2) (.int .i64 0)) (fun _ hk => hk.2) (.slice Ao29 y185.length co29)) (fun _ hk => hk.1)⟩
 have n1_ : Aside0 (Kd.N k31 31 (((((w28.setCell ⟨gb188, 0, none⟩ (.int .i64 6)).setCell ⟨gb188, 1, none⟩ (.int .i64 0)).setCell ⟨gb188, 2, none⟩ (.int .i64 0)).setCell ⟨gb188, 3, none⟩ (.int .i64 0)).setCell ⟨gb188, 4, none⟩ (.slice Ao29 y185.length co29)) w.heap.size (fun k_ => (w.heap.size ≤ k_) ∧ nB k_ v181 ∧ k_ ≠ g ∧ k_ ≠ gb175 ∧ k_ ≠ gb178 ∧ k_ ≠ gb179 ∧ k_ ≠ gb188) (.slice Ao29 y185.length co29) y185) := ⟨by (with_reducible repeat (first | apply Kd.N_alloc | apply Kd.N_drewN | apply Kd.N_drew)); exact Kd.N_mono (Kd.N_far (p := ⟨gb188, 4, none⟩) (Kd.N_far (p := ⟨gb188, 3, none⟩) (Kd.N_far (p := ⟨gb188, 2, none⟩) (Kd.N_far (p := ⟨gb188, 1, none⟩) (Kd.N_far (p := ⟨gb188, 0, none⟩) (Kd.N_mono HO187.out (fun k_ hk => (⟨hk, hk.2.2.2.2.2.2⟩ : _ ∧ k_ ≠ gb188))) (fun _ hk => hk.2) (.int .i64 6)) (fun _ hk => hk.2) (.int .i64 0)) (fun _ hk => hk.2) (.int .i64 0)) (fun _ hk => hk.2) (.int .i64 0)) (fun _ hk => hk.2) (.slice Ao29 y185.length co29)) (fun _ hk => ⟨hk.1.1, ⟨hk.1.2.1, ⟨hk.1.2.2.1, ⟨hk.1.2.2.2.1, ⟨hk.1.2.2.2.2.1, ⟨hk.1.2.2.2.2.2.1, hk.1.2.2.2.2.2.2⟩⟩⟩⟩⟩⟩)⟩
 have n2_ : Aside0 ((((((w28.setCell ⟨gb188, 0, none⟩ (.int .i64 6)).setCell ⟨gb188, 1, none⟩ (.int .i64 0)).setCell ⟨gb188, 2, none⟩ (.int .i64 0)).setCell ⟨gb188, 3, none⟩ (.int .i64 0)).setCell ⟨gb188, 4, none⟩ (.slice Ao29 y185.length co29)).heap[gb175]? = some (.cells #[.int .i64 0, .int .i64 0, .int .i64 0, .int .i64 0, .int .i64 0, .int .i64 0, .int .i64 0, .slice none 0 0, .slice none 0 0, .slice none 0 0] 33 (0, 0))) := ⟨mF BK175.out⟩
 have n3_ : Aside0 ((((((w28.setCell ⟨gb188, 0, none⟩ (.int .i64 6)).setCell ⟨gb188, 1, none⟩ (.int .i64 0)).setCell ⟨gb188, 2, none⟩ (.int .i64 0)).setCell ⟨gb188, 3, none⟩ (.int .i64 0)).setCell ⟨gb188, 4, none⟩ (.slice Ao29 y185.length co29)).heap[gb178]? = some (.cells #[.int .i64 3, .int .i64 t176] 28 (0, 0))) := ⟨mF BK178.out⟩
 have n4_ : Aside0 ((((((w28.setCell ⟨gb188, 0, none⟩ (.int .i64 6)).setCell ⟨gb188, 1, none⟩ (.int .i64 0)).setCell ⟨gb188, 2, none⟩ (.int .i64 0)).setCell ⟨gb188, 3, none⟩ (.int .i64 0)).setCell ⟨gb188, 4, none⟩ (.slice Ao29 y185.length co29)).heap[gb179]? = some (.cells #[.int .i64 2, .int .i64 0, .int .i64 3, .int .i64 t176, .slice none 0 0] 31 (0, 0))) := ⟨mF BK179.out⟩
 have n5_ : Aside0 ((((((w28.setCell ⟨gb188, 0, none⟩ (.int .i64 6)).setCell ⟨gb188, 1, none⟩ (.int .i64 0)).setCell ⟨gb188, 2, none⟩ (.int .i64 0)).setCell ⟨gb188, 3, none⟩ (.int .i64 0)).setCell ⟨gb188, 4, none⟩ (.slice Ao29 y185.length co29)).heap[gb188]? = some (.cells #[.int .i64 6, .int .i64 0, .int .i64 0, .int .i64 0, .slice Ao29 y185.length co29] 31 (0, 0))) := ⟨pF BK188.out⟩
 have n6_ : Aside0 (IsS53 w0 (((((w28.setCell ⟨gb188, 0, none⟩ (.int .i64 6)).setCell ⟨gb188, 1, none⟩ (.int .i64 0)).setCell ⟨gb188, 2, none⟩ (.int .i64 0)).setCell ⟨gb188, 3, none⟩ (.int .i64 0)).setCell ⟨gb188, 4, none⟩ (.slice Ao29 y185.length co29)) g s0_0 t184) := ⟨mI53_1 HI0.out⟩
 have n7_ : Aside0 (KeepBut w (((((w28.setCell ⟨gb188, 0, none⟩ (.int .i64 6)).setCell ⟨gb188, 1, none⟩ (.int .i64 0)).setCell ⟨gb188, 2, none⟩ (.int .i64 0)).setCell ⟨gb188, 3, none⟩ (.int .i64 0)).setCell ⟨gb188, 4, none⟩ (.slice Ao29 y185.length co29)) g none) := ⟨mKp HK.out⟩
 have n8_ : Aside0 (Below w0.heap.size w0 (((((w28.setCell ⟨gb188, 0, none⟩ (.int .i64 6)).setCell ⟨gb188, 1, none⟩ (.int .i64 0)).setCell ⟨gb188, 2, none⟩ (.int .i64 0)).setCell ⟨gb188, 3, none⟩ (.int .i64 0)).setCell ⟨gb188, 4, none⟩ (.slice Ao29 y185.length co29))) := ⟨mB53HI0 HB.out⟩
 (try clear HO182)
 (try clear HO187)
 (try clear BK175)
 (try clear BK178)
 (try clear BK179)
 (try clear BK188)
 (try clear HI0)
 (try clear HK)
 (try clear HB)
 generalize (((((w28.setCell ⟨gb188, 0, none⟩ (.int .i64 6)).setCell ⟨gb188, 1, none⟩ (.int .i64 0)).setCell ⟨gb188, 2, none⟩ (.int .i64 0)).setCell ⟨gb188, 3, none⟩ (.int .i64 0)).setCell ⟨gb188, 4, none⟩ (.slice Ao29 y185.length co29)) = w35 at n0_ n1_ n2_ n3_ n4_ n5_ n6_ n7_ n8_ ⊢
 have HO182 := n0_
 have HO187 := n1_
 have BK175 := n2_
 have BK178 := n3_
 have BK179 := n4_
 have BK188 := n5_
 have HI0 := n6_
 have HK := n7_
 have HB := n8_
 clear n0_ n1_ n2_ n3_ n4_ n5_ n6_ n7_ n8_
 have n_ := az (Kd.R_drew HO182.out) <| az (Kd.N_drew HO187.out) <| az (blk_drew BK175.out) <| az (blk_drew BK178.out) <| az (blk_drew BK179.out) <| az (blk_drew BK188.out) <| az (IsS53.drew HI0.out) <| az (keep_drew HK.out) <| z0 (below_drew1 HB.out)
 clear HO182 HO187 BK175 BK178 BK179 BK188 HI0 HK HB
 obtain ⟨HO182, HO187, BK175, BK178, BK179, BK188, HI0, HK, HB⟩ := n_
 refine start_ (n := 9) (S := fun w' => w'.cell? ⟨gb179, 0, none⟩ = some (.int .i64 2) ∧ w'.cell? ⟨gb179, 1, none⟩ = some (.int .i64 0) ∧ w'.cell? ⟨gb179, 2, none⟩ = some (.int .i64 3) ∧ w'.cell? ⟨gb179, 3, none⟩ = some (.int .i64 t176) ∧ w'.cell? ⟨gb179, 4, none⟩ = some (.slice none 0 0)) (ds := []) #[false, false, false, false, false, false, false, false, false] (by kernel_rfl) rfl rfl q32_1 (fun hHeld => ?_); refine with_tabW spec_l4Count.tab4 spec_l4Count.bits4 (fun HT_ HW_ => ?_)
 generalize w35.drew = w36 at HO182 HO187 BK175 BK178 BK179 BK188 HI0 HK HB hHeld ⊢
 refine pure_ (i := 1) (N := some 21) (v := ?_) (a' := ?_) #[false, true, false, false, false, false, false, false, false] rfl rfl (any_of HT_.out (by kernel_rfl)) (fun _ _ _ h => h) (Or.inl ⟨by rfl, ?_⟩) ?_ ?_
 rotate_left
 ·intro w'
  go_simp
  with_reducible rfl
 rotate_left
 ·simp only [Act.put, List.setIfInBounds_toArray, List.set_cons_zero, List.set_cons_succ, i64_w, i32_w]
  rfl
 refine take_ (i := 0) (N := some 20) (v := ?_) (a' := ?_) #[true, true, false, false, false, false, false, false, false] rfl rfl (take_ofW HT_.out HW_.out (by kernel_rfl)) (fun _ _ _ h => h) (Or.inl ⟨by rfl, ?_⟩) hHeld ?_ ?_
 rotate_left
 ·rintro w' ⟨s0, s1, s2, s3, s4⟩
  go_simp
  with_reducible rfl
 rotate_left
 ·simp only [Act.put, List.setIfInBounds_toArray, List.set_cons_zero, List.set_cons_succ, i64_w, i32_w]
  rfl
 refine join_ (σ := Value × Value × Nat) 1 #[true, true, true, true, true, true, true, true, false] (fun s_ => [(22, s_.1), (23, .int .i64 t192), (25, s_.2.1), (6, .pointer (some ⟨s_.2.2, 0, none⟩)), (24, .agg #[.int .i64 1, .int .i64 t192, .int .i64 0, .int .i64 0, .slice none 0 0]), (26, .agg #[.int .i64 3, .int .i64 0, .int .i64 0, .int .i64 0, s_.2.1])]) (fun s_ w' => (w'.cell? ⟨gb179, 0, none⟩ = some (.int .i64 2) ∧ w'.cell? ⟨gb179, 1, none⟩ = some (.int .i64 0) ∧ w'.cell? ⟨gb179, 2, none⟩ = some (.int .i64 3) ∧ w'.cell? ⟨gb179, 3, none⟩ = some (.int .i64 t176) ∧ w'.cell? ⟨gb179, 4, none⟩ = some (.slice none 0 0)) ∧ (Kd.R (Kd.int .i64) 3 w' w.heap.size (fun k_ => (w.heap.size ≤ k_) ∧ some k_ ≠ (s_.1 : Value).ownBlock) v181 y180) ∧ (Kd.N k31 31 w' w.heap.size (fun k_ => (w.heap.size ≤ k_) ∧ nB k_ v181 ∧ some k_ ≠ (s_.1 : Value).ownBlock ∧ some k_ ≠ (s_.2.1 : Value).ownBlock ∧ k_ ≠ g ∧ k_ ≠ gb175 ∧ k_ ≠ gb178 ∧ k_ ≠ gb179 ∧ k_ ≠ gb188 ∧ k_ ≠ s_.2.2) (.slice Ao29 y185.length co29) y185) ∧ (Kd.R (Kd.int .i64) 3 w' w.heap.size (fun k_ => (w.heap.size ≤ k_) ∧ nB k_ v181) s_.1 y189) ∧ (Kd.N k31 31 w' w.heap.size (fun k_ => (w.heap.size ≤ k_) ∧ nB k_ v181 ∧ nB k_ (.slice Ao29 y185.length co29) ∧ some k_ ≠ (s_.1 : Value).ownBlock ∧ k_ ≠ g ∧ k_ ≠ gb175 ∧ k_ ≠ gb178 ∧ k_ ≠ gb179 ∧ k_ ≠ gb188 ∧ k_ ≠ s_.2.2) s_.2.1 y194) ∧ (w'.heap[gb175]? = some (.cells #[.int .i64 0, .int .i64 0, .int .i64 0, .int .i64 0, .int .i64 0, .int .i64 0, .int .i64 0, .slice none 0 0, .slice none 0 0, .slice none 0 0] 33 (0, 0))) ∧ (w'.heap[gb178]? = some (.cells #[.int .i64 3, .int .i64 t176] 28 (0, 0))) ∧ (w'.heap[gb179]? = some (.cells #[.int .i64 2, .int .i64 0, .int .i64 3, .int .i64 t176, .slice none 0 0] 31 (0, 0))) ∧ (w'.heap[gb188]? = some (.cells #[.int .i64 6, .int .i64 0, .int .i64 0, .int .i64 0, .slice Ao29 y185.length co29] 31 (0, 0))) ∧ (w'.heap[s_.2.2]? = some (.cells #[.int .i64 0, .int .i64 0, .int .i64 0, .int .i64 0, .slice none 0 0] 31 (0, 0))) ∧ (w.heap.size ≤ s_.2.2) ∧ (w0.heap.size ≤ s_.2.2) ∧ (g ≠ s_.2.2) ∧ (s_.2.2 ≠ g) ∧ (gb175 ≠ s_.2.2) ∧ (s_.2.2 ≠ gb175) ∧ (gb178 ≠ s_.2.2) ∧ (s_.2.2 ≠ gb178) ∧ (gb179 ≠ s_.2.2) ∧ (s_.2.2 ≠ gb179) ∧ (gb188 ≠ s_.2.2) ∧ (s_.2.2 ≠ gb188) ∧ (IsS53 w0 w' g s0_0 t193) ∧ (KeepBut w w' g none) ∧ (Below w0.heap.size w0 w')) ?_ ?_
 rotate_left
 ·intro hCont
  refine two_ (i := 2) (j := 7) (Ni := some 22) (Nj := some 6) #[true, true, true, false, false, false, false, false, false] #[true, true, false, false, false, false, false, true, false] rfl rfl rfl rfl (two_of HT_.out (by kernel_rfl)) (by decide) (by decide) (fun K hK => ?_) (fun K hK => ?_)
  ·skip
   refine Kd.R_lit_step (Kd.int .i64) _ 3 ?hg (N := 22) ?hd (xs := ([1, 1, 2, 0] : List Int)) (inner := [.int .i64 1, .int .i64 1, .int .i64 2, .int .i64 0]) (ok := fun _ => True) (okp := fun _ => True) ?hr ?hp (fun _ hk => hk) trivial (Below.refl _ _) (Nat.le_refl _) (by simp) ?_; (case hd => rfl); (case hg => rfl); (case hr => first | (go_simp; done) | (go_simp; rfl)); (case hp => exact (Reps.one (show Kd.M (Kd.int .i64) _ _ _ 1 [.int .i64 1] from rfl) (Reps.one (show Kd.M (Kd.int .i64) _ _ _ 1 [.int .i64 1] from rfl) (Reps.one (show Kd.M (Kd.int .i64) _ _ _ 2 [.int .i64 2] from rfl) (Reps.one (show Kd.M (Kd.int .i64) _ _ _ 0 [.int .i64 0] from rfl) (Reps.none _ _))))))
   intro v190 w37 ho38 hb hg_ hnew_
   clear hg_ hnew_
   (first | rw [← Ny189.out] at ho38 | (simp only [Int.reduceToNat] at ho38; rw [← Ny189.out] at ho38))
   have n_ := az (Kd.R_elder' (mR HO182.out) (by first | exact Kd.R_base ho38 | exact Kd.R_base ho38) hb) <| az (Kd.N_elder' (mN HO187.out) (by first | exact Kd.R_base ho38 | exact Kd.R_base ho38) hb) <| And.intro (z0 (Kd.R_lower (Kd.R_new' (Kd.R_newM (M := fun k_ => (w.heap.size ≤ k_)) ho38 (kS HK.out) (fun k_ h_ => h_)) (Kd.R_lt (mR HO182.out))) (kS HK.out))) <| az (IsS53.below (mI53_1 HI0.out) hb) <| az (bB BK175.out hb) <| az (bB BK178.out hb) <| az (bB BK179.out hb) <| az (bB BK188.out hb) <| az (KeepBut.trans (mKp HK.out) (KeepBut.of_below hb g none) (.inl rfl)) <| z0 (below_step (mB53HI0 HB.out) hb)
   clear HO182 HO187 HI0 BK175 BK178 BK179 BK188 HK HB
   obtain ⟨HO182, HO187, HO191, HI0, BK175, BK178, BK179, BK188, HK, HB⟩ := n_
   clear hb ho38
   obtain ⟨Ao39, co39, eo39⟩ := Kd.R_slice HO191.out
   (first | subst eo39 | (injection eo39 with f1_ f2_ f3_; have f4_ := f1_.symm; have f5_ := f3_.symm; clear f1_ f2_ f3_; subst f4_; subst f5_))
   refine hK.out _ _ q32_1 (fun hHeld => ?_)
   clear hK K
   refine norm_ (a' := ?_) ?_ ?_
   rotate_left
   ·show Act.put _ (some 22) _ = _
    simp only [Act.put, List.setIfInBounds_toArray, List.set_cons_zero, List.set_cons_succ, i64_w, i32_w]
    rfl
   refine two_ (i := 3) (j := 7) (Ni := some 23) (Nj := some 6) #[true, true, true, true, false, false, false, false, false] #[true, true, true, false, false, false, false, true, false] rfl rfl rfl rfl (two_of HT_.out (by kernel_rfl)) (by decide) (by decide) (fun K hK => ?_) (fun K hK => ?_)
   ·skip
    refine goes_ Tryz.func19 (by kernel_rfl) rfl #[.pointer (some ⟨g, 0, none⟩), .slice Ao39 y189.length co39] (by rfl) rfl rfl argx ?_
    with_reducible refine (spec_l12Rd_num.calls k g s0_0 t184 _ _ y189 t192 t193 w0 _ ?side1 ?side2 ?side3 ?side4 ?side5 A4.out).mono ?_
    (case side1 => exact mI53_1 HI0.out)
    (case side2 => exact mB53HI0 HB.out)
    (case side3 => exact mC (Kd.R_reads' HO191.out).2.2)
    (case side4 => exact (Kd.R_reads' HO191.out).2.1)
    (case side5 => exact far_slice (IsS53.own_ne HI0.out HO191.out (by decide)))
    rintro e w40 ⟨rfl, hi, hb, hk⟩
    refine ⟨_, rfl, ?_⟩
    have n_ := az (kB hk BK175.out NB175_0.out) <| az (kB hk BK178.out NB178_0.out) <| az (kB hk BK179.out NB179_0.out) <| And.intro (z0 (Kd.R_mono (Kd.R_keep (IsS53.apart (show IsS53 w0 _ g s0_0 t184 from mI53_1 HI0.out) (mR HO182.out) (by decide)) hk (fun _ h => h.2)) (fun _ h => h.1))) <| And.intro (z0 (Kd.N_mono (Kd.N_keep (Kd.N_mono (ok := fun k_ => ((((w.heap.size ≤ k_)) ∧ (nB k_ v181 ∧ (k_ ≠ g ∧ (k_ ≠ gb175 ∧ (k_ ≠ gb178 ∧ (k_ ≠ gb179 ∧ k_ ≠ gb188)))))) ∧ nB k_ (.slice Ao39 y189.length co39))) (mN HO187.out) (fun k_ hk_ => (⟨hk_, hk_.1.2.2.1⟩ : _ ∧ k_ ≠ g))) hk (fun _ h => h.2)) (fun _ h => h.1))) <| az (kB hk BK188.out NB188_0.out) <| And.intro (z0 (Kd.R_mono (Kd.R_keep (IsS53.apart (show IsS53 w0 _ g s0_0 t184 from mI53_1 HI0.out) (mR HO191.out) (by decide)) hk (fun _ h => h.2)) (fun _ h => h.1))) <| az (KeepBut.trans (mKp HK.out) hk (.inl rfl)) <| az (hb) <| z0 (hi)
    clear BK175 BK178 BK179 HO182 HO187 BK188 HO191 HK HB HI0
    obtain ⟨BK175, BK178, BK179, HO182, HO187, BK188, HO191, HK, HB, HI0⟩ := n_
    (try clear hb)
    (try clear hb2)
    (try clear hk)
    (try clear hi)
    refine hK.out _ _ q32_1 (fun hHeld => ?_)
    clear hK K
    refine norm_ (a' := ?_) ?_ ?_
    rotate_left
    ·show Act.put _ (some 23) _ = _
     simp only [Act.put, List.setIfInBounds_toArray, List.set_cons_zero, List.set_cons_succ, i64_w, i32_w]
     rfl
    refine pure_ (i := 4) (N := some 24) (v := ?_) (a' := ?_) #[true, true, true, true, true, false, false, false, false] rfl rfl (any_of HT_.out (by kernel_rfl)) (fun _ _ _ h => h) (Or.inl ⟨by rfl, ?_⟩) ?_ ?_
    rotate_left
    ·intro w'
     go_simp
     with_reducible rfl
    rotate_left
    ·simp only [Act.put, List.setIfInBounds_toArray, List.set_cons_zero, List.set_cons_succ, i64_w, i32_w]
     rfl
    refine two_ (i := 5) (j := 7) (Ni := some 25) (Nj := some 6) #[true, true, true, true, true, true, false, false, false] #[true, true, true, true, true, false, false, true, false] rfl rfl rfl rfl (two_of HT_.out (by kernel_rfl)) (by decide) (by decide) (fun K hK => ?_) (fun K hK => ?_)
    ·skip
     refine Kd.N_lit_step k31 _ 31 ?hg (N' := 25) ?hd (xs := ([(⟨2, 0, (⟨3, t176⟩ : S28), ([] : List (S31))⟩ : S31), (⟨1, t192, (⟨0, 0⟩ : S28), ([] : List (S31))⟩ : S31)] : List (S31))) (inner := [.int .i64 2, .int .i64 0, .int .i64 3, .int .i64 t176, .slice none 0 0, .int .i64 1, .int .i64 t192, .int .i64 0, .int .i64 0, .slice none 0 0]) (ok := (fun k_ => (w.heap.size ≤ k_) ∧ nB k_ v181 ∧ nB k_ (.slice Ao29 y185.length co29) ∧ nB k_ (.slice Ao39 y189.length co39) ∧ k_ ≠ gb175 ∧ k_ ≠ gb178 ∧ k_ ≠ gb179 ∧ k_ ≠ gb188 ∧ k_ ≠ g)) (okp := (fun k_ => (w.heap.size ≤ k_) ∧ nB k_ v181 ∧ nB k_ (.slice Ao29 y185.length co29) ∧ nB k_ (.slice Ao39 y189.length co39) ∧ k_ ≠ gb175 ∧ k_ ≠ gb178 ∧ k_ ≠ gb179 ∧ k_ ≠ gb188 ∧ k_ ≠ g)) ?hr ?hp (fun _ hk => hk) ((show ∀ k_, w40.heap.size ≤ k_ → (fun k_ => (w.heap.size ≤ k_) ∧ nB k_ v181 ∧ nB k_ (.slice Ao29 y185.length co29) ∧ nB k_ (.slice Ao39 y189.length co39) ∧ k_ ≠ gb175 ∧ k_ ≠ gb178 ∧ k_ ≠ gb179 ∧ k_ ≠ gb188 ∧ k_ ≠ g) k_ from fun k_ hk => ⟨(Nat.le_trans (kS HK.out) hk), Kd.fresh' (Kd.R_lt (mR HO182.out)) k_ hk, Kd.fresh' (Kd.N_lt (mN HO187.out)) k_ hk, Kd.fresh' (Kd.R_lt (mR HO191.out)) k_ hk, fB BK175.out hk, fB BK178.out hk, fB BK179.out hk, fB BK188.out hk, IsS53.fresh (mI53_1 HI0.out) k_ hk⟩) _ (Nat.le_refl _)) (Below.refl _ _) (Nat.le_refl _) (by simp) ?_; (case hd => rfl); (case hg => rfl); (case hr => first | (go_simp; done) | (go_simp; rfl)); (case hp => exact (Reps.c5 (show Kd.FK k31 _ _ (⟨2, 0, (⟨3, t176⟩ : S28), ([] : List (S31))⟩ : S31) [.int .i64 2, .int .i64 0, .int .i64 3, .int .i64 t176, .slice none 0 0] from (k31_mkF _ _ (⟨2, 0, (⟨3, t176⟩ : S28), ([] : List (S31))⟩ : S31) (Nat.le_refl _) (Kd.F_nil _ _ _))) (Reps.c5 (show Kd.FK k31 _ _ (⟨1, t192, (⟨0, 0⟩ : S28), ([] : List (S31))⟩ : S31) [.int .i64 1, .int .i64 t192, .int .i64 0, .int .i64 0, .slice none 0 0] from (k31_mkF _ _ (⟨1, t192, (⟨0, 0⟩ : S28), ([] : List (S31))⟩ : S31) (Nat.le_refl _) (Kd.F_nil _ _ _))) (Reps.none _ _))))
     intro v195 w41 ho42 hb hg_ hnew_
     clear hg_ hnew_
     (first | rw [← Ny194.out] at ho42 | (simp only [Int.reduceToNat] at ho42; rw [← Ny194.out] at ho42))
     have n_ := az (Kd.R_below (mR HO182.out) hb) <| az (Kd.N_elder' (mN HO187.out) (by first | exact Kd.N_base ho42 | exact Kd.R_base ho42) hb) <| az (Kd.R_below (mR HO191.out) hb) <| az (Kd.N_lower ho42 (kS HK.out)) <| az (IsS53.below (mI53_1 HI0.out) hb) <| az (bB BK175.out hb) <| az (bB BK178.out hb) <| az (bB BK179.out hb) <| az (bB BK188.out hb) <| az (KeepBut.trans (mKp HK.out) (KeepBut.of_below hb g none) (.inl rfl)) <| z0 (below_step (mB53HI0 HB.out) hb)
     clear HO182 HO187 HO191 HI0 BK175 BK178 BK179 BK188 HK HB
     obtain ⟨HO182, HO187, HO191, HO196, HI0, BK175, BK178, BK179, BK188, HK, HB⟩ := n_
     clear hb ho42
     obtain ⟨Ao43, co43, eo43⟩ := Kd.N_slice HO196.out
     (first | subst eo43 | (injection eo43 with f1_ f2_ f3_; have f4_ := f1_.symm; have f5_ := f3_.symm; clear f1_ f2_ f3_; subst f4_; subst f5_))
     refine hK.out _ _ q32_1 (fun hHeld => ?_)
     clear hK K
     refine norm_ (a' := ?_) ?_ ?_
     rotate_left
     ·show Act.put _ (some 25) _ = _
      simp only [Act.put, List.setIfInBounds_toArray, List.set_cons_zero, List.set_cons_succ, i64_w, i32_w]
      rfl
     refine pure_ (i := 6) (N := some 26) (v := ?_) (a' := ?_) #[true, true, true, true, true, true, true, false, false] rfl rfl (any_of HT_.out (by kernel_rfl)) (fun _ _ _ h => h) (Or.inl ⟨by rfl, ?_⟩) ?_ ?_
     rotate_left
     ·intro w'
      go_simp
      with_reducible rfl
     rotate_left
     ·simp only [Act.put, List.setIfInBounds_toArray, List.set_cons_zero, List.set_cons_succ, i64_w, i32_w]
      rfl
     refine one_ (i := 7) (N := some 6) #[true, true, true, true, true, true, true, true, false] rfl rfl (one_of HT_.out (by kernel_rfl)) (by decide) (fun K hK => ?_)
     refine box_step ?hg (N := 6) ?hd (cs := #[.int .i64 0, .int .i64 0, .int .i64 0, .int .i64 0, .slice none 0 0]) (t := 31) ?hr ?_; (case hd => rfl); (case hg => rfl); (case hr => first | (go_simp; done) | (go_simp; rfl))
     intro gb197 hg w44 hbox hb
     have n_ := az (Kd.R_below (mR HO182.out) hb) <| az (Kd.N_below (Kd.N_elderB (mN HO187.out) gb197 (Nat.le_of_eq hg.symm)) hb) <| az (Kd.R_below (mR HO191.out) hb) <| az (Kd.N_below (Kd.N_elderB (mN HO196.out) gb197 (Nat.le_of_eq hg.symm)) hb) <| az (IsS53.below (mI53_1 HI0.out) hb) <| az (bB BK175.out hb) <| az (bB BK178.out hb) <| az (bB BK179.out hb) <| az (bB BK188.out hb) <| az (KeepBut.trans (mKp HK.out) (KeepBut.of_below hb g none) (.inl rfl)) <| az (below_step (mB53HI0 HB.out) hb) <| az (hbox) <| az ((gW hg HK.out)) <| az ((Nat.le_trans HW0.out (gW hg HK.out) : w0.heap.size ≤ gb197)) <| az ((nL hg BK175.out)) <| az ((nG hg BK175.out)) <| az ((nL hg BK178.out)) <| az ((nG hg BK178.out)) <| az ((nL hg BK179.out)) <| az ((nG hg BK179.out)) <| az ((nL hg BK188.out)) <| az ((nG hg BK188.out)) <| And.intro (z0 ((by rw [hg]; exact Nat.ne_of_lt (IsS53.lt (show IsS53 w0 _ g s0_0 t193 from mI53_1 HI0.out)) : g ≠ gb197))) <| z0 ((by rw [hg]; exact Nat.ne_of_gt (IsS53.lt (show IsS53 w0 _ g s0_0 t193 from mI53_1 HI0.out)) : gb197 ≠ g))
     clear HO182 HO187 HO191 HO196 HI0 BK175 BK178 BK179 BK188 HK HB
     obtain ⟨HO182, HO187, HO191, HO196, HI0, BK175, BK178, BK179, BK188, HK, HB, BK197, GW197, GE197, NB175_197, NB197_175, NB178_197, NB197_178, NB179_197, NB197_179, NB188_197, NB197_188, NB0_197, NB197_0⟩ := n_
     clear hb hbox hg
     refine hK.out _ _ q32_1 (fun hHeld => ?_)
     clear hK K
     refine norm_ (a' := ?_) ?_ ?_
     rotate_left
     ·show Act.put _ (some 6) _ = _
      simp only [Act.put, List.setIfInBounds_toArray, List.set_cons_zero, List.set_cons_succ, i64_w, i32_w]
      rfl
     exact norm_ q32_4 (hCont (.slice Ao39 y189.length co39, .slice Ao43 y194.length co43, gb197) _ ⟨hHeld, (mR HO182.out), (by (with_reducible repeat (first | apply Kd.N_alloc | apply Kd.N_drewN | apply Kd.N_drew)); exact Kd.N_mono HO187.out (fun _ hk => ⟨hk.1.1.1.1, ⟨hk.1.1.1.2.1, ⟨hk.1.1.2, ⟨hk.1.2, ⟨hk.1.1.1.2.2.1, ⟨hk.1.1.1.2.2.2.1, ⟨hk.1.1.1.2.2.2.2.1, ⟨hk.1.1.1.2.2.2.2.2.1, ⟨hk.1.1.1.2.2.2.2.2.2, hk.2⟩⟩⟩⟩⟩⟩⟩⟩⟩)), q32_7, (by (with_reducible repeat (first | apply Kd.N_alloc | apply Kd.N_drewN | apply Kd.N_drew)); exact Kd.N_mono HO196.out (fun _ hk => ⟨hk.1.1, ⟨hk.1.2.1, ⟨hk.1.2.2.1, ⟨hk.1.2.2.2.1, ⟨hk.1.2.2.2.2.2.2.2.2, ⟨hk.1.2.2.2.2.1, ⟨hk.1.2.2.2.2.2.1, ⟨hk.1.2.2.2.2.2.2.1, ⟨hk.1.2.2.2.2.2.2.2.1, hk.2⟩⟩⟩⟩⟩⟩⟩⟩⟩)), (mK BK175.out), (mK BK178.out), (mK BK179.out), (mK BK188.out), (mK BK197.out), GW197.out, GE197.out, NB0_197.out, NB197_0.out, NB175_197.out, NB197_175.out, NB178_197.out, NB197_178.out, NB179_197.out, NB197_179.out, NB188_197.out, NB197_188.out, (mI53_1 HI0.out), (mKp HK.out), (mB53HI0 HB.out)⟩)
    ·skip
     refine box_step ?hg (N := 6) ?hd (cs := #[.int .i64 0, .int .i64 0, .int .i64 0, .int .i64 0, .slice none 0 0]) (t := 31) ?hr ?_; (case hd => rfl); (case hg => rfl); (case hr => first | (go_simp; done) | (go_simp; rfl))
     intro gb197 hg w41 hbox hb
     have n_ := az (Kd.R_below (mR HO182.out) hb) <| az (Kd.N_below (Kd.N_elderB (mN HO187.out) gb197 (Nat.le_of_eq hg.symm)) hb) <| az (Kd.R_below (mR HO191.out) hb) <| az (IsS53.below (mI53_1 HI0.out) hb) <| az (bB BK175.out hb) <| az (bB BK178.out hb) <| az (bB BK179.out hb) <| az (bB BK188.out hb) <| az (KeepBut.trans (mKp HK.out) (KeepBut.of_below hb g none) (.inl rfl)) <| az (below_step (mB53HI0 HB.out) hb) <| az (hbox) <| az ((gW hg HK.out)) <| az ((Nat.le_trans HW0.out (gW hg HK.out) : w0.heap.size ≤ gb197)) <| az ((nL hg BK175.out)) <| az ((nG hg BK175.out)) <| az ((nL hg BK178.out)) <| az ((nG hg BK178.out)) <| az ((nL hg BK179.out)) <| az ((nG hg BK179.out)) <| az ((nL hg BK188.out)) <| az ((nG hg BK188.out)) <| And.intro (z0 ((by rw [hg]; exact Nat.ne_of_lt (IsS53.lt (show IsS53 w0 _ g s0_0 t193 from mI53_1 HI0.out)) : g ≠ gb197))) <| z0 ((by rw [hg]; exact Nat.ne_of_gt (IsS53.lt (show IsS53 w0 _ g s0_0 t193 from mI53_1 HI0.out)) : gb197 ≠ g))
     clear HO182 HO187 HO191 HI0 BK175 BK178 BK179 BK188 HK HB
     obtain ⟨HO182, HO187, HO191, HI0, BK175, BK178, BK179, BK188, HK, HB, BK197, GW197, GE197, NB175_197, NB197_175, NB178_197, NB197_178, NB179_197, NB197_179, NB188_197, NB197_188, NB0_197, NB197_0⟩ := n_
     clear hb hbox hg
     refine hK.out _ _ q32_1 (fun hHeld => ?_)
     clear hK K
     refine norm_ (a' := ?_) ?_ ?_
     rotate_left
     ·show Act.put _ (some 6) _ = _
      simp only [Act.put, List.setIfInBounds_toArray, List.set_cons_zero, List.set_cons_succ, i64_w, i32_w]
      rfl
     refine one_ (i := 5) (N := some 25) #[true, true, true, true, true, true, false, true, false] rfl rfl (one_of HT_.out (by kernel_rfl)) (by decide) (fun K hK => ?_)
     refine Kd.N_lit_step k31 _ 31 ?hg (N' := 25) ?hd (xs := ([(⟨2, 0, (⟨3, t176⟩ : S28), ([] : List (S31))⟩ : S31), (⟨1, t192, (⟨0, 0⟩ : S28), ([] : List (S31))⟩ : S31)] : List (S31))) (inner := [.int .i64 2, .int .i64 0, .int .i64 3, .int .i64 t176, .slice none 0 0, .int .i64 1, .int .i64 t192, .int .i64 0, .int .i64 0, .slice none 0 0]) (ok := (fun k_ => (w.heap.size ≤ k_) ∧ nB k_ v181 ∧ nB k_ (.slice Ao29 y185.length co29) ∧ nB k_ (.slice Ao39 y189.length co39) ∧ k_ ≠ gb175 ∧ k_ ≠ gb178 ∧ k_ ≠ gb179 ∧ k_ ≠ gb188 ∧ k_ ≠ gb197 ∧ k_ ≠ g)) (okp := (fun k_ => (w.heap.size ≤ k_) ∧ nB k_ v181 ∧ nB k_ (.slice Ao29 y185.length co29) ∧ nB k_ (.slice Ao39 y189.length co39) ∧ k_ ≠ gb175 ∧ k_ ≠ gb178 ∧ k_ ≠ gb179 ∧ k_ ≠ gb188 ∧ k_ ≠ gb197 ∧ k_ ≠ g)) ?hr ?hp (fun _ hk => hk) ((show ∀ k_, w41.heap.size ≤ k_ → (fun k_ => (w.heap.size ≤ k_) ∧ nB k_ v181 ∧ nB k_ (.slice Ao29 y185.length co29) ∧ nB k_ (.slice Ao39 y189.length co39) ∧ k_ ≠ gb175 ∧ k_ ≠ gb178 ∧ k_ ≠ gb179 ∧ k_ ≠ gb188 ∧ k_ ≠ gb197 ∧ k_ ≠ g) k_ from fun k_ hk => ⟨(Nat.le_trans (kS HK.out) hk), Kd.fresh' (Kd.R_lt (mR HO182.out)) k_ hk, Kd.fresh' (Kd.N_lt (mN HO187.out)) k_ hk, Kd.fresh' (Kd.R_lt (mR HO191.out)) k_ hk, fB BK175.out hk, fB BK178.out hk, fB BK179.out hk, fB BK188.out hk, fB BK197.out hk, IsS53.fresh (mI53_1 HI0.out) k_ hk⟩) _ (Nat.le_refl _)) (Below.refl _ _) (Nat.le_refl _) (by simp) ?_; (case hd => rfl); (case hg => rfl); (case hr => first | (go_simp; done) | (go_simp; rfl)); (case hp => exact (Reps.c5 (show Kd.FK k31 _ _ (⟨2, 0, (⟨3, t176⟩ : S28), ([] : List (S31))⟩ : S31) [.int .i64 2, .int .i64 0, .int .i64 3, .int .i64 t176, .slice none 0 0] from (k31_mkF _ _ (⟨2, 0, (⟨3, t176⟩ : S28), ([] : List (S31))⟩ : S31) (Nat.le_refl _) (Kd.F_nil _ _ _))) (Reps.c5 (show Kd.FK k31 _ _ (⟨1, t192, (⟨0, 0⟩ : S28), ([] : List (S31))⟩ : S31) [.int .i64 1, .int .i64 t192, .int .i64 0, .int .i64 0, .slice none 0 0] from (k31_mkF _ _ (⟨1, t192, (⟨0, 0⟩ : S28), ([] : List (S31))⟩ : S31) (Nat.le_refl _) (Kd.F_nil _ _ _))) (Reps.none _ _))))
     intro v195 w42 ho43 hb hg_ hnew_
     clear hg_ hnew_
     (first | rw [← Ny194.out] at ho43 | (simp only [Int.reduceToNat] at ho43; rw [← Ny194.out] at ho43))
     have n_ := az (Kd.R_below (mR HO182.out) hb) <| az (Kd.N_elder' (mN HO187.out) (by first | exact Kd.N_base ho43 | exact Kd.R_base ho43) hb) <| az (Kd.R_below (mR HO191.out) hb) <| az (Kd.N_lower ho43 (kS HK.out)) <| az (IsS53.below (mI53_1 HI0.out) hb) <| az (bB BK175.out hb) <| az (bB BK178.out hb) <| az (bB BK179.out hb) <| az (bB BK188.out hb) <| az (bB BK197.out hb) <| az (KeepBut.trans (mKp HK.out) (KeepBut.of_below hb g none) (.inl rfl)) <| z0 (below_step (mB53HI0 HB.out) hb)
     clear HO182 HO187 HO191 HI0 BK175 BK178 BK179 BK188 BK197 HK HB
     obtain ⟨HO182, HO187, HO191, HO196, HI0, BK175, BK178, BK179, BK188, BK197, HK, HB⟩ := n_
     clear hb ho43
     obtain ⟨Ao44, co44, eo44⟩ := Kd.N_slice HO196.out
     (first | subst eo44 | (injection eo44 with f1_ f2_ f3_; have f4_ := f1_.symm; have f5_ := f3_.symm; clear f1_ f2_ f3_; subst f4_; subst f5_))
     refine hK.out _ _ q32_1 (fun hHeld => ?_)
     clear hK K
     refine norm_ (a' := ?_) ?_ ?_
     rotate_left
     ·show Act.put _ (some 25) _ = _
      simp only [Act.put, List.setIfInBounds_toArray, List.set_cons_zero, List.set_cons_succ, i64_w, i32_w]
      rfl
     refine pure_ (i := 6) (N := some 26) (v := ?_) (a' := ?_) #[true, true, true, true, true, true, true, true, false] rfl rfl (any_of HT_.out (by kernel_rfl)) (fun _ _ _ h => h) (Or.inl ⟨by rfl, ?_⟩) ?_ ?_
     rotate_left
     ·intro w'
      go_simp
      with_reducible rfl
     rotate_left
     ·simp only [Act.put, List.setIfInBounds_toArray, List.set_cons_zero, List.set_cons_succ, i64_w, i32_w]
      rfl
     exact norm_ q32_4 (hCont (.slice Ao39 y189.length co39, .slice Ao44 y194.length co44, gb197) _ ⟨hHeld, (mR HO182.out), (by (with_reducible repeat (first | apply Kd.N_alloc | apply Kd.N_drewN | apply Kd.N_drew)); exact Kd.N_mono HO187.out (fun _ hk => ⟨hk.1.1.1.1, ⟨hk.1.1.1.2.1, ⟨hk.1.1.2, ⟨hk.2, ⟨hk.1.1.1.2.2.1, ⟨hk.1.1.1.2.2.2.1, ⟨hk.1.1.1.2.2.2.2.1, ⟨hk.1.1.1.2.2.2.2.2.1, ⟨hk.1.1.1.2.2.2.2.2.2, hk.1.2⟩⟩⟩⟩⟩⟩⟩⟩⟩)), q32_7, q32_5, (mK BK175.out), (mK BK178.out), (mK BK179.out), (mK BK188.out), (mK BK197.out), GW197.out, GE197.out, NB0_197.out, NB197_0.out, NB175_197.out, NB197_175.out, NB178_197.out, NB197_178.out, NB179_197.out, NB197_179.out, NB188_197.out, NB197_188.out, (mI53_1 HI0.out), (mKp HK.out), (mB53HI0 HB.out)⟩)
   ·skip
    refine box_step ?hg (N := 6) ?hd (cs := #[.int .i64 0, .int .i64 0, .int .i64 0, .int .i64 0, .slice none 0 0]) (t := 31) ?hr ?_; (case hd => rfl); (case hg => rfl); (case hr => first | (go_simp; done) | (go_simp; rfl))
    intro gb197 hg w39 hbox hb
    have n_ := az (Kd.R_below (mR HO182.out) hb) <| az (Kd.N_below (Kd.N_elderB (mN HO187.out) gb197 (Nat.le_of_eq hg.symm)) hb) <| az (Kd.R_below (mR HO191.out) hb) <| az (IsS53.below (mI53_1 HI0.out) hb) <| az (bB BK175.out hb) <| az (bB BK178.out hb) <| az (bB BK179.out hb) <| az (bB BK188.out hb) <| az (KeepBut.trans (mKp HK.out) (KeepBut.of_below hb g none) (.inl rfl)) <| az (below_step (mB53HI0 HB.out) hb) <| az (hbox) <| az ((gW hg HK.out)) <| az ((Nat.le_trans HW0.out (gW hg HK.out) : w0.heap.size ≤ gb197)) <| az ((nL hg BK175.out)) <| az ((nG hg BK175.out)) <| az ((nL hg BK178.out)) <| az ((nG hg BK178.out)) <| az ((nL hg BK179.out)) <| az ((nG hg BK179.out)) <| az ((nL hg BK188.out)) <| az ((nG hg BK188.out)) <| And.intro (z0 ((by rw [hg]; exact Nat.ne_of_lt (IsS53.lt (show IsS53 w0 _ g s0_0 t184 from mI53_1 HI0.out)) : g ≠ gb197))) <| z0 ((by rw [hg]; exact Nat.ne_of_gt (IsS53.lt (show IsS53 w0 _ g s0_0 t184 from mI53_1 HI0.out)) : gb197 ≠ g))
    clear HO182 HO187 HO191 HI0 BK175 BK178 BK179 BK188 HK HB
    obtain ⟨HO182, HO187, HO191, HI0, BK175, BK178, BK179, BK188, HK, HB, BK197, GW197, GE197, NB175_197, NB197_175, NB178_197, NB197_178, NB179_197, NB197_179, NB188_197, NB197_188, NB0_197, NB197_0⟩ := n_
    clear hb hbox hg
    obtain ⟨Ao40, co40, eo40⟩ := Kd.R_slice HO191.out
    (first | subst eo40 | (injection eo40 with f1_ f2_ f3_; have f4_ := f1_.symm; have f5_ := f3_.symm; clear f1_ f2_ f3_; subst f4_; subst f5_))
    refine hK.out _ _ q32_1 (fun hHeld => ?_)
    clear hK K
    refine norm_ (a' := ?_) ?_ ?_
    rotate_left
    ·show Act.put _ (some 6) _ = _
     simp only [Act.put, List.setIfInBounds_toArray, List.set_cons_zero, List.set_cons_succ, i64_w, i32_w]
     rfl
    refine one_ (i := 3) (N := some 23) #[true, true, true, true, false, false, false, true, false] rfl rfl (one_of HT_.out (by kernel_rfl)) (by decide) (fun K hK => ?_)
    refine goes_ Tryz.func19 (by kernel_rfl) rfl #[.pointer (some ⟨g, 0, none⟩), .slice Ao40 y189.length co40] (by rfl) rfl rfl argx ?_
    with_reducible refine (spec_l12Rd_num.calls k g s0_0 t184 _ _ y189 t192 t193 w0 _ ?side1 ?side2 ?side3 ?side4 ?side5 A4.out).mono ?_
    (case side1 => exact mI53_1 HI0.out)
    (case side2 => exact mB53HI0 HB.out)
    (case side3 => exact mC (Kd.R_reads' HO191.out).2.2)
    (case side4 => exact (Kd.R_reads' HO191.out).2.1)
    (case side5 => exact far_slice (IsS53.own_ne HI0.out HO191.out (by decide)))
    rintro e w41 ⟨rfl, hi, hb, hk⟩
    refine ⟨_, rfl, ?_⟩
    have n_ := az (kB hk BK175.out NB175_0.out) <| az (kB hk BK178.out NB178_0.out) <| az (kB hk BK179.out NB179_0.out) <| And.intro (z0 (Kd.R_mono (Kd.R_keep (IsS53.apart (show IsS53 w0 _ g s0_0 t184 from mI53_1 HI0.out) (mR HO182.out) (by decide)) hk (fun _ h => h.2)) (fun _ h => h.1))) <| And.intro (z0 (Kd.N_mono (Kd.N_keep (Kd.N_mono (ok := fun k_ => (((((w.heap.size ≤ k_)) ∧ (nB k_ v181 ∧ (k_ ≠ g ∧ (k_ ≠ gb175 ∧ (k_ ≠ gb178 ∧ (k_ ≠ gb179 ∧ k_ ≠ gb188)))))) ∧ nB k_ (.slice Ao40 y189.length co40)) ∧ k_ ≠ gb197)) (mN HO187.out) (fun k_ hk_ => (⟨hk_, hk_.1.1.2.2.1⟩ : _ ∧ k_ ≠ g))) hk (fun _ h => h.2)) (fun _ h => h.1))) <| az (kB hk BK188.out NB188_0.out) <| And.intro (z0 (Kd.R_mono (Kd.R_keep (IsS53.apart (show IsS53 w0 _ g s0_0 t184 from mI53_1 HI0.out) (mR HO191.out) (by decide)) hk (fun _ h => h.2)) (fun _ h => h.1))) <| az (kB hk BK197.out NB197_0.out) <| az (KeepBut.trans (mKp HK.out) hk (.inl rfl)) <| az (hb) <| z0 (hi)
    clear BK175 BK178 BK179 HO182 HO187 BK188 HO191 BK197 HK HB HI0
    obtain ⟨BK175, BK178, BK179, HO182, HO187, BK188, HO191, BK197, HK, HB, HI0⟩ := n_
    (try clear hb)
    (try clear hb2)
    (try clear hk)
    (try clear hi)
    refine hK.out _ _ q32_1 (fun hHeld => ?_)
    clear hK K
    refine norm_ (a' := ?_) ?_ ?_
    rotate_left
    ·show Act.put _ (some 23) _ = _
     simp only [Act.put, List.setIfInBounds_toArray, List.set_cons_zero, List.set_cons_succ, i64_w, i32_w]
     rfl
    refine pure_ (i := 4) (N := some 24) (v := ?_) (a' := ?_) #[true, true, true, true, true, false, false, true, false] rfl rfl (any_of HT_.out (by kernel_rfl)) (fun _ _ _ h => h) (Or.inl ⟨by rfl, ?_⟩) ?_ ?_
    rotate_left
    ·intro w'
     go_simp
     with_reducible rfl
    rotate_left
    ·simp only [Act.put, List.setIfInBounds_toArray, List.set_cons_zero, List.set_cons_succ, i64_w, i32_w]
     rfl
    refine one_ (i := 5) (N := some 25) #[true, true, true, true, true, true, false, true, false] rfl rfl (one_of HT_.out (by kernel_rfl)) (by decide) (fun K hK => ?_)
    refine Kd.N_lit_step k31 _ 31 ?hg (N' := 25) ?hd (xs := ([(⟨2, 0, (⟨3, t176⟩ : S28), ([] : List (S31))⟩ : S31), (⟨1, t192, (⟨0, 0⟩ : S28), ([] : List (S31))⟩ : S31)] : List (S31))) (inner := [.int .i64 2, .int .i64 0, .int .i64 3, .int .i64 t176, .slice none 0 0, .int .i64 1, .int .i64 t192, .int .i64 0, .int .i64 0, .slice none 0 0]) (ok := (fun k_ => (w.heap.size ≤ k_) ∧ nB k_ v181 ∧ nB k_ (.slice Ao29 y185.length co29) ∧ nB k_ (.slice Ao40 y189.length co40) ∧ k_ ≠ gb175 ∧ k_ ≠ gb178 ∧ k_ ≠ gb179 ∧ k_ ≠ gb188 ∧ k_ ≠ gb197 ∧ k_ ≠ g)) (okp := (fun k_ => (w.heap.size ≤ k_) ∧ nB k_ v181 ∧ nB k_ (.slice Ao29 y185.length co29) ∧ nB k_ (.slice Ao40 y189.length co40) ∧ k_ ≠ gb175 ∧ k_ ≠ gb178 ∧ k_ ≠ gb179 ∧ k_ ≠ gb188 ∧ k_ ≠ gb197 ∧ k_ ≠ g)) ?hr ?hp (fun _ hk => hk) ((show ∀ k_, w41.heap.size ≤ k_ → (fun k_ => (w.heap.size ≤ k_) ∧ nB k_ v181 ∧ nB k_ (.slice Ao29 y185.length co29) ∧ nB k_ (.slice Ao40 y189.length co40) ∧ k_ ≠ gb175 ∧ k_ ≠ gb178 ∧ k_ ≠ gb179 ∧ k_ ≠ gb188 ∧ k_ ≠ gb197 ∧ k_ ≠ g) k_ from fun k_ hk => ⟨(Nat.le_trans (kS HK.out) hk), Kd.fresh' (Kd.R_lt (mR HO182.out)) k_ hk, Kd.fresh' (Kd.N_lt (mN HO187.out)) k_ hk, Kd.fresh' (Kd.R_lt (mR HO191.out)) k_ hk, fB BK175.out hk, fB BK178.out hk, fB BK179.out hk, fB BK188.out hk, fB BK197.out hk, IsS53.fresh (mI53_1 HI0.out) k_ hk⟩) _ (Nat.le_refl _)) (Below.refl _ _) (Nat.le_refl _) (by simp) ?_; (case hd => rfl); (case hg => rfl); (case hr => first | (go_simp; done) | (go_simp; rfl)); (case hp => exact (Reps.c5 (show Kd.FK k31 _ _ (⟨2, 0, (⟨3, t176⟩ : S28), ([] : List (S31))⟩ : S31) [.int .i64 2, .int .i64 0, .int .i64 3, .int .i64 t176, .slice none 0 0] from (k31_mkF _ _ (⟨2, 0, (⟨3, t176⟩ : S28), ([] : List (S31))⟩ : S31) (Nat.le_refl _) (Kd.F_nil _ _ _))) (Reps.c5 (show Kd.FK k31 _ _ (⟨1, t192, (⟨0, 0⟩ : S28), ([] : List (S31))⟩ : S31) [.int .i64 1, .int .i64 t192, .int .i64 0, .int .i64 0, .slice none 0 0] from (k31_mkF _ _ (⟨1, t192, (⟨0, 0⟩ : S28), ([] : List (S31))⟩ : S31) (Nat.le_refl _) (Kd.F_nil _ _ _))) (Reps.none _ _))))
    intro v195 w42 ho43 hb hg_ hnew_
    clear hg_ hnew_
    (first | rw [← Ny194.out] at ho43 | (simp only [Int.reduceToNat] at ho43; rw [← Ny194.out] at ho43))
    have n_ := az (Kd.R_below (mR HO182.out) hb) <| az (Kd.N_elder' (mN HO187.out) (by first | exact Kd.N_base ho43 | exact Kd.R_base ho43) hb) <| az (Kd.R_below (mR HO191.out) hb) <| az (Kd.N_lower ho43 (kS HK.out)) <| az (IsS53.below (mI53_1 HI0.out) hb) <| az (bB BK175.out hb) <| az (bB BK178.out hb) <| az (bB BK179.out hb) <| az (bB BK188.out hb) <| az (bB BK197.out hb) <| az (KeepBut.trans (mKp HK.out) (KeepBut.of_below hb g none) (.inl rfl)) <| z0 (below_step (mB53HI0 HB.out) hb)
    clear HO182 HO187 HO191 HI0 BK175 BK178 BK179 BK188 BK197 HK HB
    obtain ⟨HO182, HO187, HO191, HO196, HI0, BK175, BK178, BK179, BK188, BK197, HK, HB⟩ := n_
    clear hb ho43
    obtain ⟨Ao44, co44, eo44⟩ := Kd.N_slice HO196.out
    (first | subst eo44 | (injection eo44 with f1_ f2_ f3_; have f4_ := f1_.symm; have f5_ := f3_.symm; clear f1_ f2_ f3_; subst f4_; subst f5_))
    refine hK.out _ _ q32_1 (fun hHeld => ?_)
    clear hK K
    refine norm_ (a' := ?_) ?_ ?_
    rotate_left
    ·show Act.put _ (some 25) _ = _
     simp only [Act.put, List.setIfInBounds_toArray, List.set_cons_zero, List.set_cons_succ, i64_w, i32_w]
     rfl
    refine pure_ (i := 6) (N := some 26) (v := ?_) (a' := ?_) #[true, true, true, true, true, true, true, true, false] rfl rfl (any_of HT_.out (by kernel_rfl)) (fun _ _ _ h => h) (Or.inl ⟨by rfl, ?_⟩) ?_ ?_
    rotate_left
    ·intro w'
     go_simp
     with_reducible rfl
    rotate_left
    ·simp only [Act.put, List.setIfInBounds_toArray, List.set_cons_zero, List.set_cons_succ, i64_w, i32_w]
     rfl
    exact norm_ q32_4 (hCont (.slice Ao40 y189.length co40, .slice Ao44 y194.length co44, gb197) _ ⟨hHeld, (mR HO182.out), (by (with_reducible repeat (first | apply Kd.N_alloc | apply Kd.N_drewN | apply Kd.N_drew)); exact Kd.N_mono HO187.out (fun _ hk => ⟨hk.1.1.1.1, ⟨hk.1.1.1.2.1, ⟨hk.1.1.2, ⟨hk.2, ⟨hk.1.1.1.2.2.1, ⟨hk.1.1.1.2.2.2.1, ⟨hk.1.1.1.2.2.2.2.1, ⟨hk.1.1.1.2.2.2.2.2.1, ⟨hk.1.1.1.2.2.2.2.2.2, hk.1.2⟩⟩⟩⟩⟩⟩⟩⟩⟩)), q32_7, q32_5, (mK BK175.out), (mK BK178.out), (mK BK179.out), (mK BK188.out), (mK BK197.out), GW197.out, GE197.out, NB0_197.out, NB197_0.out, NB175_197.out, NB197_175.out, NB178_197.out, NB197_178.out, NB179_197.out, NB197_179.out, NB188_197.out, NB197_188.out, (mI53_1 HI0.out), (mKp HK.out), (mB53HI0 HB.out)⟩)
  ·skip
   refine box_step ?hg (N := 6) ?hd (cs := #[.int .i64 0, .int .i64 0, .int .i64 0, .int .i64 0, .slice none 0 0]) (t := 31) ?hr ?_; (case hd => rfl); (case hg => rfl); (case hr => first | (go_simp; done) | (go_simp; rfl))
   intro gb197 hg w37 hbox hb
   have n_ := az (Kd.R_below (mR HO182.out) hb) <| az (Kd.N_below (Kd.N_elderB (mN HO187.out) gb197 (Nat.le_of_eq hg.symm)) hb) <| az (IsS53.below (mI53_1 HI0.out) hb) <| az (bB BK175.out hb) <| az (bB BK178.out hb) <| az (bB BK179.out hb) <| az (bB BK188.out hb) <| az (KeepBut.trans (mKp HK.out) (KeepBut.of_below hb g none) (.inl rfl)) <| az (below_step (mB53HI0 HB.out) hb) <| az (hbox) <| az ((gW hg HK.out)) <| az ((Nat.le_trans HW0.out (gW hg HK.out) : w0.heap.size ≤ gb197)) <| az ((nL hg BK175.out)) <| az ((nG hg BK175.out)) <| az ((nL hg BK178.out)) <| az ((nG hg BK178.out)) <| az ((nL hg BK179.out)) <| az ((nG hg BK179.out)) <| az ((nL hg BK188.out)) <| az ((nG hg BK188.out)) <| And.intro (z0 ((by rw [hg]; exact Nat.ne_of_lt (IsS53.lt (show IsS53 w0 _ g s0_0 t184 from mI53_1 HI0.out)) : g ≠ gb197))) <| z0 ((by rw [hg]; exact Nat.ne_of_gt (IsS53.lt (show IsS53 w0 _ g s0_0 t184 from mI53_1 HI0.out)) : gb197 ≠ g))
   clear HO182 HO187 HI0 BK175 BK178 BK179 BK188 HK HB
   obtain ⟨HO182, HO187, HI0, BK175, BK178, BK179, BK188, HK, HB, BK197, GW197, GE197, NB175_197, NB197_175, NB178_197, NB197_178, NB179_197, NB197_179, NB188_197, NB197_188, NB0_197, NB197_0⟩ := n_
   clear hb hbox hg
   refine hK.out _ _ q32_1 (fun hHeld => ?_)
   clear hK K
   refine norm_ (a' := ?_) ?_ ?_
   rotate_left
   ·show Act.put _ (some 6) _ = _
    simp only [Act.put, List.setIfInBounds_toArray, List.set_cons_zero, List.set_cons_succ, i64_w, i32_w]
    rfl
   refine one_ (i := 2) (N := some 22) #[true, true, true, false, false, false, false, true, false] rfl rfl (one_of HT_.out (by kernel_rfl)) (by decide) (fun K hK => ?_)
   refine Kd.R_lit_step (Kd.int .i64) _ 3 ?hg (N := 22) ?hd (xs := ([1, 1, 2, 0] : List Int)) (inner := [.int .i64 1, .int .i64 1, .int .i64 2, .int .i64 0]) (ok := fun _ => True) (okp := fun _ => True) ?hr ?hp (fun _ hk => hk) trivial (Below.refl _ _) (Nat.le_refl _) (by simp) ?_; (case hd => rfl); (case hg => rfl); (case hr => first | (go_simp; done) | (go_simp; rfl)); (case hp => exact (Reps.one (show Kd.M (Kd.int .i64) _ _ _ 1 [.int .i64 1] from rfl) (Reps.one (show Kd.M (Kd.int .i64) _ _ _ 1 [.int .i64 1] from rfl) (Reps.one (show Kd.M (Kd.int .i64) _ _ _ 2 [.int .i64 2] from rfl) (Reps.one (show Kd.M (Kd.int .i64) _ _ _ 0 [.int .i64 0] from rfl) (Reps.none _ _))))))
   intro v190 w38 ho39 hb hg_ hnew_
   clear hg_ hnew_
   (first | rw [← Ny189.out] at ho39 | (simp only [Int.reduceToNat] at ho39; rw [← Ny189.out] at ho39))
   have n_ := az (Kd.R_elder' (mR HO182.out) (by first | exact Kd.R_base ho39 | exact Kd.R_base ho39) hb) <| az (Kd.N_elder' (mN HO187.out) (by first | exact Kd.R_base ho39 | exact Kd.R_base ho39) hb) <| And.intro (z0 (Kd.R_lower (Kd.R_new' (Kd.R_newM (M := fun k_ => (w.heap.size ≤ k_)) ho39 (kS HK.out) (fun k_ h_ => h_)) (Kd.R_lt (mR HO182.out))) (kS HK.out))) <| az (IsS53.below (mI53_1 HI0.out) hb) <| az (bB BK175.out hb) <| az (bB BK178.out hb) <| az (bB BK179.out hb) <| az (bB BK188.out hb) <| az (bB BK197.out hb) <| az (KeepBut.trans (mKp HK.out) (KeepBut.of_below hb g none) (.inl rfl)) <| z0 (below_step (mB53HI0 HB.out) hb)
   clear HO182 HO187 HI0 BK175 BK178 BK179 BK188 BK197 HK HB
   obtain ⟨HO182, HO187, HO191, HI0, BK175, BK178, BK179, BK188, BK197, HK, HB⟩ := n_
   clear hb ho39
   obtain ⟨Ao40, co40, eo40⟩ := Kd.R_slice HO191.out
   (first | subst eo40 | (injection eo40 with f1_ f2_ f3_; have f4_ := f1_.symm; have f5_ := f3_.symm; clear f1_ f2_ f3_; subst f4_; subst f5_))
   refine hK.out _ _ q32_1 (fun hHeld => ?_)
   clear hK K
   refine norm_ (a' := ?_) ?_ ?_
   rotate_left
   ·show Act.put _ (some 22) _ = _
    simp only [Act.put, List.setIfInBounds_toArray, List.set_cons_zero, List.set_cons_succ, i64_w, i32_w]
    rfl
   refine one_ (i := 3) (N := some 23) #[true, true, true, true, false, false, false, true, false] rfl rfl (one_of HT_.out (by kernel_rfl)) (by decide) (fun K hK => ?_)
   refine goes_ Tryz.func19 (by kernel_rfl) rfl #[.pointer (some ⟨g, 0, none⟩), .slice Ao40 y189.length co40] (by rfl) rfl rfl argx ?_
   with_reducible refine (spec_l12Rd_num.calls k g s0_0 t184 _ _ y189 t192 t193 w0 _ ?side1 ?side2 ?side3 ?side4 ?side5 A4.out).mono ?_
   (case side1 => exact mI53_1 HI0.out)
   (case side2 => exact mB53HI0 HB.out)
   (case side3 => exact mC (Kd.R_reads' HO191.out).2.2)
   (case side4 => exact (Kd.R_reads' HO191.out).2.1)
   (case side5 => exact far_slice (IsS53.own_ne HI0.out HO191.out (by decide)))
   rintro e w41 ⟨rfl, hi, hb, hk⟩
   refine ⟨_, rfl, ?_⟩
   have n_ := az (kB hk BK175.out NB175_0.out) <| az (kB hk BK178.out NB178_0.out) <| az (kB hk BK179.out NB179_0.out) <| And.intro (z0 (Kd.R_mono (Kd.R_keep (IsS53.apart (show IsS53 w0 _ g s0_0 t184 from mI53_1 HI0.out) (mR HO182.out) (by decide)) hk (fun _ h => h.2)) (fun _ h => h.1))) <| And.intro (z0 (Kd.N_mono (Kd.N_keep (Kd.N_mono (ok := fun k_ => (((((w.heap.size ≤ k_)) ∧ (nB k_ v181 ∧ (k_ ≠ g ∧ (k_ ≠ gb175 ∧ (k_ ≠ gb178 ∧ (k_ ≠ gb179 ∧ k_ ≠ gb188)))))) ∧ k_ ≠ gb197) ∧ nB k_ (.slice Ao40 y189.length co40))) (mN HO187.out) (fun k_ hk_ => (⟨hk_, hk_.1.1.2.2.1⟩ : _ ∧ k_ ≠ g))) hk (fun _ h => h.2)) (fun _ h => h.1))) <| az (kB hk BK188.out NB188_0.out) <| az (kB hk BK197.out NB197_0.out) <| And.intro (z0 (Kd.R_mono (Kd.R_keep (IsS53.apart (show IsS53 w0 _ g s0_0 t184 from mI53_1 HI0.out) (mR HO191.out) (by decide)) hk (fun _ h => h.2)) (fun _ h => h.1))) <| az (KeepBut.trans (mKp HK.out) hk (.inl rfl)) <| az (hb) <| z0 (hi)
   clear BK175 BK178 BK179 HO182 HO187 BK188 BK197 HO191 HK HB HI0
   obtain ⟨BK175, BK178, BK179, HO182, HO187, BK188, BK197, HO191, HK, HB, HI0⟩ := n_
   (try clear hb)
   (try clear hb2)
   (try clear hk)
   (try clear hi)
   refine hK.out _ _ q32_1 (fun hHeld => ?_)
   clear hK K
   refine norm_ (a' := ?_) ?_ ?_
   rotate_left
   ·show Act.put _ (some 23) _ = _
    simp only [Act.put, List.setIfInBounds_toArray, List.set_cons_zero, List.set_cons_succ, i64_w, i32_w]
    rfl
   refine pure_ (i := 4) (N := some 24) (v := ?_) (a' := ?_) #[true, true, true, true, true, false, false, true, false] rfl rfl (any_of HT_.out (by kernel_rfl)) (fun _ _ _ h => h) (Or.inl ⟨by rfl, ?_⟩) ?_ ?_
   rotate_left
   ·intro w'
    go_simp
    with_reducible rfl
   rotate_left
   ·simp only [Act.put, List.setIfInBounds_toArray, List.set_cons_zero, List.set_cons_succ, i64_w, i32_w]
    rfl
   refine one_ (i := 5) (N := some 25) #[true, true, true, true, true, true, false, true, false] rfl rfl (one_of HT_.out (by kernel_rfl)) (by decide) (fun K hK => ?_)
   refine Kd.N_lit_step k31 _ 31 ?hg (N' := 25) ?hd (xs := ([(⟨2, 0, (⟨3, t176⟩ : S28), ([] : List (S31))⟩ : S31), (⟨1, t192, (⟨0, 0⟩ : S28), ([] : List (S31))⟩ : S31)] : List (S31))) (inner := [.int .i64 2, .int .i64 0, .int .i64 3, .int .i64 t176, .slice none 0 0, .int .i64 1, .int .i64 t192, .int .i64 0, .int .i64 0, .slice none 0 0]) (ok := (fun k_ => (w.heap.size ≤ k_) ∧ nB k_ v181 ∧ nB k_ (.slice Ao29 y185.length co29) ∧ nB k_ (.slice Ao40 y189.length co40) ∧ k_ ≠ gb175 ∧ k_ ≠ gb178 ∧ k_ ≠ gb179 ∧ k_ ≠ gb188 ∧ k_ ≠ gb197 ∧ k_ ≠ g)) (okp := (fun k_ => (w.heap.size ≤ k_) ∧ nB k_ v181 ∧ nB k_ (.slice Ao29 y185.length co29) ∧ nB k_ (.slice Ao40 y189.length co40) ∧ k_ ≠ gb175 ∧ k_ ≠ gb178 ∧ k_ ≠ gb179 ∧ k_ ≠ gb188 ∧ k_ ≠ gb197 ∧ k_ ≠ g)) ?hr ?hp (fun _ hk => hk) ((show ∀ k_, w41.heap.size ≤ k_ → (fun k_ => (w.heap.size ≤ k_) ∧ nB k_ v181 ∧ nB k_ (.slice Ao29 y185.length co29) ∧ nB k_ (.slice Ao40 y189.length co40) ∧ k_ ≠ gb175 ∧ k_ ≠ gb178 ∧ k_ ≠ gb179 ∧ k_ ≠ gb188 ∧ k_ ≠ gb197 ∧ k_ ≠ g) k_ from fun k_ hk => ⟨(Nat.le_trans (kS HK.out) hk), Kd.fresh' (Kd.R_lt (mR HO182.out)) k_ hk, Kd.fresh' (Kd.N_lt (mN HO187.out)) k_ hk, Kd.fresh' (Kd.R_lt (mR HO191.out)) k_ hk, fB BK175.out hk, fB BK178.out hk, fB BK179.out hk, fB BK188.out hk, fB BK197.out hk, IsS53.fresh (mI53_1 HI0.out) k_ hk⟩) _ (Nat.le_refl _)) (Below.refl _ _) (Nat.le_refl _) (by simp) ?_; (case hd => rfl); (case hg => rfl); (case hr => first | (go_simp; done) | (go_simp; rfl)); (case hp => exact (Reps.c5 (show Kd.FK k31 _ _ (⟨2, 0, (⟨3, t176⟩ : S28), ([] : List (S31))⟩ : S31) [.int .i64 2, .int .i64 0, .int .i64 3, .int .i64 t176, .slice none 0 0] from (k31_mkF _ _ (⟨2, 0, (⟨3, t176⟩ : S28), ([] : List (S31))⟩ : S31) (Nat.le_refl _) (Kd.F_nil _ _ _))) (Reps.c5 (show Kd.FK k31 _ _ (⟨1, t192, (⟨0, 0⟩ : S28), ([] : List (S31))⟩ : S31) [.int .i64 1, .int .i64 t192, .int .i64 0, .int .i64 0, .slice none 0 0] from (k31_mkF _ _ (⟨1, t192, (⟨0, 0⟩ : S28), ([] : List (S31))⟩ : S31) (Nat.le_refl _) (Kd.F_nil _ _ _))) (Reps.none _ _))))
   intro v195 w42 ho43 hb hg_ hnew_
   clear hg_ hnew_
   (first | rw [← Ny194.out] at ho43 | (simp only [Int.reduceToNat] at ho43; rw [← Ny194.out] at ho43))
   have n_ := az (Kd.R_below (mR HO182.out) hb) <| az (Kd.N_elder' (mN HO187.out) (by first | exact Kd.N_base ho43 | exact Kd.R_base ho43) hb) <| az (Kd.R_below (mR HO191.out) hb) <| az (Kd.N_lower ho43 (kS HK.out)) <| az (IsS53.below (mI53_1 HI0.out) hb) <| az (bB BK175.out hb) <| az (bB BK178.out hb) <| az (bB BK179.out hb) <| az (bB BK188.out hb) <| az (bB BK197.out hb) <| az (KeepBut.trans (mKp HK.out) (KeepBut.of_below hb g none) (.inl rfl)) <| z0 (below_step (mB53HI0 HB.out) hb)
   clear HO182 HO187 HO191 HI0 BK175 BK178 BK179 BK188 BK197 HK HB
   obtain ⟨HO182, HO187, HO191, HO196, HI0, BK175, BK178, BK179, BK188, BK197, HK, HB⟩ := n_
   clear hb ho43
   obtain ⟨Ao44, co44, eo44⟩ := Kd.N_slice HO196.out
   (first | subst eo44 | (injection eo44 with f1_ f2_ f3_; have f4_ := f1_.symm; have f5_ := f3_.symm; clear f1_ f2_ f3_; subst f4_; subst f5_))
   refine hK.out _ _ q32_1 (fun hHeld => ?_)
   clear hK K
   refine norm_ (a' := ?_) ?_ ?_
   rotate_left
   ·show Act.put _ (some 25) _ = _
    simp only [Act.put, List.setIfInBounds_toArray, List.set_cons_zero, List.set_cons_succ, i64_w, i32_w]
    rfl
   refine pure_ (i := 6) (N := some 26) (v := ?_) (a' := ?_) #[true, true, true, true, true, true, true, true, false] rfl rfl (any_of HT_.out (by kernel_rfl)) (fun _ _ _ h => h) (Or.inl ⟨by rfl, ?_⟩) ?_ ?_
   rotate_left
   ·intro w'
    go_simp
    with_reducible rfl
   rotate_left
   ·simp only [Act.put, List.setIfInBounds_toArray, List.set_cons_zero, List.set_cons_succ, i64_w, i32_w]
    rfl
   exact norm_ q32_4 (hCont (.slice Ao40 y189.length co40, .slice Ao44 y194.length co44, gb197) _ ⟨hHeld, (mR HO182.out), (by (with_reducible repeat (first | apply Kd.N_alloc | apply Kd.N_drewN | apply Kd.N_drew)); exact Kd.N_mono HO187.out (fun _ hk => ⟨hk.1.1.1.1, ⟨hk.1.1.1.2.1, ⟨hk.1.2, ⟨hk.2, ⟨hk.1.1.1.2.2.1, ⟨hk.1.1.1.2.2.2.1, ⟨hk.1.1.1.2.2.2.2.1, ⟨hk.1.1.1.2.2.2.2.2.1, ⟨hk.1.1.1.2.2.2.2.2.2, hk.1.1.2⟩⟩⟩⟩⟩⟩⟩⟩⟩)), q32_7, q32_5, (mK BK175.out), (mK BK178.out), (mK BK179.out), (mK BK188.out), (mK BK197.out), GW197.out, GE197.out, NB0_197.out, NB197_0.out, NB175_197.out, NB197_175.out, NB178_197.out, NB197_178.out, NB179_197.out, NB197_179.out, NB188_197.out, NB197_188.out, (mI53_1 HI0.out), (mKp HK.out), (mB53HI0 HB.out)⟩)
 rintro ⟨v190, v195, gb197⟩ w45 ⟨hS_, h0_, h1_, h2_, h3_, h4_, h5_, h6_, h7_, h8_, h9_, h10_, h11_, h12_, h13_, h14_, h15_, h16_, h17_, h18_, h19_, h20_, h21_, h22_, h23_⟩
 have n0_ : Aside0 (Kd.R (Kd.int .i64) 3 w45 w.heap.size (fun k_ => (w.heap.size ≤ k_) ∧ nB k_ v190) v181 y180) := ⟨h0_⟩
 have n1_ : Aside0 (Kd.N k31 31 w45 w.heap.size (fun k_ => (w.heap.size ≤ k_) ∧ nB k_ v181 ∧ nB k_ v190 ∧ nB k_ v195 ∧ k_ ≠ g ∧ k_ ≠ gb175 ∧ k_ ≠ gb178 ∧ k_ ≠ gb179 ∧ k_ ≠ gb188 ∧ k_ ≠ gb197) (.slice Ao29 y185.length co29) y185) := ⟨h1_⟩
 have n2_ : Aside0 (Kd.R (Kd.int .i64) 3 w45 w.heap.size (fun k_ => (w.heap.size ≤ k_) ∧ nB k_ v181) v190 y189) := ⟨h2_⟩
 have n3_ : Aside0 (Kd.N k31 31 w45 w.heap.size (fun k_ => (w.heap.size ≤ k_) ∧ nB k_ v181 ∧ nB k_ (.slice Ao29 y185.length co29) ∧ nB k_ v190 ∧ k_ ≠ g ∧ k_ ≠ gb175 ∧ k_ ≠ gb178 ∧ k_ ≠ gb179 ∧ k_ ≠ gb188 ∧ k_ ≠ gb197) v195 y194) := ⟨h3_⟩
 have n4_ : Aside0 (w45.heap[gb175]? = some (.cells #[.int .i64 0, .int .i64 0, .int .i64 0, .int .i64 0, .int .i64 0, .int .i64 0, .int .i64 0, .slice none 0 0, .slice none 0 0, .slice none 0 0] 33 (0, 0))) := ⟨h4_⟩
 have n5_ : Aside0 (w45.heap[gb178]? = some (.cells #[.int .i64 3, .int .i64 t176] 28 (0, 0))) := ⟨h5_⟩
 have n6_ : Aside0 (w45.heap[gb179]? = some (.cells #[.int .i64 2, .int .i64 0, .int .i64 3, .int .i64 t176, .slice none 0 0] 31 (0, 0))) := ⟨h6_⟩
 have n7_ : Aside0 (w45.heap[gb188]? = some (.cells #[.int .i64 6, .int .i64 0, .int .i64 0, .int .i64 0, .slice Ao29 y185.length co29] 31 (0, 0))) := ⟨h7_⟩
 have n8_ : Aside0 (w45.heap[gb197]? = some (.cells #[.int .i64 0, .int .i64 0, .int .i64 0, .int .i64 0, .slice none 0 0] 31 (0, 0))) := ⟨h8_⟩
 have n9_ : Aside0 (w.heap.size ≤ gb197) := ⟨h9_⟩
 have n10_ : Aside0 (w0.heap.size ≤ gb197) := ⟨h10_⟩
 have n11_ : Aside0 (g ≠ gb197) := ⟨h11_⟩
 have n12_ : Aside0 (gb197 ≠ g) := ⟨h12_⟩
 have n13_ : Aside0 (gb175 ≠ gb197) := ⟨h13_⟩
 have n14_ : Aside0 (gb197 ≠ gb175) := ⟨h14_⟩
 have n15_ : Aside0 (gb178 ≠ gb197) := ⟨h15_⟩
 have n16_ : Aside0 (gb197 ≠ gb178) := ⟨h16_⟩
 have n17_ : Aside0 (gb179 ≠ gb197) := ⟨h17_⟩
 have n18_ : Aside0 (gb197 ≠ gb179) := ⟨h18_⟩
 have n19_ : Aside0 (gb188 ≠ gb197) := ⟨h19_⟩
 have n20_ : Aside0 (gb197 ≠ gb188) := ⟨h20_⟩
 have n21_ : Aside0 (IsS53 w0 w45 g s0_0 t193) := ⟨h21_⟩
 have n22_ : Aside0 (KeepBut w w45 g none) := ⟨h22_⟩
 have n23_ : Aside0 (Below w0.heap.size w0 w45) := ⟨h23_⟩
 clear HO182 HO187 BK175 BK178 BK179 BK188 HI0 HK HB h0_ h1_ h2_ h3_ h4_ h5_ h6_ h7_ h8_ h9_ h10_ h11_ h12_ h13_ h14_ h15_ h16_ h17_ h18_ h19_ h20_ h21_ h22_ h23_
 have HO182 := n0_
 have HO187 := n1_
 have HO191 := n2_
 have HO196 := n3_
 have BK175 := n4_
 have BK178 := n5_
 have BK179 := n6_
 have BK188 := n7_
 have BK197 := n8_
 have GW197 := n9_
 have GE197 := n10_
 have NB0_197 := n11_
 have NB197_0 := n12_
 have NB175_197 := n13_
 have NB197_175 := n14_
 have NB178_197 := n15_
 have NB197_178 := n16_
 have NB179_197 := n17_
 have NB197_179 := n18_
 have NB188_197 := n19_
 have NB197_188 := n20_
 have HI0 := n21_
 have HK := n22_
 have HB := n23_
 clear n0_ n1_ n2_ n3_ n4_ n5_ n6_ n7_ n8_ n9_ n10_ n11_ n12_ n13_ n14_ n15_ n16_ n17_ n18_ n19_ n20_ n21_ n22_ n23_
 have hHeld : w45.cell? ⟨gb179, 0, none⟩ = some (.int .i64 2) ∧ w45.cell? ⟨gb179, 1, none⟩ = some (.int .i64 0) ∧ w45.cell? ⟨gb179, 2, none⟩ = some (.int .i64 3) ∧ w45.cell? ⟨gb179, 3, none⟩ = some (.int .i64 t176) ∧ w45.cell? ⟨gb179, 4, none⟩ = some (.slice none 0 0) := hS_
 obtain ⟨Ao46, co46, eo46⟩ := Kd.N_slice HO196.out
 (first | subst eo46 | (injection eo46 with f1_ f2_ f3_; have f4_ := f1_.symm; have f5_ := f3_.symm; clear f1_ f2_ f3_; subst f4_; subst f5_))
 refine norm_ (a' := ?_) ?_ ?_
 rotate_left
 ·simp only [putAll, Act.put, List.setIfInBounds_toArray, List.set_cons_zero, List.set_cons_succ]
  rfl
 refine one_ (i := 8) (N := none) #[true, true, true, true, true, true, true, true, true] rfl rfl (one_of HT_.out (by kernel_rfl)) (by decide) (fun K hK => ?_)
 have hs47 : w45.cell? ⟨gb197, 0, none⟩ = some (.int .i64 0) := (blk_cell BK197.out 0).trans rfl
 have hfs47 := blk_frozen BK197.out 0
 have hns47_0 := NB175_197.out
 have hns47_1 := NB178_197.out
 have hns47_2 := NB179_197.out
 have hns47_3 := NB188_197.out
 have hms47_0 := NB197_175.out
 have hms47_1 := NB197_178.out
 have hms47_2 := NB197_179.out
 have hms47_3 := NB197_188.out
 have hs48 : w45.cell? ⟨gb197, 1, none⟩ = some (.int .i64 0) := (blk_cell BK197.out 1).trans rfl
 have hfs48 := blk_frozen BK197.out 1
 have hns48_0 := NB175_197.out
 have hns48_1 := NB178_197.out
 have hns48_2 := NB179_197.out
 have hns48_3 := NB188_197.out
 have hms48_0 := NB197_175.out
 have hms48_1 := NB197_178.out
 have hms48_2 := NB197_179.out
 have hms48_3 := NB197_188.out
 have hs49 : w45.cell? ⟨gb197, 2, none⟩ = some (.int .i64 0) := (blk_cell BK197.out 2).trans rfl
 have hfs49 := blk_frozen BK197.out 2
 have hns49_0 := NB175_197.out
 have hns49_1 := NB178_197.out
 have hns49_2 := NB179_197.out
 have hns49_3 := NB188_197.out
 have hms49_0 := NB197_175.out
 have hms49_1 := NB197_178.out
 have hms49_2 := NB197_179.out
 have hms49_3 := NB197_188.out
 have hs50 : w45.cell? ⟨gb197, 3, none⟩ = some (.int .i64 0) := (blk_cell BK197.out 3).trans rfl
 have hfs50 := blk_frozen BK197.out 3
 have hns50_0 := NB175_197.out
 have hns50_1 := NB178_197.out
 have hns50_2 := NB179_197.out
 have hns50_3 := NB188_197.out
 have hms50_0 := NB197_175.out
 have hms50_1 := NB197_178.out
 have hms50_2 := NB197_179.out
 have hms50_3 := NB197_188.out
 have hs51 : w45.cell? ⟨gb197, 4, none⟩ = some (.slice none 0 0) := (blk_cell BK197.out 4).trans rfl
 have hfs51 := blk_frozen BK197.out 4
 have hns51_0 := NB175_197.out
 have hns51_1 := NB178_197.out
 have hns51_2 := NB179_197.out
 have hns51_3 := NB188_197.out
 have hms51_0 := NB197_175.out
 have hms51_1 := NB197_178.out
 have hms51_2 := NB197_179.out
 have hms51_3 := NB197_188.out
 refine skip_ (w1 := ?_) (by rfl) rfl ?_ ?_
 rotate_left
 ·go_simp
  rfl
 refine hK.out _ _ ⟨((cell_far (p := ⟨gb197, _, none⟩) NB179_197.out _).trans (((cell_far (p := ⟨gb197, _, none⟩) NB179_197.out _).trans (((cell_far (p := ⟨gb197, _, none⟩) NB179_197.out _).trans (((cell_far (p := ⟨gb197, _, none⟩) NB179_197.out _).trans (((cell_far (p := ⟨gb197, _, none⟩) NB179_197.out _).trans (hHeld.1)))))))))), ((cell_far (p := ⟨gb197, _, none⟩) NB179_197.out _).trans (((cell_far (p := ⟨gb197, _, none⟩) NB179_197.out _).trans (((cell_far (p := ⟨gb197, _, none⟩) NB179_197.out _).trans (((cell_far (p := ⟨gb197, _, none⟩) NB179_197.out _).trans (((cell_far (p := ⟨gb197, _, none⟩) NB179_197.out _).trans (hHeld.2.1)))))))))), ((cell_far (p := ⟨gb197, _, none⟩) NB179_197.out _).trans (((cell_far (p := ⟨gb197, _, none⟩) NB179_197.out _).trans (((cell_far (p := ⟨gb197, _, none⟩) NB179_197.out _).trans (((cell_far (p := ⟨gb197, _, none⟩) NB179_197.out _).trans (((cell_far (p := ⟨gb197, _, none⟩) NB179_197.out _).trans (hHeld.2.2.1)))))))))), ((cell_far (p := ⟨gb197, _, none⟩) NB179_197.out _).trans (((cell_far (p := ⟨gb197, _, none⟩) NB179_197.out _).trans (((cell_far (p := ⟨gb197, _, none⟩) NB179_197.out _).trans (((cell_far (p := ⟨gb197, _, none⟩) NB179_197.out _).trans (((cell_far (p := ⟨gb197, _, none⟩) NB179_197.out _).trans (hHeld.2.2.2.1)))))))))), ((cell_far (p := ⟨gb197, _, none⟩) NB179_197.out _).trans (((cell_far (p := ⟨gb197, _, none⟩) NB179_197.out _).trans (((cell_far (p := ⟨gb197, _, none⟩) NB179_197.out _).trans (((cell_far (p := ⟨gb197, _, none⟩) NB179_197.out _).trans (((cell_far (p := ⟨gb197, _, none⟩) NB179_197.out _).trans (hHeld.2.2.2.2))))))))))⟩ (fun hHeld => ?_)
 clear hK K
 refine done_ (done_of HT_.out (by kernel_rfl)) ?_
 have n0_ : Aside0 (Kd.R (Kd.int .i64) 3 (((((w45.setCell ⟨gb197, 0, none⟩ (.int .i64 3)).setCell ⟨gb197, 1, none⟩ (.int .i64 0)).setCell ⟨gb197, 2, none⟩ (.int .i64 0)).setCell ⟨gb197, 3, none⟩ (.int .i64 0)).setCell ⟨gb197, 4, none⟩ (.slice Ao46 y194.length co46)) w.heap.size (fun k_ => (w.heap.size ≤ k_) ∧ nB k_ v190) v181 y180) := ⟨by (with_reducible repeat (first | apply Kd.R_alloc | apply Kd.R_drewN | apply Kd.R_drew)); exact Kd.R_mono (Kd.R_far (p := ⟨gb197, 4, none⟩) (Kd.R_far (p := ⟨gb197, 3, none⟩) (Kd.R_far (p := ⟨gb197, 2, none⟩) (Kd.R_far (p := ⟨gb197, 1, none⟩) (Kd.R_far (p := ⟨gb197, 0, none⟩) (Kd.R_types HO182.out BK197.out (by decide)) (fun _ hk => hk.2) (.int .i64 3)) (fun _ hk => hk.2) (.int .i64 0)) (fun _ hk => hk.2) (.int .i64 0)) (fun _ hk => hk.2) (.int .i64 0)) (fun _ hk => hk.2) (.slice Ao46 y194.length co46)) (fun _ hk => ⟨hk.1.1, hk.1.2⟩)⟩
 have n1_ : Aside0 (Kd.N k31 31 (((((w45.setCell ⟨gb197, 0, none⟩ (.int .i64 3)).setCell ⟨gb197, 1, none⟩ (.int .i64 0)).setCell ⟨gb197, 2, none⟩ (.int .i64 0)).setCell ⟨gb197, 3, none⟩ (.int .i64 0)).setCell ⟨gb197, 4, none⟩ (.slice Ao46 y194.length co46)) w.heap.size (fun k_ => (w.heap.size ≤ k_) ∧ nB k_ v181 ∧ nB k_ v190 ∧ nB k_ (.slice Ao46 y194.length co46) ∧ k_ ≠ g ∧ k_ ≠ gb175 ∧ k_ ≠ gb178 ∧ k_ ≠ gb179 ∧ k_ ≠ gb188 ∧ k_ ≠ gb197) (.slice Ao29 y185.length co29) y185) := ⟨by (with_reducible repeat (first | apply Kd.N_alloc | apply Kd.N_drewN | apply Kd.N_drew)); exact Kd.N_mono (Kd.N_far (p := ⟨gb197, 4, none⟩) (Kd.N_far (p := ⟨gb197, 3, none⟩) (Kd.N_far (p := ⟨gb197, 2, none⟩) (Kd.N_far (p := ⟨gb197, 1, none⟩) (Kd.N_far (p := ⟨gb197, 0, none⟩) (Kd.N_mono HO187.out (fun k_ hk => (⟨hk, hk.2.2.2.2.2.2.2.2.2⟩ : _ ∧ k_ ≠ gb197))) (fun _ hk => hk.2) (.int .i64 3)) (fun _ hk => hk.2) (.int .i64 0)) (fun _ hk => hk.2) (.int .i64 0)) (fun _ hk => hk.2) (.int .i64 0)) (fun _ hk => hk.2) (.slice Ao46 y194.length co46)) (fun _ hk => ⟨hk.1.1, ⟨hk.1.2.1, ⟨hk.1.2.2.1, ⟨hk.1.2.2.2.1, ⟨hk.1.2.2.2.2.1, ⟨hk.1.2.2.2.2.2.1, ⟨hk.1.2.2.2.2.2.2.1, ⟨hk.1.2.2.2.2.2.2.2.1, ⟨hk.1.2.2.2.2.2.2.2.2.1, hk.1.2.2.2.2.2.2.2.2.2⟩⟩⟩⟩⟩⟩⟩⟩⟩)⟩
 have n2_ : Aside0 (Kd.R (Kd.int .i64) 3 (((((w45.setCell ⟨gb197, 0, none⟩ (.int .i64 3)).setCell ⟨gb197, 1, none⟩ (.int .i64 0)).setCell ⟨gb197, 2, none⟩ (.int .i64 0)).setCell ⟨gb197, 3, none⟩ (.int .i64 0)).setCell ⟨gb197, 4, none⟩ (.slice Ao46 y194.length co46)) w.heap.size (fun k_ => (w.heap.size ≤ k_) ∧ nB k_ v181) v190 y189) := ⟨by (with_reducible repeat (first | apply Kd.R_alloc | apply Kd.R_drewN | apply Kd.R_drew)); exact Kd.R_mono (Kd.R_far (p := ⟨gb197, 4, none⟩) (Kd.R_far (p := ⟨gb197, 3, none⟩) (Kd.R_far (p := ⟨gb197, 2, none⟩) (Kd.R_far (p := ⟨gb197, 1, none⟩) (Kd.R_far (p := ⟨gb197, 0, none⟩) (Kd.R_types HO191.out BK197.out (by decide)) (fun _ hk => hk.2) (.int .i64 3)) (fun _ hk => hk.2) (.int .i64 0)) (fun _ hk => hk.2) (.int .i64 0)) (fun _ hk => hk.2) (.int .i64 0)) (fun _ hk => hk.2) (.slice Ao46 y194.length co46)) (fun _ hk => ⟨hk.1.1, hk.1.2⟩)⟩
 have n3_ : Aside0 (Kd.N k31 31 (((((w45.setCell ⟨gb197, 0, none⟩ (.int .i64 3)).setCell ⟨gb197, 1, none⟩ (.int .i64 0)).setCell ⟨gb197, 2, none⟩ (.int .i64 0)).setCell ⟨gb197, 3, none⟩ (.int .i64 0)).setCell ⟨gb197, 4, none⟩ (.slice Ao46 y194.length co46)) w.heap.size (fun k_ => (w.heap.size ≤ k_) ∧ nB k_ v181 ∧ nB k_ (.slice Ao29 y185.length co29) ∧ nB k_ v190 ∧ k_ ≠ g ∧ k_ ≠ gb175 ∧ k_ ≠ gb178 ∧ k_ ≠ gb179 ∧ k_ ≠ gb188 ∧ k_ ≠ gb197) (.slice Ao46 y194.length co46) y194) := ⟨by (with_reducible repeat (first | apply Kd.N_alloc | apply Kd.N_drewN | apply Kd.N_drew)); exact Kd.N_mono (Kd.N_far (p := ⟨gb197, 4, none⟩) (Kd.N_far (p := ⟨gb197, 3, none⟩) (Kd.N_far (p := ⟨gb197, 2, none⟩) (Kd.N_far (p := ⟨gb197, 1, none⟩) (Kd.N_far (p := ⟨gb197, 0, none⟩) (Kd.N_mono HO196.out (fun k_ hk => (⟨hk, hk.2.2.2.2.2.2.2.2.2⟩ : _ ∧ k_ ≠ gb197))) (fun _ hk => hk.2) (.int .i64 3)) (fun _ hk => hk.2) (.int .i64 0)) (fun _ hk => hk.2) (.int .i64 0)) (fun _ hk => hk.2) (.int .i64 0)) (fun _ hk => hk.2) (.slice Ao46 y194.length co46)) (fun _ hk => ⟨hk.1.1, ⟨hk.1.2.1, ⟨hk.1.2.2.1, ⟨hk.1.2.2.2.1, ⟨hk.1.2.2.2.2.1, ⟨hk.1.2.2.2.2.2.1, ⟨hk.1.2.2.2.2.2.2.1, ⟨hk.1.2.2.2.2.2.2.2.1, ⟨hk.1.2.2.2.2.2.2.2.2.1, hk.1.2.2.2.2.2.2.2.2.2⟩⟩⟩⟩⟩⟩⟩⟩⟩)⟩
 have n4_ : Aside0 ((((((w45.setCell ⟨gb197, 0, none⟩ (.int .i64 3)).setCell ⟨gb197, 1, none⟩ (.int .i64 0)).setCell ⟨gb197, 2, none⟩ (.int .i64 0)).setCell ⟨gb197, 3, none⟩ (.int .i64 0)).setCell ⟨gb197, 4, none⟩ (.slice Ao46 y194.length co46)).heap[gb175]? = some (.cells #[.int .i64 0, .int .i64 0, .int .i64 0, .int .i64 0, .int .i64 0, .int .i64 0, .int .i64 0, .slice none 0 0, .slice none 0 0, .slice none 0 0] 33 (0, 0))) := ⟨mF BK175.out⟩
 have n5_ : Aside0 ((((((w45.setCell ⟨gb197, 0, none⟩ (.int .i64 3)).setCell ⟨gb197, 1, none⟩ (.int .i64 0)).setCell ⟨gb197, 2, none⟩ (.int .i64 0)).setCell ⟨gb197, 3, none⟩ (.int .i64 0)).setCell ⟨gb197, 4, none⟩ (.slice Ao46 y194.length co46)).heap[gb178]? = some (.cells #[.int .i64 3, .int .i64 t176] 28 (0, 0))) := ⟨mF BK178.out⟩
 have n6_ : Aside0 ((((((w45.setCell ⟨gb197, 0, none⟩ (.int .i64 3)).setCell ⟨gb197, 1, none⟩ (.int .i64 0)).setCell ⟨gb197, 2, none⟩ (.int .i64 0)).setCell ⟨gb197, 3, none⟩ (.int .i64 0)).setCell ⟨gb197, 4, none⟩ (.slice Ao46 y194.length co46)).heap[gb179]? = some (.cells #[.int .i64 2, .int .i64 0, .int .i64 3, .int .i64 t176, .slice none 0 0] 31 (0, 0))) := ⟨mF BK179.out⟩
 have n7_ : Aside0 ((((((w45.setCell ⟨gb197, 0, none⟩ (.int .i64 3)).setCell ⟨gb197, 1, none⟩ (.int .i64 0)).setCell ⟨gb197, 2, none⟩ (.int .i64 0)).setCell ⟨gb197, 3, none⟩ (.int .i64 0)).setCell ⟨gb197, 4, none⟩ (.slice Ao46 y194.length co46)).heap[gb188]? = some (.cells #[.int .i64 6, .int .i64 0, .int .i64 0, .int .i64 0, .slice Ao29 y185.length co29] 31 (0, 0))) := ⟨mF BK188.out⟩
 have n8_ : Aside0 ((((((w45.setCell ⟨gb197, 0, none⟩ (.int .i64 3)).setCell ⟨gb197, 1, none⟩ (.int .i64 0)).setCell ⟨gb197, 2, none⟩ (.int .i64 0)).setCell ⟨gb197, 3, none⟩ (.int .i64 0)).setCell ⟨gb197, 4, none⟩ (.slice Ao46 y194.length co46)).heap[gb197]? = some (.cells #[.int .i64 3, .int .i64 0, .int .i64 0, .int .i64 0, .slice Ao46 y194.length co46] 31 (0, 0))) := ⟨pF BK197.out⟩
 have n9_ : Aside0 (IsS53 w0 (((((w45.setCell ⟨gb197, 0, none⟩ (.int .i64 3)).setCell ⟨gb197, 1, none⟩ (.int .i64 0)).setCell ⟨gb197, 2, none⟩ (.int .i64 0)).setCell ⟨gb197, 3, none⟩ (.int .i64 0)).setCell ⟨gb197, 4, none⟩ (.slice Ao46 y194.length co46)) g s0_0 t193) := ⟨mI53_1 HI0.out⟩
 have n10_ : Aside0 (KeepBut w (((((w45.setCell ⟨gb197, 0, none⟩ (.int .i64 3)).setCell ⟨gb197, 1, none⟩ (.int .i64 0)).setCell ⟨gb197, 2, none⟩ (.int .i64 0)).setCell ⟨gb197, 3, none⟩ (.int .i64 0)).setCell ⟨gb197, 4, none⟩ (.slice Ao46 y194.length co46)) g none) := ⟨mKp HK.out⟩
 have n11_ : Aside0 (Below w0.heap.size w0 (((((w45.setCell ⟨gb197, 0, none⟩ (.int .i64 3)).setCell ⟨gb197, 1, none⟩ (.int .i64 0)).setCell ⟨gb197, 2, none⟩ (.int .i64 0)).setCell ⟨gb197, 3, none⟩ (.int .i64 0)).setCell ⟨gb197, 4, none⟩ (.slice Ao46 y194.length co46))) := ⟨mB53HI0 HB.out⟩
 (try clear HO182)
 (try clear HO187)
 (try clear HO191)
 (try clear HO196)
 (try clear BK175)
 (try clear BK178)
 (try clear BK179)
 (try clear BK188)
 (try clear BK197)
 (try clear HI0)
 (try clear HK)
 (try clear HB)
 generalize (((((w45.setCell ⟨gb197, 0, none⟩ (.int .i64 3)).setCell ⟨gb197, 1, none⟩ (.int .i64 0)).setCell ⟨gb197, 2, none⟩ (.int .i64 0)).setCell ⟨gb197, 3, none⟩ (.int .i64 0)).setCell ⟨gb197, 4, none⟩ (.slice Ao46 y194.length co46)) = w52 at n0_ n1_ n2_ n3_ n4_ n5_ n6_ n7_ n8_ n9_ n10_ n11_ ⊢
 have HO182 := n0_
 have HO187 := n1_
 have HO191 := n2_
 have HO196 := n3_
 have BK175 := n4_
 have BK178 := n5_
 have BK179 := n6_
 have BK188 := n7_
 have BK197 := n8_
 have HI0 := n9_
 have HK := n10_
 have HB := n11_
 clear n0_ n1_ n2_ n3_ n4_ n5_ n6_ n7_ n8_ n9_ n10_ n11_
 have hnb53 := NB188_175.out
 have hnc53 := NB175_188.out
 have hnb54 := NB188_178.out
 have hnc54 := NB178_188.out
 have hnb55 := NB188_179.out
 have hnc55 := NB179_188.out
 have hnb56 := NB188_197.out
 have hnc56 := NB197_188.out
 have hnb57 := NB188_0.out
 have hnc57 := NB0_188.out
 obtain ⟨hcz58_0, hcz58_1, hcz58_2, hcz58_3, hcz58_4, hfz58_0, hfz58_1, hfz58_2, hfz58_3, hfz58_4⟩ := cel5 BK188.out
 have hnb59 := NB178_197.out
 have hnc59 := NB197_178.out
 obtain ⟨hcz60_0, hcz60_1, hfz60_0, hfz60_1⟩ := cel2 BK178.out
 have hnb61 := NB197_175.out
 have hnc61 := NB175_197.out
 have hnb62 := NB197_179.out
 have hnc62 := NB179_197.out
 have hnb63 := NB197_0.out
 have hnc63 := NB0_197.out
 obtain ⟨hcz64_0, hcz64_1, hcz64_2, hcz64_3, hcz64_4, hfz64_0, hfz64_1, hfz64_2, hfz64_3, hfz64_4⟩ := cel5 BK197.out
 go_upto_if 35 with (first | ((with_reducible refine gate_dst (N := 31) rfl ?_); refine Kd.N_lit k33 _ 33 ?hg (N' := 31) ?hd (xs := ([(⟨1, (⟨3, t176⟩ : S28), (⟨3, 0, (⟨0, 0⟩ : S28), y194⟩ : S31), ([] : List (S33)), ([] : List (S33))⟩ : S33)] : List (S33))) (inner := [.int .i64 1, .int .i64 3, .int .i64 t176, .int .i64 3, .int .i64 0, .int .i64 0, .int .i64 0, .slice Ao46 y194.length co46, .slice none 0 0, .slice none 0 0]) (ok := (fun k_ => (w.heap.size ≤ k_) ∧ nB k_ v181 ∧ nB k_ (.slice Ao29 y185.length co29) ∧ nB k_ v190 ∧ k_ ≠ gb175 ∧ k_ ≠ gb178 ∧ k_ ≠ gb179 ∧ k_ ≠ gb188 ∧ k_ ≠ gb197 ∧ k_ ≠ g)) (okp := (fun k_ => (w.heap.size ≤ k_) ∧ nB k_ v181 ∧ nB k_ (.slice Ao29 y185.length co29) ∧ nB k_ v190 ∧ k_ ≠ gb175 ∧ k_ ≠ gb178 ∧ k_ ≠ gb179 ∧ k_ ≠ gb188 ∧ k_ ≠ gb197 ∧ k_ ≠ g)) ?hr ?hp (fun _ hk => hk) ((show ∀ k_, w52.heap.size ≤ k_ → (fun k_ => (w.heap.size ≤ k_) ∧ nB k_ v181 ∧ nB k_ (.slice Ao29 y185.length co29) ∧ nB k_ v190 ∧ k_ ≠ gb175 ∧ k_ ≠ gb178 ∧ k_ ≠ gb179 ∧ k_ ≠ gb188 ∧ k_ ≠ gb197 ∧ k_ ≠ g) k_ from fun k_ hk => ⟨(Nat.le_trans (kS HK.out) hk), Kd.fresh' (Kd.R_lt (mR HO182.out)) k_ hk, Kd.fresh' (Kd.N_lt (mN HO187.out)) k_ hk, Kd.fresh' (Kd.R_lt (mR HO191.out)) k_ hk, fB BK175.out hk, fB BK178.out hk, fB BK179.out hk, fB BK188.out hk, fB BK197.out hk, IsS53.fresh (mI53_1 HI0.out) k_ hk⟩) _ (Nat.le_refl _)) (Below.refl _ _) (Nat.le_refl _) (by simp) ?_; (case hd => rfl); (case hg => rfl); (case hr => first | (go_simp; done) | (go_simp; rfl)); (case hp => exact (Reps.c10 (show Kd.FK k33 _ _ (⟨1, (⟨3, t176⟩ : S28), (⟨3, 0, (⟨0, 0⟩ : S28), y194⟩ : S31), ([] : List (S33)), ([] : List (S33))⟩ : S33) [.int .i64 1, .int .i64 3, .int .i64 t176, .int .i64 3, .int .i64 0, .int .i64 0, .int .i64 0, .slice Ao46 y194.length co46, .slice none 0 0, .slice none 0 0] from (k33_mkF _ _ (⟨1, (⟨3, t176⟩ : S28), (⟨3, 0, (⟨0, 0⟩ : S28), y194⟩ : S31), ([] : List (S33)), ([] : List (S33))⟩ : S33) (Kd.N_reads' (Kd.N_mono (ok' := (fun k_ => (w.heap.size ≤ k_) ∧ nB k_ v181 ∧ nB k_ (.slice Ao29 y185.length co29) ∧ nB k_ v190 ∧ k_ ≠ gb175 ∧ k_ ≠ gb178 ∧ k_ ≠ gb179 ∧ k_ ≠ gb188 ∧ k_ ≠ gb197 ∧ k_ ≠ g)) (HO196.out) (fun k_ hk => ⟨hk.1, ⟨hk.2.1, ⟨hk.2.2.1, ⟨hk.2.2.2.1, ⟨hk.2.2.2.2.2.1, ⟨hk.2.2.2.2.2.2.1, ⟨hk.2.2.2.2.2.2.2.1, ⟨hk.2.2.2.2.2.2.2.2.1, ⟨hk.2.2.2.2.2.2.2.2.2, hk.2.2.2.2.1⟩⟩⟩⟩⟩⟩⟩⟩⟩))).2.1 (Kd.N_F (Kd.N_mono (ok' := (fun k_ => (w.heap.size ≤ k_) ∧ nB k_ v181 ∧ nB k_ (.slice Ao29 y185.length co29) ∧ nB k_ v190 ∧ k_ ≠ gb175 ∧ k_ ≠ gb178 ∧ k_ ≠ gb179 ∧ k_ ≠ gb188 ∧ k_ ≠ gb197 ∧ k_ ≠ g)) (HO196.out) (fun k_ hk => ⟨hk.1, ⟨hk.2.1, ⟨hk.2.2.1, ⟨hk.2.2.2.1, ⟨hk.2.2.2.2.2.1, ⟨hk.2.2.2.2.2.2.1, ⟨hk.2.2.2.2.2.2.2.1, ⟨hk.2.2.2.2.2.2.2.2.1, ⟨hk.2.2.2.2.2.2.2.2.2, hk.2.2.2.2.1⟩⟩⟩⟩⟩⟩⟩⟩⟩))) (Nat.le_refl _) (Kd.F_nil _ _ _) (Nat.le_refl _) (Kd.F_nil _ _ _))) (Reps.none _ _))); intro v199 w65 ho66 hb hg_ hnew_; clear hg_ hnew_; (first | rw [← Ny198.out] at ho66 | (simp only [Int.reduceToNat] at ho66; rw [← Ny198.out] at ho66)); have n_ := az (Kd.R_below (mR HO182.out) hb) <| az (Kd.N_elder' (mN HO187.out) (by first | exact Kd.N_base ho66 | exact Kd.R_base ho66) hb) <| az (Kd.R_below (mR HO191.out) hb) <| az (Kd.N_lower ho66 (kS HK.out)) <| az (IsS53.below (mI53_1 HI0.out) hb) <| az (bB BK175.out hb) <| az (bB BK178.out hb) <| az (bB BK179.out hb) <| az (bB BK188.out hb) <| az (bB BK197.out hb) <| az (KeepBut.trans (mKp HK.out) (KeepBut.of_below hb g none) (.inl rfl)) <| z0 (below_step (mB53HI0 HB.out) hb); clear HO182 HO187 HO191 HI0 BK175 BK178 BK179 BK188 BK197 HK HB HO196; obtain ⟨HO182, HO187, HO191, HO200, HI0, BK175, BK178, BK179, BK188, BK197, HK, HB⟩ := n_; clear hb ho66; obtain ⟨Ao67, co67, eo67⟩ := Kd.N_slice HO200.out; subst eo67) | ((with_reducible refine gate_dst (N := 7) rfl ?_); refine box_event ?hg (N := 7) ?hd (cs := #[.int .i64 0, .int .i64 0, .int .i64 0, .int .i64 0, .int .i64 0, .int .i64 0, .int .i64 0, .slice none 0 0, .slice none 0 0, .slice none 0 0]) (t := 33) ?hr ?_; (case hd => rfl); (case hg => rfl); (case hr => first | (go_simp; done) | (go_simp; rfl)); intro gb201 hg w68 hbox hb; have n_ := az (Kd.R_below (mR HO182.out) hb) <| az (Kd.N_below (Kd.N_elderB (mN HO187.out) gb201 (Nat.le_of_eq hg.symm)) hb) <| az (Kd.R_below (mR HO191.out) hb) <| az (Kd.N_below (Kd.N_elderB (mN HO200.out) gb201 (Nat.le_of_eq hg.symm)) hb) <| az (IsS53.below (mI53_1 HI0.out) hb) <| az (bB BK175.out hb) <| az (bB BK178.out hb) <| az (bB BK179.out hb) <| az (bB BK188.out hb) <| az (bB BK197.out hb) <| az (KeepBut.trans (mKp HK.out) (KeepBut.of_below hb g none) (.inl rfl)) <| az (below_step (mB53HI0 HB.out) hb) <| az (hbox) <| az ((gW hg HK.out)) <| az ((Nat.le_trans HW0.out (gW hg HK.out) : w0.heap.size ≤ gb201)) <| az ((nL hg BK175.out)) <| az ((nG hg BK175.out)) <| az ((nL hg BK178.out)) <| az ((nG hg BK178.out)) <| az ((nL hg BK179.out)) <| az ((nG hg BK179.out)) <| az ((nL hg BK188.out)) <| az ((nG hg BK188.out)) <| az ((nL hg BK197.out)) <| az ((nG hg BK197.out)) <| az ((by rw [hg]; exact Nat.ne_of_lt (IsS53.lt (show IsS53 w0 _ g s0_0 t193 from mI53_1 HI0.out)) : g ≠ gb201)) <| z0 ((by rw [hg]; exact Nat.ne_of_gt (IsS53.lt (show IsS53 w0 _ g s0_0 t193 from mI53_1 HI0.out)) : gb201 ≠ g)); clear HO182 HO187 HO191 HO200 HI0 BK175 BK178 BK179 BK188 BK197 HK HB; obtain ⟨HO182, HO187, HO191, HO200, HI0, BK175, BK178, BK179, BK188, BK197, HK, HB, BK201, GW201, GE201, NB175_201, NB201_175, NB178_201, NB201_178, NB179_201, NB201_179, NB188_201, NB201_188, NB197_201, NB201_197, NB0_201, NB201_0⟩ := n_; clear hb hbox hg; have hnb69 := NB201_175.out; have hnc69 := NB175_201.out; have hnb70 := NB201_178.out; have hnc70 := NB178_201.out; have hnb71 := NB201_179.out; have hnc71 := NB179_201.out; have hnb72 := NB201_188.out; have hnc72 := NB188_201.out; have hnb73 := NB201_197.out; have hnc73 := NB197_201.out; have hnb74 := NB201_0.out; have hnc74 := NB0_201.out; obtain ⟨hcz75_0, hcz75_1, hcz75_2, hcz75_3, hcz75_4, hcz75_5, hcz75_6, hcz75_7, hcz75_8, hcz75_9, hfz75_0, hfz75_1, hfz75_2, hfz75_3, hfz75_4, hfz75_5, hfz75_6, hfz75_7, hfz75_8, hfz75_9⟩ := cel10 BK201.out) | ((with_reducible refine gate_callee (f := 18) rfl ?_); refine goesL_ (some 34) rfl rfl Tryz.func18 (by kernel_rfl) rfl #[.pointer (some ⟨g, 0, none⟩), .int .i64 2] rfl argx ?_; (with_reducible refine (spec_l12Rd_pick.calls k g s0_0 t193 2 t202 t203 w0 _ ?side1 ?side2 A5.out).mono ?_); (case side1 => exact mI53_1 HI0.out); (case side2 => exact mB53HI0 HB.out); rintro e w76 ⟨rfl, hi, hb, hk⟩; refine ⟨_, rfl, ?_⟩; have n_ := az (KeepBut.blk hk (g' := gb175) (o := .cells #[.int .i64 0, .int .i64 0, .int .i64 0, .int .i64 0, .int .i64 0, .int .i64 0, .int .i64 0, .slice none 0 0, .slice none 0 0, .slice none 0 0] 33 (0, 0)) (mF BK175.out) NB175_0.out (by simp)) <| az (KeepBut.blk hk (g' := gb178) (o := .cells #[.int .i64 3, .int .i64 t176] 28 (0, 0)) (mF BK178.out) NB178_0.out (by simp)) <| az (KeepBut.blk hk (g' := gb179) (o := .cells #[.int .i64 2, .int .i64 0, .int .i64 3, .int .i64 t176, .slice none 0 0] 31 (0, 0)) (mF BK179.out) NB179_0.out (by simp)) <| az (Kd.R_mono (Kd.R_keep (IsS53.apart (show IsS53 w0 _ g s0_0 t193 from mI53_1 HI0.out) (by (with_reducible repeat (first | apply Kd.R_alloc | apply Kd.R_drewN | apply Kd.R_drew)); exact (Kd.R_mono (Kd.R_far (p := ⟨gb201, 9, none⟩) (Kd.R_far (p := ⟨gb201, 8, none⟩) (Kd.R_far (p := ⟨gb201, 7, none⟩) (Kd.R_far (p := ⟨gb201, 6, none⟩) (Kd.R_far (p := ⟨gb201, 5, none⟩) (Kd.R_far (p := ⟨gb201, 4, none⟩) (Kd.R_far (p := ⟨gb201, 3, none⟩) (Kd.R_far (p := ⟨gb201, 2, none⟩) (Kd.R_far (p := ⟨gb201, 1, none⟩) (Kd.R_far (p := ⟨gb201, 0, none⟩) (Kd.R_types HO182.out BK201.out (by decide)) (fun _ hk => hk.2) (.int .i64 3)) (fun _ hk => hk.2) (.int .i64 0)) (fun _ hk => hk.2) (.int .i64 0)) (fun _ hk => hk.2) (.int .i64 6)) (fun _ hk => hk.2) (.int .i64 0)) (fun _ hk => hk.2) (.int .i64 0)) (fun _ hk => hk.2) (.int .i64 0)) (fun _ hk => hk.2) (.slice Ao29 y185.length co29)) (fun _ hk => hk.2) (.slice Ao67 y198.length co67)) (fun _ hk => hk.2) (.slice none 0 0)) (fun _ h_ => h_.1))) (by decide)) hk (fun _ h => h.2)) (fun _ h => h.1)) <| az (Kd.N_mono (Kd.N_keep (Kd.N_mono (ok := fun k_ => (((((w.heap.size ≤ k_)) ∧ (nB k_ v181 ∧ (nB k_ v190 ∧ (nB k_ (.slice Ao46 y194.length co46) ∧ (k_ ≠ g ∧ (k_ ≠ gb175 ∧ (k_ ≠ gb178 ∧ (k_ ≠ gb179 ∧ (k_ ≠ gb188 ∧ k_ ≠ gb197))))))))) ∧ nB k_ (.slice Ao67 y198.length co67)) ∧ k_ ≠ gb201)) (by (with_reducible repeat (first | apply Kd.N_alloc | apply Kd.N_drewN | apply Kd.N_drew)); exact (Kd.N_mono (Kd.N_far (p := ⟨gb201, 9, none⟩) (Kd.N_far (p := ⟨gb201, 8, none⟩) (Kd.N_far (p := ⟨gb201, 7, none⟩) (Kd.N_far (p := ⟨gb201, 6, none⟩) (Kd.N_far (p := ⟨gb201, 5, none⟩) (Kd.N_far (p := ⟨gb201, 4, none⟩) (Kd.N_far (p := ⟨gb201, 3, none⟩) (Kd.N_far (p := ⟨gb201, 2, none⟩) (Kd.N_far (p := ⟨gb201, 1, none⟩) (Kd.N_far (p := ⟨gb201, 0, none⟩) (Kd.N_mono HO187.out (fun k_ hk => (⟨hk, hk.2⟩ : _ ∧ k_ ≠ gb201))) (fun _ hk => hk.2) (.int .i64 3)) (fun _ hk => hk.2) (.int .i64 0)) (fun _ hk => hk.2) (.int .i64 0)) (fun _ hk => hk.2) (.int .i64 6)) (fun _ hk => hk.2) (.int .i64 0)) (fun _ hk => hk.2) (.int .i64 0)) (fun _ hk => hk.2) (.int .i64 0)) (fun _ hk => hk.2) (.slice Ao29 y185.length co29)) (fun _ hk => hk.2) (.slice Ao67 y198.length co67)) (fun _ hk => hk.2) (.slice none 0 0)) (fun _ h_ => h_.1))) (fun k_ hk_ => (⟨hk_, hk_.1.1.2.2.2.2.1⟩ : _ ∧ k_ ≠ g))) hk (fun _ h => h.2)) (fun _ h => h.1)) <| az (KeepBut.blk hk (g' := gb188) (o := .cells #[.int .i64 6, .int .i64 0, .int .i64 0, .int .i64 0, .slice Ao29 y185.length co29] 31 (0, 0)) (mF BK188.out) NB188_0.out (by simp)) <| az (Kd.R_mono (Kd.R_keep (IsS53.apart (show IsS53 w0 _ g s0_0 t193 from mI53_1 HI0.out) (by (with_reducible repeat (first | apply Kd.R_alloc | apply Kd.R_drewN | apply Kd.R_drew)); exact (Kd.R_mono (Kd.R_far (p := ⟨gb201, 9, none⟩) (Kd.R_far (p := ⟨gb201, 8, none⟩) (Kd.R_far (p := ⟨gb201, 7, none⟩) (Kd.R_far (p := ⟨gb201, 6, none⟩) (Kd.R_far (p := ⟨gb201, 5, none⟩) (Kd.R_far (p := ⟨gb201, 4, none⟩) (Kd.R_far (p := ⟨gb201, 3, none⟩) (Kd.R_far (p := ⟨gb201, 2, none⟩) (Kd.R_far (p := ⟨gb201, 1, none⟩) (Kd.R_far (p := ⟨gb201, 0, none⟩) (Kd.R_types HO191.out BK201.out (by decide)) (fun _ hk => hk.2) (.int .i64 3)) (fun _ hk => hk.2) (.int .i64 0)) (fun _ hk => hk.2) (.int .i64 0)) (fun _ hk => hk.2) (.int .i64 6)) (fun _ hk => hk.2) (.int .i64 0)) (fun _ hk => hk.2) (.int .i64 0)) (fun _ hk => hk.2) (.int .i64 0)) (fun _ hk => hk.2) (.slice Ao29 y185.length co29)) (fun _ hk => hk.2) (.slice Ao67 y198.length co67)) (fun _ hk => hk.2) (.slice none 0 0)) (fun _ h_ => h_.1))) (by decide)) hk (fun _ h => h.2)) (fun _ h => h.1)) <| az (KeepBut.blk hk (g' := gb197) (o := .cells #[.int .i64 3, .int .i64 0, .int .i64 0, .int .i64 0, .slice Ao46 y194.length co46] 31 (0, 0)) (mF BK197.out) NB197_0.out (by simp)) <| az (Kd.N_mono (Kd.N_keep (Kd.N_mono (ok := fun k_ => ((((w.heap.size ≤ k_)) ∧ (nB k_ v181 ∧ (nB k_ (.slice Ao29 y185.length co29) ∧ (nB k_ v190 ∧ (k_ ≠ gb175 ∧ (k_ ≠ gb178 ∧ (k_ ≠ gb179 ∧ (k_ ≠ gb188 ∧ (k_ ≠ gb197 ∧ k_ ≠ g))))))))) ∧ k_ ≠ gb201)) (by (with_reducible repeat (first | apply Kd.N_alloc | apply Kd.N_drewN | apply Kd.N_drew)); exact (Kd.N_mono (Kd.N_far (p := ⟨gb201, 9, none⟩) (Kd.N_far (p := ⟨gb201, 8, none⟩) (Kd.N_far (p := ⟨gb201, 7, none⟩) (Kd.N_far (p := ⟨gb201, 6, none⟩) (Kd.N_far (p := ⟨gb201, 5, none⟩) (Kd.N_far (p := ⟨gb201, 4, none⟩) (Kd.N_far (p := ⟨gb201, 3, none⟩) (Kd.N_far (p := ⟨gb201, 2, none⟩) (Kd.N_far (p := ⟨gb201, 1, none⟩) (Kd.N_far (p := ⟨gb201, 0, none⟩) (Kd.N_mono HO200.out (fun k_ hk => (⟨hk, hk.2⟩ : _ ∧ k_ ≠ gb201))) (fun _ hk => hk.2) (.int .i64 3)) (fun _ hk => hk.2) (.int .i64 0)) (fun _ hk => hk.2) (.int .i64 0)) (fun _ hk => hk.2) (.int .i64 6)) (fun _ hk => hk.2) (.int .i64 0)) (fun _ hk => hk.2) (.int .i64 0)) (fun _ hk => hk.2) (.int .i64 0)) (fun _ hk => hk.2) (.slice Ao29 y185.length co29)) (fun _ hk => hk.2) (.slice Ao67 y198.length co67)) (fun _ hk => hk.2) (.slice none 0 0)) (fun _ h_ => h_.1))) (fun k_ hk_ => (⟨hk_, hk_.1.2.2.2.2.2.2.2.2.2⟩ : _ ∧ k_ ≠ g))) hk (fun _ h => h.2)) (fun _ h => h.1)) <| az (KeepBut.blk hk (g' := gb201) (o := .cells #[.int .i64 3, .int .i64 0, .int .i64 0, .int .i64 6, .int .i64 0, .int .i64 0, .int .i64 0, .slice Ao29 y185.length co29, .slice Ao67 y198.length co67, .slice none 0 0] 33 (0, 0)) (by (with_reducible repeat (first | refine blk_drewN ?_ _ | refine blk_drew ?_ | refine blk_alloc ?_ _)); refine blk_put (cs := #[.int .i64 3, .int .i64 0, .int .i64 0, .int .i64 6, .int .i64 0, .int .i64 0, .int .i64 0, .slice Ao29 y185.length co29, .slice Ao67 y198.length co67, .slice none 0 0]) ?_ 9 _ rfl; (with_reducible repeat (first | refine blk_drewN ?_ _ | refine blk_drew ?_ | refine blk_alloc ?_ _)); refine blk_put (cs := #[.int .i64 3, .int .i64 0, .int .i64 0, .int .i64 6, .int .i64 0, .int .i64 0, .int .i64 0, .slice Ao29 y185.length co29, .slice none 0 0, .slice none 0 0]) ?_ 8 _ rfl; (with_reducible repeat (first | refine blk_drewN ?_ _ | refine blk_drew ?_ | refine blk_alloc ?_ _)); refine blk_put (cs := #[.int .i64 3, .int .i64 0, .int .i64 0, .int .i64 6, .int .i64 0, .int .i64 0, .int .i64 0, .slice none 0 0, .slice none 0 0, .slice none 0 0]) ?_ 7 _ rfl; (with_reducible repeat (first | refine blk_drewN ?_ _ | refine blk_drew ?_ | refine blk_alloc ?_ _)); refine blk_put (cs := #[.int .i64 3, .int .i64 0, .int .i64 0, .int .i64 6, .int .i64 0, .int .i64 0, .int .i64 0, .slice none 0 0, .slice none 0 0, .slice none 0 0]) ?_ 6 _ rfl; (with_reducible repeat (first | refine blk_drewN ?_ _ | refine blk_drew ?_ | refine blk_alloc ?_ _)); refine blk_put (cs := #[.int .i64 3, .int .i64 0, .int .i64 0, .int .i64 6, .int .i64 0, .int .i64 0, .int .i64 0, .slice none 0 0, .slice none 0 0, .slice none 0 0]) ?_ 5 _ rfl; (with_reducible repeat (first | refine blk_drewN ?_ _ | refine blk_drew ?_ | refine blk_alloc ?_ _)); refine blk_put (cs := #[.int .i64 3, .int .i64 0, .int .i64 0, .int .i64 6, .int .i64 0, .int .i64 0, .int .i64 0, .slice none 0 0, .slice none 0 0, .slice none 0 0]) ?_ 4 _ rfl; (with_reducible repeat (first | refine blk_drewN ?_ _ | refine blk_drew ?_ | refine blk_alloc ?_ _)); refine blk_put (cs := #[.int .i64 3, .int .i64 0, .int .i64 0, .int .i64 0, .int .i64 0, .int .i64 0, .int .i64 0, .slice none 0 0, .slice none 0 0, .slice none 0 0]) ?_ 3 _ rfl; (with_reducible repeat (first | refine blk_drewN ?_ _ | refine blk_drew ?_ | refine blk_alloc ?_ _)); refine blk_put (cs := #[.int .i64 3, .int .i64 0, .int .i64 0, .int .i64 0, .int .i64 0, .int .i64 0, .int .i64 0, .slice none 0 0, .slice none 0 0, .slice none 0 0]) ?_ 2 _ rfl; (with_reducible repeat (first | refine blk_drewN ?_ _ | refine blk_drew ?_ | refine blk_alloc ?_ _)); refine blk_put (cs := #[.int .i64 3, .int .i64 0, .int .i64 0, .int .i64 0, .int .i64 0, .int .i64 0, .int .i64 0, .slice none 0 0, .slice none 0 0, .slice none 0 0]) ?_ 1 _ rfl; (with_reducible repeat (first | refine blk_drewN ?_ _ | refine blk_drew ?_ | refine blk_alloc ?_ _)); refine blk_put (cs := #[.int .i64 0, .int .i64 0, .int .i64 0, .int .i64 0, .int .i64 0, .int .i64 0, .int .i64 0, .slice none 0 0, .slice none 0 0, .slice none 0 0]) ?_ 0 _ rfl; (with_reducible repeat (first | refine blk_drewN ?_ _ | refine blk_drew ?_ | refine blk_alloc ?_ _)); exact BK201.out) NB201_0.out (by simp)) <| az (KeepBut.trans (mKp HK.out) hk (.inl rfl)) <| az (hb) <| z0 (hi); clear BK175 BK178 BK179 HO182 HO187 BK188 HO191 BK197 HO200 BK201 HK HB HI0; obtain ⟨BK175, BK178, BK179, HO182, HO187, BK188, HO191, BK197, HO200, BK201, HK, HB, HI0⟩ := n_; clear hb hk hi))
 (try simp only [Act.put, List.setIfInBounds_toArray, List.set_cons_zero, List.set_cons_succ])
 have H := HF6.out
 clear HF6
 (try clear c10); (try clear hcz58_0); (try clear hcz58_1); (try clear hcz58_2); (try clear hcz58_3); (try clear hcz58_4); (try clear hcz60_0); (try clear hcz60_1); (try clear hcz64_0); (try clear hcz64_1); (try clear hcz64_2); (try clear hcz64_3); (try clear hcz64_4); (try clear hcz75_0); (try clear hcz75_1); (try clear hcz75_2); (try clear hcz75_3); (try clear hcz75_4); (try clear hcz75_5); (try clear hcz75_6); (try clear hcz75_7); (try clear hcz75_8); (try clear hcz75_9); (try clear hfz58_0); (try clear hfz58_1); (try clear hfz58_2); (try clear hfz58_3); (try clear hfz58_4); (try clear hfz60_0); (try clear hfz60_1); (try clear hfz64_0); (try clear hfz64_1); (try clear hfz64_2); (try clear hfz64_3); (try clear hfz64_4); (try clear hfz75_0); (try clear hfz75_1); (try clear hfz75_2); (try clear hfz75_3); (try clear hfz75_4); (try clear hfz75_5); (try clear hfz75_6); (try clear hfz75_7); (try clear hfz75_8); (try clear hfz75_9)
 by_cases c77 : t202 = 0
 ·rw [if_pos c77] at H
  have c77b0 : (t202 == 0) = true := beq_iff_eq.mpr c77
  have c77b1 : (t202 != 0) = false := bne_eq_false_iff_eq.mpr c77
  clear c77
  (first | rw [c77b0] | (simp only [i64_w, i32_w]; rw [c77b0]) | skip)
  replace H := Option.bind_eq_some_iff.mp H
  obtain ⟨⟨t204, t205, t206⟩, A780, H⟩ := H
  try dsimp only at H
  have A78 := z0 A780
  clear A780
  replace H := Option.bind_eq_some_iff.mp H
  obtain ⟨⟨t207, t208, t209, t210, t211, t214⟩, A790, H⟩ := H
  try dsimp only at H
  have A79 := z0 A790
  clear A790
  by_cases c80 : y198.length < 1099511627776
  ·rw [if_pos c80] at H
   have LMc80 := z0 c80
   clear c80
   obtain ⟨y215, hy215⟩ : ∃ y_ : List (S33), y_ = (y198 ++ [(⟨1, (⟨t204, t205⟩ : S28), (⟨t207, t208, (⟨t209, t210⟩ : S28), t211⟩ : S31), ([] : List (S33)), ([] : List (S33))⟩ : S33)]) := ⟨_, rfl⟩
   replace H : (some (3, 0, 0, 6, 0, 0, 0, y185, y215, ([] : List (S33)), t214)) = some (r1, r2, r3, r4, r5, r6, r7, r8, r9, r10, r11) := by first | (rw [hy215]; with_reducible exact H) | (have H2_ := (Option.bind_some _ _).symm.trans H; rw [hy215]; with_reducible exact H2_) | (have H2_ := (Option.bind_some _ _).symm.trans H; with_reducible exact H2_) | with_reducible exact H | (rw [hy215]; exact H) | exact H
   have Ny215 := z0 hy215
   clear hy215
   simp only [Option.some.injEq, Prod.mk.injEq] at H
   obtain ⟨rfl, rfl, rfl, rfl, rfl, rfl, rfl, rfl, rfl, rfl, rfl⟩ := H
   try go_wp2
   have n_ := az (Kd.R_drew HO182.out) <| az (Kd.N_drew HO187.out) <| az (Kd.R_drew HO191.out) <| az (Kd.N_drew HO200.out) <| az (blk_drew BK175.out) <| az (blk_drew BK178.out) <| az (blk_drew BK179.out) <| az (blk_drew BK188.out) <| az (blk_drew BK197.out) <| az (blk_drew BK201.out) <| az (IsS53.drew HI0.out) <| az (keep_drew HK.out) <| z0 (below_drew1 HB.out)
   clear HO182 HO187 HO191 HO200 BK175 BK178 BK179 BK188 BK197 BK201 HI0 HK HB
   obtain ⟨HO182, HO187, HO191, HO200, BK175, BK178, BK179, BK188, BK197, BK201, HI0, HK, HB⟩ := n_
   refine start_ (n := 11) (S := fun w' => w'.cell? ⟨gb201, 0, none⟩ = some (.int .i64 3) ∧ w'.cell? ⟨gb201, 1, none⟩ = some (.int .i64 0) ∧ w'.cell? ⟨gb201, 2, none⟩ = some (.int .i64 0) ∧ w'.cell? ⟨gb201, 3, none⟩ = some (.int .i64 6) ∧ w'.cell? ⟨gb201, 4, none⟩ = some (.int .i64 0) ∧ w'.cell? ⟨gb201, 5, none⟩ = some (.int .i64 0) ∧ w'.cell? ⟨gb201, 6, none⟩ = some (.int .i64 0) ∧ w'.cell? ⟨gb201, 7, none⟩ = some (.slice Ao29 y185.length co29) ∧ w'.cell? ⟨gb201, 8, none⟩ = some (.slice Ao67 y198.length co67) ∧ w'.cell? ⟨gb201, 9, none⟩ = some (.slice none 0 0)) (ds := [10]) #[false, false, false, false, false, false, false, false, false, false, false] (by kernel_rfl) rfl rfl q32_3 (fun hHeld => ?_); refine with_tabW spec_l4Count.tab7 spec_l4Count.bits7 (fun HT_ HW_ => ?_)
   generalize w76.drew = w81 at HO182 HO187 HO191 HO200 BK175 BK178 BK179 BK188 BK197 BK201 HI0 HK HB hHeld ⊢
   refine pure_ (i := 0) (N := some 36) (v := ?_) (a' := ?_) #[true, false, false, false, false, false, false, false, false, false, false] rfl rfl (any_of HT_.out (by kernel_rfl)) (fun _ _ _ h => h) (Or.inl ⟨by rfl, ?_⟩) ?_ ?_
   rotate_left
   ·intro w'
    go_simp
    with_reducible rfl
   rotate_left
   ·simp only [Act.put, List.setIfInBounds_toArray, List.set_cons_zero, List.set_cons_succ, i64_w, i32_w]
    rfl
   refine pure_ (i := 2) (N := some 38) (v := ?_) (a' := ?_) #[true, false, true, false, false, false, false, false, false, false, false] rfl rfl (any_of HT_.out (by kernel_rfl)) (fun _ _ _ h => h) (Or.inl ⟨by rfl, ?_⟩) ?_ ?_
   rotate_left
   ·intro w'
    go_simp
    with_reducible rfl
   rotate_left
   ·simp only [Act.put, List.setIfInBounds_toArray, List.set_cons_zero, List.set_cons_succ, i64_w, i32_w]
    rfl
   refine pure_ (i := 4) (N := some 40) (v := ?_) (a' := ?_) #[true, false, true, false, true, false, false, false, false, false, false] rfl rfl (any_of HT_.out (by kernel_rfl)) (fun _ _ _ h => h) (Or.inl ⟨by rfl, ?_⟩) ?_ ?_
   rotate_left
   ·intro w'
    go_simp
    with_reducible rfl
   rotate_left
   ·simp only [Act.put, List.setIfInBounds_toArray, List.set_cons_zero, List.set_cons_succ, i64_w, i32_w]
    rfl
   refine take_ (i := 1) (N := some 37) (v := ?_) (a' := ?_) #[true, true, true, false, true, false, false, false, false, false, false] rfl rfl (take_ofW HT_.out HW_.out (by kernel_rfl)) (fun _ _ _ h => h) (Or.inl ⟨by rfl, ?_⟩) hHeld ?_ ?_
   rotate_left
   ·rintro w' ⟨s0, s1, s2, s3, s4, s5, s6, s7, s8, s9⟩
    go_simp
    with_reducible rfl
   rotate_left
   ·simp only [Act.put, List.setIfInBounds_toArray, List.set_cons_zero, List.set_cons_succ, i64_w, i32_w]
    rfl
   refine one_ (i := 3) (N := some 39) #[true, true, true, true, true, false, false, false, false, false, false] rfl rfl (one_of HT_.out (by kernel_rfl)) (by decide) (fun K hK => ?_)
   refine goes_ Tryz.func23 (by kernel_rfl) rfl #[.pointer (some ⟨g, 0, none⟩)] (by rfl) rfl rfl argx ?_
   with_reducible refine (spec_l2To.calls k g s0_0 t203 t204 t205 t206 w0 _ ?side1 ?side2 A78.out).mono ?_
   (case side1 => exact mI53_1 HI0.out)
   (case side2 => exact mB53HI0 HB.out)
   rintro e w82 ⟨rfl, hi, hb, hk⟩
   refine ⟨_, rfl, ?_⟩
   have n_ := az (kB hk BK175.out NB175_0.out) <| az (kB hk BK178.out NB178_0.out) <| az (kB hk BK179.out NB179_0.out) <| And.intro (z0 (Kd.R_mono (Kd.R_keep (IsS53.apart (show IsS53 w0 _ g s0_0 t203 from mI53_1 HI0.out) (mR HO182.out) (by decide)) hk (fun _ h => h.2)) (fun _ h => h.1))) <| And.intro (z0 (Kd.N_mono (Kd.N_keep (Kd.N_mono (ok := fun k_ => (((((w.heap.size ≤ k_)) ∧ (nB k_ v181 ∧ (nB k_ v190 ∧ (nB k_ (.slice Ao46 y194.length co46) ∧ (k_ ≠ g ∧ (k_ ≠ gb175 ∧ (k_ ≠ gb178 ∧ (k_ ≠ gb179 ∧ (k_ ≠ gb188 ∧ k_ ≠ gb197))))))))) ∧ nB k_ (.slice Ao67 y198.length co67)) ∧ k_ ≠ gb201)) (mN HO187.out) (fun k_ hk_ => (⟨hk_, hk_.1.1.2.2.2.2.1⟩ : _ ∧ k_ ≠ g))) hk (fun _ h => h.2)) (fun _ h => h.1))) <| az (kB hk BK188.out NB188_0.out) <| And.intro (z0 (Kd.R_mono (Kd.R_keep (IsS53.apart (show IsS53 w0 _ g s0_0 t203 from mI53_1 HI0.out) (mR HO191.out) (by decide)) hk (fun _ h => h.2)) (fun _ h => h.1))) <| az (kB hk BK197.out NB197_0.out) <| And.intro (z0 (Kd.N_mono (Kd.N_keep (Kd.N_mono (ok := fun k_ => ((((w.heap.size ≤ k_)) ∧ (nB k_ v181 ∧ (nB k_ (.slice Ao29 y185.length co29) ∧ (nB k_ v190 ∧ (k_ ≠ gb175 ∧ (k_ ≠ gb178 ∧ (k_ ≠ gb179 ∧ (k_ ≠ gb188 ∧ (k_ ≠ gb197 ∧ k_ ≠ g))))))))) ∧ k_ ≠ gb201)) (mN HO200.out) (fun k_ hk_ => (⟨hk_, hk_.1.2.2.2.2.2.2.2.2.2⟩ : _ ∧ k_ ≠ g))) hk (fun _ h => h.2)) (fun _ h => h.1))) <| az (kB hk BK201.out NB201_0.out) <| az (KeepBut.trans (mKp HK.out) hk (.inl rfl)) <| az (hb) <| z0 (hi)
   clear BK175 BK178 BK179 HO182 HO187 BK188 HO191 BK197 HO200 BK201 HK HB HI0
   obtain ⟨BK175, BK178, BK179, HO182, HO187, BK188, HO191, BK197, HO200, BK201, HK, HB, HI0⟩ := n_
   (try clear hb)
   (try clear hb2)
   (try clear hk)
   (try clear hi)
   refine hK.out _ _ q32_3 (fun hHeld => ?_)
   clear hK K
   refine norm_ (a' := ?_) ?_ ?_
   rotate_left
   ·show Act.put _ (some 39) _ = _
    simp only [Act.put, List.setIfInBounds_toArray, List.set_cons_zero, List.set_cons_succ, i64_w, i32_w]
    rfl
   refine one_ (i := 5) (N := some 41) #[true, true, true, true, true, true, false, false, false, false, false] rfl rfl (one_of HT_.out (by kernel_rfl)) (by decide) (fun K hK => ?_)
   refine goes_ Tryz.func22 (by kernel_rfl) rfl #[.pointer (some ⟨g, 0, none⟩), .int .i64 2] (by rfl) rfl rfl argx ?_
   with_reducible refine (spec_l3Expr.calls k g s0_0 t206 2 t207 t208 t209 t210 t211 t214 w0 _ ?side1 ?side2 A79.out).mono ?_
   (case side1 => exact mI53_1 HI0.out)
   (case side2 => exact mB53HI0 HB.out)
   rintro e w83 ⟨v212, rfl, ho0, hi, hb, hk⟩
   refine ⟨_, rfl, ?_⟩
   have n_ := az (kB hk BK175.out NB175_0.out) <| az (kB hk BK178.out NB178_0.out) <| az (kB hk BK179.out NB179_0.out) <| And.intro (z0 (Kd.R_mono (Kd.R_keep (IsS53.apart (show IsS53 w0 _ g s0_0 t206 from mI53_1 HI0.out) (mR HO182.out) (by decide)) hk (fun _ h => h.2)) (fun _ h => h.1))) <| And.intro (z0 (Kd.N_mono (Kd.N_told (Kd.N_oldK (Kd.N_mono (ok := fun k_ => (((((w.heap.size ≤ k_)) ∧ (nB k_ v181 ∧ (nB k_ v190 ∧ (nB k_ (.slice Ao46 y194.length co46) ∧ (k_ ≠ g ∧ (k_ ≠ gb175 ∧ (k_ ≠ gb178 ∧ (k_ ≠ gb179 ∧ (k_ ≠ gb188 ∧ k_ ≠ gb197))))))))) ∧ nB k_ (.slice Ao67 y198.length co67)) ∧ k_ ≠ gb201)) (mN HO187.out) (fun k_ hk_ => (⟨hk_, hk_.1.1.2.2.2.2.1⟩ : _ ∧ k_ ≠ g))) hk) (by first | exact Kd.N_base ho0 | exact Kd.R_base ho0)) (fun _ h_ => h_.1))) <| az (kB hk BK188.out NB188_0.out) <| And.intro (z0 (Kd.R_mono (Kd.R_keep (IsS53.apart (show IsS53 w0 _ g s0_0 t206 from mI53_1 HI0.out) (mR HO191.out) (by decide)) hk (fun _ h => h.2)) (fun _ h => h.1))) <| az (kB hk BK197.out NB197_0.out) <| And.intro (z0 (Kd.N_mono (Kd.N_told (Kd.N_oldK (Kd.N_mono (ok := fun k_ => ((((w.heap.size ≤ k_)) ∧ (nB k_ v181 ∧ (nB k_ (.slice Ao29 y185.length co29) ∧ (nB k_ v190 ∧ (k_ ≠ gb175 ∧ (k_ ≠ gb178 ∧ (k_ ≠ gb179 ∧ (k_ ≠ gb188 ∧ (k_ ≠ gb197 ∧ k_ ≠ g))))))))) ∧ k_ ≠ gb201)) (mN HO200.out) (fun k_ hk_ => (⟨hk_, hk_.1.2.2.2.2.2.2.2.2.2⟩ : _ ∧ k_ ≠ g))) hk) (by first | exact Kd.N_base ho0 | exact Kd.R_base ho0)) (fun _ h_ => h_.1))) <| az (kB hk BK201.out NB201_0.out) <| And.intro (z0 (Kd.N_lower (Kd.N_mono (ok' := fun k_ => (w.heap.size ≤ k_) ∧ nB k_ v181 ∧ nB k_ (.slice Ao29 y185.length co29) ∧ nB k_ v190 ∧ nB k_ (.slice Ao67 y198.length co67) ∧ k_ ≠ gb175 ∧ k_ ≠ gb178 ∧ k_ ≠ gb179 ∧ k_ ≠ gb188 ∧ k_ ≠ gb197 ∧ k_ ≠ gb201 ∧ k_ ≠ g) (Kd.R_N (Kd.R_bound ho0)) (fun k_ hk_ => ⟨(Nat.le_trans (kS HK.out) hk_.2.1), (Kd.fresh' (Kd.R_lt (mR HO182.out)) k_ hk_.2.1), (Kd.fresh' (Kd.N_lt (mN HO187.out)) k_ hk_.2.1), (Kd.fresh' (Kd.R_lt (mR HO191.out)) k_ hk_.2.1), (Kd.fresh' (Kd.N_lt (mN HO200.out)) k_ hk_.2.1), (fB BK175.out hk_.2.1), (fB BK178.out hk_.2.1), (fB BK179.out hk_.2.1), (fB BK188.out hk_.2.1), (fB BK197.out hk_.2.1), (fB BK201.out hk_.2.1), (IsS53.fresh (mI53_1 HI0.out) k_ hk_.2.1)⟩)) (kS HK.out))) <| az (KeepBut.trans (mKp HK.out) hk (.inl rfl)) <| az (hb) <| z0 (hi)
   clear BK175 BK178 BK179 HO182 HO187 BK188 HO191 BK197 HO200 BK201 HK HB HI0
   obtain ⟨BK175, BK178, BK179, HO182, HO187, BK188, HO191, BK197, HO200, BK201, HO213, HK, HB, HI0⟩ := n_
   (try clear hb)
   (try clear hb2)
   (try clear hk)
   (try clear hi)
   (try clear ho0)
   obtain ⟨Ao84, co84, eo84⟩ := Kd.N_slice HO213.out
   (first | subst eo84 | (injection eo84 with f1_ f2_ f3_; have f4_ := f1_.symm; have f5_ := f3_.symm; clear f1_ f2_ f3_; subst f4_; subst f5_))
   refine hK.out _ _ q32_3 (fun hHeld => ?_)
   clear hK K
   refine norm_ (a' := ?_) ?_ ?_
   rotate_left
   ·show Act.put _ (some 41) _ = _
    simp only [Act.put, List.setIfInBounds_toArray, List.set_cons_zero, List.set_cons_succ, i64_w, i32_w]
    rfl
   refine pure_ (i := 6) (N := some 42) (v := ?_) (a' := ?_) #[true, true, true, true, true, true, true, false, false, false, false] rfl rfl (any_of HT_.out (by kernel_rfl)) (fun _ _ _ h => h) (Or.inl ⟨by rfl, ?_⟩) ?_ ?_
   rotate_left
   ·intro w'
    go_simp
    with_reducible rfl
   rotate_left
   ·simp only [Act.put, List.setIfInBounds_toArray, List.set_cons_zero, List.set_cons_succ, i64_w, i32_w]
    rfl
   refine one_ (i := 7) (N := some 43) #[true, true, true, true, true, true, true, true, false, false, false] rfl rfl (one_of HT_.out (by kernel_rfl)) (by decide) (fun K hK => ?_)
   refine value_ (w1 := ?_) (v := ?_) (by rfl) rfl ?_ ?_
   rotate_left 2
   ·go_simp
    constructor
    ·rfl
    ·rfl
   refine hK.out _ _ ⟨(blk_cell (blk_alloc BK201.out _) 0).trans rfl, (blk_cell (blk_alloc BK201.out _) 1).trans rfl, (blk_cell (blk_alloc BK201.out _) 2).trans rfl, (blk_cell (blk_alloc BK201.out _) 3).trans rfl, (blk_cell (blk_alloc BK201.out _) 4).trans rfl, (blk_cell (blk_alloc BK201.out _) 5).trans rfl, (blk_cell (blk_alloc BK201.out _) 6).trans rfl, (blk_cell (blk_alloc BK201.out _) 7).trans rfl, (blk_cell (blk_alloc BK201.out _) 8).trans rfl, (blk_cell (blk_alloc BK201.out _) 9).trans rfl⟩ (fun hHeld => ?_)
   clear hK K
   refine norm_ (a' := ?_) ?_ ?_
   rotate_left
   ·show Act.put _ (some 43) _ = _
    simp only [Act.put, List.setIfInBounds_toArray, List.set_cons_zero, List.set_cons_succ, i64_w, i32_w]
    rfl
   refine one_ (i := 8) (N := some 44) #[true, true, true, true, true, true, true, true, true, false, false] rfl rfl (one_of HT_.out (by kernel_rfl)) (by decide) (fun K hK => ?_)
   refine Kd.N_append_step k33 w.heap.size (by rfl) (.tmp 37) (.tmp 43) 23 33 (.agg #[(.int .i64 0), (.int .i64 0), (.int .i64 0), (.int .i64 0), (.int .i64 0), (.int .i64 0), (.int .i64 0), (.slice none 0 0), (.slice none 0 0), (.slice none 0 0)]) 128 rfl Tryz.underlying23 info33 rfl (by decide) (by omega) (.slice Ao67 y198.length co67) y198 (⟨1, (⟨t204, t205⟩ : S28), (⟨t207, t208, (⟨t209, t210⟩ : S28), t211⟩ : S31), ([] : List (S33)), ([] : List (S33))⟩ : S33) [.int .i64 1, .int .i64 t204, .int .i64 t205, .int .i64 t207, .int .i64 t208, .int .i64 t209, .int .i64 t210, .slice Ao84 t211.length co84, .slice none 0 0, .slice none 0 0] (fun k_ => (w.heap.size ≤ k_) ∧ nB k_ v181 ∧ nB k_ (.slice Ao29 y185.length co29) ∧ nB k_ v190 ∧ k_ ≠ gb175 ∧ k_ ≠ gb178 ∧ k_ ≠ gb179 ∧ k_ ≠ gb188 ∧ k_ ≠ gb197 ∧ k_ ≠ gb201 ∧ k_ ≠ g) (fun k_ => ((fun k_ => (w.heap.size ≤ k_) ∧ nB k_ v181 ∧ nB k_ (.slice Ao29 y185.length co29) ∧ nB k_ v190 ∧ k_ ≠ gb175 ∧ k_ ≠ gb178 ∧ k_ ≠ gb179 ∧ k_ ≠ gb188 ∧ k_ ≠ gb197 ∧ k_ ≠ gb201 ∧ k_ ≠ g)) k_ ∧ nB k_ (.slice Ao67 y198.length co67)) rfl rfl ?aP (fun _ hk => hk) ?aF ?aO (Below.refl _ _) ?aS ?aL ?_
   (case aP => exact (k33_mkF _ _ (⟨1, (⟨t204, t205⟩ : S28), (⟨t207, t208, (⟨t209, t210⟩ : S28), t211⟩ : S31), ([] : List (S33)), ([] : List (S33))⟩ : S33) (Kd.N_reads' (Kd.N_mono (ok' := (fun k_ => ((fun k_ => (w.heap.size ≤ k_) ∧ nB k_ v181 ∧ nB k_ (.slice Ao29 y185.length co29) ∧ nB k_ v190 ∧ k_ ≠ gb175 ∧ k_ ≠ gb178 ∧ k_ ≠ gb179 ∧ k_ ≠ gb188 ∧ k_ ≠ gb197 ∧ k_ ≠ gb201 ∧ k_ ≠ g)) k_ ∧ nB k_ (.slice Ao67 y198.length co67))) (HO213.out) (fun k_ hk => ⟨⟨hk.1, ⟨hk.2.1, ⟨hk.2.2.1, ⟨hk.2.2.2.1, ⟨hk.2.2.2.2.2.1, ⟨hk.2.2.2.2.2.2.1, ⟨hk.2.2.2.2.2.2.2.1, ⟨hk.2.2.2.2.2.2.2.2.1, ⟨hk.2.2.2.2.2.2.2.2.2.1, ⟨hk.2.2.2.2.2.2.2.2.2.2.1, hk.2.2.2.2.2.2.2.2.2.2.2⟩⟩⟩⟩⟩⟩⟩⟩⟩⟩, hk.2.2.2.2.1⟩))).2.1 (Kd.N_F (Kd.N_mono (ok' := (fun k_ => ((fun k_ => (w.heap.size ≤ k_) ∧ nB k_ v181 ∧ nB k_ (.slice Ao29 y185.length co29) ∧ nB k_ v190 ∧ k_ ≠ gb175 ∧ k_ ≠ gb178 ∧ k_ ≠ gb179 ∧ k_ ≠ gb188 ∧ k_ ≠ gb197 ∧ k_ ≠ gb201 ∧ k_ ≠ g)) k_ ∧ nB k_ (.slice Ao67 y198.length co67))) (HO213.out) (fun k_ hk => ⟨⟨hk.1, ⟨hk.2.1, ⟨hk.2.2.1, ⟨hk.2.2.2.1, ⟨hk.2.2.2.2.2.1, ⟨hk.2.2.2.2.2.2.1, ⟨hk.2.2.2.2.2.2.2.1, ⟨hk.2.2.2.2.2.2.2.2.1, ⟨hk.2.2.2.2.2.2.2.2.2.1, ⟨hk.2.2.2.2.2.2.2.2.2.2.1, hk.2.2.2.2.2.2.2.2.2.2.2⟩⟩⟩⟩⟩⟩⟩⟩⟩⟩, hk.2.2.2.2.1⟩))) (Nat.le_refl _) (Kd.F_nil _ _ _) (Nat.le_refl _) (Kd.F_nil _ _ _)))
   (case aF => exact (fun k_ hk => ⟨(Nat.le_trans (kS HK.out) hk), Kd.fresh' (Kd.R_lt (mR HO182.out)) k_ hk, Kd.fresh' (Kd.N_lt (mN HO187.out)) k_ hk, Kd.fresh' (Kd.R_lt (mR HO191.out)) k_ hk, fB BK175.out hk, fB BK178.out hk, fB BK179.out hk, fB BK188.out hk, fB BK197.out hk, fB BK201.out hk, IsS53.fresh (mI53_1 HI0.out) k_ hk⟩))
   (case aO => exact (by (with_reducible repeat (first | apply Kd.N_alloc | apply Kd.N_drewN | apply Kd.N_drew)); exact Kd.N_mono HO200.out (fun _ hk => ⟨hk.1.1.1, ⟨hk.1.1.2.1, ⟨hk.1.1.2.2.1, ⟨hk.1.1.2.2.2.1, ⟨hk.1.1.2.2.2.2.1, ⟨hk.1.1.2.2.2.2.2.1, ⟨hk.1.1.2.2.2.2.2.2.1, ⟨hk.1.1.2.2.2.2.2.2.2.1, ⟨hk.1.1.2.2.2.2.2.2.2.2.1, ⟨hk.1.2, hk.1.1.2.2.2.2.2.2.2.2.2⟩⟩⟩⟩⟩⟩⟩⟩⟩⟩)))
   (case aS => exact (kS HK.out))
   (case aL => have := LMc80.out; omega)
   intro v216 w85 ho hb hg hat
   rw [← Ny215.out] at ho
   have n_ := az (IsS53.grown (mI53_1 HI0.out) hg (IsS53.own_neN HI0.out HO200.out (by decide))) <| az (blk_grown (g := gb175) (o := .cells #[.int .i64 0, .int .i64 0, .int .i64 0, .int .i64 0, .int .i64 0, .int .i64 0, .int .i64 0, .slice none 0 0, .slice none 0 0, .slice none 0 0] 33 (0, 0)) (mK BK175.out) hg (Kd.N_away HO200.out (fun _ hk => hk.1.1.2.2.2.2.1))) <| az (blk_grown (g := gb178) (o := .cells #[.int .i64 3, .int .i64 t176] 28 (0, 0)) (mK BK178.out) hg (Kd.N_ne HO200.out BK178.out (by decide))) <| az (blk_grown (g := gb179) (o := .cells #[.int .i64 2, .int .i64 0, .int .i64 3, .int .i64 t176, .slice none 0 0] 31 (0, 0)) (mK BK179.out) hg (Kd.N_ne HO200.out BK179.out (by decide))) <| az (Kd.R_over' (mR HO182.out) (Kd.N_typed (mN HO200.out)) (by decide) hg) <| And.intro (z0 (Kd.N_afterv (ok := (fun k_ => (w.heap.size ≤ k_) ∧ nB k_ v181 ∧ nB k_ v190 ∧ nB k_ (.slice Ao84 t211.length co84) ∧ k_ ≠ g ∧ k_ ≠ gb175 ∧ k_ ≠ gb178 ∧ k_ ≠ gb179 ∧ k_ ≠ gb188 ∧ k_ ≠ gb197 ∧ k_ ≠ gb201)) (by (with_reducible repeat (first | apply Kd.N_alloc | apply Kd.N_drewN | apply Kd.N_drew)); exact Kd.N_mono HO187.out (fun _ hk => ⟨⟨hk.1.1.1.1, ⟨hk.1.1.1.2.1, ⟨hk.1.1.1.2.2.1, ⟨hk.2, ⟨hk.1.1.1.2.2.2.2.1, ⟨hk.1.1.1.2.2.2.2.2.1, ⟨hk.1.1.1.2.2.2.2.2.2.1, ⟨hk.1.1.1.2.2.2.2.2.2.2.1, ⟨hk.1.1.1.2.2.2.2.2.2.2.2.1, ⟨hk.1.1.1.2.2.2.2.2.2.2.2.2, hk.1.2⟩⟩⟩⟩⟩⟩⟩⟩⟩⟩, hk.1.1.2⟩)) hg hat)) <| az (blk_grown (g := gb188) (o := .cells #[.int .i64 6, .int .i64 0, .int .i64 0, .int .i64 0, .slice Ao29 y185.length co29] 31 (0, 0)) (mK BK188.out) hg (Kd.N_ne HO200.out BK188.out (by decide))) <| az (Kd.R_over' (mR HO191.out) (Kd.N_typed (mN HO200.out)) (by decide) hg) <| az (blk_grown (g := gb197) (o := .cells #[.int .i64 3, .int .i64 0, .int .i64 0, .int .i64 0, .slice Ao46 y194.length co46] 31 (0, 0)) (mK BK197.out) hg (Kd.N_ne HO200.out BK197.out (by decide))) <| az (blk_grown (g := gb201) (o := .cells #[.int .i64 3, .int .i64 0, .int .i64 0, .int .i64 6, .int .i64 0, .int .i64 0, .int .i64 0, .slice Ao29 y185.length co29, .slice Ao67 y198.length co67, .slice none 0 0] 33 (0, 0)) (mK BK201.out) hg (Kd.N_away HO200.out (fun _ hk => hk.1.2))) <| az (below_weaken (mB53HI0 HB.out) HL.out hb) <| az (KeepBut.trans (mKp HK.out) (KeepBut.of_grown hg g) (Kd.N_base2 HO200.out)) <| z0 (ho)
   clear HI0 BK175 BK178 BK179 HO182 HO187 BK188 HO191 BK197 BK201 HB HK HO200 HO213
   obtain ⟨HI0, BK175, BK178, BK179, HO182, HO187, BK188, HO191, BK197, BK201, HB, HK, HO217⟩ := n_
   clear ho hb hg hat
   obtain ⟨Ao86, co86, eo86⟩ := Kd.N_slice HO217.out
   (first | subst eo86 | (injection eo86 with f1_ f2_ f3_; have f4_ := f1_.symm; have f5_ := f3_.symm; clear f1_ f2_ f3_; subst f4_; subst f5_))
   refine hK.out _ _ q32_3 (fun hHeld => ?_)
   clear hK K
   refine norm_ (a' := ?_) ?_ ?_
   rotate_left
   ·show Act.put _ (some 44) _ = _
    simp only [Act.put, List.setIfInBounds_toArray, List.set_cons_zero, List.set_cons_succ, i64_w, i32_w]
    rfl
   refine pure_ (i := 9) (N := some 45) (v := ?_) (a' := ?_) #[true, true, true, true, true, true, true, true, true, true, false] rfl rfl (any_of HT_.out (by kernel_rfl)) (fun _ _ _ h => h) (Or.inl ⟨by rfl, ?_⟩) ?_ ?_
   rotate_left
   ·intro w'
    go_simp
    with_reducible rfl
   rotate_left
   ·simp only [Act.put, List.setIfInBounds_toArray, List.set_cons_zero, List.set_cons_succ, i64_w, i32_w]
    rfl
   refine last_ (i := 10) (N := none) #[true, true, true, true, true, true, true, true, true, true, true] rfl rfl (one_of HT_.out (by kernel_rfl)) (by decide) (fun K hK => ?_)
   have hs87 : w85.cell? ⟨gb201, 8, none⟩ = some (.slice Ao67 y198.length co67) := (blk_cell BK201.out 8).trans rfl
   have hfs87 := blk_frozen BK201.out 8
   have hns87_0 := NB175_201.out
   have hns87_1 := NB178_201.out
   have hns87_2 := NB179_201.out
   have hns87_3 := NB188_201.out
   have hns87_4 := NB197_201.out
   have hms87_0 := NB201_175.out
   have hms87_1 := NB201_178.out
   have hms87_2 := NB201_179.out
   have hms87_3 := NB201_188.out
   have hms87_4 := NB201_197.out
   refine skip_ (w1 := ?_) (by rfl) rfl ?_ ?_
   rotate_left
   ·go_simp
    rfl
   refine hK.out _ _ ?_
   clear hK K
   refine done_ (done_of HT_.out (by kernel_rfl)) ?_
   have hnb88 := NB201_175.out
   have hnc88 := NB175_201.out
   have hnb89 := NB201_178.out
   have hnc89 := NB178_201.out
   have hnb90 := NB201_179.out
   have hnc90 := NB179_201.out
   have hnb91 := NB201_188.out
   have hnc91 := NB188_201.out
   have hnb92 := NB201_197.out
   have hnc92 := NB197_201.out
   have hnb93 := NB201_0.out
   have hnc93 := NB0_201.out
   obtain ⟨hcz94_0, hcz94_1, hcz94_2, hcz94_3, hcz94_4, hcz94_5, hcz94_6, hcz94_7, hcz94_8, hcz94_9, hfz94_0, hfz94_1, hfz94_2, hfz94_3, hfz94_4, hfz94_5, hfz94_6, hfz94_7, hfz94_8, hfz94_9⟩ := cel10 BK201.out
   have hnb95 := NB175_178.out
   have hnc95 := NB178_175.out
   have hnb96 := NB175_179.out
   have hnc96 := NB179_175.out
   have hnb97 := NB175_188.out
   have hnc97 := NB188_175.out
   have hnb98 := NB175_197.out
   have hnc98 := NB197_175.out
   have hnb99 := NB175_0.out
   have hnc99 := NB0_175.out
   obtain ⟨hcz100_0, hcz100_1, hcz100_2, hcz100_3, hcz100_4, hcz100_5, hcz100_6, hcz100_7, hcz100_8, hcz100_9, hfz100_0, hfz100_1, hfz100_2, hfz100_3, hfz100_4, hfz100_5, hfz100_6, hfz100_7, hfz100_8, hfz100_9⟩ := cel10 BK175.out
   try go_wp2
   refine bodyPost_ret (results_cell_row rfl _ _ gb175 33 #[.int .i64 3, .int .i64 0, .int .i64 0, .int .i64 6, .int .i64 0, .int .i64 0, .int .i64 0, .slice Ao29 y185.length co29, .slice Ao86 y215.length co86, .slice none 0 0] (0, 0) _ rfl (by (with_reducible repeat (first | refine blk_drewN ?_ _ | refine blk_drew ?_ | refine blk_alloc ?_ _)); refine blk_put (cs := #[.int .i64 3, .int .i64 0, .int .i64 0, .int .i64 6, .int .i64 0, .int .i64 0, .int .i64 0, .slice Ao29 y185.length co29, .slice Ao86 y215.length co86, .slice none 0 0]) ?_ 9 _ rfl; (with_reducible repeat (first | refine blk_drewN ?_ _ | refine blk_drew ?_ | refine blk_alloc ?_ _)); refine blk_put (cs := #[.int .i64 3, .int .i64 0, .int .i64 0, .int .i64 6, .int .i64 0, .int .i64 0, .int .i64 0, .slice Ao29 y185.length co29, .slice none 0 0, .slice none 0 0]) ?_ 8 _ rfl; (with_reducible repeat (first | refine blk_drewN ?_ _ | refine blk_drew ?_ | refine blk_alloc ?_ _)); refine blk_put (cs := #[.int .i64 3, .int .i64 0, .int .i64 0, .int .i64 6, .int .i64 0, .int .i64 0, .int .i64 0, .slice none 0 0, .slice none 0 0, .slice none 0 0]) ?_ 7 _ rfl; (with_reducible repeat (first | refine blk_drewN ?_ _ | refine blk_drew ?_ | refine blk_alloc ?_ _)); refine blk_put (cs := #[.int .i64 3, .int .i64 0, .int .i64 0, .int .i64 6, .int .i64 0, .int .i64 0, .int .i64 0, .slice none 0 0, .slice none 0 0, .slice none 0 0]) ?_ 6 _ rfl; (with_reducible repeat (first | refine blk_drewN ?_ _ | refine blk_drew ?_ | refine blk_alloc ?_ _)); refine blk_put (cs := #[.int .i64 3, .int .i64 0, .int .i64 0, .int .i64 6, .int .i64 0, .int .i64 0, .int .i64 0, .slice none 0 0, .slice none 0 0, .slice none 0 0]) ?_ 5 _ rfl; (with_reducible repeat (first | refine blk_drewN ?_ _ | refine blk_drew ?_ | refine blk_alloc ?_ _)); refine blk_put (cs := #[.int .i64 3, .int .i64 0, .int .i64 0, .int .i64 6, .int .i64 0, .int .i64 0, .int .i64 0, .slice none 0 0, .slice none 0 0, .slice none 0 0]) ?_ 4 _ rfl; (with_reducible repeat (first | refine blk_drewN ?_ _ | refine blk_drew ?_ | refine blk_alloc ?_ _)); refine blk_put (cs := #[.int .i64 3, .int .i64 0, .int .i64 0, .int .i64 0, .int .i64 0, .int .i64 0, .int .i64 0, .slice none 0 0, .slice none 0 0, .slice none 0 0]) ?_ 3 _ rfl; (with_reducible repeat (first | refine blk_drewN ?_ _ | refine blk_drew ?_ | refine blk_alloc ?_ _)); refine blk_put (cs := #[.int .i64 3, .int .i64 0, .int .i64 0, .int .i64 0, .int .i64 0, .int .i64 0, .int .i64 0, .slice none 0 0, .slice none 0 0, .slice none 0 0]) ?_ 2 _ rfl; (with_reducible repeat (first | refine blk_drewN ?_ _ | refine blk_drew ?_ | refine blk_alloc ?_ _)); refine blk_put (cs := #[.int .i64 3, .int .i64 0, .int .i64 0, .int .i64 0, .int .i64 0, .int .i64 0, .int .i64 0, .slice none 0 0, .slice none 0 0, .slice none 0 0]) ?_ 1 _ rfl; (with_reducible repeat (first | refine blk_drewN ?_ _ | refine blk_drew ?_ | refine blk_alloc ?_ _)); refine blk_put (cs := #[.int .i64 0, .int .i64 0, .int .i64 0, .int .i64 0, .int .i64 0, .int .i64 0, .int .i64 0, .slice none 0 0, .slice none 0 0, .slice none 0 0]) ?_ 0 _ rfl; (with_reducible repeat (first | refine blk_drewN ?_ _ | refine blk_drew ?_ | refine blk_alloc ?_ _)); refine blk_far ?_ NB175_201.out _; (with_reducible repeat (first | refine blk_drewN ?_ _ | refine blk_drew ?_ | refine blk_alloc ?_ _)); exact BK175.out) Tryz.underlying33 rfl (by kernel_rfl)) rfl ?_
   exact ⟨_, _, _, rfx, by (with_reducible repeat (first | apply Kd.N_alloc | apply Kd.N_drewN | apply Kd.N_drew)); exact Kd.N_mono (Kd.N_far (p := ⟨gb175, 9, none⟩) (Kd.N_far (p := ⟨gb175, 8, none⟩) (Kd.N_far (p := ⟨gb175, 7, none⟩) (Kd.N_far (p := ⟨gb175, 6, none⟩) (Kd.N_far (p := ⟨gb175, 5, none⟩) (Kd.N_far (p := ⟨gb175, 4, none⟩) (Kd.N_far (p := ⟨gb175, 3, none⟩) (Kd.N_far (p := ⟨gb175, 2, none⟩) (Kd.N_far (p := ⟨gb175, 1, none⟩) (Kd.N_far (p := ⟨gb175, 0, none⟩) (Kd.N_far (p := ⟨gb201, 8, none⟩) (Kd.N_mono (Kd.N_mono HO187.out (fun k_ hk => (⟨hk, hk.1.2.2.2.2.2.2.2.2.2.2⟩ : _ ∧ k_ ≠ gb201))) (fun k_ hk => (⟨hk, hk.1.1.2.2.2.2.2.1⟩ : _ ∧ k_ ≠ gb175))) (fun _ hk => hk.1.2) (.slice Ao86 y215.length co86)) (fun _ hk => hk.2) (.int .i64 3)) (fun _ hk => hk.2) (.int .i64 0)) (fun _ hk => hk.2) (.int .i64 0)) (fun _ hk => hk.2) (.int .i64 6)) (fun _ hk => hk.2) (.int .i64 0)) (fun _ hk => hk.2) (.int .i64 0)) (fun _ hk => hk.2) (.int .i64 0)) (fun _ hk => hk.2) (.slice Ao29 y185.length co29)) (fun _ hk => hk.2) (.slice Ao86 y215.length co86)) (fun _ hk => hk.2) (.slice none 0 0)) (fun _ hk => ⟨hk.1.1.1.1, ⟨hk.1.1.2, (by simp [Value.ownBlock])⟩⟩), by (with_reducible repeat (first | apply Kd.N_alloc | apply Kd.N_drewN | apply Kd.N_drew)); exact Kd.N_mono (Kd.N_far (p := ⟨gb175, 9, none⟩) (Kd.N_far (p := ⟨gb175, 8, none⟩) (Kd.N_far (p := ⟨gb175, 7, none⟩) (Kd.N_far (p := ⟨gb175, 6, none⟩) (Kd.N_far (p := ⟨gb175, 5, none⟩) (Kd.N_far (p := ⟨gb175, 4, none⟩) (Kd.N_far (p := ⟨gb175, 3, none⟩) (Kd.N_far (p := ⟨gb175, 2, none⟩) (Kd.N_far (p := ⟨gb175, 1, none⟩) (Kd.N_far (p := ⟨gb175, 0, none⟩) (Kd.N_far (p := ⟨gb201, 8, none⟩) (Kd.N_mono (Kd.N_mono HO217.out (fun k_ hk => (⟨hk, hk.2.2.2.2.2.2.2.2.2.1⟩ : _ ∧ k_ ≠ gb201))) (fun k_ hk => (⟨hk, hk.1.2.2.2.2.1⟩ : _ ∧ k_ ≠ gb175))) (fun _ hk => hk.1.2) (.slice Ao86 y215.length co86)) (fun _ hk => hk.2) (.int .i64 3)) (fun _ hk => hk.2) (.int .i64 0)) (fun _ hk => hk.2) (.int .i64 0)) (fun _ hk => hk.2) (.int .i64 6)) (fun _ hk => hk.2) (.int .i64 0)) (fun _ hk => hk.2) (.int .i64 0)) (fun _ hk => hk.2) (.int .i64 0)) (fun _ hk => hk.2) (.slice Ao29 y185.length co29)) (fun _ hk => hk.2) (.slice Ao86 y215.length co86)) (fun _ hk => hk.2) (.slice none 0 0)) (fun _ hk => ⟨hk.1.1.1, ⟨hk.1.1.2.2.1, (by simp [Value.ownBlock])⟩⟩), by first | exact Kd.R_nil _ _ _ _ _ | exact Kd.N_nil _ _ _ _ _ | exact Kd.V_nil _ _ _ _ _ | exact Kd.Q_nil _ _ _ _ _ | exact Kd.S_nil _ _ _ _ _, mI53_1 HI0.out, mB53HI0 HB.out, mKp HK.out⟩
  ·rw [if_neg c80] at H
   exact absurd H (by simp)
 ·rw [if_neg c77] at H
  have c77b0 : (t202 == 0) = false := beq_eq_false_iff_ne.mpr c77
  have c77b1 : (t202 != 0) = true := bne_iff_ne.mpr c77
  (first | rw [c77b0] | (simp only [i64_w, i32_w]; rw [c77b0]) | skip)
  simp only [Option.some.injEq, Prod.mk.injEq] at H
  obtain ⟨rfl, rfl, rfl, rfl, rfl, rfl, rfl, rfl, rfl, rfl, rfl⟩ := H
  have hnb101 := NB201_175.out
  have hnc101 := NB175_201.out
  have hnb102 := NB201_178.out
  have hnc102 := NB178_201.out
  have hnb103 := NB201_179.out
  have hnc103 := NB179_201.out
  have hnb104 := NB201_188.out
  have hnc104 := NB188_201.out
  have hnb105 := NB201_197.out
  have hnc105 := NB197_201.out
  have hnb106 := NB201_0.out
  have hnc106 := NB0_201.out
  obtain ⟨hcz107_0, hcz107_1, hcz107_2, hcz107_3, hcz107_4, hcz107_5, hcz107_6, hcz107_7, hcz107_8, hcz107_9, hfz107_0, hfz107_1, hfz107_2, hfz107_3, hfz107_4, hfz107_5, hfz107_6, hfz107_7, hfz107_8, hfz107_9⟩ := cel10 BK201.out
  have hnb108 := NB175_178.out
  have hnc108 := NB178_175.out
  have hnb109 := NB175_179.out
  have hnc109 := NB179_175.out
  have hnb110 := NB175_188.out
  have hnc110 := NB188_175.out
  have hnb111 := NB175_197.out
  have hnc111 := NB197_175.out
  have hnb112 := NB175_0.out
  have hnc112 := NB0_175.out
  obtain ⟨hcz113_0, hcz113_1, hcz113_2, hcz113_3, hcz113_4, hcz113_5, hcz113_6, hcz113_7, hcz113_8, hcz113_9, hfz113_0, hfz113_1, hfz113_2, hfz113_3, hfz113_4, hfz113_5, hfz113_6, hfz113_7, hfz113_8, hfz113_9⟩ := cel10 BK175.out
  go_wp2
  refine bodyPost_ret (results_cell_row rfl _ _ gb175 33 #[.int .i64 3, .int .i64 0, .int .i64 0, .int .i64 6, .int .i64 0, .int .i64 0, .int .i64 0, .slice Ao29 y185.length co29, .slice Ao67 y198.length co67, .slice none 0 0] (0, 0) _ rfl (pF BK175.out) Tryz.underlying33 rfl (by kernel_rfl)) rfl ?_
  exact ⟨_, _, _, rfx, by (with_reducible repeat (first | apply Kd.N_alloc | apply Kd.N_drewN | apply Kd.N_drew)); exact Kd.N_mono (Kd.N_far (p := ⟨gb175, 9, none⟩) (Kd.N_far (p := ⟨gb175, 8, none⟩) (Kd.N_far (p := ⟨gb175, 7, none⟩) (Kd.N_far (p := ⟨gb175, 6, none⟩) (Kd.N_far (p := ⟨gb175, 5, none⟩) (Kd.N_far (p := ⟨gb175, 4, none⟩) (Kd.N_far (p := ⟨gb175, 3, none⟩) (Kd.N_far (p := ⟨gb175, 2, none⟩) (Kd.N_far (p := ⟨gb175, 1, none⟩) (Kd.N_far (p := ⟨gb175, 0, none⟩) (Kd.N_mono HO187.out (fun k_ hk => (⟨hk, hk.1.1.2.2.2.2.2.1⟩ : _ ∧ k_ ≠ gb175))) (fun _ hk => hk.2) (.int .i64 3)) (fun _ hk => hk.2) (.int .i64 0)) (fun _ hk => hk.2) (.int .i64 0)) (fun _ hk => hk.2) (.int .i64 6)) (fun _ hk => hk.2) (.int .i64 0)) (fun _ hk => hk.2) (.int .i64 0)) (fun _ hk => hk.2) (.int .i64 0)) (fun _ hk => hk.2) (.slice Ao29 y185.length co29)) (fun _ hk => hk.2) (.slice Ao67 y198.length co67)) (fun _ hk => hk.2) (.slice none 0 0)) (fun _ hk => ⟨hk.1.1.1.1, ⟨hk.1.1.2, (by simp [Value.ownBlock])⟩⟩), by (with_reducible repeat (first | apply Kd.N_alloc | apply Kd.N_drewN | apply Kd.N_drew)); exact Kd.N_mono (Kd.N_far (p := ⟨gb175, 9, none⟩) (Kd.N_far (p := ⟨gb175, 8, none⟩) (Kd.N_far (p := ⟨gb175, 7, none⟩) (Kd.N_far (p := ⟨gb175, 6, none⟩) (Kd.N_far (p := ⟨gb175, 5, none⟩) (Kd.N_far (p := ⟨gb175, 4, none⟩) (Kd.N_far (p := ⟨gb175, 3, none⟩) (Kd.N_far (p := ⟨gb175, 2, none⟩) (Kd.N_far (p := ⟨gb175, 1, none⟩) (Kd.N_far (p := ⟨gb175, 0, none⟩) (Kd.N_mono HO200.out (fun k_ hk => (⟨hk, hk.1.2.2.2.2.1⟩ : _ ∧ k_ ≠ gb175))) (fun _ hk => hk.2) (.int .i64 3)) (fun _ hk => hk.2) (.int .i64 0)) (fun _ hk => hk.2) (.int .i64 0)) (fun _ hk => hk.2) (.int .i64 6)) (fun _ hk => hk.2) (.int .i64 0)) (fun _ hk => hk.2) (.int .i64 0)) (fun _ hk => hk.2) (.int .i64 0)) (fun _ hk => hk.2) (.slice Ao29 y185.length co29)) (fun _ hk => hk.2) (.slice Ao67 y198.length co67)) (fun _ hk => hk.2) (.slice none 0 0)) (fun _ hk => ⟨hk.1.1.1, ⟨hk.1.1.2.2.1, (by simp [Value.ownBlock])⟩⟩), by first | exact Kd.R_nil _ _ _ _ _ | exact Kd.N_nil _ _ _ _ _ | exact Kd.V_nil _ _ _ _ _ | exact Kd.Q_nil _ _ _ _ _ | exact Kd.S_nil _ _ _ _ _, mI53_1 HI0.out, mB53HI0 HB.out, mKp HK.out⟩

/-! ### spec_l4List: function 31 -/
mutual
def spec_l4List.l0 : Nat → Int → List (S33) → Int → List Int → Int → Option ((List (S33)) × Int)
 | 0, _, _, _, _, _ => none
 | k + 1, x1, x5, x6, x1000, x1001 => if x6 > 0 then (spec_l4List.j1 k x1 x5 x6 (decide (x1 > 0)) x1000 x1001) else (spec_l4List.j1 k x1 x5 x6 false x1000 x1001)
def spec_l4List.j1 : Nat → Int → List (S33) → Int → Bool → List Int → Int → Option ((List (S33)) × Int)
 | 0, _, _, _, _, _, _ => none
 | k + 1, x1, x5, x6, x15, x1000, x1001 => if x15 = true then ((spec_l12Rd_pick.f k x1000 x1001 7).bind fun bt223 => (if bt223.1 = 0 then (spec_l4List.j2 k x1 x5 x6 bt223.1 (bt223.1 == 0) x1000 bt223.2) else (spec_l4List.j2 k x1 x5 x6 bt223.1 (bt223.1 == 1) x1000 bt223.2))) else (some (x5, x1001))
def spec_l4List.j2 : Nat → Int → List (S33) → Int → Int → Bool → List Int → Int → Option ((List (S33)) × Int)
 | 0, _, _, _, _, _, _, _ => none
 | k + 1, x1, x5, x6, x19, x28, x1000, x1001 => if x28 = true then ((spec_l3Expr.f k x1000 x1001 3).bind fun bt225 => ((spec_l4List.f k x1000 bt225.2.2.2.2.2 (wrap64 (x1 - 1))).bind fun bt233 => ((spec_l4List.f k x1000 bt233.2 (wrap64 (x1 - 2))).bind fun bt237 => (if x5.length < 1099511627776 then (spec_l4List.l0 k x1 (x5 ++ [(⟨2, (⟨0, 0⟩ : S28), (⟨bt225.1, bt225.2.1, (⟨bt225.2.2.1, bt225.2.2.2.1⟩ : S28), bt225.2.2.2.2.1⟩ : S31), bt233.1, bt237.1⟩ : S33)]) (wrap64 (x6 - 1)) x1000 bt237.2) else (none))))) else (if x19 = 2 then (if x1 > 1 then ((spec_l4Count.f k x1000 x1001).bind fun bt244 => (if x5.length < 1099511627776 then (spec_l4List.l0 k x1 (x5 ++ [(⟨bt244.1, (⟨bt244.2.1, bt244.2.2.1⟩ : S28), (⟨bt244.2.2.2.1, bt244.2.2.2.2.1, (⟨bt244.2.2.2.2.2.1, bt244.2.2.2.2.2.2.1⟩ : S28), bt244.2.2.2.2.2.2.2.1⟩ : S31), bt244.2.2.2.2.2.2.2.2.1, bt244.2.2.2.2.2.2.2.2.2.1⟩ : S33)]) (wrap64 (x6 - 1)) x1000 bt244.2.2.2.2.2.2.2.2.2.2) else (none))) else (spec_l4List.l0 k x1 x5 (wrap64 (x6 - 1)) x1000 x1001)) else (if x19 = 3 then ((spec_l12Rd_pick.f k x1000 x1001 3).bind fun bt264 => (if bt264.1 = 0 then ((spec_l3Expr.f k x1000 bt264.2 2).bind fun bt266 => ((spec_l4List.f k x1000 bt266.2.2.2.2.2 (wrap64 (x1 - 1))).bind fun bt274 => (if x5.length < 1099511627776 then (spec_l4List.l0 k x1 (x5 ++ [(⟨3, (⟨0, 0⟩ : S28), (⟨bt266.1, bt266.2.1, (⟨bt266.2.2.1, bt266.2.2.2.1⟩ : S28), bt266.2.2.2.2.1⟩ : S31), bt274.1, ([] : List (S33))⟩ : S33)]) (wrap64 (x6 - 1)) x1000 bt274.2) else (none)))) else (spec_l4List.l0 k x1 x5 (wrap64 (x6 - 1)) x1000 bt264.2))) else ((spec_l2To.f k x1000 x1001).bind fun bt281 => ((spec_l3Expr.f k x1000 bt281.2.2 3).bind fun bt284 => (if x5.length < 1099511627776 then (spec_l4List.l0 k x1 (x5 ++ [(⟨1, (⟨bt281.1, bt281.2.1⟩ : S28), (⟨bt284.1, bt284.2.1, (⟨bt284.2.2.1, bt284.2.2.2.1⟩ : S28), bt284.2.2.2.2.1⟩ : S31), ([] : List (S33)), ([] : List (S33))⟩ : S33)]) (wrap64 (x6 - 1)) x1000 bt284.2.2.2.2.2) else (none))))))
def spec_l4List.f : Nat → List Int → Int → Int → Option ((List (S33)) × Int)
 | 0, _, _, _ => none
 | k + 1, s0_0, s0_1, a1 => (spec_l12Rd_pick.f k s0_0 s0_1 4).bind fun bt221 => (spec_l4List.l0 k a1 (([] : List (S33))) bt221.1 s0_0 bt221.2)
end
theorem q31_1 {p : Prop} (h : p := by first | exact Kd.N_base ho0 | exact Kd.R_base ho0) : p := h
set_option maxHeartbeats 8000000 in
set_option maxRecDepth 100000 in
theorem spec_l4List.calls (k : Nat) : ∀ (g : Nat) (s0_0 : List Int) (s0_1 : Int) (a1 : Int) (r1 : List (S33)) (r2 : Int) (w0 w : World) (hI : IsS53 w0 w g s0_0 s0_1) (hB : Below w0.heap.size w0 w) (h : spec_l4List.f k s0_0 s0_1 a1 = some (r1, r2)),
  Calls Tryz.prog 31 #[.pointer (some ⟨g, 0, none⟩), .int .i64 a1] w fun e w' => ∃ v0_ : Value, e = .returned (v0_) ∧ Kd.N k33 33 w' w.heap.size (fun k_ => (w.heap.size ≤ k_)) v0_ r1 ∧ IsS53 w0 w' g s0_0 r2 ∧ Below w0.heap.size w0 w' ∧ KeepBut w w' g none := by
 induction k using Nat.strongRecOn with
 | _ k ih =>
 intro g s0_0 s0_1 a1 r1 r2 w0 w hI hB h
 cases k with
 | zero => exact absurd h (by simp [spec_l4List.f])
 | succ k =>
 simp only [spec_l4List.f] at h
 have hu33 := Tryz.underlying33
 have HI0 := z0 hI
 have HK := z0 (KeepBut.refl w g none)
 have HL := z0 hB.size
 clear hI
 have HW0 := z0 hB.size
 have HB := z0 hB
 clear hB
 have H : ((spec_l12Rd_pick.f k s0_0 s0_1 4).bind fun bt221 => (spec_l4List.l0 k a1 (([] : List (S33))) bt221.1 s0_0 bt221.2)) = some (r1, r2) := h
 clear h
 obtain ⟨y218, hy218⟩ : ∃ y_ : List (S33), y_ = (([] : List (S33))) := ⟨_, rfl⟩
 replace H : ((spec_l12Rd_pick.f k s0_0 s0_1 4).bind fun bt221 => (spec_l4List.l0 k a1 y218 bt221.1 s0_0 bt221.2)) = some (r1, r2) := by first | (rw [hy218]; with_reducible exact H) | (have H2_ := (Option.bind_some _ _).symm.trans H; rw [hy218]; with_reducible exact H2_) | (have H2_ := (Option.bind_some _ _).symm.trans H; with_reducible exact H2_) | with_reducible exact H | (rw [hy218]; exact H) | exact H
 have Ny218 := z0 hy218
 clear hy218
 replace H := Option.bind_eq_some_iff.mp H
 obtain ⟨⟨t221, t222⟩, A30, H⟩ := H
 try dsimp only at H
 have A3 := z0 A30
 clear A30
 have H' := z0 H
 clear H
 go_enter Tryz.func31, Tryz.ntmps31
 go_wp2_with (first | ((with_reducible refine gate_dst (N := 7) rfl ?_); refine Kd.N_lit k33 _ 33 ?hg (N' := 7) ?hd (xs := ([] : List (S33))) (inner := []) (ok := (fun k_ => (w.heap.size ≤ k_) ∧ k_ ≠ g)) (okp := (fun k_ => (w.heap.size ≤ k_) ∧ k_ ≠ g)) ?hr ?hp (fun _ hk => hk) ((show ∀ k_, w.heap.size ≤ k_ → (fun k_ => (w.heap.size ≤ k_) ∧ k_ ≠ g) k_ from fun k_ hk => ⟨(Nat.le_trans (kS HK.out) hk), IsS53.fresh (mI53_1 HI0.out) k_ hk⟩) _ (Nat.le_refl _)) (Below.refl _ _) (Nat.le_refl _) (by simp) ?_; (case hd => rfl); (case hg => rfl); (case hr => first | (go_simp; done) | (go_simp; rfl)); (case hp => exact (Reps.none _ _)); intro v219 w4 ho5 hb hg_ hnew_; clear hg_ hnew_; (first | rw [← Ny218.out] at ho5 | (simp only [Int.reduceToNat] at ho5; rw [← Ny218.out] at ho5)); have n_ := az (Kd.N_lower ho5 (kS HK.out)) <| az (IsS53.below (mI53_1 HI0.out) hb) <| az (KeepBut.trans (mKp HK.out) (KeepBut.of_below hb g none) (.inl rfl)) <| z0 (below_step (mB53HI0 HB.out) hb); clear HI0 HK HB; obtain ⟨HO220, HI0, HK, HB⟩ := n_; clear hb ho5) | ((with_reducible refine gate_callee (f := 18) rfl ?_); refine goesL_ (some 9) rfl rfl Tryz.func18 (by kernel_rfl) rfl #[.pointer (some ⟨g, 0, none⟩), .int .i64 4] rfl argx ?_; (with_reducible refine (spec_l12Rd_pick.calls k g s0_0 s0_1 4 t221 t222 w0 _ ?side1 ?side2 A3.out).mono ?_); (case side1 => exact mI53_1 HI0.out); (case side2 => exact mB53HI0 HB.out); rintro e w6 ⟨rfl, hi, hb, hk⟩; refine ⟨_, rfl, ?_⟩; have n_ := az (Kd.N_mono (Kd.N_keep (Kd.N_mono (ok := fun k_ => (((w.heap.size ≤ k_)) ∧ k_ ≠ g)) (mN HO220.out) (fun k_ hk_ => (⟨hk_, hk_.2⟩ : _ ∧ k_ ≠ g))) hk (fun _ h => h.2)) (fun _ h => h.1)) <| az (KeepBut.trans (mKp HK.out) hk (.inl rfl)) <| az (hb) <| z0 (hi); clear HO220 HK HB HI0; obtain ⟨HO220, HK, HB, HI0⟩ := n_; clear hb hk hi))
 go_loopg [5, 6] k (fun kq v5 v6 w' => ∃ (x5_1 : List (S33)) (x6_1 : Int) (x1001_1 : Int), v6 = .int .i64 x6_1 ∧ Aside0 (spec_l4List.l0 kq a1 x5_1 x6_1 s0_0 x1001_1 = some (r1, r2)) ∧ Aside0 (kq ≤ k) ∧ Aside0 (Kd.N k33 33 w' w.heap.size (fun k_ => (w.heap.size ≤ k_) ∧ k_ ≠ g) v5 x5_1) ∧ Aside0 (IsS53 w0 w' g s0_0 x1001_1) ∧ Aside0 (KeepBut w w' g none) ∧ Aside0 (Below w0.heap.size w0 w'))
 case atStart => exact ⟨(y218), (t221), (t222), rfy, H', ⟨Nat.le_refl _⟩, ⟨mN HO220.out⟩, ⟨mI53_1 HI0.out⟩, ⟨mKp HK.out⟩, ⟨mB53HI0 HB.out⟩⟩
 case round =>
  clear H'
  skip
  obtain ⟨x5_1, x6_1, x1001_1, rfl, HA, HK1, HO_5, HI0, HK, HB⟩ := hrel
  cases gk with
  | zero => exact absurd HA.out (by simp [spec_l4List.l0])
  | succ k1 =>
   have H := HA.out
   clear HA
   simp only [spec_l4List.l0] at H
   have HC7 := z0 H
   clear H
   go_upto_region 3 with (fail)
   go_cut [15] (fun v15 wc => ∃ (kq : Nat) (x15_6 : Bool), v15 = .bool x15_6 ∧ Aside0 (spec_l4List.j1 kq a1 x5_1 x6_1 x15_6 s0_0 x1001_1 = some (r1, r2)) ∧ Aside0 (kq ≤ k1) ∧ Aside0 (Kd.N k33 33 wc w.heap.size (fun k_ => (w.heap.size ≤ k_) ∧ k_ ≠ g) u5 x5_1) ∧ Aside0 (IsS53 w0 wc g s0_0 x1001_1) ∧ Aside0 (KeepBut w wc g none) ∧ Aside0 (Below w0.heap.size w0 wc))
   case first =>
    have H := HC7.out
    clear HC7
    by_cases c8 : x6_1 > 0
    ·rw [if_pos c8] at H
     have c8b0 : decide (0 < x6_1) = true := decide_eq_true c8
     clear c8
     (first | rw [c8b0] | (simp only [i64_w, i32_w]; rw [c8b0]) | skip)
     have H' := z0 H
     clear H
     go_wp2
     go_meet
     case rel => exact ⟨_, (decide (a1 > 0)), rfy, H', ⟨by have := HK1.out; first | omega | exact Nat.le_refl _⟩, ⟨mN HO_5.out⟩, ⟨mI53_1 HI0.out⟩, ⟨mKp HK.out⟩, ⟨mB53HI0 HB.out⟩⟩
    ·rw [if_neg c8] at H
     have c8b0 : decide (0 < x6_1) = false := decide_eq_false c8
     clear c8
     (first | rw [c8b0] | (simp only [i64_w, i32_w]; rw [c8b0]) | skip)
     have H' := z0 H
     clear H
     go_wp2
     go_meet
     case rel => exact ⟨_, (false), rfy, H', ⟨by have := HK1.out; first | omega | exact Nat.le_refl _⟩, ⟨mN HO_5.out⟩, ⟨mI53_1 HI0.out⟩, ⟨mKp HK.out⟩, ⟨mB53HI0 HB.out⟩⟩
   case rest =>
    clear HC7
    skip
    obtain ⟨kq, x15_6, rfl, HA, HJ6, HO_5, HI0, HK, HB⟩ := hcut
    cases kq with
    | zero => exact absurd HA.out (by simp [spec_l4List.j1])
    | succ kj6 =>
     have H := HA.out
     clear HA
     simp only [spec_l4List.j1] at H
     by_cases c9 : x15_6 = true
     ·subst c9
      have H1 : ((spec_l12Rd_pick.f kj6 s0_0 x1001_1 7).bind fun bt223 => (if bt223.1 = 0 then (spec_l4List.j2 kj6 a1 x5_1 x6_1 bt223.1 (bt223.1 == 0) s0_0 bt223.2) else (spec_l4List.j2 kj6 a1 x5_1 x6_1 bt223.1 (bt223.1 == 1) s0_0 bt223.2))) = some (r1, r2) := by rw [if_pos rfl] at H; exact H
      clear H
      have H := H1
      clear H1
      replace H := Option.bind_eq_some_iff.mp H
      obtain ⟨⟨t223, t224⟩, A100, H⟩ := H
      try dsimp only at H
      have A10 := z0 A100
      clear A100
      have HC11 := z0 H
      clear H
      go_upto_if 28 with (first | ((with_reducible refine gate_callee (f := 18) rfl ?_); refine goesL_ (some 19) rfl rfl Tryz.func18 (by kernel_rfl) rfl #[.pointer (some ⟨g, 0, none⟩), .int .i64 7] rfl argx ?_; (with_reducible refine (spec_l12Rd_pick.calls kj6 g s0_0 x1001_1 7 t223 t224 w0 _ ?side1 ?side2 A10.out).mono ?_); (case side1 => exact mI53_1 HI0.out); (case side2 => exact mB53HI0 HB.out); rintro e w12 ⟨rfl, hi, hb, hk⟩; refine ⟨_, rfl, ?_⟩; have n_ := az (Kd.N_mono (Kd.N_keep (Kd.N_mono (ok := fun k_ => (((w.heap.size ≤ k_)) ∧ k_ ≠ g)) (mN HO_5.out) (fun k_ hk_ => (⟨hk_, hk_.2⟩ : _ ∧ k_ ≠ g))) hk (fun _ h => h.2)) (fun _ h => h.1)) <| az (KeepBut.trans (mKp HK.out) hk (.inl rfl)) <| az (hb) <| z0 (hi); clear HO_5 HK HB HI0; obtain ⟨HO_5, HK, HB, HI0⟩ := n_; clear hb hk hi))
      (try simp only [Act.put, List.setIfInBounds_toArray, List.set_cons_zero, List.set_cons_succ])
      go_cut [28] (fun v28 wc => ∃ (kq : Nat) (x28_10 : Bool), v28 = .bool x28_10 ∧ Aside0 (spec_l4List.j2 kq a1 x5_1 x6_1 t223 x28_10 s0_0 t224 = some (r1, r2)) ∧ Aside0 (kq ≤ kj6) ∧ Aside0 (Kd.N k33 33 wc w.heap.size (fun k_ => (w.heap.size ≤ k_) ∧ k_ ≠ g) u5 x5_1) ∧ Aside0 (IsS53 w0 wc g s0_0 t224) ∧ Aside0 (KeepBut w wc g none) ∧ Aside0 (Below w0.heap.size w0 wc))
      case first =>
       have H := HC11.out
       clear HC11
       by_cases c13 : t223 = 0
       ·rw [if_pos c13] at H
        have c13b0 : (t223 == 0) = true := beq_iff_eq.mpr c13
        have c13b1 : (t223 != 0) = false := bne_eq_false_iff_eq.mpr c13
        clear c13
        (first | rw [c13b0] | (simp only [i64_w, i32_w]; rw [c13b0]) | skip)
        have H' := z0 H
        clear H
        go_wp2
        go_meet
        case rel => exact ⟨_, ((t223 == 0)), rfy, H', ⟨by have := HK1.out; have := HJ6.out; first | omega | exact Nat.le_refl _⟩, ⟨mN HO_5.out⟩, ⟨mI53_1 HI0.out⟩, ⟨mKp HK.out⟩, ⟨mB53HI0 HB.out⟩⟩
       ·rw [if_neg c13] at H
        have c13b0 : (t223 == 0) = false := beq_eq_false_iff_ne.mpr c13
        have c13b1 : (t223 != 0) = true := bne_iff_ne.mpr c13
        (first | rw [c13b0] | (simp only [i64_w, i32_w]; rw [c13b0]) | skip)
        have H' := z0 H
        clear H
        go_wp2
        go_meet
        case rel => exact ⟨_, ((t223 == 1)), rfy, H', ⟨by have := HK1.out; have := HJ6.out; first | omega | exact Nat.le_refl _⟩, ⟨mN HO_5.out⟩, ⟨mI53_1 HI0.out⟩, ⟨mKp HK.out⟩, ⟨mB53HI0 HB.out⟩⟩
      case rest =>
       clear HC11
       (try clear c9)
       obtain ⟨kq, x28_10, rfl, HA, HJ10, HO_5, HI0, HK, HB⟩ := hcut
       cases kq with
       | zero => exact absurd HA.out (by simp [spec_l4List.j2])
       | succ kj10 =>
        have H := HA.out
        clear HA
        simp only [spec_l4List.j2] at H
        by_cases c14 : x28_10 = true
        ·subst c14
         have H1 : ((spec_l3Expr.f kj10 s0_0 t224 3).bind fun bt225 => ((spec_l4List.f kj10 s0_0 bt225.2.2.2.2.2 (wrap64 (a1 - 1))).bind fun bt233 => ((spec_l4List.f kj10 s0_0 bt233.2 (wrap64 (a1 - 2))).bind fun bt237 => (if x5_1.length < 1099511627776 then (spec_l4List.l0 kj10 a1 (x5_1 ++ [(⟨2, (⟨0, 0⟩ : S28), (⟨bt225.1, bt225.2.1, (⟨bt225.2.2.1, bt225.2.2.2.1⟩ : S28), bt225.2.2.2.2.1⟩ : S31), bt233.1, bt237.1⟩ : S33)]) (wrap64 (x6_1 - 1)) s0_0 bt237.2) else (none))))) = some (r1, r2) := by rw [if_pos rfl] at H; exact H
         clear H
         have H := H1
         clear H1
         replace H := Option.bind_eq_some_iff.mp H
         obtain ⟨⟨t225, t226, t227, t228, t229, t232⟩, A150, H⟩ := H
         try dsimp only at H
         have A15 := z0 A150
         clear A150
         replace H := Option.bind_eq_some_iff.mp H
         obtain ⟨⟨t233, t236⟩, A160, H⟩ := H
         try dsimp only at H
         have A16 := z0 A160
         clear A160
         replace H := Option.bind_eq_some_iff.mp H
         obtain ⟨⟨t237, t240⟩, A170, H⟩ := H
         try dsimp only at H
         have A17 := z0 A170
         clear A170
         by_cases c18 : x5_1.length < 1099511627776
         ·rw [if_pos c18] at H
          have LMc18 := z0 c18
          clear c18
          obtain ⟨y241, hy241⟩ : ∃ y_ : List (S33), y_ = (x5_1 ++ [(⟨2, (⟨0, 0⟩ : S28), (⟨t225, t226, (⟨t227, t228⟩ : S28), t229⟩ : S31), t233, t237⟩ : S33)]) := ⟨_, rfl⟩
          replace H : (spec_l4List.l0 kj10 a1 y241 (wrap64 (x6_1 - 1)) s0_0 t240) = some (r1, r2) := by first | (rw [hy241]; with_reducible exact H) | (have H2_ := (Option.bind_some _ _).symm.trans H; rw [hy241]; with_reducible exact H2_) | (have H2_ := (Option.bind_some _ _).symm.trans H; with_reducible exact H2_) | with_reducible exact H | (rw [hy241]; exact H) | exact H
          have Ny241 := z0 hy241
          clear hy241
          have H' := z0 H
          clear H
          go_wp2_with (first | ((with_reducible refine gate_callee (f := 22) rfl ?_); refine goesL_ (some 33) rfl rfl Tryz.func22 (by kernel_rfl) rfl #[.pointer (some ⟨g, 0, none⟩), .int .i64 3] rfl argx ?_; (with_reducible refine (spec_l3Expr.calls kj10 g s0_0 t224 3 t225 t226 t227 t228 t229 t232 w0 _ ?side1 ?side2 A15.out).mono ?_); (case side1 => exact mI53_1 HI0.out); (case side2 => exact mB53HI0 HB.out); rintro e w19 ⟨v230, rfl, ho0, hi, hb, hk⟩; refine ⟨_, rfl, ?_⟩; have n_ := az (Kd.N_mono (Kd.N_told (Kd.N_oldK (Kd.N_mono (ok := fun k_ => (((w.heap.size ≤ k_)) ∧ k_ ≠ g)) (mN HO_5.out) (fun k_ hk_ => (⟨hk_, hk_.2⟩ : _ ∧ k_ ≠ g))) hk) q31_1) (fun _ h_ => h_.1)) <| az (Kd.N_lower (Kd.N_mono (ok' := fun k_ => (w.heap.size ≤ k_) ∧ nB k_ u5 ∧ k_ ≠ g) (Kd.R_N (Kd.R_bound ho0)) (fun k_ hk_ => ⟨(Nat.le_trans (kS HK.out) hk_.2.1), (Kd.fresh' (Kd.N_lt (mN HO_5.out)) k_ hk_.2.1), (IsS53.fresh (mI53_1 HI0.out) k_ hk_.2.1)⟩)) (kS HK.out)) <| az (KeepBut.trans (mKp HK.out) hk (.inl rfl)) <| az (hb) <| z0 (hi); clear HO_5 HK HB HI0; obtain ⟨HO_5, HO231, HK, HB, HI0⟩ := n_; clear hb hk hi ho0) | ((with_reducible refine gate_callee (f := 31) rfl ?_); refine goesL_ (some 37) rfl rfl Tryz.func31 (by kernel_rfl) rfl #[.pointer (some ⟨g, 0, none⟩), .int .i64 (wrap64 (a1 - 1))] rfl argx ?_; (with_reducible refine (ih kj10 (by have := HK1.out; have := HJ6.out; have := HJ10.out; omega) g s0_0 t232 (wrap64 (a1 - 1)) t233 t236 w0 _ ?side1 ?side2 A16.out).mono ?_); (case side1 => exact mI53_1 HI0.out); (case side2 => exact mB53HI0 HB.out); rintro e w20 ⟨v234, rfl, ho0, hi, hb, hk⟩; refine ⟨_, rfl, ?_⟩; have n_ := az (Kd.N_mono (Kd.N_told (Kd.N_oldK (Kd.N_mono (ok := fun k_ => ((((w.heap.size ≤ k_)) ∧ k_ ≠ g) ∧ nB k_ v230)) (mN HO_5.out) (fun k_ hk_ => (⟨hk_, hk_.1.2⟩ : _ ∧ k_ ≠ g))) hk) q31_1) (fun _ h_ => h_.1)) <| az (Kd.N_mono (Kd.N_told (Kd.N_oldK (Kd.N_mono (ok := fun k_ => (((w.heap.size ≤ k_)) ∧ (nB k_ u5 ∧ k_ ≠ g))) (mN HO231.out) (fun k_ hk_ => (⟨hk_, hk_.2.2⟩ : _ ∧ k_ ≠ g))) hk) q31_1) (fun _ h_ => h_.1)) <| az (Kd.N_lower (Kd.N_mono (ok' := fun k_ => (w.heap.size ≤ k_) ∧ nB k_ u5 ∧ nB k_ v230 ∧ k_ ≠ g) ho0 (fun k_ hk_ => ⟨(Nat.le_trans (kS HK.out) hk_), (Kd.fresh' (Kd.N_lt (mN HO_5.out)) k_ hk_), (Kd.fresh' (Kd.N_lt (mN HO231.out)) k_ hk_), (IsS53.fresh (mI53_1 HI0.out) k_ hk_)⟩)) (kS HK.out)) <| az (KeepBut.trans (mKp HK.out) hk (.inl rfl)) <| az (hb) <| z0 (hi); clear HO_5 HO231 HK HB HI0; obtain ⟨HO_5, HO231, HO235, HK, HB, HI0⟩ := n_; clear hb hk hi ho0) | ((with_reducible refine gate_callee (f := 31) rfl ?_); refine goesL_ (some 41) rfl rfl Tryz.func31 (by kernel_rfl) rfl #[.pointer (some ⟨g, 0, none⟩), .int .i64 (wrap64 (a1 - 2))] rfl argx ?_; (with_reducible refine (ih kj10 (by have := HK1.out; have := HJ6.out; have := HJ10.out; omega) g s0_0 t236 (wrap64 (a1 - 2)) t237 t240 w0 _ ?side1 ?side2 A17.out).mono ?_); (case side1 => exact mI53_1 HI0.out); (case side2 => exact mB53HI0 HB.out); rintro e w21 ⟨v238, rfl, ho0, hi, hb, hk⟩; refine ⟨_, rfl, ?_⟩; have n_ := az (Kd.N_mono (Kd.N_told (Kd.N_oldK (Kd.N_mono (ok := fun k_ => (((((w.heap.size ≤ k_)) ∧ k_ ≠ g) ∧ nB k_ v230) ∧ nB k_ v234)) (mN HO_5.out) (fun k_ hk_ => (⟨hk_, hk_.1.1.2⟩ : _ ∧ k_ ≠ g))) hk) q31_1) (fun _ h_ => h_.1)) <| az (Kd.N_mono (Kd.N_told (Kd.N_oldK (Kd.N_mono (ok := fun k_ => ((((w.heap.size ≤ k_)) ∧ (nB k_ u5 ∧ k_ ≠ g)) ∧ nB k_ v234)) (mN HO231.out) (fun k_ hk_ => (⟨hk_, hk_.1.2.2⟩ : _ ∧ k_ ≠ g))) hk) q31_1) (fun _ h_ => h_.1)) <| az (Kd.N_mono (Kd.N_told (Kd.N_oldK (Kd.N_mono (ok := fun k_ => (((w.heap.size ≤ k_)) ∧ (nB k_ u5 ∧ (nB k_ v230 ∧ k_ ≠ g)))) (mN HO235.out) (fun k_ hk_ => (⟨hk_, hk_.2.2.2⟩ : _ ∧ k_ ≠ g))) hk) q31_1) (fun _ h_ => h_.1)) <| az (Kd.N_lower (Kd.N_mono (ok' := fun k_ => (w.heap.size ≤ k_) ∧ nB k_ u5 ∧ nB k_ v230 ∧ nB k_ v234 ∧ k_ ≠ g) ho0 (fun k_ hk_ => ⟨(Nat.le_trans (kS HK.out) hk_), (Kd.fresh' (Kd.N_lt (mN HO_5.out)) k_ hk_), (Kd.fresh' (Kd.N_lt (mN HO231.out)) k_ hk_), (Kd.fresh' (Kd.N_lt (mN HO235.out)) k_ hk_), (IsS53.fresh (mI53_1 HI0.out) k_ hk_)⟩)) (kS HK.out)) <| az (KeepBut.trans (mKp HK.out) hk (.inl rfl)) <| az (hb) <| z0 (hi); clear HO_5 HO231 HO235 HK HB HI0; obtain ⟨HO_5, HO231, HO235, HO239, HK, HB, HI0⟩ := n_; clear hb hk hi ho0; obtain ⟨Ao22, co22, eo22⟩ := Kd.N_slice HO239.out; subst eo22; obtain ⟨Ao23, co23, eo23⟩ := Kd.N_slice HO235.out; subst eo23; obtain ⟨Ao24, co24, eo24⟩ := Kd.N_slice HO231.out; subst eo24) | ((with_reducible refine gate_builtin (b := .append) (xs := #[.tmp 31, .tmp 43]) rfl ?_); at_builtin; refine Kd.N_append k33 w.heap.size rfl (.tmp 31) (.tmp 43) 23 33 (.agg #[(.int .i64 0), (.int .i64 0), (.int .i64 0), (.int .i64 0), (.int .i64 0), (.int .i64 0), (.int .i64 0), (.slice none 0 0), (.slice none 0 0), (.slice none 0 0)]) 128 rfl Tryz.underlying23 info33 rfl (by decide) (by omega) u5 x5_1 (⟨2, (⟨0, 0⟩ : S28), (⟨t225, t226, (⟨t227, t228⟩ : S28), t229⟩ : S31), t233, t237⟩ : S33) [.int .i64 2, .int .i64 0, .int .i64 0, .int .i64 t225, .int .i64 t226, .int .i64 t227, .int .i64 t228, .slice Ao24 t229.length co24, .slice Ao23 t233.length co23, .slice Ao22 t237.length co22] (fun k_ => (w.heap.size ≤ k_) ∧ k_ ≠ g) (fun k_ => ((fun k_ => (w.heap.size ≤ k_) ∧ k_ ≠ g)) k_ ∧ nB k_ u5) rfl rfl ?aP (fun _ hk => hk) ?aF ?aO (Below.refl _ _) ?aS ?aL ?_; (case aP => exact (k33_mkF _ _ (⟨2, (⟨0, 0⟩ : S28), (⟨t225, t226, (⟨t227, t228⟩ : S28), t229⟩ : S31), t233, t237⟩ : S33) (Kd.N_reads' (Kd.N_mono (ok' := (fun k_ => ((fun k_ => (w.heap.size ≤ k_) ∧ k_ ≠ g)) k_ ∧ nB k_ u5)) (HO231.out) (fun k_ hk => ⟨⟨hk.1.1.1, hk.1.1.2.2⟩, hk.1.1.2.1⟩))).2.1 (Kd.N_F (Kd.N_mono (ok' := (fun k_ => ((fun k_ => (w.heap.size ≤ k_) ∧ k_ ≠ g)) k_ ∧ nB k_ u5)) (HO231.out) (fun k_ hk => ⟨⟨hk.1.1.1, hk.1.1.2.2⟩, hk.1.1.2.1⟩))) (Kd.N_reads' (Kd.N_mono (ok' := (fun k_ => ((fun k_ => (w.heap.size ≤ k_) ∧ k_ ≠ g)) k_ ∧ nB k_ u5)) (HO235.out) (fun k_ hk => ⟨⟨hk.1.1, hk.1.2.2.2⟩, hk.1.2.1⟩))).2.1 (Kd.N_F (Kd.N_mono (ok' := (fun k_ => ((fun k_ => (w.heap.size ≤ k_) ∧ k_ ≠ g)) k_ ∧ nB k_ u5)) (HO235.out) (fun k_ hk => ⟨⟨hk.1.1, hk.1.2.2.2⟩, hk.1.2.1⟩))) (Kd.N_reads' (Kd.N_mono (ok' := (fun k_ => ((fun k_ => (w.heap.size ≤ k_) ∧ k_ ≠ g)) k_ ∧ nB k_ u5)) (HO239.out) (fun k_ hk => ⟨⟨hk.1, hk.2.2.2.2⟩, hk.2.1⟩))).2.1 (Kd.N_F (Kd.N_mono (ok' := (fun k_ => ((fun k_ => (w.heap.size ≤ k_) ∧ k_ ≠ g)) k_ ∧ nB k_ u5)) (HO239.out) (fun k_ hk => ⟨⟨hk.1, hk.2.2.2.2⟩, hk.2.1⟩))))); (case aF => exact (fun k_ hk => ⟨(Nat.le_trans (kS HK.out) hk), IsS53.fresh (mI53_1 HI0.out) k_ hk⟩)); (case aO => exact (by (with_reducible repeat (first | apply Kd.N_alloc | apply Kd.N_drewN | apply Kd.N_drew)); exact Kd.N_mono HO_5.out (fun _ hk => ⟨hk.1.1.1.1, hk.1.1.1.2⟩))); (case aS => exact (kS HK.out)); (case aL => have := LMc18.out; omega); intro v242 w25 ho hb hg hat; rw [← Ny241.out] at ho; have n_ := az (IsS53.grown (mI53_1 HI0.out) hg (IsS53.own_neN HI0.out HO_5.out (by decide))) <| az (below_weaken (mB53HI0 HB.out) HL.out hb) <| az (KeepBut.trans (mKp HK.out) (KeepBut.of_grown hg g) (Kd.N_base2 HO_5.out)) <| z0 (ho); clear HI0 HB HK HO_5 HO231 HO235 HO239; obtain ⟨HI0, HB, HK, HO243⟩ := n_; clear ho hb hg hat))
          go_roundg kj10
          case measure => have := HK1.out; have := HJ6.out; have := HJ10.out; omega
          case rel => exact ⟨(y241), (wrap64 (x6_1 - 1)), (t240), rfy, H', ⟨by have := HK1.out; have := HJ6.out; have := HJ10.out; omega⟩, ⟨mN HO243.out⟩, ⟨mI53_1 HI0.out⟩, ⟨mKp HK.out⟩, ⟨mB53HI0 HB.out⟩⟩
         ·rw [if_neg c18] at H
          exact absurd H (by simp)
        ·replace c14 := Bool.eq_false_iff.mpr c14
         subst c14
         have H1 : (if t223 = 2 then (if a1 > 1 then ((spec_l4Count.f kj10 s0_0 t224).bind fun bt244 => (if x5_1.length < 1099511627776 then (spec_l4List.l0 kj10 a1 (x5_1 ++ [(⟨bt244.1, (⟨bt244.2.1, bt244.2.2.1⟩ : S28), (⟨bt244.2.2.2.1, bt244.2.2.2.2.1, (⟨bt244.2.2.2.2.2.1, bt244.2.2.2.2.2.2.1⟩ : S28), bt244.2.2.2.2.2.2.2.1⟩ : S31), bt244.2.2.2.2.2.2.2.2.1, bt244.2.2.2.2.2.2.2.2.2.1⟩ : S33)]) (wrap64 (x6_1 - 1)) s0_0 bt244.2.2.2.2.2.2.2.2.2.2) else (none))) else (spec_l4List.l0 kj10 a1 x5_1 (wrap64 (x6_1 - 1)) s0_0 t224)) else (if t223 = 3 then ((spec_l12Rd_pick.f kj10 s0_0 t224 3).bind fun bt264 => (if bt264.1 = 0 then ((spec_l3Expr.f kj10 s0_0 bt264.2 2).bind fun bt266 => ((spec_l4List.f kj10 s0_0 bt266.2.2.2.2.2 (wrap64 (a1 - 1))).bind fun bt274 => (if x5_1.length < 1099511627776 then (spec_l4List.l0 kj10 a1 (x5_1 ++ [(⟨3, (⟨0, 0⟩ : S28), (⟨bt266.1, bt266.2.1, (⟨bt266.2.2.1, bt266.2.2.2.1⟩ : S28), bt266.2.2.2.2.1⟩ : S31), bt274.1, ([] : List (S33))⟩ : S33)]) (wrap64 (x6_1 - 1)) s0_0 bt274.2) else (none)))) else (spec_l4List.l0 kj10 a1 x5_1 (wrap64 (x6_1 - 1)) s0_0 bt264.2))) else ((spec_l2To.f kj10 s0_0 t224).bind fun bt281 => ((spec_l3Expr.f kj10 s0_0 bt281.2.2 3).bind fun bt284 => (if x5_1.length < 1099511627776 then (spec_l4List.l0 kj10 a1 (x5_1 ++ [(⟨1, (⟨bt281.1, bt281.2.1⟩ : S28), (⟨bt284.1, bt284.2.1, (⟨bt284.2.2.1, bt284.2.2.2.1⟩ : S28), bt284.2.2.2.2.1⟩ : S31), ([] : List (S33)), ([] : List (S33))⟩ : S33)]) (wrap64 (x6_1 - 1)) s0_0 bt284.2.2.2.2.2) else (none)))))) = some (r1, r2) := by rw [if_neg (show ¬ (false = true) by decide)] at H; exact H
         clear H
         have H := H1
         clear H1
         by_cases c26 : t223 = 2
         ·rw [if_pos c26] at H
          have c26b0 : (t223 == 2) = true := beq_iff_eq.mpr c26
          have c26b1 : (t223 != 2) = false := bne_eq_false_iff_eq.mpr c26
          clear c26
          by_cases c27 : a1 > 1
          ·rw [if_pos c27] at H
           have c27b0 : decide (1 < a1) = true := decide_eq_true c27
           clear c27
           replace H := Option.bind_eq_some_iff.mp H
           obtain ⟨⟨t244, t245, t246, t247, t248, t249, t250, t251, t254, t257, t260⟩, A280, H⟩ := H
           try dsimp only at H
           have A28 := z0 A280
           clear A280
           by_cases c29 : x5_1.length < 1099511627776
           ·rw [if_pos c29] at H
            have LMc29 := z0 c29
            clear c29
            obtain ⟨y261, hy261⟩ : ∃ y_ : List (S33), y_ = (x5_1 ++ [(⟨t244, (⟨t245, t246⟩ : S28), (⟨t247, t248, (⟨t249, t250⟩ : S28), t251⟩ : S31), t254, t257⟩ : S33)]) := ⟨_, rfl⟩
            replace H : (spec_l4List.l0 kj10 a1 y261 (wrap64 (x6_1 - 1)) s0_0 t260) = some (r1, r2) := by first | (rw [hy261]; with_reducible exact H) | (have H2_ := (Option.bind_some _ _).symm.trans H; rw [hy261]; with_reducible exact H2_) | (have H2_ := (Option.bind_some _ _).symm.trans H; with_reducible exact H2_) | with_reducible exact H | (rw [hy261]; exact H) | exact H
            have Ny261 := z0 hy261
            clear hy261
            have H' := z0 H
            clear H
            go_wp2_with (first | ((with_reducible refine gate_callee (f := 32) rfl ?_); refine goesL_ (some 51) rfl rfl Tryz.func32 (by kernel_rfl) rfl #[.pointer (some ⟨g, 0, none⟩)] rfl argx ?_; (with_reducible refine (spec_l4Count.calls kj10 g s0_0 t224 t244 t245 t246 t247 t248 t249 t250 t251 t254 t257 t260 w0 _ ?side1 ?side2 A28.out).mono ?_); (case side1 => exact mI53_1 HI0.out); (case side2 => exact mB53HI0 HB.out); rintro e w30 ⟨v252, v255, v258, rfl, ho0, ho1, ho2, hi, hb, hk⟩; refine ⟨_, rfl, ?_⟩; have n_ := az (Kd.N_mono (Kd.N_told (Kd.N_told (Kd.N_told (Kd.N_oldK (Kd.N_mono (ok := fun k_ => (((w.heap.size ≤ k_)) ∧ k_ ≠ g)) (mN HO_5.out) (fun k_ hk_ => (⟨hk_, hk_.2⟩ : _ ∧ k_ ≠ g))) hk) q31_1) (by first | exact Kd.N_base ho1 | exact Kd.R_base ho1)) (by first | exact Kd.N_base ho2 | exact Kd.R_base ho2)) (fun _ h_ => h_.1)) <| az (Kd.N_lower (Kd.N_mono (ok' := fun k_ => (w.heap.size ≤ k_) ∧ nB k_ v255 ∧ nB k_ v258 ∧ nB k_ u5 ∧ k_ ≠ g) ho0 (fun k_ hk_ => ⟨(Nat.le_trans (kS HK.out) hk_.1), hk_.2.1, hk_.2.2, (Kd.fresh' (Kd.N_lt (mN HO_5.out)) k_ hk_.1), (IsS53.fresh (mI53_1 HI0.out) k_ hk_.1)⟩)) (kS HK.out)) <| az (Kd.N_lower (Kd.N_mono (ok' := fun k_ => (w.heap.size ≤ k_) ∧ nB k_ v252 ∧ nB k_ v258 ∧ nB k_ u5 ∧ k_ ≠ g) ho1 (fun k_ hk_ => ⟨(Nat.le_trans (kS HK.out) hk_.1), hk_.2.1, hk_.2.2, (Kd.fresh' (Kd.N_lt (mN HO_5.out)) k_ hk_.1), (IsS53.fresh (mI53_1 HI0.out) k_ hk_.1)⟩)) (kS HK.out)) <| az (Kd.N_lower (Kd.N_mono (ok' := fun k_ => (w.heap.size ≤ k_) ∧ nB k_ v252 ∧ nB k_ v255 ∧ nB k_ u5 ∧ k_ ≠ g) ho2 (fun k_ hk_ => ⟨(Nat.le_trans (kS HK.out) hk_.1), hk_.2.1, hk_.2.2, (Kd.fresh' (Kd.N_lt (mN HO_5.out)) k_ hk_.1), (IsS53.fresh (mI53_1 HI0.out) k_ hk_.1)⟩)) (kS HK.out)) <| az (KeepBut.trans (mKp HK.out) hk (.inl rfl)) <| az (hb) <| z0 (hi); clear HO_5 HK HB HI0; obtain ⟨HO_5, HO253, HO256, HO259, HK, HB, HI0⟩ := n_; clear hb hk hi ho0; (try clear ho1); (try clear ho2); obtain ⟨Ao32, co32, eo32⟩ := Kd.N_slice HO253.out; subst eo32; obtain ⟨Ao33, co33, eo33⟩ := Kd.N_slice HO256.out; subst eo33; obtain ⟨Ao34, co34, eo34⟩ := Kd.N_slice HO259.out; subst eo34) | ((with_reducible refine gate_builtin (b := .append) (xs := #[.tmp 49, .tmp 52]) rfl ?_); at_builtin; refine Kd.N_append k33 w.heap.size rfl (.tmp 49) (.tmp 52) 23 33 (.agg #[(.int .i64 0), (.int .i64 0), (.int .i64 0), (.int .i64 0), (.int .i64 0), (.int .i64 0), (.int .i64 0), (.slice none 0 0), (.slice none 0 0), (.slice none 0 0)]) 128 rfl Tryz.underlying23 info33 rfl (by decide) (by omega) u5 x5_1 (⟨t244, (⟨t245, t246⟩ : S28), (⟨t247, t248, (⟨t249, t250⟩ : S28), t251⟩ : S31), t254, t257⟩ : S33) [.int .i64 t244, .int .i64 t245, .int .i64 t246, .int .i64 t247, .int .i64 t248, .int .i64 t249, .int .i64 t250, .slice Ao32 t251.length co32, .slice Ao33 t254.length co33, .slice Ao34 t257.length co34] (fun k_ => (w.heap.size ≤ k_) ∧ k_ ≠ g) (fun k_ => ((fun k_ => (w.heap.size ≤ k_) ∧ k_ ≠ g)) k_ ∧ nB k_ u5) rfl rfl ?aP (fun _ hk => hk) ?aF ?aO (Below.refl _ _) ?aS ?aL ?_; (case aP => exact (k33_mkF _ _ (⟨t244, (⟨t245, t246⟩ : S28), (⟨t247, t248, (⟨t249, t250⟩ : S28), t251⟩ : S31), t254, t257⟩ : S33) (Kd.N_reads' (Kd.N_mono (ok' := (fun k_ => ((fun k_ => (w.heap.size ≤ k_) ∧ k_ ≠ g)) k_ ∧ nB k_ u5)) (HO253.out) (fun k_ hk => ⟨⟨hk.1, hk.2.2.2.2⟩, hk.2.2.2.1⟩))).2.1 (Kd.N_F (Kd.N_mono (ok' := (fun k_ => ((fun k_ => (w.heap.size ≤ k_) ∧ k_ ≠ g)) k_ ∧ nB k_ u5)) (HO253.out) (fun k_ hk => ⟨⟨hk.1, hk.2.2.2.2⟩, hk.2.2.2.1⟩))) (Kd.N_reads' (Kd.N_mono (ok' := (fun k_ => ((fun k_ => (w.heap.size ≤ k_) ∧ k_ ≠ g)) k_ ∧ nB k_ u5)) (HO256.out) (fun k_ hk => ⟨⟨hk.1, hk.2.2.2.2⟩, hk.2.2.2.1⟩))).2.1 (Kd.N_F (Kd.N_mono (ok' := (fun k_ => ((fun k_ => (w.heap.size ≤ k_) ∧ k_ ≠ g)) k_ ∧ nB k_ u5)) (HO256.out) (fun k_ hk => ⟨⟨hk.1, hk.2.2.2.2⟩, hk.2.2.2.1⟩))) (Kd.N_reads' (Kd.N_mono (ok' := (fun k_ => ((fun k_ => (w.heap.size ≤ k_) ∧ k_ ≠ g)) k_ ∧ nB k_ u5)) (HO259.out) (fun k_ hk => ⟨⟨hk.1, hk.2.2.2.2⟩, hk.2.2.2.1⟩))).2.1 (Kd.N_F (Kd.N_mono (ok' := (fun k_ => ((fun k_ => (w.heap.size ≤ k_) ∧ k_ ≠ g)) k_ ∧ nB k_ u5)) (HO259.out) (fun k_ hk => ⟨⟨hk.1, hk.2.2.2.2⟩, hk.2.2.2.1⟩))))); (case aF => exact (fun k_ hk => ⟨(Nat.le_trans (kS HK.out) hk), IsS53.fresh (mI53_1 HI0.out) k_ hk⟩)); (case aO => exact (by (with_reducible repeat (first | apply Kd.N_alloc | apply Kd.N_drewN | apply Kd.N_drew)); exact Kd.N_mono HO_5.out (fun _ hk => ⟨hk.1.1.1.1, hk.1.1.1.2⟩))); (case aS => exact (kS HK.out)); (case aL => have := LMc29.out; omega); intro v262 w31 ho hb hg hat; rw [← Ny261.out] at ho; have n_ := az (IsS53.grown (mI53_1 HI0.out) hg (IsS53.own_neN HI0.out HO_5.out (by decide))) <| az (below_weaken (mB53HI0 HB.out) HL.out hb) <| az (KeepBut.trans (mKp HK.out) (KeepBut.of_grown hg g) (Kd.N_base2 HO_5.out)) <| z0 (ho); clear HI0 HB HK HO_5 HO253 HO256 HO259; obtain ⟨HI0, HB, HK, HO263⟩ := n_; clear ho hb hg hat))
            go_roundg kj10
            case measure => have := HK1.out; have := HJ6.out; have := HJ10.out; omega
            case rel => exact ⟨(y261), (wrap64 (x6_1 - 1)), (t260), rfy, H', ⟨by have := HK1.out; have := HJ6.out; have := HJ10.out; omega⟩, ⟨mN HO263.out⟩, ⟨mI53_1 HI0.out⟩, ⟨mKp HK.out⟩, ⟨mB53HI0 HB.out⟩⟩
           ·rw [if_neg c29] at H
            exact absurd H (by simp)
          ·rw [if_neg c27] at H
           have c27b0 : decide (1 < a1) = false := decide_eq_false c27
           clear c27
           have H' := z0 H
           clear H
           go_wp2
           go_roundg kj10
           case measure => have := HK1.out; have := HJ6.out; have := HJ10.out; omega
           case rel => exact ⟨(x5_1), (wrap64 (x6_1 - 1)), (t224), rfy, H', ⟨by have := HK1.out; have := HJ6.out; have := HJ10.out; omega⟩, ⟨mN HO_5.out⟩, ⟨mI53_1 HI0.out⟩, ⟨mKp HK.out⟩, ⟨mB53HI0 HB.out⟩⟩
         ·rw [if_neg c26] at H
          have c26b0 : (t223 == 2) = false := beq_eq_false_iff_ne.mpr c26
          have c26b1 : (t223 != 2) = true := bne_iff_ne.mpr c26
          by_cases c35 : t223 = 3
          ·rw [if_pos c35] at H
           have c35b0 : (t223 == 3) = true := beq_iff_eq.mpr c35
           have c35b1 : (t223 != 3) = false := bne_eq_false_iff_eq.mpr c35
           clear c35
           replace H := Option.bind_eq_some_iff.mp H
           obtain ⟨⟨t264, t265⟩, A360, H⟩ := H
           try dsimp only at H
           have A36 := z0 A360
           clear A360
           have HF37 := z0 H
           clear H
           go_upto_if 58 with (first | ((with_reducible refine gate_callee (f := 18) rfl ?_); refine goesL_ (some 57) rfl rfl Tryz.func18 (by kernel_rfl) rfl #[.pointer (some ⟨g, 0, none⟩), .int .i64 3] rfl argx ?_; (with_reducible refine (spec_l12Rd_pick.calls kj10 g s0_0 t224 3 t264 t265 w0 _ ?side1 ?side2 A36.out).mono ?_); (case side1 => exact mI53_1 HI0.out); (case side2 => exact mB53HI0 HB.out); rintro e w38 ⟨rfl, hi, hb, hk⟩; refine ⟨_, rfl, ?_⟩; have n_ := az (Kd.N_mono (Kd.N_keep (Kd.N_mono (ok := fun k_ => (((w.heap.size ≤ k_)) ∧ k_ ≠ g)) (mN HO_5.out) (fun k_ hk_ => (⟨hk_, hk_.2⟩ : _ ∧ k_ ≠ g))) hk (fun _ h => h.2)) (fun _ h => h.1)) <| az (KeepBut.trans (mKp HK.out) hk (.inl rfl)) <| az (hb) <| z0 (hi); clear HO_5 HK HB HI0; obtain ⟨HO_5, HK, HB, HI0⟩ := n_; clear hb hk hi))
           (try simp only [Act.put, List.setIfInBounds_toArray, List.set_cons_zero, List.set_cons_succ])
           have H := HF37.out
           clear HF37
           (try clear c9); (try clear c14); (try clear c18); (try clear c26); (try clear c26b0); (try clear c26b1); (try clear c27); (try clear c35); (try clear c35b0); (try clear c35b1)
           by_cases c39 : t264 = 0
           ·rw [if_pos c39] at H
            have c39b0 : (t264 == 0) = true := beq_iff_eq.mpr c39
            have c39b1 : (t264 != 0) = false := bne_eq_false_iff_eq.mpr c39
            clear c39
            (first | rw [c39b0] | (simp only [i64_w, i32_w]; rw [c39b0]) | skip)
            replace H := Option.bind_eq_some_iff.mp H
            obtain ⟨⟨t266, t267, t268, t269, t270, t273⟩, A400, H⟩ := H
            try dsimp only at H
            have A40 := z0 A400
            clear A400
            replace H := Option.bind_eq_some_iff.mp H
            obtain ⟨⟨t274, t277⟩, A410, H⟩ := H
            try dsimp only at H
            have A41 := z0 A410
            clear A410
            by_cases c42 : x5_1.length < 1099511627776
            ·rw [if_pos c42] at H
             have LMc42 := z0 c42
             clear c42
             obtain ⟨y278, hy278⟩ : ∃ y_ : List (S33), y_ = (x5_1 ++ [(⟨3, (⟨0, 0⟩ : S28), (⟨t266, t267, (⟨t268, t269⟩ : S28), t270⟩ : S31), t274, ([] : List (S33))⟩ : S33)]) := ⟨_, rfl⟩
             replace H : (spec_l4List.l0 kj10 a1 y278 (wrap64 (x6_1 - 1)) s0_0 t277) = some (r1, r2) := by first | (rw [hy278]; with_reducible exact H) | (have H2_ := (Option.bind_some _ _).symm.trans H; rw [hy278]; with_reducible exact H2_) | (have H2_ := (Option.bind_some _ _).symm.trans H; with_reducible exact H2_) | with_reducible exact H | (rw [hy278]; exact H) | exact H
             have Ny278 := z0 hy278
             clear hy278
             have H' := z0 H
             clear H
             go_wp2_with (first | ((with_reducible refine gate_callee (f := 22) rfl ?_); refine goesL_ (some 61) rfl rfl Tryz.func22 (by kernel_rfl) rfl #[.pointer (some ⟨g, 0, none⟩), .int .i64 2] rfl argx ?_; (with_reducible refine (spec_l3Expr.calls kj10 g s0_0 t265 2 t266 t267 t268 t269 t270 t273 w0 _ ?side1 ?side2 A40.out).mono ?_); (case side1 => exact mI53_1 HI0.out); (case side2 => exact mB53HI0 HB.out); rintro e w43 ⟨v271, rfl, ho0, hi, hb, hk⟩; refine ⟨_, rfl, ?_⟩; have n_ := az (Kd.N_mono (Kd.N_told (Kd.N_oldK (Kd.N_mono (ok := fun k_ => (((w.heap.size ≤ k_)) ∧ k_ ≠ g)) (mN HO_5.out) (fun k_ hk_ => (⟨hk_, hk_.2⟩ : _ ∧ k_ ≠ g))) hk) q31_1) (fun _ h_ => h_.1)) <| az (Kd.N_lower (Kd.N_mono (ok' := fun k_ => (w.heap.size ≤ k_) ∧ nB k_ u5 ∧ k_ ≠ g) (Kd.R_N (Kd.R_bound ho0)) (fun k_ hk_ => ⟨(Nat.le_trans (kS HK.out) hk_.2.1), (Kd.fresh' (Kd.N_lt (mN HO_5.out)) k_ hk_.2.1), (IsS53.fresh (mI53_1 HI0.out) k_ hk_.2.1)⟩)) (kS HK.out)) <| az (KeepBut.trans (mKp HK.out) hk (.inl rfl)) <| az (hb) <| z0 (hi); clear HO_5 HK HB HI0; obtain ⟨HO_5, HO272, HK, HB, HI0⟩ := n_; clear hb hk hi ho0) | ((with_reducible refine gate_callee (f := 31) rfl ?_); refine goesL_ (some 65) rfl rfl Tryz.func31 (by kernel_rfl) rfl #[.pointer (some ⟨g, 0, none⟩), .int .i64 (wrap64 (a1 - 1))] rfl argx ?_; (with_reducible refine (ih kj10 (by have := HK1.out; have := HJ6.out; have := HJ10.out; omega) g s0_0 t273 (wrap64 (a1 - 1)) t274 t277 w0 _ ?side1 ?side2 A41.out).mono ?_); (case side1 => exact mI53_1 HI0.out); (case side2 => exact mB53HI0 HB.out); rintro e w44 ⟨v275, rfl, ho0, hi, hb, hk⟩; refine ⟨_, rfl, ?_⟩; have n_ := az (Kd.N_mono (Kd.N_told (Kd.N_oldK (Kd.N_mono (ok := fun k_ => ((((w.heap.size ≤ k_)) ∧ k_ ≠ g) ∧ nB k_ v271)) (mN HO_5.out) (fun k_ hk_ => (⟨hk_, hk_.1.2⟩ : _ ∧ k_ ≠ g))) hk) q31_1) (fun _ h_ => h_.1)) <| az (Kd.N_mono (Kd.N_told (Kd.N_oldK (Kd.N_mono (ok := fun k_ => (((w.heap.size ≤ k_)) ∧ (nB k_ u5 ∧ k_ ≠ g))) (mN HO272.out) (fun k_ hk_ => (⟨hk_, hk_.2.2⟩ : _ ∧ k_ ≠ g))) hk) q31_1) (fun _ h_ => h_.1)) <| az (Kd.N_lower (Kd.N_mono (ok' := fun k_ => (w.heap.size ≤ k_) ∧ nB k_ u5 ∧ nB k_ v271 ∧ k_ ≠ g) ho0 (fun k_ hk_ => ⟨(Nat.le_trans (kS HK.out) hk_), (Kd.fresh' (Kd.N_lt (mN HO_5.out)) k_ hk_), (Kd.fresh' (Kd.N_lt (mN HO272.out)) k_ hk_), (IsS53.fresh (mI53_1 HI0.out) k_ hk_)⟩)) (kS HK.out)) <| az (KeepBut.trans (mKp HK.out) hk (.inl rfl)) <| az (hb) <| z0 (hi); clear HO_5 HO272 HK HB HI0; obtain ⟨HO_5, HO272, HO276, HK, HB, HI0⟩ := n_; clear hb hk hi ho0; obtain ⟨Ao45, co45, eo45⟩ := Kd.N_slice HO276.out; subst eo45; obtain ⟨Ao46, co46, eo46⟩ := Kd.N_slice HO272.out; subst eo46) | ((with_reducible refine gate_builtin (b := .append) (xs := #[.tmp 59, .tmp 67]) rfl ?_); at_builtin; refine Kd.N_append k33 w.heap.size rfl (.tmp 59) (.tmp 67) 23 33 (.agg #[(.int .i64 0), (.int .i64 0), (.int .i64 0), (.int .i64 0), (.int .i64 0), (.int .i64 0), (.int .i64 0), (.slice none 0 0), (.slice none 0 0), (.slice none 0 0)]) 128 rfl Tryz.underlying23 info33 rfl (by decide) (by omega) u5 x5_1 (⟨3, (⟨0, 0⟩ : S28), (⟨t266, t267, (⟨t268, t269⟩ : S28), t270⟩ : S31), t274, ([] : List (S33))⟩ : S33) [.int .i64 3, .int .i64 0, .int .i64 0, .int .i64 t266, .int .i64 t267, .int .i64 t268, .int .i64 t269, .slice Ao46 t270.length co46, .slice Ao45 t274.length co45, .slice none 0 0] (fun k_ => (w.heap.size ≤ k_) ∧ k_ ≠ g) (fun k_ => ((fun k_ => (w.heap.size ≤ k_) ∧ k_ ≠ g)) k_ ∧ nB k_ u5) rfl rfl ?aP (fun _ hk => hk) ?aF ?aO (Below.refl _ _) ?aS ?aL ?_; (case aP => exact (k33_mkF _ _ (⟨3, (⟨0, 0⟩ : S28), (⟨t266, t267, (⟨t268, t269⟩ : S28), t270⟩ : S31), t274, ([] : List (S33))⟩ : S33) (Kd.N_reads' (Kd.N_mono (ok' := (fun k_ => ((fun k_ => (w.heap.size ≤ k_) ∧ k_ ≠ g)) k_ ∧ nB k_ u5)) (HO272.out) (fun k_ hk => ⟨⟨hk.1.1, hk.1.2.2⟩, hk.1.2.1⟩))).2.1 (Kd.N_F (Kd.N_mono (ok' := (fun k_ => ((fun k_ => (w.heap.size ≤ k_) ∧ k_ ≠ g)) k_ ∧ nB k_ u5)) (HO272.out) (fun k_ hk => ⟨⟨hk.1.1, hk.1.2.2⟩, hk.1.2.1⟩))) (Kd.N_reads' (Kd.N_mono (ok' := (fun k_ => ((fun k_ => (w.heap.size ≤ k_) ∧ k_ ≠ g)) k_ ∧ nB k_ u5)) (HO276.out) (fun k_ hk => ⟨⟨hk.1, hk.2.2.2⟩, hk.2.1⟩))).2.1 (Kd.N_F (Kd.N_mono (ok' := (fun k_ => ((fun k_ => (w.heap.size ≤ k_) ∧ k_ ≠ g)) k_ ∧ nB k_ u5)) (HO276.out) (fun k_ hk => ⟨⟨hk.1, hk.2.2.2⟩, hk.2.1⟩))) (Nat.le_refl _) (Kd.F_nil _ _ _))); (case aF => exact (fun k_ hk => ⟨(Nat.le_trans (kS HK.out) hk), IsS53.fresh (mI53_1 HI0.out) k_ hk⟩)); (case aO => exact (by (with_reducible repeat (first | apply Kd.N_alloc | apply Kd.N_drewN | apply Kd.N_drew)); exact Kd.N_mono HO_5.out (fun _ hk => ⟨hk.1.1.1, hk.1.1.2⟩))); (case aS => exact (kS HK.out)); (case aL => have := LMc42.out; omega); intro v279 w47 ho hb hg hat; rw [← Ny278.out] at ho; have n_ := az (IsS53.grown (mI53_1 HI0.out) hg (IsS53.own_neN HI0.out HO_5.out (by decide))) <| az (below_weaken (mB53HI0 HB.out) HL.out hb) <| az (KeepBut.trans (mKp HK.out) (KeepBut.of_grown hg g) (Kd.N_base2 HO_5.out)) <| z0 (ho); clear HI0 HB HK HO_5 HO272 HO276; obtain ⟨HI0, HB, HK, HO280⟩ := n_; clear ho hb hg hat))
             go_roundg kj10
             case measure => have := HK1.out; have := HJ6.out; have := HJ10.out; omega
             case rel => exact ⟨(y278), (wrap64 (x6_1 - 1)), (t277), rfy, H', ⟨by have := HK1.out; have := HJ6.out; have := HJ10.out; omega⟩, ⟨mN HO280.out⟩, ⟨mI53_1 HI0.out⟩, ⟨mKp HK.out⟩, ⟨mB53HI0 HB.out⟩⟩
            ·rw [if_neg c42] at H
             exact absurd H (by simp)
           ·rw [if_neg c39] at H
            have c39b0 : (t264 == 0) = false := beq_eq_false_iff_ne.mpr c39
            have c39b1 : (t264 != 0) = true := bne_iff_ne.mpr c39
            (first | rw [c39b0] | (simp only [i64_w, i32_w]; rw [c39b0]) | skip)
            have H' := z0 H
            clear H
            go_wp2
            go_roundg kj10
            case measure => have := HK1.out; have := HJ6.out; have := HJ10.out; omega
            case rel => exact ⟨(x5_1), (wrap64 (x6_1 - 1)), (t265), rfy, H', ⟨by have := HK1.out; have := HJ6.out; have := HJ10.out; omega⟩, ⟨mN HO_5.out⟩, ⟨mI53_1 HI0.out⟩, ⟨mKp HK.out⟩, ⟨mB53HI0 HB.out⟩⟩
          ·rw [if_neg c35] at H
           have c35b0 : (t223 == 3) = false := beq_eq_false_iff_ne.mpr c35
           have c35b1 : (t223 != 3) = true := bne_iff_ne.mpr c35
           replace H := Option.bind_eq_some_iff.mp H
           obtain ⟨⟨t281, t282, t283⟩, A480, H⟩ := H
           try dsimp only at H
           have A48 := z0 A480
           clear A480
           replace H := Option.bind_eq_some_iff.mp H
           obtain ⟨⟨t284, t285, t286, t287, t288, t291⟩, A490, H⟩ := H
           try dsimp only at H
           have A49 := z0 A490
           clear A490
           by_cases c50 : x5_1.length < 1099511627776
           ·rw [if_pos c50] at H
            have LMc50 := z0 c50
            clear c50
            obtain ⟨y292, hy292⟩ : ∃ y_ : List (S33), y_ = (x5_1 ++ [(⟨1, (⟨t281, t282⟩ : S28), (⟨t284, t285, (⟨t286, t287⟩ : S28), t288⟩ : S31), ([] : List (S33)), ([] : List (S33))⟩ : S33)]) := ⟨_, rfl⟩
            replace H : (spec_l4List.l0 kj10 a1 y292 (wrap64 (x6_1 - 1)) s0_0 t291) = some (r1, r2) := by first | (rw [hy292]; with_reducible exact H) | (have H2_ := (Option.bind_some _ _).symm.trans H; rw [hy292]; with_reducible exact H2_) | (have H2_ := (Option.bind_some _ _).symm.trans H; with_reducible exact H2_) | with_reducible exact H | (rw [hy292]; exact H) | exact H
            have Ny292 := z0 hy292
            clear hy292
            have H' := z0 H
            clear H
            go_wp2_with (first | ((with_reducible refine gate_callee (f := 23) rfl ?_); refine goesL_ (some 22) rfl rfl Tryz.func23 (by kernel_rfl) rfl #[.pointer (some ⟨g, 0, none⟩)] rfl argx ?_; (with_reducible refine (spec_l2To.calls kj10 g s0_0 t224 t281 t282 t283 w0 _ ?side1 ?side2 A48.out).mono ?_); (case side1 => exact mI53_1 HI0.out); (case side2 => exact mB53HI0 HB.out); rintro e w51 ⟨rfl, hi, hb, hk⟩; refine ⟨_, rfl, ?_⟩; have n_ := az (Kd.N_mono (Kd.N_keep (Kd.N_mono (ok := fun k_ => (((w.heap.size ≤ k_)) ∧ k_ ≠ g)) (mN HO_5.out) (fun k_ hk_ => (⟨hk_, hk_.2⟩ : _ ∧ k_ ≠ g))) hk (fun _ h => h.2)) (fun _ h => h.1)) <| az (KeepBut.trans (mKp HK.out) hk (.inl rfl)) <| az (hb) <| z0 (hi); clear HO_5 HK HB HI0; obtain ⟨HO_5, HK, HB, HI0⟩ := n_; clear hb hk hi) | ((with_reducible refine gate_callee (f := 22) rfl ?_); refine goesL_ (some 24) rfl rfl Tryz.func22 (by kernel_rfl) rfl #[.pointer (some ⟨g, 0, none⟩), .int .i64 3] rfl argx ?_; (with_reducible refine (spec_l3Expr.calls kj10 g s0_0 t283 3 t284 t285 t286 t287 t288 t291 w0 _ ?side1 ?side2 A49.out).mono ?_); (case side1 => exact mI53_1 HI0.out); (case side2 => exact mB53HI0 HB.out); rintro e w52 ⟨v289, rfl, ho0, hi, hb, hk⟩; refine ⟨_, rfl, ?_⟩; have n_ := az (Kd.N_mono (Kd.N_told (Kd.N_oldK (Kd.N_mono (ok := fun k_ => (((w.heap.size ≤ k_)) ∧ k_ ≠ g)) (mN HO_5.out) (fun k_ hk_ => (⟨hk_, hk_.2⟩ : _ ∧ k_ ≠ g))) hk) q31_1) (fun _ h_ => h_.1)) <| az (Kd.N_lower (Kd.N_mono (ok' := fun k_ => (w.heap.size ≤ k_) ∧ nB k_ u5 ∧ k_ ≠ g) (Kd.R_N (Kd.R_bound ho0)) (fun k_ hk_ => ⟨(Nat.le_trans (kS HK.out) hk_.2.1), (Kd.fresh' (Kd.N_lt (mN HO_5.out)) k_ hk_.2.1), (IsS53.fresh (mI53_1 HI0.out) k_ hk_.2.1)⟩)) (kS HK.out)) <| az (KeepBut.trans (mKp HK.out) hk (.inl rfl)) <| az (hb) <| z0 (hi); clear HO_5 HK HB HI0; obtain ⟨HO_5, HO290, HK, HB, HI0⟩ := n_; clear hb hk hi ho0; obtain ⟨Ao53, co53, eo53⟩ := Kd.N_slice HO290.out; subst eo53) | ((with_reducible refine gate_builtin (b := .append) (xs := #[.tmp 20, .tmp 26]) rfl ?_); at_builtin; refine Kd.N_append k33 w.heap.size rfl (.tmp 20) (.tmp 26) 23 33 (.agg #[(.int .i64 0), (.int .i64 0), (.int .i64 0), (.int .i64 0), (.int .i64 0), (.int .i64 0), (.int .i64 0), (.slice none 0 0), (.slice none 0 0), (.slice none 0 0)]) 128 rfl Tryz.underlying23 info33 rfl (by decide) (by omega) u5 x5_1 (⟨1, (⟨t281, t282⟩ : S28), (⟨t284, t285, (⟨t286, t287⟩ : S28), t288⟩ : S31), ([] : List (S33)), ([] : List (S33))⟩ : S33) [.int .i64 1, .int .i64 t281, .int .i64 t282, .int .i64 t284, .int .i64 t285, .int .i64 t286, .int .i64 t287, .slice Ao53 t288.length co53, .slice none 0 0, .slice none 0 0] (fun k_ => (w.heap.size ≤ k_) ∧ k_ ≠ g) (fun k_ => ((fun k_ => (w.heap.size ≤ k_) ∧ k_ ≠ g)) k_ ∧ nB k_ u5) rfl rfl ?aP (fun _ hk => hk) ?aF ?aO (Below.refl _ _) ?aS ?aL ?_; (case aP => exact (k33_mkF _ _ (⟨1, (⟨t281, t282⟩ : S28), (⟨t284, t285, (⟨t286, t287⟩ : S28), t288⟩ : S31), ([] : List (S33)), ([] : List (S33))⟩ : S33) (Kd.N_reads' (Kd.N_mono (ok' := (fun k_ => ((fun k_ => (w.heap.size ≤ k_) ∧ k_ ≠ g)) k_ ∧ nB k_ u5)) (HO290.out) (fun k_ hk => ⟨⟨hk.1, hk.2.2⟩, hk.2.1⟩))).2.1 (Kd.N_F (Kd.N_mono (ok' := (fun k_ => ((fun k_ => (w.heap.size ≤ k_) ∧ k_ ≠ g)) k_ ∧ nB k_ u5)) (HO290.out) (fun k_ hk => ⟨⟨hk.1, hk.2.2⟩, hk.2.1⟩))) (Nat.le_refl _) (Kd.F_nil _ _ _) (Nat.le_refl _) (Kd.F_nil _ _ _))); (case aF => exact (fun k_ hk => ⟨(Nat.le_trans (kS HK.out) hk), IsS53.fresh (mI53_1 HI0.out) k_ hk⟩)); (case aO => exact (by (with_reducible repeat (first | apply Kd.N_alloc | apply Kd.N_drewN | apply Kd.N_drew)); exact Kd.N_mono HO_5.out (fun _ hk => ⟨hk.1.1, hk.1.2⟩))); (case aS => exact (kS HK.out)); (case aL => have := LMc50.out; omega); intro v293 w54 ho hb hg hat; rw [← Ny292.out] at ho; have n_ := az (IsS53.grown (mI53_1 HI0.out) hg (IsS53.own_neN HI0.out HO_5.out (by decide))) <| az (below_weaken (mB53HI0 HB.out) HL.out hb) <| az (KeepBut.trans (mKp HK.out) (KeepBut.of_grown hg g) (Kd.N_base2 HO_5.out)) <| z0 (ho); clear HI0 HB HK HO_5 HO290; obtain ⟨HI0, HB, HK, HO294⟩ := n_; clear ho hb hg hat))
            go_roundg kj10
            case measure => have := HK1.out; have := HJ6.out; have := HJ10.out; omega
            case rel => exact ⟨(y292), (wrap64 (x6_1 - 1)), (t291), rfy, H', ⟨by have := HK1.out; have := HJ6.out; have := HJ10.out; omega⟩, ⟨mN HO294.out⟩, ⟨mI53_1 HI0.out⟩, ⟨mKp HK.out⟩, ⟨mB53HI0 HB.out⟩⟩
           ·rw [if_neg c50] at H
            exact absurd H (by simp)
     ·replace c9 := Bool.eq_false_iff.mpr c9
      subst c9
      have H1 : (some (x5_1, x1001_1)) = some (r1, r2) := by rw [if_neg (show ¬ (false = true) by decide)] at H; exact H
      clear H
      have H := H1
      clear H1
      simp only [Option.some.injEq, Prod.mk.injEq] at H
      obtain ⟨rfl, rfl⟩ := H
      go_wp2
      go_ret
      exact ⟨_, rfx, by (with_reducible repeat (first | apply Kd.N_alloc | apply Kd.N_drewN | apply Kd.N_drew)); exact Kd.N_mono HO_5.out (fun _ hk => hk.1), mI53_1 HI0.out, mB53HI0 HB.out, mKp HK.out⟩

end Go.Proofs.YtbckpgipehjgmaaGreat.B
