/- Printed functions of this seat, in one text. -/
import Derived.Test.YtbckpgipehjgmaaGreatB0
import Derived.Test.YtbckpgipehjgmaaGreatSq
namespace Go.Proofs.YtbckpgipehjgmaaGreat.B
open Go.RowKit Go.Proofs.YtbckpgipehjgmaaGreatW.PrintWords Go.Proofs.YtbckpgipehjgmaaGreatW.PrintLast Go.Proofs.YtbckpgipehjgmaaGreatW.PrintMore
attribute [local go_sem] max2_int min2_int max_two min_two max_three min_three max_four min_four   -- for this text's walks alone
set_option linter.unusedVariables false
set_option linter.unusedSimpArgs false

/-! ### spec_l4Many: function 13 -/
mutual
def spec_l4Many.l0 : Nat → List (S33) → Int → Int → Int → Option (Int)
 | 0, _, _, _, _ => none
 | k + 1, x0, x1, x5, x6 => if x6 < (x0.length : Int) then (spec_l4Many.j1 k x0 x1 x5 x6 (decide (x1 > 0))) else (spec_l4Many.j1 k x0 x1 x5 x6 false)
def spec_l4Many.j1 : Nat → List (S33) → Int → Int → Int → Bool → Option (Int)
 | 0, _, _, _, _, _ => none
 | k + 1, x0, x1, x5, x6, x16 => if x16 = true then (if 0 ≤ x6 then (if x6 < (x0.length : Int) then ((spec_l4Many.f k ((rd_T33 x0 x6).f3) (wrap64 (x1 - 1))).bind fun t102 => ((spec_l4Many.f k ((rd_T33 x0 x6).f4) (wrap64 (x1 - 1))).bind fun t104 => (spec_l4Many.l0 k x0 x1 (wrap64 ((wrap64 (x5 + t102)) + t104)) (wrap64 (x6 + 1))))) else (none)) else (none)) else (some x5)
def spec_l4Many.f : Nat → List (S33) → Int → Option (Int)
 | 0, _, _ => none
 | k + 1, l0, a1 => spec_l4Many.l0 k l0 a1 (l0.length : Int) 0
end
def spec_l4Many.T5 : Bool × List (List Nat × List Nat) := (true, [([], []), ([], []), ([], []), ([1, 2], [1, 2]), ([3], [3]), ([4], [4]), ([], []), ([6], [6]), ([5, 7], [5, 7]), ([0, 8], [0, 8]), ([], []), ([], []), ([10, 11], [10, 11]), ([12], [12]), ([13], [13]), ([], []), ([15], [15]), ([14, 16, 8], [14, 16]), ([9, 17], [9, 17]), ([18, 17, 0, 1, 2, 3, 4, 5, 6, 7, 8, 9, 10, 11, 12, 13, 14, 15, 16, 17, 18], [0, 18])])
def spec_l4Many.B5 : List Nat := [0, 0, 0, 6, 14, 30, 0, 64, 254, 511, 0, 0, 3072, 7168, 15360, 0, 32768, 130558, 262143, 524287]
theorem spec_l4Many.tab5 : rtab .any (opsOf Tryz.f13 5) = spec_l4Many.T5 := by kernel_rfl
theorem spec_l4Many.bits5 : waitsOk spec_l4Many.T5.2 spec_l4Many.B5 = true := by kernel_rfl
set_option maxHeartbeats 8000000 in
set_option maxRecDepth 100000 in
theorem spec_l4Many.calls (k : Nat) : ∀ (A0 : Option Addr) (c0 : Nat) (l0 : List (S33)) (a1 : Int) (r : Int) (w : World) (hr0 : Kd.C k33 w A0 l0.length l0) (hc0 : l0.length ≤ c0) (h : spec_l4Many.f k l0 a1 = some r),
  Calls Tryz.prog 13 #[.slice A0 l0.length c0, .int .i64 a1] w fun e w' => e = .returned (.int .i64 r) ∧ Below w.heap.size w w' := by
 induction k using Nat.strongRecOn with
 | _ k ih =>
 intro A0 c0 l0 a1 r w hr0 hc0 h
 cases k with
 | zero => exact absurd h (by simp [spec_l4Many.f])
 | succ k =>
 simp only [spec_l4Many.f] at h
 have HR0 := z0 hr0
 have HC0 := z0 hc0
 clear hr0 hc0
 have HB := z0 (Below.refl w.heap.size w)
 have H : (spec_l4Many.l0 k l0 a1 (l0.length : Int) 0) = some r := h
 clear h
 have H' := z0 H
 clear H
 go_enter Tryz.func13, Tryz.ntmps13
 go_wp2
 go_loopg [5, 6] k (fun kq v5 v6 w' => ∃ (x5_1 : Int) (x6_1 : Int), v5 = .int .i64 x5_1 ∧ v6 = .int .i64 x6_1 ∧ Aside0 (spec_l4Many.l0 kq l0 a1 x5_1 x6_1 = some r) ∧ Aside0 (kq ≤ k) ∧ Aside0 (Below w.heap.size w w'))
 case atStart => exact ⟨((l0.length : Int)), (0), rfy, rfy, H', ⟨Nat.le_refl _⟩, ⟨mB HB.out⟩⟩
 case round =>
  clear H'
  skip
  obtain ⟨x5_1, x6_1, rfl, rfl, HA, HK1, HB⟩ := hrel
  cases gk with
  | zero => exact absurd HA.out (by simp [spec_l4Many.l0])
  | succ k1 =>
   have H := HA.out
   clear HA
   simp only [spec_l4Many.l0] at H
   have HC3 := z0 H
   clear H
   go_upto_region 3 with (fail)
   go_cut [16] (fun v16 wc => ∃ (kq : Nat) (x16_2 : Bool), v16 = .bool x16_2 ∧ Aside0 (spec_l4Many.j1 kq l0 a1 x5_1 x6_1 x16_2 = some r) ∧ Aside0 (kq ≤ k1) ∧ Aside0 (Below w.heap.size w wc))
   case first =>
    have H := HC3.out
    clear HC3
    by_cases c4 : x6_1 < (l0.length : Int)
    ·rw [if_pos c4] at H
     have c4b0 : decide (x6_1 < (l0.length : Int)) = true := decide_eq_true c4
     clear c4
     (first | rw [c4b0] | (simp only [i64_w, i32_w]; rw [c4b0]) | skip)
     have H' := z0 H
     clear H
     go_wp2
     go_meet
     case rel => exact ⟨_, (decide (a1 > 0)), rfy, H', ⟨by have := HK1.out; first | omega | exact Nat.le_refl _⟩, ⟨mB HB.out⟩⟩
    ·rw [if_neg c4] at H
     have c4b0 : decide (x6_1 < (l0.length : Int)) = false := decide_eq_false c4
     clear c4
     (first | rw [c4b0] | (simp only [i64_w, i32_w]; rw [c4b0]) | skip)
     have H' := z0 H
     clear H
     go_wp2
     go_meet
     case rel => exact ⟨_, (false), rfy, H', ⟨by have := HK1.out; first | omega | exact Nat.le_refl _⟩, ⟨mB HB.out⟩⟩
   case rest =>
    clear HC3
    skip
    obtain ⟨kq, x16_2, rfl, HA, HJ2, HB⟩ := hcut
    cases kq with
    | zero => exact absurd HA.out (by simp [spec_l4Many.j1])
    | succ kj2 =>
     have H := HA.out
     clear HA
     simp only [spec_l4Many.j1] at H
     by_cases c5 : x16_2 = true
     ·subst c5
      have H1 : (if 0 ≤ x6_1 then (if x6_1 < (l0.length : Int) then ((spec_l4Many.f kj2 ((rd_T33 l0 x6_1).f3) (wrap64 (a1 - 1))).bind fun t102 => ((spec_l4Many.f kj2 ((rd_T33 l0 x6_1).f4) (wrap64 (a1 - 1))).bind fun t104 => (spec_l4Many.l0 kj2 l0 a1 (wrap64 ((wrap64 (x5_1 + t102)) + t104)) (wrap64 (x6_1 + 1))))) else (none)) else (none)) = some r := by rw [if_pos rfl] at H; exact H
      clear H
      have H := H1
      clear H1
      by_cases c6 : 0 ≤ x6_1
      ·rw [if_pos c6] at H
       have c6b0 : decide (0 ≤ x6_1) = true := decide_eq_true c6
       clear c6
       by_cases c7 : x6_1 < (l0.length : Int)
       ·rw [if_pos c7] at H
        have c7b0 : decide (x6_1 < (l0.length : Int)) = true := decide_eq_true c7
        clear c7
        replace H := Option.bind_eq_some_iff.mp H
        obtain ⟨t102, A80, H⟩ := H
        try dsimp only at H
        have A8 := z0 A80
        clear A80
        replace H := Option.bind_eq_some_iff.mp H
        obtain ⟨t104, A90, H⟩ := H
        try dsimp only at H
        have A9 := z0 A90
        clear A90
        have H' := z0 H
        clear H
        try go_wp2
        have n0_ := z0 (below_drew1 HB.out)
        clear HB
        have HB := n0_
        clear n0_
        have p101 : 0 ≤ (x6_1 : Int) := of_decide_eq_true (by first | (with_reducible assumption) | assumption)
        have q101 : x6_1 < (l0.length : Int) := of_decide_eq_true (by first | (with_reducible assumption) | assumption)
        obtain ⟨ad101, A101_7, c101_7, A101_8, c101_8, A101_9, c101_9, e101, hx101_0, hx101_1, hx101_2, hx101_3, hx101_4, hx101_5, hx101_6, hx101_7, hx101_8, hx101_9, hl101_7, hi101_7, hl101_8, hi101_8, hl101_9, hi101_9⟩ := at_T33 HR0.out x6_1 p101 q101
        have hw101_9 := hx101_9
        have hw101_8 := hx101_8
        have hw101_7 := hx101_7
        have hw101_6 := hx101_6
        have hw101_5 := hx101_5
        have hw101_4 := hx101_4
        have hw101_3 := hx101_3
        have hw101_2 := hx101_2
        have hw101_1 := hx101_1
        have hw101_0 := hx101_0
        cases e101
        replace hx101_0 := (HB.out.cell (World.block_lt_of_cell? w _ hx101_0)).trans hx101_0
        replace hx101_1 := (HB.out.cell (World.block_lt_of_cell? w _ hx101_1)).trans hx101_1
        replace hx101_2 := (HB.out.cell (World.block_lt_of_cell? w _ hx101_2)).trans hx101_2
        replace hx101_3 := (HB.out.cell (World.block_lt_of_cell? w _ hx101_3)).trans hx101_3
        replace hx101_4 := (HB.out.cell (World.block_lt_of_cell? w _ hx101_4)).trans hx101_4
        replace hx101_5 := (HB.out.cell (World.block_lt_of_cell? w _ hx101_5)).trans hx101_5
        replace hx101_6 := (HB.out.cell (World.block_lt_of_cell? w _ hx101_6)).trans hx101_6
        replace hx101_7 := (HB.out.cell (World.block_lt_of_cell? w _ hx101_7)).trans hx101_7
        replace hx101_8 := (HB.out.cell (World.block_lt_of_cell? w _ hx101_8)).trans hx101_8
        replace hx101_9 := (HB.out.cell (World.block_lt_of_cell? w _ hx101_9)).trans hx101_9
        have HR101_7 := z0 hi101_7
        have HC101_7 := z0 hl101_7
        clear hi101_7 hl101_7
        have HR101_8 := z0 hi101_8
        have HC101_8 := z0 hl101_8
        clear hi101_8 hl101_8
        have HR101_9 := z0 hi101_9
        have HC101_9 := z0 hl101_9
        clear hi101_9 hl101_9
        replace p101 := eq_true p101
        replace q101 := eq_true q101
        have p103 : 0 ≤ (x6_1 : Int) := of_decide_eq_true (by first | (with_reducible assumption) | assumption)
        have q103 : x6_1 < (l0.length : Int) := of_decide_eq_true (by first | (with_reducible assumption) | assumption)
        obtain ⟨ad103, A103_7, c103_7, A103_8, c103_8, A103_9, c103_9, e103, hx103_0, hx103_1, hx103_2, hx103_3, hx103_4, hx103_5, hx103_6, hx103_7, hx103_8, hx103_9, hl103_7, hi103_7, hl103_8, hi103_8, hl103_9, hi103_9⟩ := at_T33 HR0.out x6_1 p103 q103
        have hw103_9 := hx103_9
        have hw103_8 := hx103_8
        have hw103_7 := hx103_7
        have hw103_6 := hx103_6
        have hw103_5 := hx103_5
        have hw103_4 := hx103_4
        have hw103_3 := hx103_3
        have hw103_2 := hx103_2
        have hw103_1 := hx103_1
        have hw103_0 := hx103_0
        obtain rfl : ad101 = ad103 := (by injection e103)
        replace hx103_0 := (HB.out.cell (World.block_lt_of_cell? w _ hx103_0)).trans hx103_0
        replace hx103_1 := (HB.out.cell (World.block_lt_of_cell? w _ hx103_1)).trans hx103_1
        replace hx103_2 := (HB.out.cell (World.block_lt_of_cell? w _ hx103_2)).trans hx103_2
        replace hx103_3 := (HB.out.cell (World.block_lt_of_cell? w _ hx103_3)).trans hx103_3
        replace hx103_4 := (HB.out.cell (World.block_lt_of_cell? w _ hx103_4)).trans hx103_4
        replace hx103_5 := (HB.out.cell (World.block_lt_of_cell? w _ hx103_5)).trans hx103_5
        replace hx103_6 := (HB.out.cell (World.block_lt_of_cell? w _ hx103_6)).trans hx103_6
        replace hx103_7 := (HB.out.cell (World.block_lt_of_cell? w _ hx103_7)).trans hx103_7
        replace hx103_8 := (HB.out.cell (World.block_lt_of_cell? w _ hx103_8)).trans hx103_8
        replace hx103_9 := (HB.out.cell (World.block_lt_of_cell? w _ hx103_9)).trans hx103_9
        have HR103_7 := z0 hi103_7
        have HC103_7 := z0 hl103_7
        clear hi103_7 hl103_7
        have HR103_8 := z0 hi103_8
        have HC103_8 := z0 hl103_8
        clear hi103_8 hl103_8
        have HR103_9 := z0 hi103_9
        have HC103_9 := z0 hl103_9
        clear hi103_9 hl103_9
        replace p103 := eq_true p103
        replace q103 := eq_true q103
        have ea_ := Option.some.inj (hx101_7.symm.trans hx103_7)
        injection ea_ with ea_ en_ ec_
        subst ea_
        subst ec_
        clear en_
        have ea_ := Option.some.inj (hx101_8.symm.trans hx103_8)
        injection ea_ with ea_ en_ ec_
        subst ea_
        subst ec_
        clear en_
        have ea_ := Option.some.inj (hx101_9.symm.trans hx103_9)
        injection ea_ with ea_ en_ ec_
        subst ea_
        subst ec_
        clear en_
        refine start_ (n := 20) (S := fun w' => w'.cell? (ad101.add ((x6_1).toNat * 10)) = some (.int .i64 ((rd_T33 l0 x6_1).f0)) ∧ w'.cell? ⟨(ad101.add ((x6_1).toNat * 10)).block, (ad101.add ((x6_1).toNat * 10)).off + 1, none⟩ = some (.int .i64 ((rd_T33 l0 x6_1).f1.f0)) ∧ w'.cell? ⟨(ad101.add ((x6_1).toNat * 10)).block, (ad101.add ((x6_1).toNat * 10)).off + 2, none⟩ = some (.int .i64 ((rd_T33 l0 x6_1).f1.f1)) ∧ w'.cell? ⟨(ad101.add ((x6_1).toNat * 10)).block, (ad101.add ((x6_1).toNat * 10)).off + 3, none⟩ = some (.int .i64 ((rd_T33 l0 x6_1).f2.f0)) ∧ w'.cell? ⟨(ad101.add ((x6_1).toNat * 10)).block, (ad101.add ((x6_1).toNat * 10)).off + 4, none⟩ = some (.int .i64 ((rd_T33 l0 x6_1).f2.f1)) ∧ w'.cell? ⟨(ad101.add ((x6_1).toNat * 10)).block, (ad101.add ((x6_1).toNat * 10)).off + 5, none⟩ = some (.int .i64 ((rd_T33 l0 x6_1).f2.f2.f0)) ∧ w'.cell? ⟨(ad101.add ((x6_1).toNat * 10)).block, (ad101.add ((x6_1).toNat * 10)).off + 6, none⟩ = some (.int .i64 ((rd_T33 l0 x6_1).f2.f2.f1)) ∧ w'.cell? ⟨(ad101.add ((x6_1).toNat * 10)).block, (ad101.add ((x6_1).toNat * 10)).off + 7, none⟩ = some (.slice A101_7 ((rd_T33 l0 x6_1).f2.f3).length c101_7) ∧ w'.cell? ⟨(ad101.add ((x6_1).toNat * 10)).block, (ad101.add ((x6_1).toNat * 10)).off + 8, none⟩ = some (.slice A101_8 ((rd_T33 l0 x6_1).f3).length c101_8) ∧ w'.cell? ⟨(ad101.add ((x6_1).toNat * 10)).block, (ad101.add ((x6_1).toNat * 10)).off + 9, none⟩ = some (.slice A101_9 ((rd_T33 l0 x6_1).f4).length c101_9) ∧ w'.cell? (ad101.add ((x6_1).toNat * 10)) = some (.int .i64 ((rd_T33 l0 x6_1).f0)) ∧ w'.cell? ⟨(ad101.add ((x6_1).toNat * 10)).block, (ad101.add ((x6_1).toNat * 10)).off + 1, none⟩ = some (.int .i64 ((rd_T33 l0 x6_1).f1.f0)) ∧ w'.cell? ⟨(ad101.add ((x6_1).toNat * 10)).block, (ad101.add ((x6_1).toNat * 10)).off + 2, none⟩ = some (.int .i64 ((rd_T33 l0 x6_1).f1.f1)) ∧ w'.cell? ⟨(ad101.add ((x6_1).toNat * 10)).block, (ad101.add ((x6_1).toNat * 10)).off + 3, none⟩ = some (.int .i64 ((rd_T33 l0 x6_1).f2.f0)) ∧ w'.cell? ⟨(ad101.add ((x6_1).toNat * 10)).block, (ad101.add ((x6_1).toNat * 10)).off + 4, none⟩ = some (.int .i64 ((rd_T33 l0 x6_1).f2.f1)) ∧ w'.cell? ⟨(ad101.add ((x6_1).toNat * 10)).block, (ad101.add ((x6_1).toNat * 10)).off + 5, none⟩ = some (.int .i64 ((rd_T33 l0 x6_1).f2.f2.f0)) ∧ w'.cell? ⟨(ad101.add ((x6_1).toNat * 10)).block, (ad101.add ((x6_1).toNat * 10)).off + 6, none⟩ = some (.int .i64 ((rd_T33 l0 x6_1).f2.f2.f1)) ∧ w'.cell? ⟨(ad101.add ((x6_1).toNat * 10)).block, (ad101.add ((x6_1).toNat * 10)).off + 7, none⟩ = some (.slice A101_7 ((rd_T33 l0 x6_1).f2.f3).length c101_7) ∧ w'.cell? ⟨(ad101.add ((x6_1).toNat * 10)).block, (ad101.add ((x6_1).toNat * 10)).off + 8, none⟩ = some (.slice A101_8 ((rd_T33 l0 x6_1).f3).length c101_8) ∧ w'.cell? ⟨(ad101.add ((x6_1).toNat * 10)).block, (ad101.add ((x6_1).toNat * 10)).off + 9, none⟩ = some (.slice A101_9 ((rd_T33 l0 x6_1).f4).length c101_9)) (ds := []) #[false, false, false, false, false, false, false, false, false, false, false, false, false, false, false, false, false, false, false, false] (by kernel_rfl) rfl rfl ⟨((HB.out.cell (World.block_lt_of_cell? w _ hw101_0)).trans hw101_0), ((HB.out.cell (World.block_lt_of_cell? w _ hw101_1)).trans hw101_1), ((HB.out.cell (World.block_lt_of_cell? w _ hw101_2)).trans hw101_2), ((HB.out.cell (World.block_lt_of_cell? w _ hw101_3)).trans hw101_3), ((HB.out.cell (World.block_lt_of_cell? w _ hw101_4)).trans hw101_4), ((HB.out.cell (World.block_lt_of_cell? w _ hw101_5)).trans hw101_5), ((HB.out.cell (World.block_lt_of_cell? w _ hw101_6)).trans hw101_6), ((HB.out.cell (World.block_lt_of_cell? w _ hw101_7)).trans hw101_7), ((HB.out.cell (World.block_lt_of_cell? w _ hw101_8)).trans hw101_8), ((HB.out.cell (World.block_lt_of_cell? w _ hw101_9)).trans hw101_9), ((HB.out.cell (World.block_lt_of_cell? w _ hw103_0)).trans hw103_0), ((HB.out.cell (World.block_lt_of_cell? w _ hw103_1)).trans hw103_1), ((HB.out.cell (World.block_lt_of_cell? w _ hw103_2)).trans hw103_2), ((HB.out.cell (World.block_lt_of_cell? w _ hw103_3)).trans hw103_3), ((HB.out.cell (World.block_lt_of_cell? w _ hw103_4)).trans hw103_4), ((HB.out.cell (World.block_lt_of_cell? w _ hw103_5)).trans hw103_5), ((HB.out.cell (World.block_lt_of_cell? w _ hw103_6)).trans hw103_6), ((HB.out.cell (World.block_lt_of_cell? w _ hw103_7)).trans hw103_7), ((HB.out.cell (World.block_lt_of_cell? w _ hw103_8)).trans hw103_8), ((HB.out.cell (World.block_lt_of_cell? w _ hw103_9)).trans hw103_9)⟩ (fun hHeld => ?_); refine with_tabW spec_l4Many.tab5 spec_l4Many.bits5 (fun HT_ HW_ => ?_)
        generalize wc.drew = w10 at HB HR101_7 HR101_8 HR101_9 HR103_7 HR103_8 HR103_9 hx101_0 hx101_1 hx101_2 hx101_3 hx101_4 hx101_5 hx101_6 hx101_7 hx101_8 hx101_9 hx103_0 hx103_1 hx103_2 hx103_3 hx103_4 hx103_5 hx103_6 hx103_7 hx103_8 hx103_9 hHeld ⊢
        refine pure_ (i := 0) (N := some 19) (v := ?_) (a' := ?_) #[true, false, false, false, false, false, false, false, false, false, false, false, false, false, false, false, false, false, false, false] rfl rfl (any_of HT_.out (by kernel_rfl)) (fun _ _ _ h => h) (Or.inl ⟨by rfl, ?_⟩) ?_ ?_
        rotate_left
        ·intro w'
         go_simp
         with_reducible rfl
        rotate_left
        ·simp only [Act.put, List.setIfInBounds_toArray, List.set_cons_zero, List.set_cons_succ, i64_w, i32_w]
         rfl
        refine pure_ (i := 1) (N := some 20) (v := ?_) (a' := ?_) #[true, true, false, false, false, false, false, false, false, false, false, false, false, false, false, false, false, false, false, false] rfl rfl (any_of HT_.out (by kernel_rfl)) (fun _ _ _ h => h) (Or.inl ⟨by rfl, ?_⟩) ?_ ?_
        rotate_left
        ·intro w'
         go_simp
         with_reducible rfl
        rotate_left
        ·simp only [Act.put, List.setIfInBounds_toArray, List.set_cons_zero, List.set_cons_succ, i64_w, i32_w]
         rfl
        refine pure_ (i := 2) (N := some 21) (v := ?_) (a' := ?_) #[true, true, true, false, false, false, false, false, false, false, false, false, false, false, false, false, false, false, false, false] rfl rfl (any_of HT_.out (by kernel_rfl)) (fun _ _ _ h => h) (Or.inl ⟨by rfl, ?_⟩) ?_ ?_
        rotate_left
        ·intro w'
         go_simp
         with_reducible rfl
        rotate_left
        ·simp only [Act.put, List.setIfInBounds_toArray, List.set_cons_zero, List.set_cons_succ, i64_w, i32_w]
         rfl
        refine pure_ (i := 3) (N := some 22) (v := ?_) (a' := ?_) #[true, true, true, true, false, false, false, false, false, false, false, false, false, false, false, false, false, false, false, false] rfl rfl (any_of HT_.out (by kernel_rfl)) (fun _ _ _ h => h) (Or.inl ⟨by rfl, ?_⟩) ?_ ?_
        rotate_left
        ·intro w'
         go_simp
         with_reducible rfl
        rotate_left
        ·simp only [Act.put, List.setIfInBounds_toArray, List.set_cons_zero, List.set_cons_succ, i64_w, i32_w]
         rfl
        refine pure_ (i := 4) (N := some 23) (v := ?_) (a' := ?_) #[true, true, true, true, true, false, false, false, false, false, false, false, false, false, false, false, false, false, false, false] rfl rfl (any_of HT_.out (by kernel_rfl)) (fun _ _ _ h => h) (Or.inl ⟨by rfl, ?_⟩) ?_ ?_
        rotate_left
        ·intro w'
         go_simp
         with_reducible rfl
        rotate_left
        ·simp only [Act.put, List.setIfInBounds_toArray, List.set_cons_zero, List.set_cons_succ, i64_w, i32_w]
         rfl
        refine pure_ (i := 6) (N := some 25) (v := ?_) (a' := ?_) #[true, true, true, true, true, false, true, false, false, false, false, false, false, false, false, false, false, false, false, false] rfl rfl (any_of HT_.out (by kernel_rfl)) (fun _ _ _ h => h) (Or.inl ⟨by rfl, ?_⟩) ?_ ?_
        rotate_left
        ·intro w'
         go_simp
         with_reducible rfl
        rotate_left
        ·simp only [Act.put, List.setIfInBounds_toArray, List.set_cons_zero, List.set_cons_succ, i64_w, i32_w]
         rfl
        refine pure_ (i := 7) (N := some 26) (v := ?_) (a' := ?_) #[true, true, true, true, true, false, true, true, false, false, false, false, false, false, false, false, false, false, false, false] rfl rfl (any_of HT_.out (by kernel_rfl)) (fun _ _ _ h => h) (Or.inl ⟨by rfl, ?_⟩) ?_ ?_
        rotate_left
        ·intro w'
         go_simp
         with_reducible rfl
        rotate_left
        ·simp only [Act.put, List.setIfInBounds_toArray, List.set_cons_zero, List.set_cons_succ, i64_w, i32_w]
         rfl
        refine pure_ (i := 10) (N := some 29) (v := ?_) (a' := ?_) #[true, true, true, true, true, false, true, true, false, false, true, false, false, false, false, false, false, false, false, false] rfl rfl (any_of HT_.out (by kernel_rfl)) (fun _ _ _ h => h) (Or.inl ⟨by rfl, ?_⟩) ?_ ?_
        rotate_left
        ·intro w'
         go_simp
         with_reducible rfl
        rotate_left
        ·simp only [Act.put, List.setIfInBounds_toArray, List.set_cons_zero, List.set_cons_succ, i64_w, i32_w]
         rfl
        refine pure_ (i := 11) (N := some 30) (v := ?_) (a' := ?_) #[true, true, true, true, true, false, true, true, false, false, true, true, false, false, false, false, false, false, false, false] rfl rfl (any_of HT_.out (by kernel_rfl)) (fun _ _ _ h => h) (Or.inl ⟨by rfl, ?_⟩) ?_ ?_
        rotate_left
        ·intro w'
         go_simp
         with_reducible rfl
        rotate_left
        ·simp only [Act.put, List.setIfInBounds_toArray, List.set_cons_zero, List.set_cons_succ, i64_w, i32_w]
         rfl
        refine pure_ (i := 12) (N := some 31) (v := ?_) (a' := ?_) #[true, true, true, true, true, false, true, true, false, false, true, true, true, false, false, false, false, false, false, false] rfl rfl (any_of HT_.out (by kernel_rfl)) (fun _ _ _ h => h) (Or.inl ⟨by rfl, ?_⟩) ?_ ?_
        rotate_left
        ·intro w'
         go_simp
         with_reducible rfl
        rotate_left
        ·simp only [Act.put, List.setIfInBounds_toArray, List.set_cons_zero, List.set_cons_succ, i64_w, i32_w]
         rfl
        refine pure_ (i := 13) (N := some 32) (v := ?_) (a' := ?_) #[true, true, true, true, true, false, true, true, false, false, true, true, true, true, false, false, false, false, false, false] rfl rfl (any_of HT_.out (by kernel_rfl)) (fun _ _ _ h => h) (Or.inl ⟨by rfl, ?_⟩) ?_ ?_
        rotate_left
        ·intro w'
         go_simp
         with_reducible rfl
        rotate_left
        ·simp only [Act.put, List.setIfInBounds_toArray, List.set_cons_zero, List.set_cons_succ, i64_w, i32_w]
         rfl
        refine pure_ (i := 15) (N := some 34) (v := ?_) (a' := ?_) #[true, true, true, true, true, false, true, true, false, false, true, true, true, true, false, true, false, false, false, false] rfl rfl (any_of HT_.out (by kernel_rfl)) (fun _ _ _ h => h) (Or.inl ⟨by rfl, ?_⟩) ?_ ?_
        rotate_left
        ·intro w'
         go_simp
         with_reducible rfl
        rotate_left
        ·simp only [Act.put, List.setIfInBounds_toArray, List.set_cons_zero, List.set_cons_succ, i64_w, i32_w]
         rfl
        refine pure_ (i := 16) (N := some 35) (v := ?_) (a' := ?_) #[true, true, true, true, true, false, true, true, false, false, true, true, true, true, false, true, true, false, false, false] rfl rfl (any_of HT_.out (by kernel_rfl)) (fun _ _ _ h => h) (Or.inl ⟨by rfl, ?_⟩) ?_ ?_
        rotate_left
        ·intro w'
         go_simp
         with_reducible rfl
        rotate_left
        ·simp only [Act.put, List.setIfInBounds_toArray, List.set_cons_zero, List.set_cons_succ, i64_w, i32_w]
         rfl
        refine take_ (i := 5) (N := some 24) (v := ?_) (a' := ?_) #[true, true, true, true, true, true, true, true, false, false, true, true, true, true, false, true, true, false, false, false] rfl rfl (take_ofW HT_.out HW_.out (by kernel_rfl)) (fun _ _ _ h => h) (Or.inl ⟨by rfl, ?_⟩) hHeld ?_ ?_
        rotate_left
        ·rintro w' ⟨s0, s1, s2, s3, s4, s5, s6, s7, s8, s9, s10, s11, s12, s13, s14, s15, s16, s17, s18, s19⟩
         go_simp
         with_reducible rfl
        rotate_left
        ·simp only [Act.put, List.setIfInBounds_toArray, List.set_cons_zero, List.set_cons_succ, i64_w, i32_w]
         rfl
        refine take_ (i := 14) (N := some 33) (v := ?_) (a' := ?_) #[true, true, true, true, true, true, true, true, false, false, true, true, true, true, true, true, true, false, false, false] rfl rfl (take_ofW HT_.out HW_.out (by kernel_rfl)) (fun _ _ _ h => h) (Or.inl ⟨by rfl, ?_⟩) hHeld ?_ ?_
        rotate_left
        ·rintro w' ⟨s0, s1, s2, s3, s4, s5, s6, s7, s8, s9, s10, s11, s12, s13, s14, s15, s16, s17, s18, s19⟩
         go_simp
         with_reducible rfl
        rotate_left
        ·simp only [Act.put, List.setIfInBounds_toArray, List.set_cons_zero, List.set_cons_succ, i64_w, i32_w]
         rfl
        refine one_ (i := 8) (N := some 27) #[true, true, true, true, true, true, true, true, true, false, true, true, true, true, true, true, true, false, false, false] rfl rfl (one_of HT_.out (by kernel_rfl)) (by decide) (fun K hK => ?_)
        refine goes_ Tryz.func13 (by kernel_rfl) rfl #[.slice A101_8 ((rd_T33 l0 x6_1).f3).length c101_8, .int .i64 (wrap64 (a1 - 1))] (by rfl) rfl rfl argx ?_
        with_reducible refine (ih kj2 (by have := HK1.out; have := HJ2.out; omega) _ _ ((rd_T33 l0 x6_1).f3) (wrap64 (a1 - 1)) t102 _ ?side1 ?side2 A8.out).mono ?_
        (case side1 => exact mC (Kd.C_below HR101_8.out HB.out))
        (case side2 => exact HC101_8.out)
        rintro e w11 ⟨rfl, hb⟩
        refine ⟨_, rfl, ?_⟩
        have n0_ := z0 (below_step (mB HB.out) hb)
        clear HB
        have HB := n0_
        clear n0_
        (try clear hb)
        (try clear hb2)
        (try clear hk)
        (try clear hi)
        refine hK.out _ _ ⟨((HB.out.cell (World.block_lt_of_cell? w _ hw101_0)).trans hw101_0), ((HB.out.cell (World.block_lt_of_cell? w _ hw101_1)).trans hw101_1), ((HB.out.cell (World.block_lt_of_cell? w _ hw101_2)).trans hw101_2), ((HB.out.cell (World.block_lt_of_cell? w _ hw101_3)).trans hw101_3), ((HB.out.cell (World.block_lt_of_cell? w _ hw101_4)).trans hw101_4), ((HB.out.cell (World.block_lt_of_cell? w _ hw101_5)).trans hw101_5), ((HB.out.cell (World.block_lt_of_cell? w _ hw101_6)).trans hw101_6), ((HB.out.cell (World.block_lt_of_cell? w _ hw101_7)).trans hw101_7), ((HB.out.cell (World.block_lt_of_cell? w _ hw101_8)).trans hw101_8), ((HB.out.cell (World.block_lt_of_cell? w _ hw101_9)).trans hw101_9), ((HB.out.cell (World.block_lt_of_cell? w _ hw103_0)).trans hw103_0), ((HB.out.cell (World.block_lt_of_cell? w _ hw103_1)).trans hw103_1), ((HB.out.cell (World.block_lt_of_cell? w _ hw103_2)).trans hw103_2), ((HB.out.cell (World.block_lt_of_cell? w _ hw103_3)).trans hw103_3), ((HB.out.cell (World.block_lt_of_cell? w _ hw103_4)).trans hw103_4), ((HB.out.cell (World.block_lt_of_cell? w _ hw103_5)).trans hw103_5), ((HB.out.cell (World.block_lt_of_cell? w _ hw103_6)).trans hw103_6), ((HB.out.cell (World.block_lt_of_cell? w _ hw103_7)).trans hw103_7), ((HB.out.cell (World.block_lt_of_cell? w _ hw103_8)).trans hw103_8), ((HB.out.cell (World.block_lt_of_cell? w _ hw103_9)).trans hw103_9)⟩ (fun hHeld => ?_)
        clear hK K
        refine norm_ (a' := ?_) ?_ ?_
        rotate_left
        ·show Act.put _ (some 27) _ = _
         simp only [Act.put, List.setIfInBounds_toArray, List.set_cons_zero, List.set_cons_succ, i64_w, i32_w]
         rfl
        refine pure_ (i := 9) (N := some 28) (v := ?_) (a' := ?_) #[true, true, true, true, true, true, true, true, true, true, true, true, true, true, true, true, true, false, false, false] rfl rfl (any_of HT_.out (by kernel_rfl)) (fun _ _ _ h => h) (Or.inl ⟨by rfl, ?_⟩) ?_ ?_
        rotate_left
        ·intro w'
         go_simp
         with_reducible rfl
        rotate_left
        ·simp only [Act.put, List.setIfInBounds_toArray, List.set_cons_zero, List.set_cons_succ, i64_w, i32_w]
         rfl
        refine one_ (i := 17) (N := some 36) #[true, true, true, true, true, true, true, true, true, true, true, true, true, true, true, true, true, true, false, false] rfl rfl (one_of HT_.out (by kernel_rfl)) (by decide) (fun K hK => ?_)
        refine goes_ Tryz.func13 (by kernel_rfl) rfl #[.slice A101_9 ((rd_T33 l0 x6_1).f4).length c101_9, .int .i64 (wrap64 (a1 - 1))] (by rfl) rfl rfl argx ?_
        with_reducible refine (ih kj2 (by have := HK1.out; have := HJ2.out; omega) _ _ ((rd_T33 l0 x6_1).f4) (wrap64 (a1 - 1)) t104 _ ?side1 ?side2 A9.out).mono ?_
        (case side1 => exact mC (Kd.C_below HR103_9.out HB.out))
        (case side2 => exact HC103_9.out)
        rintro e w12 ⟨rfl, hb⟩
        refine ⟨_, rfl, ?_⟩
        have n0_ := z0 (below_step (mB HB.out) hb)
        clear HB
        have HB := n0_
        clear n0_
        (try clear hb)
        (try clear hb2)
        (try clear hk)
        (try clear hi)
        refine hK.out _ _ ⟨((HB.out.cell (World.block_lt_of_cell? w _ hw101_0)).trans hw101_0), ((HB.out.cell (World.block_lt_of_cell? w _ hw101_1)).trans hw101_1), ((HB.out.cell (World.block_lt_of_cell? w _ hw101_2)).trans hw101_2), ((HB.out.cell (World.block_lt_of_cell? w _ hw101_3)).trans hw101_3), ((HB.out.cell (World.block_lt_of_cell? w _ hw101_4)).trans hw101_4), ((HB.out.cell (World.block_lt_of_cell? w _ hw101_5)).trans hw101_5), ((HB.out.cell (World.block_lt_of_cell? w _ hw101_6)).trans hw101_6), ((HB.out.cell (World.block_lt_of_cell? w _ hw101_7)).trans hw101_7), ((HB.out.cell (World.block_lt_of_cell? w _ hw101_8)).trans hw101_8), ((HB.out.cell (World.block_lt_of_cell? w _ hw101_9)).trans hw101_9), ((HB.out.cell (World.block_lt_of_cell? w _ hw103_0)).trans hw103_0), ((HB.out.cell (World.block_lt_of_cell? w _ hw103_1)).trans hw103_1), ((HB.out.cell (World.block_lt_of_cell? w _ hw103_2)).trans hw103_2), ((HB.out.cell (World.block_lt_of_cell? w _ hw103_3)).trans hw103_3), ((HB.out.cell (World.block_lt_of_cell? w _ hw103_4)).trans hw103_4), ((HB.out.cell (World.block_lt_of_cell? w _ hw103_5)).trans hw103_5), ((HB.out.cell (World.block_lt_of_cell? w _ hw103_6)).trans hw103_6), ((HB.out.cell (World.block_lt_of_cell? w _ hw103_7)).trans hw103_7), ((HB.out.cell (World.block_lt_of_cell? w _ hw103_8)).trans hw103_8), ((HB.out.cell (World.block_lt_of_cell? w _ hw103_9)).trans hw103_9)⟩ (fun hHeld => ?_)
        clear hK K
        refine norm_ (a' := ?_) ?_ ?_
        rotate_left
        ·show Act.put _ (some 36) _ = _
         simp only [Act.put, List.setIfInBounds_toArray, List.set_cons_zero, List.set_cons_succ, i64_w, i32_w]
         rfl
        refine pure_ (i := 18) (N := some 37) (v := ?_) (a' := ?_) #[true, true, true, true, true, true, true, true, true, true, true, true, true, true, true, true, true, true, true, false] rfl rfl (any_of HT_.out (by kernel_rfl)) (fun _ _ _ h => h) (Or.inl ⟨by rfl, ?_⟩) ?_ ?_
        rotate_left
        ·intro w'
         go_simp
         with_reducible rfl
        rotate_left
        ·simp only [Act.put, List.setIfInBounds_toArray, List.set_cons_zero, List.set_cons_succ, i64_w, i32_w]
         rfl
        refine pure_ (i := 19) (N := some 5) (v := ?_) (a' := ?_) #[true, true, true, true, true, true, true, true, true, true, true, true, true, true, true, true, true, true, true, true] rfl rfl (any_of HT_.out (by kernel_rfl)) (fun _ _ _ h => h) (Or.inl ⟨by rfl, ?_⟩) ?_ ?_
        rotate_left
        ·intro w'
         go_simp
         with_reducible rfl
        rotate_left
        ·simp only [Act.put, List.setIfInBounds_toArray, List.set_cons_zero, List.set_cons_succ, i64_w, i32_w]
         rfl
        refine done_ (done_of HT_.out (by kernel_rfl)) ?_
        try go_wp2
        go_roundg kj2
        case measure => have := HK1.out; have := HJ2.out; omega
        case rel => exact ⟨(wrap64 ((wrap64 (x5_1 + t102)) + t104)), (wrap64 (x6_1 + 1)), rfy, rfy, H', ⟨by have := HK1.out; have := HJ2.out; omega⟩, ⟨mB HB.out⟩⟩
       ·rw [if_neg c7] at H
        exact absurd H (by simp)
      ·rw [if_neg c6] at H
       exact absurd H (by simp)
     ·replace c5 := Bool.eq_false_iff.mpr c5
      subst c5
      have H1 : (some x5_1) = some r := by rw [if_neg (show ¬ (false = true) by decide)] at H; exact H
      clear H
      have H := H1
      clear H1
      obtain rfl := Option.some.inj H
      go_wp2
      go_ret
      exact ⟨rfx, mB HB.out⟩

theorem eqA28 (d : Nat) (w : World) (x0 y0 : Int) (x1 y1 : Int) :
    (Op.equalIn (d + 2) 28 (.agg #[.int .i64 x0, .int .i64 x1]) (.agg #[.int .i64 y0, .int .i64 y1])).run Tryz.prog w = .ok (x0 == y0 && (x1 == y1)) w := by
  refine eqA_of Tryz.underlying28 (by kernel_rfl) ?_
  refine eqf_cons (by rfl) (by go_simp; rfl) (by go_simp; rfl) (by go_simp) ?_
  exact eqf_last (by rfl) (by go_simp; rfl) (by go_simp; rfl) (by go_simp)
/-! ### spec_AddrOk: function 26 -/
def spec_AddrOk.f (a0_0 : Int) (a0_1 : Int) : Option (Bool) := if a0_0 ≥ 1 then (if a0_0 ≤ 3 then (if a0_1 ≥ 0 then (some (decide (a0_1 < 6))) else (some false)) else (some false)) else (some false)
set_option maxHeartbeats 8000000 in
set_option maxRecDepth 100000 in
theorem spec_AddrOk.calls (a0_0 : Int) (a0_1 : Int) (r : Bool) (w : World) (h : spec_AddrOk.f a0_0 a0_1 = some r) :
  Calls Tryz.prog 26 #[.agg #[.int .i64 a0_0, .int .i64 a0_1]] w fun e w' => e = .returned (.bool r) ∧ Below w.heap.size w w' := by
 have hu28 := Tryz.underlying28
 have HB := z0 (Below.refl w.heap.size w)
 have H : (if a0_0 ≥ 1 then (if a0_0 ≤ 3 then (if a0_1 ≥ 0 then (some (decide (a0_1 < 6))) else (some false)) else (some false)) else (some false)) = some r := h
 clear h
 have HF2 := z0 H
 clear H
 go_enter Tryz.func26, Tryz.ntmps26
 go_upto_region 1 with (first | ((with_reducible refine gate_dst (N := 1) rfl ?_); refine box_event ?hg (N := 1) ?hd (cs := #[.int .i64 a0_0, .int .i64 a0_1]) (t := 28) ?hr ?_; (case hd => rfl); (case hg => rfl); (case hr => first | (go_simp; done) | (go_simp; rfl)); intro gb105 hg w3 hbox hb; have n_ := az (below_step (mB HB.out) hb) <| az (hbox) <| az ((by rw [hg]; exact (below_size (mB HB.out)) : w.heap.size ≤ gb105)) <| z0 ((by rw [hg]; exact (below_size (mB HB.out)) : w.heap.size ≤ gb105)); clear HB; obtain ⟨HB, BK105, GW105, GE105⟩ := n_; clear hb hbox hg))
 (try simp only [Act.put, List.setIfInBounds_toArray, List.set_cons_zero, List.set_cons_succ])
 have H := HF2.out
 clear HF2
 try clear c2
 by_cases c4 : a0_0 ≥ 1
 ·rw [if_pos c4] at H
  have c4b0 : decide (1 ≤ a0_0) = true := decide_eq_true c4
  clear c4
  by_cases c5 : a0_0 ≤ 3
  ·rw [if_pos c5] at H
   have c5b0 : decide (a0_0 ≤ 3) = true := decide_eq_true c5
   clear c5
   by_cases c6 : a0_1 ≥ 0
   ·rw [if_pos c6] at H
    have c6b0 : decide (0 ≤ a0_1) = true := decide_eq_true c6
    clear c6
    obtain rfl := Option.some.inj H
    obtain ⟨hcz7_0, hcz7_1, hfz7_0, hfz7_1⟩ := cel2 BK105.out
    go_wp2
    go_ret
    exact ⟨rfx, mB HB.out⟩
   ·rw [if_neg c6] at H
    have c6b0 : decide (0 ≤ a0_1) = false := decide_eq_false c6
    clear c6
    obtain rfl := Option.some.inj H
    obtain ⟨hcz8_0, hcz8_1, hfz8_0, hfz8_1⟩ := cel2 BK105.out
    go_wp2
    go_ret
    exact ⟨rfx, mB HB.out⟩
  ·rw [if_neg c5] at H
   have c5b0 : decide (a0_0 ≤ 3) = false := decide_eq_false c5
   clear c5
   obtain rfl := Option.some.inj H
   obtain ⟨hcz9_0, hcz9_1, hfz9_0, hfz9_1⟩ := cel2 BK105.out
   go_wp2
   go_ret
   exact ⟨rfx, mB HB.out⟩
 ·rw [if_neg c4] at H
  have c4b0 : decide (1 ≤ a0_0) = false := decide_eq_false c4
  clear c4
  obtain rfl := Option.some.inj H
  obtain ⟨hcz10_0, hcz10_1, hfz10_0, hfz10_1⟩ := cel2 BK105.out
  go_wp2
  go_ret
  exact ⟨rfx, mB HB.out⟩

/-! ### spec_l3Kids: function 36 -/
def spec_l3Kids.j0 : Nat → Int → Bool → Option (Int)
 | 0, _, _ => none
 | k + 1, x0, x3 => if x3 = true then (some 0) else (if x0 = 10 then (some 1) else (if x0 ≥ 3 then (if x0 ≤ 9 then (some 2) else (some (-1))) else (some (-1))))
def spec_l3Kids.f (k : Nat) (a0 : Int) : Option (Int) := if a0 = 1 then (spec_l3Kids.j0 k a0 true) else (spec_l3Kids.j0 k a0 (a0 == 2))
theorem spec_l3Kids.mono_l : ∀ k, (∀ y0 y1, LeO (spec_l3Kids.j0 k y0 y1) (spec_l3Kids.j0 (k + 1) y0 y1))
 | 0 => fun _ _ r h => by simp [spec_l3Kids.j0] at h
 | k + 1 => by
  have ih0 := spec_l3Kids.mono_l k
  ·intro y0 y1
   unfold spec_l3Kids.j0
   repeat' first
   | (with_reducible exact ih0 _ _)
   | (with_reducible exact LeO.refl _)
   | (with_reducible exact LeO.none _)
   | (with_reducible refine LeO.ite ?_ ?_)
   | (with_reducible refine LeO.bind ?_ (fun _ => ?_))
   | exact ih0 _ _
   | exact LeO.none _
   | refine LeO.ite ?_ ?_
   | refine LeO.bind ?_ (fun _ => ?_)
theorem spec_l3Kids.mono : ∀ a0 k, LeO (spec_l3Kids.f k a0) (spec_l3Kids.f (k + 1) a0) := by
 intro a0 k
 have ih0 := spec_l3Kids.mono_l k
 unfold spec_l3Kids.f
 repeat' first
   | (with_reducible exact ih0 _ _)
   | (with_reducible exact LeO.refl _)
   | (with_reducible exact LeO.none _)
   | (with_reducible refine LeO.ite ?_ ?_)
   | (with_reducible refine LeO.bind ?_ (fun _ => ?_))
   | exact ih0 _ _
   | exact LeO.none _
   | refine LeO.ite ?_ ?_
   | refine LeO.bind ?_ (fun _ => ?_)
set_option maxHeartbeats 8000000 in
set_option maxRecDepth 100000 in
theorem spec_l3Kids.calls (k : Nat) (a0 : Int) (r : Int) (w : World) (h : spec_l3Kids.f k a0 = some r) :
  Calls Tryz.prog 36 #[.int .i64 a0] w fun e w' => e = .returned (.int .i64 r) ∧ Drawn0 w w' := by
 have H : (if a0 = 1 then (spec_l3Kids.j0 k a0 true) else (spec_l3Kids.j0 k a0 (a0 == 2))) = some r := h
 clear h
 have HC2 := z0 H
 clear H
 go_enter Tryz.func36, Tryz.ntmps36
 go_upto_region 1 with (fail)
 go_cut [3] (fun v3 wc => ∃ (kq : Nat) (x3_1 : Bool), v3 = .bool x3_1 ∧ Aside0 (spec_l3Kids.j0 kq a0 x3_1 = some r) ∧ Aside0 (kq ≤ k) ∧ Drawn0 w wc)
 case first =>
  have H := HC2.out
  clear HC2
  by_cases c3 : a0 = 1
  ·rw [if_pos c3] at H
   have c3b0 : (a0 == 1) = true := beq_iff_eq.mpr c3
   have c3b1 : (a0 != 1) = false := bne_eq_false_iff_eq.mpr c3
   clear c3
   (first | rw [c3b0] | (simp only [i64_w, i32_w]; rw [c3b0]) | skip)
   have H' := z0 H
   clear H
   go_wp2
   go_meet
   case rel => exact ⟨_, (true), rfy, H', ⟨by first | omega | exact Nat.le_refl _⟩, by repeat (first | exact Drawn0.refl _ | apply Drawn0.step)⟩
  ·rw [if_neg c3] at H
   have c3b0 : (a0 == 1) = false := beq_eq_false_iff_ne.mpr c3
   have c3b1 : (a0 != 1) = true := bne_iff_ne.mpr c3
   (first | rw [c3b0] | (simp only [i64_w, i32_w]; rw [c3b0]) | skip)
   have H' := z0 H
   clear H
   go_wp2
   go_meet
   case rel => exact ⟨_, ((a0 == 2)), rfy, H', ⟨by first | omega | exact Nat.le_refl _⟩, by repeat (first | exact Drawn0.refl _ | apply Drawn0.step)⟩
 case rest =>
  clear HC2
  skip
  obtain ⟨kq, x3_1, rfl, HA, HJ1, ⟨mc1, rfl⟩⟩ := hcut
  cases kq with
  | zero => exact absurd HA.out (by simp [spec_l3Kids.j0])
  | succ kj1 =>
   have H := HA.out
   clear HA
   simp only [spec_l3Kids.j0] at H
   by_cases c4 : x3_1 = true
   ·subst c4
    have H1 : (some 0) = some r := by rw [if_pos rfl] at H; exact H
    clear H
    have H := H1
    clear H1
    obtain rfl := Option.some.inj H
    go_wp2
    go_ret
    exact ⟨by first | rfl | (simp; done) | (simp [*]; done), by repeat (first | exact Drawn0.refl _ | apply Drawn0.step)⟩
   ·replace c4 := Bool.eq_false_iff.mpr c4
    subst c4
    have H1 : (if a0 = 10 then (some 1) else (if a0 ≥ 3 then (if a0 ≤ 9 then (some 2) else (some (-1))) else (some (-1)))) = some r := by rw [if_neg (show ¬ (false = true) by decide)] at H; exact H
    clear H
    have H := H1
    clear H1
    by_cases c5 : a0 = 10
    ·rw [if_pos c5] at H
     have c5b0 : (a0 == 10) = true := beq_iff_eq.mpr c5
     have c5b1 : (a0 != 10) = false := bne_eq_false_iff_eq.mpr c5
     clear c5
     obtain rfl := Option.some.inj H
     go_wp2
     go_ret
     exact ⟨by first | rfl | (simp; done) | (simp [*]; done), by repeat (first | exact Drawn0.refl _ | apply Drawn0.step)⟩
    ·rw [if_neg c5] at H
     have c5b0 : (a0 == 10) = false := beq_eq_false_iff_ne.mpr c5
     have c5b1 : (a0 != 10) = true := bne_iff_ne.mpr c5
     by_cases c6 : a0 ≥ 3
     ·rw [if_pos c6] at H
      have c6b0 : decide (3 ≤ a0) = true := decide_eq_true c6
      clear c6
      by_cases c7 : a0 ≤ 9
      ·rw [if_pos c7] at H
       have c7b0 : decide (a0 ≤ 9) = true := decide_eq_true c7
       clear c7
       obtain rfl := Option.some.inj H
       go_wp2
       go_ret
       exact ⟨by first | rfl | (simp; done) | (simp [*]; done), by repeat (first | exact Drawn0.refl _ | apply Drawn0.step)⟩
      ·rw [if_neg c7] at H
       have c7b0 : decide (a0 ≤ 9) = false := decide_eq_false c7
       clear c7
       obtain rfl := Option.some.inj H
       go_wp2
       go_ret
       exact ⟨by first | rfl | (simp; done) | (simp [*]; done), by repeat (first | exact Drawn0.refl _ | apply Drawn0.step)⟩
     ·rw [if_neg c6] at H
      have c6b0 : decide (3 ≤ a0) = false := decide_eq_false c6
      clear c6
      obtain rfl := Option.some.inj H
      go_wp2
      go_ret
      exact ⟨by first | rfl | (simp; done) | (simp [*]; done), by repeat (first | exact Drawn0.refl _ | apply Drawn0.step)⟩

/-! ### spec_l1Max: function 49 -/
def spec_l1Max.f (a0 : Int) (a1 : Int) : Option (Int) := if a0 > a1 then (some a0) else (some a1)
set_option maxHeartbeats 8000000 in
set_option maxRecDepth 100000 in
theorem spec_l1Max.calls (a0 : Int) (a1 : Int) (r : Int) (w : World) (h : spec_l1Max.f a0 a1 = some r) :
  Calls Tryz.prog 49 #[.int .i64 a0, .int .i64 a1] w fun e w' => e = .returned (.int .i64 r) ∧ Drawn0 w w' := by
 have H : (if a0 > a1 then (some a0) else (some a1)) = some r := h
 clear h
 by_cases c3 : a0 > a1
 ·rw [if_pos c3] at H
  have c3b0 : decide (a1 < a0) = true := decide_eq_true c3
  clear c3
  obtain rfl := Option.some.inj H
  go_enter Tryz.func49, Tryz.ntmps49
  go_wp2
  go_ret
  exact ⟨by first | rfl | (simp; done) | (simp [*]; done), by repeat (first | exact Drawn0.refl _ | apply Drawn0.step)⟩
 ·rw [if_neg c3] at H
  have c3b0 : decide (a1 < a0) = false := decide_eq_false c3
  clear c3
  obtain rfl := Option.some.inj H
  go_enter Tryz.func49, Tryz.ntmps49
  go_wp2
  go_ret
  exact ⟨by first | rfl | (simp; done) | (simp [*]; done), by repeat (first | exact Drawn0.refl _ | apply Drawn0.step)⟩

/-! ### spec_l1Min: function 50 -/
def spec_l1Min.f (a0 : Int) (a1 : Int) : Option (Int) := if a0 < a1 then (some a0) else (some a1)
set_option maxHeartbeats 8000000 in
set_option maxRecDepth 100000 in
theorem spec_l1Min.calls (a0 : Int) (a1 : Int) (r : Int) (w : World) (h : spec_l1Min.f a0 a1 = some r) :
  Calls Tryz.prog 50 #[.int .i64 a0, .int .i64 a1] w fun e w' => e = .returned (.int .i64 r) ∧ Drawn0 w w' := by
 have H : (if a0 < a1 then (some a0) else (some a1)) = some r := h
 clear h
 by_cases c3 : a0 < a1
 ·rw [if_pos c3] at H
  have c3b0 : decide (a0 < a1) = true := decide_eq_true c3
  clear c3
  obtain rfl := Option.some.inj H
  go_enter Tryz.func50, Tryz.ntmps50
  go_wp2
  go_ret
  exact ⟨by first | rfl | (simp; done) | (simp [*]; done), by repeat (first | exact Drawn0.refl _ | apply Drawn0.step)⟩
 ·rw [if_neg c3] at H
  have c3b0 : decide (a0 < a1) = false := decide_eq_false c3
  clear c3
  obtain rfl := Option.some.inj H
  go_enter Tryz.func50, Tryz.ntmps50
  go_wp2
  go_ret
  exact ⟨by first | rfl | (simp; done) | (simp [*]; done), by repeat (first | exact Drawn0.refl _ | apply Drawn0.step)⟩

/-! ### spec_NumCut: function 46 -/
def spec_NumCut.f (a0 : Int) : Option (Int) := (spec_l1Min.f 1000000 a0).bind fun t106 => ((spec_l1Max.f (-1000000) t106).bind fun t107 => (some t107))
set_option maxHeartbeats 8000000 in
set_option maxRecDepth 100000 in
theorem spec_NumCut.calls (a0 : Int) (r : Int) (w : World) (h : spec_NumCut.f a0 = some r) :
  Calls Tryz.prog 46 #[.int .i64 a0] w fun e w' => e = .returned (.int .i64 r) ∧ Drawn0 w w' := by
 have H : ((spec_l1Min.f 1000000 a0).bind fun t106 => ((spec_l1Max.f (-1000000) t106).bind fun t107 => (some t107))) = some r := h
 clear h
 replace H := Option.bind_eq_some_iff.mp H
 obtain ⟨t106, A20, H⟩ := H
 try dsimp only at H
 have A2 := z0 A20
 clear A20
 replace H := Option.bind_eq_some_iff.mp H
 obtain ⟨t107, A30, H⟩ := H
 try dsimp only at H
 have A3 := z0 A30
 clear A30
 obtain rfl := Option.some.inj H
 go_enter Tryz.func46, Tryz.ntmps46
 go_wp2_with (first | ((with_reducible refine gate_callee (f := 50) rfl ?_); refine goesL_ (some 4) rfl rfl Tryz.func50 (by kernel_rfl) rfl #[.int .i64 1000000, .int .i64 a0] rfl argx ?_; (with_reducible refine (spec_l1Min.calls 1000000 a0 t106 _ A2.out).mono ?_); rintro e w' ⟨rfl, ⟨nd, rfl⟩⟩; refine ⟨_, rfl, ?_⟩) | ((with_reducible refine gate_callee (f := 49) rfl ?_); refine goesL_ (some 5) rfl rfl Tryz.func49 (by kernel_rfl) rfl #[.int .i64 (-1000000), .int .i64 t106] rfl argx ?_; (with_reducible refine (spec_l1Max.calls (-1000000) t106 t107 _ A3.out).mono ?_); rintro e w' ⟨rfl, ⟨nd, rfl⟩⟩; refine ⟨_, rfl, ?_⟩))
 go_ret
 exact ⟨by first | rfl | (simp; done) | (simp [*]; done), by repeat (first | exact Drawn0.refl _ | apply Drawn0.step)⟩

end Go.Proofs.YtbckpgipehjgmaaGreat.B
namespace Go.Proofs.YtbckpgipehjgmaaGreat.B
open Go.RowKit Go.Proofs.YtbckpgipehjgmaaGreatW.PrintWords Go.Proofs.YtbckpgipehjgmaaGreatW.PrintLast Go.Proofs.YtbckpgipehjgmaaGreatW.PrintMore
attribute [local go_sem] max2_int min2_int max_two min_two max_three min_three max_four min_four   -- for this text's walks alone
set_option linter.unusedVariables false
set_option linter.unusedSimpArgs false

attribute [local go_sem high] eqA28
/-! ### spec_l3Form: function 39 -/
mutual
def spec_l3Form.j0 : Nat → Int → Bool → Int → Int → Int → Int → List (S31) → Option (Bool)
 | 0, _, _, _, _, _, _, _ => none
 | k + 1, x1, x16, x109000, x109001, x109002, x109003, x109004 => if x16 = true then (some false) else (if x109000 = 1 then ((spec_NumCut.f x109001).bind fun t110 => (if t110 = x109001 then (spec_l3Form.j1 k x1 false x109000 x109001 x109002 x109003 x109004) else (spec_l3Form.j1 k x1 true x109000 x109001 x109002 x109003 x109004))) else (spec_l3Form.j1 k x1 (x109001 != 0) x109000 x109001 x109002 x109003 x109004))
def spec_l3Form.j1 : Nat → Int → Bool → Int → Int → Int → Int → List (S31) → Option (Bool)
 | 0, _, _, _, _, _, _, _ => none
 | k + 1, x1, x37, x109000, x109001, x109002, x109003, x109004 => if x37 = true then (some false) else (if x109000 = 2 then ((spec_AddrOk.f x109002 x109003).bind fun t111 => (if t111 = true then (spec_l3Form.j2 k x1 false x109000 x109001 x109002 x109003 x109004) else (spec_l3Form.j2 k x1 true x109000 x109001 x109002 x109003 x109004))) else (spec_l3Form.j2 k x1 (!(x109002 == 0) || (!(x109003 == 0))) x109000 x109001 x109002 x109003 x109004))
def spec_l3Form.j2 : Nat → Int → Bool → Int → Int → Int → Int → List (S31) → Option (Bool)
 | 0, _, _, _, _, _, _, _ => none
 | k + 1, x1, x57, x109000, x109001, x109002, x109003, x109004 => if x57 = true then (some false) else (spec_l3Form.l0 k x1 0 x109000 x109001 x109002 x109003 x109004)
def spec_l3Form.l0 : Nat → Int → Int → Int → Int → Int → Int → List (S31) → Option (Bool)
 | 0, _, _, _, _, _, _, _ => none
 | k + 1, x1, x5, x109000, x109001, x109002, x109003, x109004 => if x5 < (x109004.length : Int) then (if 0 ≤ x5 then ((spec_l3Form.f k ((rd_T31 x109004 x5).f0) ((rd_T31 x109004 x5).f1) ((rd_T31 x109004 x5).f2.f0) ((rd_T31 x109004 x5).f2.f1) ((rd_T31 x109004 x5).f3) (wrap64 (x1 - 1))).bind fun t113 => (if t113 = true then (spec_l3Form.l0 k x1 (wrap64 (x5 + 1)) x109000 x109001 x109002 x109003 x109004) else (some false))) else (none)) else (some true)
def spec_l3Form.f : Nat → Int → Int → Int → Int → List (S31) → Int → Option (Bool)
 | 0, _, _, _, _, _, _ => none
 | k + 1, a0_0, a0_1, a0_2, a0_3, l0_4, a1 => if a1 < 1 then (spec_l3Form.j0 k a1 true a0_0 a0_1 a0_2 a0_3 l0_4) else ((spec_l3Kids.f k a0_0).bind fun t109 => (spec_l3Form.j0 k a1 (t109 != (l0_4.length : Int)) a0_0 a0_1 a0_2 a0_3 l0_4))
end
theorem spec_l3Form.mono_l : ∀ k, (∀ y0 y1 y2 y3 y4 y5, LeO (spec_l3Form.f k y0 y1 y2 y3 y4 y5) (spec_l3Form.f (k + 1) y0 y1 y2 y3 y4 y5)) ∧ (∀ y0 y1 y2 y3 y4 y5 y6, LeO (spec_l3Form.j0 k y0 y1 y2 y3 y4 y5 y6) (spec_l3Form.j0 (k + 1) y0 y1 y2 y3 y4 y5 y6)) ∧ (∀ y0 y1 y2 y3 y4 y5 y6, LeO (spec_l3Form.j1 k y0 y1 y2 y3 y4 y5 y6) (spec_l3Form.j1 (k + 1) y0 y1 y2 y3 y4 y5 y6)) ∧ (∀ y0 y1 y2 y3 y4 y5 y6, LeO (spec_l3Form.j2 k y0 y1 y2 y3 y4 y5 y6) (spec_l3Form.j2 (k + 1) y0 y1 y2 y3 y4 y5 y6)) ∧ (∀ y0 y1 y2 y3 y4 y5 y6, LeO (spec_l3Form.l0 k y0 y1 y2 y3 y4 y5 y6) (spec_l3Form.l0 (k + 1) y0 y1 y2 y3 y4 y5 y6))
 | 0 => ⟨fun _ _ _ _ _ _ r h => by simp [spec_l3Form.f] at h, fun _ _ _ _ _ _ _ r h => by simp [spec_l3Form.j0] at h, fun _ _ _ _ _ _ _ r h => by simp [spec_l3Form.j1] at h, fun _ _ _ _ _ _ _ r h => by simp [spec_l3Form.j2] at h, fun _ _ _ _ _ _ _ r h => by simp [spec_l3Form.l0] at h⟩
 | k + 1 => by
  obtain ⟨ih0, ih1, ih2, ih3, ih4⟩ := spec_l3Form.mono_l k
  refine ⟨?_, ?_, ?_, ?_, ?_⟩
  ·intro y0 y1 y2 y3 y4 y5
   unfold spec_l3Form.f
   repeat' first
   | (with_reducible exact ih0 _ _ _ _ _ _)
   | (with_reducible exact ih1 _ _ _ _ _ _ _)
   | (with_reducible exact ih2 _ _ _ _ _ _ _)
   | (with_reducible exact ih3 _ _ _ _ _ _ _)
   | (with_reducible exact ih4 _ _ _ _ _ _ _)
   | (with_reducible exact spec_l3Kids.mono _ _)
   | (with_reducible exact LeO.refl _)
   | (with_reducible exact LeO.none _)
   | (with_reducible refine LeO.ite ?_ ?_)
   | (with_reducible refine LeO.bind ?_ (fun _ => ?_))
   | exact ih0 _ _ _ _ _ _
   | exact ih1 _ _ _ _ _ _ _
   | exact ih2 _ _ _ _ _ _ _
   | exact ih3 _ _ _ _ _ _ _
   | exact ih4 _ _ _ _ _ _ _
   | exact spec_l3Kids.mono _ _
   | exact LeO.none _
   | refine LeO.ite ?_ ?_
   | refine LeO.bind ?_ (fun _ => ?_)
  ·intro y0 y1 y2 y3 y4 y5 y6
   unfold spec_l3Form.j0
   repeat' first
   | (with_reducible exact ih0 _ _ _ _ _ _)
   | (with_reducible exact ih1 _ _ _ _ _ _ _)
   | (with_reducible exact ih2 _ _ _ _ _ _ _)
   | (with_reducible exact ih3 _ _ _ _ _ _ _)
   | (with_reducible exact ih4 _ _ _ _ _ _ _)
   | (with_reducible exact spec_l3Kids.mono _ _)
   | (with_reducible exact LeO.refl _)
   | (with_reducible exact LeO.none _)
   | (with_reducible refine LeO.ite ?_ ?_)
   | (with_reducible refine LeO.bind ?_ (fun _ => ?_))
   | exact ih0 _ _ _ _ _ _
   | exact ih1 _ _ _ _ _ _ _
   | exact ih2 _ _ _ _ _ _ _
   | exact ih3 _ _ _ _ _ _ _
   | exact ih4 _ _ _ _ _ _ _
   | exact spec_l3Kids.mono _ _
   | exact LeO.none _
   | refine LeO.ite ?_ ?_
   | refine LeO.bind ?_ (fun _ => ?_)
  ·intro y0 y1 y2 y3 y4 y5 y6
   unfold spec_l3Form.j1
   repeat' first
   | (with_reducible exact ih0 _ _ _ _ _ _)
   | (with_reducible exact ih1 _ _ _ _ _ _ _)
   | (with_reducible exact ih2 _ _ _ _ _ _ _)
   | (with_reducible exact ih3 _ _ _ _ _ _ _)
   | (with_reducible exact ih4 _ _ _ _ _ _ _)
   | (with_reducible exact spec_l3Kids.mono _ _)
   | (with_reducible exact LeO.refl _)
   | (with_reducible exact LeO.none _)
   | (with_reducible refine LeO.ite ?_ ?_)
   | (with_reducible refine LeO.bind ?_ (fun _ => ?_))
   | exact ih0 _ _ _ _ _ _
   | exact ih1 _ _ _ _ _ _ _
   | exact ih2 _ _ _ _ _ _ _
   | exact ih3 _ _ _ _ _ _ _
   | exact ih4 _ _ _ _ _ _ _
   | exact spec_l3Kids.mono _ _
   | exact LeO.none _
   | refine LeO.ite ?_ ?_
   | refine LeO.bind ?_ (fun _ => ?_)
  ·intro y0 y1 y2 y3 y4 y5 y6
   unfold spec_l3Form.j2
   repeat' first
   | (with_reducible exact ih0 _ _ _ _ _ _)
   | (with_reducible exact ih1 _ _ _ _ _ _ _)
   | (with_reducible exact ih2 _ _ _ _ _ _ _)
   | (with_reducible exact ih3 _ _ _ _ _ _ _)
   | (with_reducible exact ih4 _ _ _ _ _ _ _)
   | (with_reducible exact spec_l3Kids.mono _ _)
   | (with_reducible exact LeO.refl _)
   | (with_reducible exact LeO.none _)
   | (with_reducible refine LeO.ite ?_ ?_)
   | (with_reducible refine LeO.bind ?_ (fun _ => ?_))
   | exact ih0 _ _ _ _ _ _
   | exact ih1 _ _ _ _ _ _ _
   | exact ih2 _ _ _ _ _ _ _
   | exact ih3 _ _ _ _ _ _ _
   | exact ih4 _ _ _ _ _ _ _
   | exact spec_l3Kids.mono _ _
   | exact LeO.none _
   | refine LeO.ite ?_ ?_
   | refine LeO.bind ?_ (fun _ => ?_)
  ·intro y0 y1 y2 y3 y4 y5 y6
   unfold spec_l3Form.l0
   repeat' first
   | (with_reducible exact ih0 _ _ _ _ _ _)
   | (with_reducible exact ih1 _ _ _ _ _ _ _)
   | (with_reducible exact ih2 _ _ _ _ _ _ _)
   | (with_reducible exact ih3 _ _ _ _ _ _ _)
   | (with_reducible exact ih4 _ _ _ _ _ _ _)
   | (with_reducible exact spec_l3Kids.mono _ _)
   | (with_reducible exact LeO.refl _)
   | (with_reducible exact LeO.none _)
   | (with_reducible refine LeO.ite ?_ ?_)
   | (with_reducible refine LeO.bind ?_ (fun _ => ?_))
   | exact ih0 _ _ _ _ _ _
   | exact ih1 _ _ _ _ _ _ _
   | exact ih2 _ _ _ _ _ _ _
   | exact ih3 _ _ _ _ _ _ _
   | exact ih4 _ _ _ _ _ _ _
   | exact spec_l3Kids.mono _ _
   | exact LeO.none _
   | refine LeO.ite ?_ ?_
   | refine LeO.bind ?_ (fun _ => ?_)
theorem spec_l3Form.mono : ∀ a0 a1 a2 a3 a4 a5 k, LeO (spec_l3Form.f k a0 a1 a2 a3 a4 a5) (spec_l3Form.f (k + 1) a0 a1 a2 a3 a4 a5) := by
 intro a0 a1 a2 a3 a4 a5 k
 obtain ⟨ih0, ih1, ih2, ih3, ih4⟩ := spec_l3Form.mono_l k
 exact ih0 a0 a1 a2 a3 a4 a5
theorem q39_1 {p : Prop} (h : p := by have := HJ2.out; have := HJ8.out; have := HJ16.out; have := HK4.out; omega) : p := h
set_option maxHeartbeats 8000000 in
set_option maxRecDepth 100000 in
theorem spec_l3Form.calls (k : Nat) : ∀ (a0_0 : Int) (a0_1 : Int) (a0_2 : Int) (a0_3 : Int) (A0_4 : Option Addr) (c0_4 : Nat) (l0_4 : List (S31)) (a1 : Int) (r : Bool) (w : World) (hr0_4 : Kd.C k31 w A0_4 l0_4.length l0_4) (hc0_4 : l0_4.length ≤ c0_4) (h : spec_l3Form.f k a0_0 a0_1 a0_2 a0_3 l0_4 a1 = some r),
  Calls Tryz.prog 39 #[.agg #[.int .i64 a0_0, .int .i64 a0_1, .int .i64 a0_2, .int .i64 a0_3, .slice A0_4 l0_4.length c0_4], .int .i64 a1] w fun e w' => e = .returned (.bool r) ∧ Below w.heap.size w w' := by
 induction k using Nat.strongRecOn with
 | _ k ih =>
 intro a0_0 a0_1 a0_2 a0_3 A0_4 c0_4 l0_4 a1 r w hr0_4 hc0_4 h
 cases k with
 | zero => exact absurd h (by simp [spec_l3Form.f])
 | succ k =>
 simp only [spec_l3Form.f] at h
 have hu31 := Tryz.underlying31
 have hu28 := Tryz.underlying28
 have HR0_4 := z0 hr0_4
 have HC0_4 := z0 hc0_4
 clear hr0_4 hc0_4
 have HB := z0 (Below.refl w.heap.size w)
 have H : (if a1 < 1 then (spec_l3Form.j0 k a1 true a0_0 a0_1 a0_2 a0_3 l0_4) else ((spec_l3Kids.f k a0_0).bind fun t109 => (spec_l3Form.j0 k a1 (t109 != (l0_4.length : Int)) a0_0 a0_1 a0_2 a0_3 l0_4))) = some r := h
 clear h
 have HC3 := z0 H
 clear H
 go_enter Tryz.func39, Tryz.ntmps39
 go_upto_region 1 with (first | ((with_reducible refine gate_dst (N := 2) rfl ?_); (try (refine gate_guard (by rfl) ?_; dsimp only)); refine box_event ?hg (N := 2) ?hd (cs := #[.int .i64 a0_0, .int .i64 a0_1, .int .i64 a0_2, .int .i64 a0_3, .slice A0_4 l0_4.length c0_4]) (t := 31) ?hr ?_; (case hd => rfl); (case hg => rfl); (case hr => first | (go_simp; done) | (go_simp; rfl)); intro gb108 hg w4 hbox hb; have n_ := az (below_step (mB HB.out) hb) <| az (hbox) <| az ((by rw [hg]; exact (below_size (mB HB.out)) : w.heap.size ≤ gb108)) <| z0 ((by rw [hg]; exact (below_size (mB HB.out)) : w.heap.size ≤ gb108)); clear HB; obtain ⟨HB, BK108, GW108, GE108⟩ := n_; clear hb hbox hg))
 repeat (go_quiet (first | ((with_reducible refine gate_dst (N := 2) rfl ?_); (try (refine gate_guard (by rfl) ?_; dsimp only)); refine box_event ?hg (N := 2) ?hd (cs := #[.int .i64 a0_0, .int .i64 a0_1, .int .i64 a0_2, .int .i64 a0_3, .slice A0_4 l0_4.length c0_4]) (t := 31) ?hr ?_; (case hd => rfl); (case hg => rfl); (case hr => first | (go_simp; done) | (go_simp; rfl)); intro gb108 hg w4 hbox hb; have n_ := az (below_step (mB HB.out) hb) <| az (hbox) <| az ((by rw [hg]; exact (below_size (mB HB.out)) : w.heap.size ≤ gb108)) <| z0 ((by rw [hg]; exact (below_size (mB HB.out)) : w.heap.size ≤ gb108)); clear HB; obtain ⟨HB, BK108, GW108, GE108⟩ := n_; clear hb hbox hg)); go_upto_region 1 with (first | ((with_reducible refine gate_dst (N := 2) rfl ?_); (try (refine gate_guard (by rfl) ?_; dsimp only)); refine box_event ?hg (N := 2) ?hd (cs := #[.int .i64 a0_0, .int .i64 a0_1, .int .i64 a0_2, .int .i64 a0_3, .slice A0_4 l0_4.length c0_4]) (t := 31) ?hr ?_; (case hd => rfl); (case hg => rfl); (case hr => first | (go_simp; done) | (go_simp; rfl)); intro gb108 hg w4 hbox hb; have n_ := az (below_step (mB HB.out) hb) <| az (hbox) <| az ((by rw [hg]; exact (below_size (mB HB.out)) : w.heap.size ≤ gb108)) <| z0 ((by rw [hg]; exact (below_size (mB HB.out)) : w.heap.size ≤ gb108)); clear HB; obtain ⟨HB, BK108, GW108, GE108⟩ := n_; clear hb hbox hg)))
 (try simp only [Act.put, List.setIfInBounds_toArray, List.set_cons_zero, List.set_cons_succ])
 go_cut [16] (fun v16 wc => ∃ (kq : Nat) (x16_2 : Bool), v16 = .bool x16_2 ∧ Aside0 (spec_l3Form.j0 kq a1 x16_2 a0_0 a0_1 a0_2 a0_3 l0_4 = some r) ∧ Aside0 (kq ≤ k) ∧ Aside0 (wc.heap[gb108]? = some (.cells #[.int .i64 a0_0, .int .i64 a0_1, .int .i64 a0_2, .int .i64 a0_3, (.slice A0_4 l0_4.length c0_4)] 31 (0, 0))) ∧ Aside0 (Below w.heap.size w wc))
 case first =>
  have H := HC3.out
  clear HC3
  by_cases c5 : a1 < 1
  ·rw [if_pos c5] at H
   have c5b0 : decide (a1 < 1) = true := decide_eq_true c5
   clear c5
   (first | rw [c5b0] | (simp only [i64_w, i32_w]; rw [c5b0]) | skip)
   have H' := z0 H
   clear H
   go_wp2
   repeat (go_quiet (fail); try go_wp2)
   go_meet
   case rel => exact ⟨_, (true), rfy, H', ⟨by first | omega | exact Nat.le_refl _⟩, ⟨mK BK108.out⟩, ⟨mB HB.out⟩⟩
  ·rw [if_neg c5] at H
   have c5b0 : decide (a1 < 1) = false := decide_eq_false c5
   clear c5
   (first | rw [c5b0] | (simp only [i64_w, i32_w]; rw [c5b0]) | skip)
   replace H := Option.bind_eq_some_iff.mp H
   obtain ⟨t109, A60, H⟩ := H
   try dsimp only at H
   have A6 := z0 A60
   clear A60
   have H' := z0 H
   clear H
   obtain ⟨hcz7_0, hcz7_1, hcz7_2, hcz7_3, hcz7_4, hfz7_0, hfz7_1, hfz7_2, hfz7_3, hfz7_4⟩ := cel5 BK108.out
   go_wp2_with (first | (go_at_call 36; (with_reducible refine (spec_l3Kids.calls k a0_0 t109 _ A6.out).mono ?_); rintro e w' ⟨rfl, ⟨nd, rfl⟩⟩; (try first | exact ⟨rfl, _, World.drewN_drewN _ _ _⟩ | exact ⟨rfl, _, Eq.trans (World.drewN_drewN _ _ _) (congrArg (World.drewN _) (Nat.add_assoc _ _ _))⟩)))
   repeat (go_quiet (first | (go_at_call 36; (with_reducible refine (spec_l3Kids.calls k a0_0 t109 _ A6.out).mono ?_); rintro e w' ⟨rfl, ⟨nd, rfl⟩⟩; (try first | exact ⟨rfl, _, World.drewN_drewN _ _ _⟩ | exact ⟨rfl, _, Eq.trans (World.drewN_drewN _ _ _) (congrArg (World.drewN _) (Nat.add_assoc _ _ _))⟩))); try go_wp2_with (first | (go_at_call 36; (with_reducible refine (spec_l3Kids.calls k a0_0 t109 _ A6.out).mono ?_); rintro e w' ⟨rfl, ⟨nd, rfl⟩⟩; (try first | exact ⟨rfl, _, World.drewN_drewN _ _ _⟩ | exact ⟨rfl, _, Eq.trans (World.drewN_drewN _ _ _) (congrArg (World.drewN _) (Nat.add_assoc _ _ _))⟩))))
   go_meet
   case rel => exact ⟨_, ((t109 != (l0_4.length : Int))), rfy, H', ⟨by first | omega | exact Nat.le_refl _⟩, ⟨mK BK108.out⟩, ⟨mB HB.out⟩⟩
 case rest =>
  clear HC3
  skip
  obtain ⟨kq, x16_2, rfl, HA, HJ2, BK108, HB⟩ := hcut
  cases kq with
  | zero => exact absurd HA.out (by simp [spec_l3Form.j0])
  | succ kj2 =>
   have H := HA.out
   clear HA
   simp only [spec_l3Form.j0] at H
   by_cases c8 : x16_2 = true
   ·subst c8
    have H1 : (some false) = some r := by rw [if_pos rfl] at H; exact H
    clear H
    have H := H1
    clear H1
    obtain rfl := Option.some.inj H
    go_wp2
    repeat (go_quiet (fail); try go_wp2)
    go_ret
    exact ⟨rfx, mB HB.out⟩
   ·replace c8 := Bool.eq_false_iff.mpr c8
    subst c8
    have H1 : (if a0_0 = 1 then ((spec_NumCut.f a0_1).bind fun t110 => (if t110 = a0_1 then (spec_l3Form.j1 kj2 a1 false a0_0 a0_1 a0_2 a0_3 l0_4) else (spec_l3Form.j1 kj2 a1 true a0_0 a0_1 a0_2 a0_3 l0_4))) else (spec_l3Form.j1 kj2 a1 (a0_1 != 0) a0_0 a0_1 a0_2 a0_3 l0_4)) = some r := by rw [if_neg (show ¬ (false = true) by decide)] at H; exact H
    clear H
    have H := H1
    clear H1
    have HC9 := z0 H
    clear H
    go_upto_region 3 with (fail)
    repeat (go_quiet (fail); go_upto_region 3 with (fail))
    go_cut [37] (fun v37 wc => ∃ (kq : Nat) (x37_8 : Bool), v37 = .bool x37_8 ∧ Aside0 (spec_l3Form.j1 kq a1 x37_8 a0_0 a0_1 a0_2 a0_3 l0_4 = some r) ∧ Aside0 (kq ≤ kj2) ∧ Aside0 (wc.heap[gb108]? = some (.cells #[.int .i64 a0_0, .int .i64 a0_1, .int .i64 a0_2, .int .i64 a0_3, (.slice A0_4 l0_4.length c0_4)] 31 (0, 0))) ∧ Aside0 (Below w.heap.size w wc))
    case first =>
     have H := HC9.out
     clear HC9
     by_cases c10 : a0_0 = 1
     ·rw [if_pos c10] at H
      have c10b0 : (a0_0 == 1) = true := beq_iff_eq.mpr c10
      have c10b1 : (a0_0 != 1) = false := bne_eq_false_iff_eq.mpr c10
      clear c10
      (first | rw [c10b0] | (simp only [i64_w, i32_w]; rw [c10b0]) | skip)
      replace H := Option.bind_eq_some_iff.mp H
      obtain ⟨t110, A110, H⟩ := H
      try dsimp only at H
      have A11 := z0 A110
      clear A110
      by_cases c12 : t110 = a0_1
      ·rw [if_pos c12] at H
       have c12b0 : (t110 == a0_1) = true := beq_iff_eq.mpr c12
       have c12b1 : (t110 != a0_1) = false := bne_eq_false_iff_eq.mpr c12
       clear c12
       have H' := z0 H
       clear H
       obtain ⟨hcz13_0, hcz13_1, hcz13_2, hcz13_3, hcz13_4, hfz13_0, hfz13_1, hfz13_2, hfz13_3, hfz13_4⟩ := cel5 BK108.out
       go_wp2_with (first | (go_at_call 46; (with_reducible refine (spec_NumCut.calls a0_1 t110 _ A11.out).mono ?_); rintro e w' ⟨rfl, ⟨nd, rfl⟩⟩; (try first | exact ⟨rfl, _, World.drewN_drewN _ _ _⟩ | exact ⟨rfl, _, Eq.trans (World.drewN_drewN _ _ _) (congrArg (World.drewN _) (Nat.add_assoc _ _ _))⟩)))
       repeat (go_quiet (first | (go_at_call 46; (with_reducible refine (spec_NumCut.calls a0_1 t110 _ A11.out).mono ?_); rintro e w' ⟨rfl, ⟨nd, rfl⟩⟩; (try first | exact ⟨rfl, _, World.drewN_drewN _ _ _⟩ | exact ⟨rfl, _, Eq.trans (World.drewN_drewN _ _ _) (congrArg (World.drewN _) (Nat.add_assoc _ _ _))⟩))); try go_wp2_with (first | (go_at_call 46; (with_reducible refine (spec_NumCut.calls a0_1 t110 _ A11.out).mono ?_); rintro e w' ⟨rfl, ⟨nd, rfl⟩⟩; (try first | exact ⟨rfl, _, World.drewN_drewN _ _ _⟩ | exact ⟨rfl, _, Eq.trans (World.drewN_drewN _ _ _) (congrArg (World.drewN _) (Nat.add_assoc _ _ _))⟩))))
       go_meet
       case rel => exact ⟨_, (false), rfy, H', ⟨by have := HJ2.out; first | omega | exact Nat.le_refl _⟩, ⟨mK BK108.out⟩, ⟨mB HB.out⟩⟩
      ·rw [if_neg c12] at H
       have c12b0 : (t110 == a0_1) = false := beq_eq_false_iff_ne.mpr c12
       have c12b1 : (t110 != a0_1) = true := bne_iff_ne.mpr c12
       have H' := z0 H
       clear H
       obtain ⟨hcz14_0, hcz14_1, hcz14_2, hcz14_3, hcz14_4, hfz14_0, hfz14_1, hfz14_2, hfz14_3, hfz14_4⟩ := cel5 BK108.out
       go_wp2_with (first | (go_at_call 46; (with_reducible refine (spec_NumCut.calls a0_1 t110 _ A11.out).mono ?_); rintro e w' ⟨rfl, ⟨nd, rfl⟩⟩; (try first | exact ⟨rfl, _, World.drewN_drewN _ _ _⟩ | exact ⟨rfl, _, Eq.trans (World.drewN_drewN _ _ _) (congrArg (World.drewN _) (Nat.add_assoc _ _ _))⟩)))
       repeat (go_quiet (first | (go_at_call 46; (with_reducible refine (spec_NumCut.calls a0_1 t110 _ A11.out).mono ?_); rintro e w' ⟨rfl, ⟨nd, rfl⟩⟩; (try first | exact ⟨rfl, _, World.drewN_drewN _ _ _⟩ | exact ⟨rfl, _, Eq.trans (World.drewN_drewN _ _ _) (congrArg (World.drewN _) (Nat.add_assoc _ _ _))⟩))); try go_wp2_with (first | (go_at_call 46; (with_reducible refine (spec_NumCut.calls a0_1 t110 _ A11.out).mono ?_); rintro e w' ⟨rfl, ⟨nd, rfl⟩⟩; (try first | exact ⟨rfl, _, World.drewN_drewN _ _ _⟩ | exact ⟨rfl, _, Eq.trans (World.drewN_drewN _ _ _) (congrArg (World.drewN _) (Nat.add_assoc _ _ _))⟩))))
       go_meet
       case rel => exact ⟨_, (true), rfy, H', ⟨by have := HJ2.out; first | omega | exact Nat.le_refl _⟩, ⟨mK BK108.out⟩, ⟨mB HB.out⟩⟩
     ·rw [if_neg c10] at H
      have c10b0 : (a0_0 == 1) = false := beq_eq_false_iff_ne.mpr c10
      have c10b1 : (a0_0 != 1) = true := bne_iff_ne.mpr c10
      (first | rw [c10b0] | (simp only [i64_w, i32_w]; rw [c10b0]) | skip)
      have H' := z0 H
      clear H
      obtain ⟨hcz15_0, hcz15_1, hcz15_2, hcz15_3, hcz15_4, hfz15_0, hfz15_1, hfz15_2, hfz15_3, hfz15_4⟩ := cel5 BK108.out
      go_wp2
      repeat (go_quiet (fail); try go_wp2)
      go_meet
      case rel => exact ⟨_, ((a0_1 != 0)), rfy, H', ⟨by have := HJ2.out; first | omega | exact Nat.le_refl _⟩, ⟨mK BK108.out⟩, ⟨mB HB.out⟩⟩
    case rest =>
     clear HC9
     (try clear c8)
     obtain ⟨kq, x37_8, rfl, HA, HJ8, BK108, HB⟩ := hcut
     cases kq with
     | zero => exact absurd HA.out (by simp [spec_l3Form.j1])
     | succ kj8 =>
      have H := HA.out
      clear HA
      simp only [spec_l3Form.j1] at H
      by_cases c16 : x37_8 = true
      ·subst c16
       have H1 : (some false) = some r := by rw [if_pos rfl] at H; exact H
       clear H
       have H := H1
       clear H1
       obtain rfl := Option.some.inj H
       go_wp2
       repeat (go_quiet (fail); try go_wp2)
       go_ret
       exact ⟨rfx, mB HB.out⟩
      ·replace c16 := Bool.eq_false_iff.mpr c16
       subst c16
       have H1 : (if a0_0 = 2 then ((spec_AddrOk.f a0_2 a0_3).bind fun t111 => (if t111 = true then (spec_l3Form.j2 kj8 a1 false a0_0 a0_1 a0_2 a0_3 l0_4) else (spec_l3Form.j2 kj8 a1 true a0_0 a0_1 a0_2 a0_3 l0_4))) else (spec_l3Form.j2 kj8 a1 (!(a0_2 == 0) || (!(a0_3 == 0))) a0_0 a0_1 a0_2 a0_3 l0_4)) = some r := by rw [if_neg (show ¬ (false = true) by decide)] at H; exact H
       clear H
       have H := H1
       clear H1
       have HC17 := z0 H
       clear H
       go_upto_region 5 with (fail)
       repeat (go_quiet (fail); go_upto_region 5 with (fail))
       go_cut [57] (fun v57 wc => ∃ (kq : Nat) (x57_16 : Bool), v57 = .bool x57_16 ∧ Aside0 (spec_l3Form.j2 kq a1 x57_16 a0_0 a0_1 a0_2 a0_3 l0_4 = some r) ∧ Aside0 (kq ≤ kj8) ∧ Aside0 (wc.heap[gb108]? = some (.cells #[.int .i64 a0_0, .int .i64 a0_1, .int .i64 a0_2, .int .i64 a0_3, (.slice A0_4 l0_4.length c0_4)] 31 (0, 0))) ∧ Aside0 (Below w.heap.size w wc))
       case first =>
        have H := HC17.out
        clear HC17
        by_cases c18 : a0_0 = 2
        ·rw [if_pos c18] at H
         have c18b0 : (a0_0 == 2) = true := beq_iff_eq.mpr c18
         have c18b1 : (a0_0 != 2) = false := bne_eq_false_iff_eq.mpr c18
         clear c18
         (first | rw [c18b0] | (simp only [i64_w, i32_w]; rw [c18b0]) | skip)
         replace H := Option.bind_eq_some_iff.mp H
         obtain ⟨t111, A190, H⟩ := H
         try dsimp only at H
         have A19 := z0 A190
         clear A190
         by_cases c20 : t111 = true
         ·subst c20
          have H1 : (spec_l3Form.j2 kj8 a1 false a0_0 a0_1 a0_2 a0_3 l0_4) = some r := by rw [if_pos rfl] at H; exact H
          clear H
          have H := H1
          clear H1
          have H' := z0 H
          clear H
          obtain ⟨hcz21_0, hcz21_1, hcz21_2, hcz21_3, hcz21_4, hfz21_0, hfz21_1, hfz21_2, hfz21_3, hfz21_4⟩ := cel5 BK108.out
          go_wp2_with (first | (go_at_call 26; (with_reducible refine (spec_AddrOk.calls a0_2 a0_3 true _ A19.out).mono ?_); rintro e w22 ⟨rfl, hb⟩; have n_ := az (bB BK108.out hb) <| z0 (below_step (mB HB.out) hb); clear BK108 HB; obtain ⟨BK108, HB⟩ := n_; clear hb; obtain ⟨hcz23_0, hcz23_1, hcz23_2, hcz23_3, hcz23_4, hfz23_0, hfz23_1, hfz23_2, hfz23_3, hfz23_4⟩ := cel5 BK108.out))
          repeat (go_quiet (first | (go_at_call 26; (with_reducible refine (spec_AddrOk.calls a0_2 a0_3 true _ A19.out).mono ?_); rintro e w22 ⟨rfl, hb⟩; have n_ := az (bB BK108.out hb) <| z0 (below_step (mB HB.out) hb); clear BK108 HB; obtain ⟨BK108, HB⟩ := n_; clear hb; obtain ⟨hcz23_0, hcz23_1, hcz23_2, hcz23_3, hcz23_4, hfz23_0, hfz23_1, hfz23_2, hfz23_3, hfz23_4⟩ := cel5 BK108.out)); try go_wp2_with (first | (go_at_call 26; (with_reducible refine (spec_AddrOk.calls a0_2 a0_3 true _ A19.out).mono ?_); rintro e w22 ⟨rfl, hb⟩; have n_ := az (bB BK108.out hb) <| z0 (below_step (mB HB.out) hb); clear BK108 HB; obtain ⟨BK108, HB⟩ := n_; clear hb; obtain ⟨hcz23_0, hcz23_1, hcz23_2, hcz23_3, hcz23_4, hfz23_0, hfz23_1, hfz23_2, hfz23_3, hfz23_4⟩ := cel5 BK108.out)))
          go_meet
          case rel => exact ⟨_, (false), rfy, H', ⟨by have := HJ2.out; have := HJ8.out; first | omega | exact Nat.le_refl _⟩, ⟨mK BK108.out⟩, ⟨mB HB.out⟩⟩
         ·replace c20 := Bool.eq_false_iff.mpr c20
          subst c20
          have H1 : (spec_l3Form.j2 kj8 a1 true a0_0 a0_1 a0_2 a0_3 l0_4) = some r := by rw [if_neg (show ¬ (false = true) by decide)] at H; exact H
          clear H
          have H := H1
          clear H1
          have H' := z0 H
          clear H
          obtain ⟨hcz24_0, hcz24_1, hcz24_2, hcz24_3, hcz24_4, hfz24_0, hfz24_1, hfz24_2, hfz24_3, hfz24_4⟩ := cel5 BK108.out
          go_wp2_with (first | (go_at_call 26; (with_reducible refine (spec_AddrOk.calls a0_2 a0_3 false _ A19.out).mono ?_); rintro e w25 ⟨rfl, hb⟩; have n_ := az (bB BK108.out hb) <| z0 (below_step (mB HB.out) hb); clear BK108 HB; obtain ⟨BK108, HB⟩ := n_; clear hb))
          repeat (go_quiet (first | (go_at_call 26; (with_reducible refine (spec_AddrOk.calls a0_2 a0_3 false _ A19.out).mono ?_); rintro e w25 ⟨rfl, hb⟩; have n_ := az (bB BK108.out hb) <| z0 (below_step (mB HB.out) hb); clear BK108 HB; obtain ⟨BK108, HB⟩ := n_; clear hb)); try go_wp2_with (first | (go_at_call 26; (with_reducible refine (spec_AddrOk.calls a0_2 a0_3 false _ A19.out).mono ?_); rintro e w25 ⟨rfl, hb⟩; have n_ := az (bB BK108.out hb) <| z0 (below_step (mB HB.out) hb); clear BK108 HB; obtain ⟨BK108, HB⟩ := n_; clear hb)))
          go_meet
          case rel => exact ⟨_, (true), rfy, H', ⟨by have := HJ2.out; have := HJ8.out; first | omega | exact Nat.le_refl _⟩, ⟨mK BK108.out⟩, ⟨mB HB.out⟩⟩
        ·rw [if_neg c18] at H
         have c18b0 : (a0_0 == 2) = false := beq_eq_false_iff_ne.mpr c18
         have c18b1 : (a0_0 != 2) = true := bne_iff_ne.mpr c18
         (first | rw [c18b0] | (simp only [i64_w, i32_w]; rw [c18b0]) | skip)
         have H' := z0 H
         clear H
         obtain ⟨hcz26_0, hcz26_1, hcz26_2, hcz26_3, hcz26_4, hfz26_0, hfz26_1, hfz26_2, hfz26_3, hfz26_4⟩ := cel5 BK108.out
         go_wp2
         repeat (go_quiet (fail); try go_wp2)
         go_meet
         case rel => exact ⟨_, ((!(a0_2 == 0) || (!(a0_3 == 0)))), rfy, H', ⟨by have := HJ2.out; have := HJ8.out; first | omega | exact Nat.le_refl _⟩, ⟨mK BK108.out⟩, ⟨mB HB.out⟩⟩
       case rest =>
        clear HC17
        (try clear c8); (try clear c16)
        obtain ⟨kq, x57_16, rfl, HA, HJ16, BK108, HB⟩ := hcut
        cases kq with
        | zero => exact absurd HA.out (by simp [spec_l3Form.j2])
        | succ kj16 =>
         have H := HA.out
         clear HA
         simp only [spec_l3Form.j2] at H
         by_cases c27 : x57_16 = true
         ·subst c27
          have H1 : (some false) = some r := by rw [if_pos rfl] at H; exact H
          clear H
          have H := H1
          clear H1
          obtain rfl := Option.some.inj H
          go_wp2
          repeat (go_quiet (fail); try go_wp2)
          go_ret
          exact ⟨rfx, mB HB.out⟩
         ·replace c27 := Bool.eq_false_iff.mpr c27
          subst c27
          have H1 : (spec_l3Form.l0 kj16 a1 0 a0_0 a0_1 a0_2 a0_3 l0_4) = some r := by rw [if_neg (show ¬ (false = true) by decide)] at H; exact H
          clear H
          have H := H1
          clear H1
          have H' := z0 H
          clear H
          go_wp2
          repeat (go_quiet (fail); try go_wp2)
          go_loopg [5] kj16 (fun kq v5 w' => ∃ (x5_4 : Int), v5 = .int .i64 x5_4 ∧ Aside0 (spec_l3Form.l0 kq a1 x5_4 a0_0 a0_1 a0_2 a0_3 l0_4 = some r) ∧ Aside0 (kq ≤ kj16) ∧ Aside0 (w'.heap[gb108]? = some (.cells #[.int .i64 a0_0, .int .i64 a0_1, .int .i64 a0_2, .int .i64 a0_3, (.slice A0_4 l0_4.length c0_4)] 31 (0, 0))) ∧ Aside0 (Below w.heap.size w w'))
          case atStart => exact ⟨(0), rfy, H', ⟨Nat.le_refl _⟩, ⟨mK BK108.out⟩, ⟨mB HB.out⟩⟩
          case round =>
           clear H'
           (try clear c8); (try clear c16); (try clear c27)
           obtain ⟨x5_4, rfl, HA, HK4, BK108, HB⟩ := hrel
           cases gk with
           | zero => exact absurd HA.out (by simp [spec_l3Form.l0])
           | succ k4 =>
            have H := HA.out
            clear HA
            simp only [spec_l3Form.l0] at H
            by_cases c28 : x5_4 < (l0_4.length : Int)
            ·rw [if_pos c28] at H
             have c28b0 : decide (x5_4 < (l0_4.length : Int)) = true := decide_eq_true c28
             clear c28
             by_cases c29 : 0 ≤ x5_4
             ·rw [if_pos c29] at H
              have c29b0 : decide (0 ≤ x5_4) = true := decide_eq_true c29
              clear c29
              replace H := Option.bind_eq_some_iff.mp H
              obtain ⟨t113, A300, H⟩ := H
              try dsimp only at H
              have A30 := z0 A300
              clear A300
              by_cases c31 : t113 = true
              ·subst c31
               have H1 : (spec_l3Form.l0 k4 a1 (wrap64 (x5_4 + 1)) a0_0 a0_1 a0_2 a0_3 l0_4) = some r := by rw [if_pos rfl] at H; exact H
               clear H
               have H := H1
               clear H1
               have H' := z0 H
               clear H
               obtain ⟨hcz32_0, hcz32_1, hcz32_2, hcz32_3, hcz32_4, hfz32_0, hfz32_1, hfz32_2, hfz32_3, hfz32_4⟩ := cel5 BK108.out
               have p112 : 0 ≤ (x5_4 : Int) := of_decide_eq_true (by first | (with_reducible assumption) | assumption)
               have q112 : x5_4 < (l0_4.length : Int) := of_decide_eq_true (by first | (with_reducible assumption) | assumption)
               obtain ⟨ad112, A112_4, c112_4, e112, hx112_0, hx112_1, hx112_2, hx112_3, hx112_4, hl112_4, hi112_4⟩ := at_T31 HR0_4.out x5_4 p112 q112
               cases e112
               replace hx112_0 := (HB.out.cell (World.block_lt_of_cell? w _ hx112_0)).trans hx112_0
               replace hx112_1 := (HB.out.cell (World.block_lt_of_cell? w _ hx112_1)).trans hx112_1
               replace hx112_2 := (HB.out.cell (World.block_lt_of_cell? w _ hx112_2)).trans hx112_2
               replace hx112_3 := (HB.out.cell (World.block_lt_of_cell? w _ hx112_3)).trans hx112_3
               replace hx112_4 := (HB.out.cell (World.block_lt_of_cell? w _ hx112_4)).trans hx112_4
               have HR112_4 := z0 hi112_4
               have HC112_4 := z0 hl112_4
               clear hi112_4 hl112_4
               replace p112 := eq_true p112
               replace q112 := eq_true q112
               go_wp2_with (first | (go_at_call 39; (with_reducible refine (ih k4 q39_1 ((rd_T31 l0_4 x5_4).f0) ((rd_T31 l0_4 x5_4).f1) ((rd_T31 l0_4 x5_4).f2.f0) ((rd_T31 l0_4 x5_4).f2.f1) _ _ ((rd_T31 l0_4 x5_4).f3) (wrap64 (a1 - 1)) true _ ?side1 ?side2 A30.out).mono ?_); (case side1 => exact mC (Kd.C_below HR112_4.out HB.out)); (case side2 => exact HC112_4.out); rintro e w33 ⟨rfl, hb⟩; have n_ := az (bB BK108.out hb) <| z0 (below_step (mB HB.out) hb); clear BK108 HB; obtain ⟨BK108, HB⟩ := n_; clear hb))
               repeat (go_quiet (first | (go_at_call 39; (with_reducible refine (ih k4 q39_1 ((rd_T31 l0_4 x5_4).f0) ((rd_T31 l0_4 x5_4).f1) ((rd_T31 l0_4 x5_4).f2.f0) ((rd_T31 l0_4 x5_4).f2.f1) _ _ ((rd_T31 l0_4 x5_4).f3) (wrap64 (a1 - 1)) true _ ?side1 ?side2 A30.out).mono ?_); (case side1 => exact mC (Kd.C_below HR112_4.out HB.out)); (case side2 => exact HC112_4.out); rintro e w33 ⟨rfl, hb⟩; have n_ := az (bB BK108.out hb) <| z0 (below_step (mB HB.out) hb); clear BK108 HB; obtain ⟨BK108, HB⟩ := n_; clear hb)); try go_wp2_with (first | (go_at_call 39; (with_reducible refine (ih k4 q39_1 ((rd_T31 l0_4 x5_4).f0) ((rd_T31 l0_4 x5_4).f1) ((rd_T31 l0_4 x5_4).f2.f0) ((rd_T31 l0_4 x5_4).f2.f1) _ _ ((rd_T31 l0_4 x5_4).f3) (wrap64 (a1 - 1)) true _ ?side1 ?side2 A30.out).mono ?_); (case side1 => exact mC (Kd.C_below HR112_4.out HB.out)); (case side2 => exact HC112_4.out); rintro e w33 ⟨rfl, hb⟩; have n_ := az (bB BK108.out hb) <| z0 (below_step (mB HB.out) hb); clear BK108 HB; obtain ⟨BK108, HB⟩ := n_; clear hb)))
               go_roundg k4
               case measure => have := HJ2.out; have := HJ8.out; have := HJ16.out; have := HK4.out; omega
               case rel => exact ⟨(wrap64 (x5_4 + 1)), rfy, H', ⟨by have := HJ2.out; have := HJ8.out; have := HJ16.out; have := HK4.out; omega⟩, ⟨mK BK108.out⟩, ⟨mB HB.out⟩⟩
              ·replace c31 := Bool.eq_false_iff.mpr c31
               subst c31
               have H1 : (some false) = some r := by rw [if_neg (show ¬ (false = true) by decide)] at H; exact H
               clear H
               have H := H1
               clear H1
               obtain rfl := Option.some.inj H
               obtain ⟨hcz34_0, hcz34_1, hcz34_2, hcz34_3, hcz34_4, hfz34_0, hfz34_1, hfz34_2, hfz34_3, hfz34_4⟩ := cel5 BK108.out
               have p112 : 0 ≤ (x5_4 : Int) := of_decide_eq_true (by first | (with_reducible assumption) | assumption)
               have q112 : x5_4 < (l0_4.length : Int) := of_decide_eq_true (by first | (with_reducible assumption) | assumption)
               obtain ⟨ad112, A112_4, c112_4, e112, hx112_0, hx112_1, hx112_2, hx112_3, hx112_4, hl112_4, hi112_4⟩ := at_T31 HR0_4.out x5_4 p112 q112
               cases e112
               replace hx112_0 := (HB.out.cell (World.block_lt_of_cell? w _ hx112_0)).trans hx112_0
               replace hx112_1 := (HB.out.cell (World.block_lt_of_cell? w _ hx112_1)).trans hx112_1
               replace hx112_2 := (HB.out.cell (World.block_lt_of_cell? w _ hx112_2)).trans hx112_2
               replace hx112_3 := (HB.out.cell (World.block_lt_of_cell? w _ hx112_3)).trans hx112_3
               replace hx112_4 := (HB.out.cell (World.block_lt_of_cell? w _ hx112_4)).trans hx112_4
               have HR112_4 := z0 hi112_4
               have HC112_4 := z0 hl112_4
               clear hi112_4 hl112_4
               replace p112 := eq_true p112
               replace q112 := eq_true q112
               go_wp2_with (first | (go_at_call 39; (with_reducible refine (ih k4 q39_1 ((rd_T31 l0_4 x5_4).f0) ((rd_T31 l0_4 x5_4).f1) ((rd_T31 l0_4 x5_4).f2.f0) ((rd_T31 l0_4 x5_4).f2.f1) _ _ ((rd_T31 l0_4 x5_4).f3) (wrap64 (a1 - 1)) false _ ?side1 ?side2 A30.out).mono ?_); (case side1 => exact mC (Kd.C_below HR112_4.out HB.out)); (case side2 => exact HC112_4.out); rintro e w35 ⟨rfl, hb⟩; have n_ := az (bB BK108.out hb) <| z0 (below_step (mB HB.out) hb); clear BK108 HB; obtain ⟨BK108, HB⟩ := n_; clear hb))
               repeat (go_quiet (first | (go_at_call 39; (with_reducible refine (ih k4 q39_1 ((rd_T31 l0_4 x5_4).f0) ((rd_T31 l0_4 x5_4).f1) ((rd_T31 l0_4 x5_4).f2.f0) ((rd_T31 l0_4 x5_4).f2.f1) _ _ ((rd_T31 l0_4 x5_4).f3) (wrap64 (a1 - 1)) false _ ?side1 ?side2 A30.out).mono ?_); (case side1 => exact mC (Kd.C_below HR112_4.out HB.out)); (case side2 => exact HC112_4.out); rintro e w35 ⟨rfl, hb⟩; have n_ := az (bB BK108.out hb) <| z0 (below_step (mB HB.out) hb); clear BK108 HB; obtain ⟨BK108, HB⟩ := n_; clear hb)); try go_wp2_with (first | (go_at_call 39; (with_reducible refine (ih k4 q39_1 ((rd_T31 l0_4 x5_4).f0) ((rd_T31 l0_4 x5_4).f1) ((rd_T31 l0_4 x5_4).f2.f0) ((rd_T31 l0_4 x5_4).f2.f1) _ _ ((rd_T31 l0_4 x5_4).f3) (wrap64 (a1 - 1)) false _ ?side1 ?side2 A30.out).mono ?_); (case side1 => exact mC (Kd.C_below HR112_4.out HB.out)); (case side2 => exact HC112_4.out); rintro e w35 ⟨rfl, hb⟩; have n_ := az (bB BK108.out hb) <| z0 (below_step (mB HB.out) hb); clear BK108 HB; obtain ⟨BK108, HB⟩ := n_; clear hb)))
               go_ret
               exact ⟨rfx, mB HB.out⟩
             ·rw [if_neg c29] at H
              exact absurd H (by simp)
            ·rw [if_neg c28] at H
             have c28b0 : decide (x5_4 < (l0_4.length : Int)) = false := decide_eq_false c28
             clear c28
             obtain rfl := Option.some.inj H
             obtain ⟨hcz36_0, hcz36_1, hcz36_2, hcz36_3, hcz36_4, hfz36_0, hfz36_1, hfz36_2, hfz36_3, hfz36_4⟩ := cel5 BK108.out
             go_wp2
             repeat (go_quiet (fail); try go_wp2)
             go_ret
             exact ⟨rfx, mB HB.out⟩

end Go.Proofs.YtbckpgipehjgmaaGreat.B
namespace Go.Proofs.YtbckpgipehjgmaaGreat.B
open Go.RowKit Go.Proofs.YtbckpgipehjgmaaGreatW.PrintWords Go.Proofs.YtbckpgipehjgmaaGreatW.PrintLast Go.Proofs.YtbckpgipehjgmaaGreatW.PrintMore
attribute [local go_sem] max2_int min2_int max_two min_two max_three min_three max_four min_four   -- for this text's walks alone
set_option linter.unusedVariables false
set_option linter.unusedSimpArgs false

/-! ### spec_l3Many: function 40 -/
mutual
def spec_l3Many.l0 : Nat → Int → Int → Int → Int → Int → Int → Int → List (S31) → Option (Int)
 | 0, _, _, _, _, _, _, _, _ => none
 | k + 1, x1, x5, x6, x115000, x115001, x115002, x115003, x115004 => if x6 < (x115004.length : Int) then (if x1 > 0 then (if 0 ≤ x6 then ((spec_l3Many.f k ((rd_T31 x115004 x6).f0) ((rd_T31 x115004 x6).f1) ((rd_T31 x115004 x6).f2.f0) ((rd_T31 x115004 x6).f2.f1) ((rd_T31 x115004 x6).f3) (wrap64 (x1 - 1))).bind fun t116 => (spec_l3Many.l0 k x1 (wrap64 (x5 + t116)) (wrap64 (x6 + 1)) x115000 x115001 x115002 x115003 x115004)) else (none)) else (some x5)) else (some x5)
def spec_l3Many.f : Nat → Int → Int → Int → Int → List (S31) → Int → Option (Int)
 | 0, _, _, _, _, _, _ => none
 | k + 1, a0_0, a0_1, a0_2, a0_3, l0_4, a1 => spec_l3Many.l0 k a1 1 0 a0_0 a0_1 a0_2 a0_3 l0_4
end
theorem spec_l3Many.mono_l : ∀ k, (∀ y0 y1 y2 y3 y4 y5, LeO (spec_l3Many.f k y0 y1 y2 y3 y4 y5) (spec_l3Many.f (k + 1) y0 y1 y2 y3 y4 y5)) ∧ (∀ y0 y1 y2 y3 y4 y5 y6 y7, LeO (spec_l3Many.l0 k y0 y1 y2 y3 y4 y5 y6 y7) (spec_l3Many.l0 (k + 1) y0 y1 y2 y3 y4 y5 y6 y7))
 | 0 => ⟨fun _ _ _ _ _ _ r h => by simp [spec_l3Many.f] at h, fun _ _ _ _ _ _ _ _ r h => by simp [spec_l3Many.l0] at h⟩
 | k + 1 => by
  obtain ⟨ih0, ih1⟩ := spec_l3Many.mono_l k
  refine ⟨?_, ?_⟩
  ·intro y0 y1 y2 y3 y4 y5
   unfold spec_l3Many.f
   repeat' first
   | (with_reducible exact ih0 _ _ _ _ _ _)
   | (with_reducible exact ih1 _ _ _ _ _ _ _ _)
   | (with_reducible exact LeO.refl _)
   | (with_reducible exact LeO.none _)
   | (with_reducible refine LeO.ite ?_ ?_)
   | (with_reducible refine LeO.bind ?_ (fun _ => ?_))
   | exact ih0 _ _ _ _ _ _
   | exact ih1 _ _ _ _ _ _ _ _
   | exact LeO.none _
   | refine LeO.ite ?_ ?_
   | refine LeO.bind ?_ (fun _ => ?_)
  ·intro y0 y1 y2 y3 y4 y5 y6 y7
   unfold spec_l3Many.l0
   repeat' first
   | (with_reducible exact ih0 _ _ _ _ _ _)
   | (with_reducible exact ih1 _ _ _ _ _ _ _ _)
   | (with_reducible exact LeO.refl _)
   | (with_reducible exact LeO.none _)
   | (with_reducible refine LeO.ite ?_ ?_)
   | (with_reducible refine LeO.bind ?_ (fun _ => ?_))
   | exact ih0 _ _ _ _ _ _
   | exact ih1 _ _ _ _ _ _ _ _
   | exact LeO.none _
   | refine LeO.ite ?_ ?_
   | refine LeO.bind ?_ (fun _ => ?_)
theorem spec_l3Many.mono : ∀ a0 a1 a2 a3 a4 a5 k, LeO (spec_l3Many.f k a0 a1 a2 a3 a4 a5) (spec_l3Many.f (k + 1) a0 a1 a2 a3 a4 a5) := by
 intro a0 a1 a2 a3 a4 a5 k
 obtain ⟨ih0, ih1⟩ := spec_l3Many.mono_l k
 exact ih0 a0 a1 a2 a3 a4 a5
set_option maxHeartbeats 8000000 in
set_option maxRecDepth 100000 in
theorem spec_l3Many.calls (k : Nat) : ∀ (a0_0 : Int) (a0_1 : Int) (a0_2 : Int) (a0_3 : Int) (A0_4 : Option Addr) (c0_4 : Nat) (l0_4 : List (S31)) (a1 : Int) (r : Int) (w : World) (hr0_4 : Kd.C k31 w A0_4 l0_4.length l0_4) (hc0_4 : l0_4.length ≤ c0_4) (h : spec_l3Many.f k a0_0 a0_1 a0_2 a0_3 l0_4 a1 = some r),
  Calls Tryz.prog 40 #[.agg #[.int .i64 a0_0, .int .i64 a0_1, .int .i64 a0_2, .int .i64 a0_3, .slice A0_4 l0_4.length c0_4], .int .i64 a1] w fun e w' => e = .returned (.int .i64 r) ∧ Below w.heap.size w w' := by
 induction k using Nat.strongRecOn with
 | _ k ih =>
 intro a0_0 a0_1 a0_2 a0_3 A0_4 c0_4 l0_4 a1 r w hr0_4 hc0_4 h
 cases k with
 | zero => exact absurd h (by simp [spec_l3Many.f])
 | succ k =>
 simp only [spec_l3Many.f] at h
 have hu31 := Tryz.underlying31
 have HR0_4 := z0 hr0_4
 have HC0_4 := z0 hc0_4
 clear hr0_4 hc0_4
 have HB := z0 (Below.refl w.heap.size w)
 have H : (spec_l3Many.l0 k a1 1 0 a0_0 a0_1 a0_2 a0_3 l0_4) = some r := h
 clear h
 have H' := z0 H
 clear H
 go_enter Tryz.func40, Tryz.ntmps40
 go_wp2_with (first | ((with_reducible refine gate_dst (N := 2) rfl ?_); refine box_event ?hg (N := 2) ?hd (cs := #[.int .i64 a0_0, .int .i64 a0_1, .int .i64 a0_2, .int .i64 a0_3, .slice A0_4 l0_4.length c0_4]) (t := 31) ?hr ?_; (case hd => rfl); (case hg => rfl); (case hr => first | (go_simp; done) | (go_simp; rfl)); intro gb114 hg w3 hbox hb; have n_ := az (below_step (mB HB.out) hb) <| az (hbox) <| az ((by rw [hg]; exact (below_size (mB HB.out)) : w.heap.size ≤ gb114)) <| z0 ((by rw [hg]; exact (below_size (mB HB.out)) : w.heap.size ≤ gb114)); clear HB; obtain ⟨HB, BK114, GW114, GE114⟩ := n_; clear hb hbox hg))
 go_loopg [5, 6] k (fun kq v5 v6 w' => ∃ (x5_1 : Int) (x6_1 : Int), v5 = .int .i64 x5_1 ∧ v6 = .int .i64 x6_1 ∧ Aside0 (spec_l3Many.l0 kq a1 x5_1 x6_1 a0_0 a0_1 a0_2 a0_3 l0_4 = some r) ∧ Aside0 (kq ≤ k) ∧ Aside0 (w'.heap[gb114]? = some (.cells #[.int .i64 a0_0, .int .i64 a0_1, .int .i64 a0_2, .int .i64 a0_3, (.slice A0_4 l0_4.length c0_4)] 31 (0, 0))) ∧ Aside0 (Below w.heap.size w w'))
 case atStart => exact ⟨(1), (0), rfy, rfy, H', ⟨Nat.le_refl _⟩, ⟨mK BK114.out⟩, ⟨mB HB.out⟩⟩
 case round =>
  clear H'
  try clear p2
  obtain ⟨x5_1, x6_1, rfl, rfl, HA, HK1, BK114, HB⟩ := hrel
  cases gk with
  | zero => exact absurd HA.out (by simp [spec_l3Many.l0])
  | succ k1 =>
   have H := HA.out
   clear HA
   simp only [spec_l3Many.l0] at H
   by_cases c4 : x6_1 < (l0_4.length : Int)
   ·rw [if_pos c4] at H
    have c4b0 : decide (x6_1 < (l0_4.length : Int)) = true := decide_eq_true c4
    clear c4
    by_cases c5 : a1 > 0
    ·rw [if_pos c5] at H
     have c5b0 : decide (0 < a1) = true := decide_eq_true c5
     clear c5
     by_cases c6 : 0 ≤ x6_1
     ·rw [if_pos c6] at H
      have c6b0 : decide (0 ≤ x6_1) = true := decide_eq_true c6
      clear c6
      replace H := Option.bind_eq_some_iff.mp H
      obtain ⟨t116, A70, H⟩ := H
      try dsimp only at H
      have A7 := z0 A70
      clear A70
      have H' := z0 H
      clear H
      obtain ⟨hcz8_0, hcz8_1, hcz8_2, hcz8_3, hcz8_4, hfz8_0, hfz8_1, hfz8_2, hfz8_3, hfz8_4⟩ := cel5 BK114.out
      have p115 : 0 ≤ (x6_1 : Int) := of_decide_eq_true (by first | (with_reducible assumption) | assumption)
      have q115 : x6_1 < (l0_4.length : Int) := of_decide_eq_true (by first | (with_reducible assumption) | assumption)
      obtain ⟨ad115, A115_4, c115_4, e115, hx115_0, hx115_1, hx115_2, hx115_3, hx115_4, hl115_4, hi115_4⟩ := at_T31 HR0_4.out x6_1 p115 q115
      cases e115
      replace hx115_0 := (HB.out.cell (World.block_lt_of_cell? w _ hx115_0)).trans hx115_0
      replace hx115_1 := (HB.out.cell (World.block_lt_of_cell? w _ hx115_1)).trans hx115_1
      replace hx115_2 := (HB.out.cell (World.block_lt_of_cell? w _ hx115_2)).trans hx115_2
      replace hx115_3 := (HB.out.cell (World.block_lt_of_cell? w _ hx115_3)).trans hx115_3
      replace hx115_4 := (HB.out.cell (World.block_lt_of_cell? w _ hx115_4)).trans hx115_4
      have HR115_4 := z0 hi115_4
      have HC115_4 := z0 hl115_4
      clear hi115_4 hl115_4
      replace p115 := eq_true p115
      replace q115 := eq_true q115
      go_wp2_with (first | ((with_reducible refine gate_callee (f := 40) rfl ?_); refine goesL_ (some 26) rfl rfl Tryz.func40 (by kernel_rfl) rfl #[.agg #[.int .i64 ((rd_T31 l0_4 x6_1).f0), .int .i64 ((rd_T31 l0_4 x6_1).f1), .int .i64 ((rd_T31 l0_4 x6_1).f2.f0), .int .i64 ((rd_T31 l0_4 x6_1).f2.f1), .slice A115_4 ((rd_T31 l0_4 x6_1).f3).length c115_4], .int .i64 (wrap64 (a1 - 1))] rfl argx ?_; (with_reducible refine (ih k1 (by have := HK1.out; omega) ((rd_T31 l0_4 x6_1).f0) ((rd_T31 l0_4 x6_1).f1) ((rd_T31 l0_4 x6_1).f2.f0) ((rd_T31 l0_4 x6_1).f2.f1) _ _ ((rd_T31 l0_4 x6_1).f3) (wrap64 (a1 - 1)) t116 _ ?side1 ?side2 A7.out).mono ?_); (case side1 => exact mC (Kd.C_below HR115_4.out HB.out)); (case side2 => exact HC115_4.out); rintro e w9 ⟨rfl, hb⟩; refine ⟨_, rfl, ?_⟩; have n_ := az (bB BK114.out hb) <| z0 (below_step (mB HB.out) hb); clear BK114 HB; obtain ⟨BK114, HB⟩ := n_; clear hb))
      go_roundg k1
      case measure => have := HK1.out; omega
      case rel => exact ⟨(wrap64 (x5_1 + t116)), (wrap64 (x6_1 + 1)), rfy, rfy, H', ⟨by have := HK1.out; omega⟩, ⟨mK BK114.out⟩, ⟨mB HB.out⟩⟩
     ·rw [if_neg c6] at H
      exact absurd H (by simp)
    ·rw [if_neg c5] at H
     have c5b0 : decide (0 < a1) = false := decide_eq_false c5
     clear c5
     obtain rfl := Option.some.inj H
     obtain ⟨hcz10_0, hcz10_1, hcz10_2, hcz10_3, hcz10_4, hfz10_0, hfz10_1, hfz10_2, hfz10_3, hfz10_4⟩ := cel5 BK114.out
     go_wp2
     go_ret
     exact ⟨rfx, mB HB.out⟩
   ·rw [if_neg c4] at H
    have c4b0 : decide (x6_1 < (l0_4.length : Int)) = false := decide_eq_false c4
    clear c4
    obtain rfl := Option.some.inj H
    obtain ⟨hcz11_0, hcz11_1, hcz11_2, hcz11_3, hcz11_4, hfz11_0, hfz11_1, hfz11_2, hfz11_3, hfz11_4⟩ := cel5 BK114.out
    go_wp2
    go_ret
    exact ⟨rfx, mB HB.out⟩

/-! ### spec_ExprOk: function 27 -/
def spec_ExprOk.f (k : Nat) (a0_0 : Int) (a0_1 : Int) (a0_2 : Int) (a0_3 : Int) (l0_4 : List (S31)) : Option (Bool) := (spec_l3Form.f k a0_0 a0_1 a0_2 a0_3 l0_4 6).bind fun t118 => (if t118 = true then ((spec_l3Many.f k a0_0 a0_1 a0_2 a0_3 l0_4 6).bind fun t119 => (some (decide (t119 ≤ 14)))) else (some false))
theorem spec_ExprOk.mono : ∀ a0 a1 a2 a3 a4 k, LeO (spec_ExprOk.f k a0 a1 a2 a3 a4) (spec_ExprOk.f (k + 1) a0 a1 a2 a3 a4) := by
 intro a0 a1 a2 a3 a4 k
 unfold spec_ExprOk.f
 repeat' first
   | (with_reducible exact spec_l3Form.mono _ _ _ _ _ _ _)
   | (with_reducible exact spec_l3Many.mono _ _ _ _ _ _ _)
   | (with_reducible exact LeO.refl _)
   | (with_reducible exact LeO.none _)
   | (with_reducible refine LeO.ite ?_ ?_)
   | (with_reducible refine LeO.bind ?_ (fun _ => ?_))
   | exact spec_l3Form.mono _ _ _ _ _ _ _
   | exact spec_l3Many.mono _ _ _ _ _ _ _
   | exact LeO.none _
   | refine LeO.ite ?_ ?_
   | refine LeO.bind ?_ (fun _ => ?_)
set_option maxHeartbeats 8000000 in
set_option maxRecDepth 100000 in
theorem spec_ExprOk.calls (k : Nat) (a0_0 : Int) (a0_1 : Int) (a0_2 : Int) (a0_3 : Int) (A0_4 : Option Addr) (c0_4 : Nat) (l0_4 : List (S31)) (r : Bool) (w : World) (hr0_4 : Kd.C k31 w A0_4 l0_4.length l0_4) (hc0_4 : l0_4.length ≤ c0_4) (h : spec_ExprOk.f k a0_0 a0_1 a0_2 a0_3 l0_4 = some r) :
  Calls Tryz.prog 27 #[.agg #[.int .i64 a0_0, .int .i64 a0_1, .int .i64 a0_2, .int .i64 a0_3, .slice A0_4 l0_4.length c0_4]] w fun e w' => e = .returned (.bool r) ∧ Below w.heap.size w w' := by
 have hu31 := Tryz.underlying31
 have HR0_4 := z0 hr0_4
 have HC0_4 := z0 hc0_4
 clear hr0_4 hc0_4
 have HB := z0 (Below.refl w.heap.size w)
 have H : ((spec_l3Form.f k a0_0 a0_1 a0_2 a0_3 l0_4 6).bind fun t118 => (if t118 = true then ((spec_l3Many.f k a0_0 a0_1 a0_2 a0_3 l0_4 6).bind fun t119 => (some (decide (t119 ≤ 14)))) else (some false))) = some r := h
 clear h
 have HF2 := z0 H
 clear H
 go_enter Tryz.func27, Tryz.ntmps27
 go_upto_region 1 with (first | ((with_reducible refine gate_dst (N := 1) rfl ?_); refine box_event ?hg (N := 1) ?hd (cs := #[.int .i64 a0_0, .int .i64 a0_1, .int .i64 a0_2, .int .i64 a0_3, .slice A0_4 l0_4.length c0_4]) (t := 31) ?hr ?_; (case hd => rfl); (case hg => rfl); (case hr => first | (go_simp; done) | (go_simp; rfl)); intro gb117 hg w3 hbox hb; have n_ := az (below_step (mB HB.out) hb) <| az (hbox) <| az ((by rw [hg]; exact (below_size (mB HB.out)) : w.heap.size ≤ gb117)) <| z0 ((by rw [hg]; exact (below_size (mB HB.out)) : w.heap.size ≤ gb117)); clear HB; obtain ⟨HB, BK117, GW117, GE117⟩ := n_; clear hb hbox hg))
 (try simp only [Act.put, List.setIfInBounds_toArray, List.set_cons_zero, List.set_cons_succ])
 have H := HF2.out
 clear HF2
 try clear c2
 replace H := Option.bind_eq_some_iff.mp H
 obtain ⟨t118, A40, H⟩ := H
 try dsimp only at H
 have A4 := z0 A40
 clear A40
 by_cases c5 : t118 = true
 ·subst c5
  have H1 : ((spec_l3Many.f k a0_0 a0_1 a0_2 a0_3 l0_4 6).bind fun t119 => (some (decide (t119 ≤ 14)))) = some r := by rw [if_pos rfl] at H; exact H
  clear H
  have H := H1
  clear H1
  replace H := Option.bind_eq_some_iff.mp H
  obtain ⟨t119, A60, H⟩ := H
  try dsimp only at H
  have A6 := z0 A60
  clear A60
  obtain rfl := Option.some.inj H
  obtain ⟨hcz7_0, hcz7_1, hcz7_2, hcz7_3, hcz7_4, hfz7_0, hfz7_1, hfz7_2, hfz7_3, hfz7_4⟩ := cel5 BK117.out
  go_wp2_with (first | ((with_reducible refine gate_callee (f := 39) rfl ?_); refine goesL_ (some 4) rfl rfl Tryz.func39 (by kernel_rfl) rfl #[.agg #[.int .i64 a0_0, .int .i64 a0_1, .int .i64 a0_2, .int .i64 a0_3, .slice A0_4 l0_4.length c0_4], .int .i64 6] rfl argx ?_; (with_reducible refine (spec_l3Form.calls k a0_0 a0_1 a0_2 a0_3 _ _ l0_4 6 true _ ?side1 ?side2 A4.out).mono ?_); (case side1 => exact mC (Kd.C_below HR0_4.out HB.out)); (case side2 => exact HC0_4.out); rintro e w8 ⟨rfl, hb⟩; refine ⟨_, rfl, ?_⟩; have n_ := az (bB BK117.out hb) <| z0 (below_step (mB HB.out) hb); clear BK117 HB; obtain ⟨BK117, HB⟩ := n_; clear hb; obtain ⟨hcz9_0, hcz9_1, hcz9_2, hcz9_3, hcz9_4, hfz9_0, hfz9_1, hfz9_2, hfz9_3, hfz9_4⟩ := cel5 BK117.out) | (go_at_call 40; (with_reducible refine (spec_l3Many.calls k a0_0 a0_1 a0_2 a0_3 _ _ l0_4 6 t119 _ ?side1 ?side2 A6.out).mono ?_); (case side1 => exact mC (Kd.C_below HR0_4.out HB.out)); (case side2 => exact HC0_4.out); rintro e w10 ⟨rfl, hb⟩; have n_ := az (bB BK117.out hb) <| z0 (below_step (mB HB.out) hb); clear BK117 HB; obtain ⟨BK117, HB⟩ := n_; clear hb))
  go_ret
  exact ⟨rfx, mB HB.out⟩
 ·replace c5 := Bool.eq_false_iff.mpr c5
  subst c5
  have H1 : (some false) = some r := by rw [if_neg (show ¬ (false = true) by decide)] at H; exact H
  clear H
  have H := H1
  clear H1
  obtain rfl := Option.some.inj H
  obtain ⟨hcz11_0, hcz11_1, hcz11_2, hcz11_3, hcz11_4, hfz11_0, hfz11_1, hfz11_2, hfz11_3, hfz11_4⟩ := cel5 BK117.out
  go_wp2_with (first | ((with_reducible refine gate_callee (f := 39) rfl ?_); refine goesL_ (some 4) rfl rfl Tryz.func39 (by kernel_rfl) rfl #[.agg #[.int .i64 a0_0, .int .i64 a0_1, .int .i64 a0_2, .int .i64 a0_3, .slice A0_4 l0_4.length c0_4], .int .i64 6] rfl argx ?_; (with_reducible refine (spec_l3Form.calls k a0_0 a0_1 a0_2 a0_3 _ _ l0_4 6 false _ ?side1 ?side2 A4.out).mono ?_); (case side1 => exact mC (Kd.C_below HR0_4.out HB.out)); (case side2 => exact HC0_4.out); rintro e w12 ⟨rfl, hb⟩; refine ⟨_, rfl, ?_⟩; have n_ := az (bB BK117.out hb) <| z0 (below_step (mB HB.out) hb); clear BK117 HB; obtain ⟨BK117, HB⟩ := n_; clear hb))
  go_ret
  exact ⟨rfx, mB HB.out⟩

end Go.Proofs.YtbckpgipehjgmaaGreat.B
namespace Go.Proofs.YtbckpgipehjgmaaGreat.B
open Go.RowKit Go.Proofs.YtbckpgipehjgmaaGreatW.PrintWords Go.Proofs.YtbckpgipehjgmaaGreatW.PrintLast Go.Proofs.YtbckpgipehjgmaaGreatW.PrintMore
attribute [local go_sem] max2_int min2_int max_two min_two max_three min_three max_four min_four   -- for this text's walks alone
set_option linter.unusedVariables false
set_option linter.unusedSimpArgs false

attribute [local go_sem high] eqA28
/-! ### spec_l4Form: function 14 -/
mutual
def spec_l4Form.j0 : Nat → List (S33) → Int → Bool → Option (Bool)
 | 0, _, _, _ => none
 | k + 1, x0, x1, x14 => if x14 = true then (some false) else (spec_l4Form.l0 k x0 x1 0)
def spec_l4Form.l0 : Nat → List (S33) → Int → Int → Option (Bool)
 | 0, _, _, _ => none
 | k + 1, x0, x1, x5 => if x5 < (x0.length : Int) then (if 0 ≤ x5 then (if ((rd_T33 x0 x5).f0) = 1 then ((spec_AddrOk.f ((rd_T33 x0 x5).f1.f0) ((rd_T33 x0 x5).f1.f1)).bind fun t122 => (if t122 = true then (if ((rd_T33 x0 x5).f1.f0) = 1 then (spec_l4Form.j2 k x0 x1 x5 false ((rd_T33 x0 x5).f0) ((rd_T33 x0 x5).f1.f0) ((rd_T33 x0 x5).f1.f1) ((rd_T33 x0 x5).f2.f0) ((rd_T33 x0 x5).f2.f1) ((rd_T33 x0 x5).f2.f2.f0) ((rd_T33 x0 x5).f2.f2.f1) ((rd_T33 x0 x5).f2.f3) ((rd_T33 x0 x5).f3) ((rd_T33 x0 x5).f4)) else (if (((rd_T33 x0 x5).f3).length : Int) = 0 then (spec_l4Form.j2 k x0 x1 x5 ((((rd_T33 x0 x5).f4).length : Int) == 0) ((rd_T33 x0 x5).f0) ((rd_T33 x0 x5).f1.f0) ((rd_T33 x0 x5).f1.f1) ((rd_T33 x0 x5).f2.f0) ((rd_T33 x0 x5).f2.f1) ((rd_T33 x0 x5).f2.f2.f0) ((rd_T33 x0 x5).f2.f2.f1) ((rd_T33 x0 x5).f2.f3) ((rd_T33 x0 x5).f3) ((rd_T33 x0 x5).f4)) else (spec_l4Form.j2 k x0 x1 x5 false ((rd_T33 x0 x5).f0) ((rd_T33 x0 x5).f1.f0) ((rd_T33 x0 x5).f1.f1) ((rd_T33 x0 x5).f2.f0) ((rd_T33 x0 x5).f2.f1) ((rd_T33 x0 x5).f2.f2.f0) ((rd_T33 x0 x5).f2.f2.f1) ((rd_T33 x0 x5).f2.f3) ((rd_T33 x0 x5).f3) ((rd_T33 x0 x5).f4)))) else (spec_l4Form.j2 k x0 x1 x5 false ((rd_T33 x0 x5).f0) ((rd_T33 x0 x5).f1.f0) ((rd_T33 x0 x5).f1.f1) ((rd_T33 x0 x5).f2.f0) ((rd_T33 x0 x5).f2.f1) ((rd_T33 x0 x5).f2.f2.f0) ((rd_T33 x0 x5).f2.f2.f1) ((rd_T33 x0 x5).f2.f3) ((rd_T33 x0 x5).f3) ((rd_T33 x0 x5).f4)))) else (if ((rd_T33 x0 x5).f0) = 2 then (spec_l4Form.j2 k x0 x1 x5 (((rd_T33 x0 x5).f1.f0) == 0 && (((rd_T33 x0 x5).f1.f1) == 0)) ((rd_T33 x0 x5).f0) ((rd_T33 x0 x5).f1.f0) ((rd_T33 x0 x5).f1.f1) ((rd_T33 x0 x5).f2.f0) ((rd_T33 x0 x5).f2.f1) ((rd_T33 x0 x5).f2.f2.f0) ((rd_T33 x0 x5).f2.f2.f1) ((rd_T33 x0 x5).f2.f3) ((rd_T33 x0 x5).f3) ((rd_T33 x0 x5).f4)) else (if ((rd_T33 x0 x5).f0) = 3 then (if (((rd_T33 x0 x5).f1.f0) == 0 && (((rd_T33 x0 x5).f1.f1) == 0)) = true then (spec_l4Form.j2 k x0 x1 x5 ((((rd_T33 x0 x5).f4).length : Int) == 0) ((rd_T33 x0 x5).f0) ((rd_T33 x0 x5).f1.f0) ((rd_T33 x0 x5).f1.f1) ((rd_T33 x0 x5).f2.f0) ((rd_T33 x0 x5).f2.f1) ((rd_T33 x0 x5).f2.f2.f0) ((rd_T33 x0 x5).f2.f2.f1) ((rd_T33 x0 x5).f2.f3) ((rd_T33 x0 x5).f3) ((rd_T33 x0 x5).f4)) else (spec_l4Form.j2 k x0 x1 x5 false ((rd_T33 x0 x5).f0) ((rd_T33 x0 x5).f1.f0) ((rd_T33 x0 x5).f1.f1) ((rd_T33 x0 x5).f2.f0) ((rd_T33 x0 x5).f2.f1) ((rd_T33 x0 x5).f2.f2.f0) ((rd_T33 x0 x5).f2.f2.f1) ((rd_T33 x0 x5).f2.f3) ((rd_T33 x0 x5).f3) ((rd_T33 x0 x5).f4))) else (spec_l4Form.j2 k x0 x1 x5 false ((rd_T33 x0 x5).f0) ((rd_T33 x0 x5).f1.f0) ((rd_T33 x0 x5).f1.f1) ((rd_T33 x0 x5).f2.f0) ((rd_T33 x0 x5).f2.f1) ((rd_T33 x0 x5).f2.f2.f0) ((rd_T33 x0 x5).f2.f2.f1) ((rd_T33 x0 x5).f2.f3) ((rd_T33 x0 x5).f3) ((rd_T33 x0 x5).f4))))) else (none)) else (some true)
def spec_l4Form.j2 : Nat → List (S33) → Int → Int → Bool → Int → Int → Int → Int → Int → Int → Int → List (S31) → List (S33) → List (S33) → Option (Bool)
 | 0, _, _, _, _, _, _, _, _, _, _, _, _, _, _ => none
 | k + 1, x0, x1, x5, x7, x122000, x122001, x122002, x122003, x122004, x122005, x122006, x122007, x122008, x122009 => if x7 = true then ((spec_ExprOk.f k x122003 x122004 x122005 x122006 x122007).bind fun t123 => (if t123 = true then ((spec_l4Form.f k x122008 (wrap64 (x1 - 1))).bind fun t124 => (if t124 = true then ((spec_l4Form.f k x122009 (wrap64 (x1 - 1))).bind fun t125 => (if t125 = true then (spec_l4Form.l0 k x0 x1 (wrap64 (x5 + 1))) else (some false))) else (some false))) else (some false))) else (some false)
def spec_l4Form.f : Nat → List (S33) → Int → Option (Bool)
 | 0, _, _ => none
 | k + 1, l0, a1 => if (l0.length : Int) > 0 then (spec_l4Form.j0 k l0 a1 (decide (a1 < 1))) else (spec_l4Form.j0 k l0 a1 false)
end
theorem q14_1 {p : Prop} (h : p := by (with_reducible repeat (first | refine blk_drewN ?_ _ | refine blk_drew ?_ | refine blk_alloc ?_ _)); refine blk_put (cs := #[.int .i64 ((rd_T33 l0 x5_2).f0), .int .i64 ((rd_T33 l0 x5_2).f1.f0), .int .i64 ((rd_T33 l0 x5_2).f1.f1), .int .i64 ((rd_T33 l0 x5_2).f2.f0), .int .i64 ((rd_T33 l0 x5_2).f2.f1), .int .i64 ((rd_T33 l0 x5_2).f2.f2.f0), .int .i64 ((rd_T33 l0 x5_2).f2.f2.f1), .slice A120_7 ((rd_T33 l0 x5_2).f2.f3).length c120_7, .slice A120_8 ((rd_T33 l0 x5_2).f3).length c120_8, .slice none 0 0]) ?_ 9 _ rfl; (with_reducible repeat (first | refine blk_drewN ?_ _ | refine blk_drew ?_ | refine blk_alloc ?_ _)); refine blk_put (cs := #[.int .i64 ((rd_T33 l0 x5_2).f0), .int .i64 ((rd_T33 l0 x5_2).f1.f0), .int .i64 ((rd_T33 l0 x5_2).f1.f1), .int .i64 ((rd_T33 l0 x5_2).f2.f0), .int .i64 ((rd_T33 l0 x5_2).f2.f1), .int .i64 ((rd_T33 l0 x5_2).f2.f2.f0), .int .i64 ((rd_T33 l0 x5_2).f2.f2.f1), .slice A120_7 ((rd_T33 l0 x5_2).f2.f3).length c120_7, .slice none 0 0, .slice none 0 0]) ?_ 8 _ rfl; (with_reducible repeat (first | refine blk_drewN ?_ _ | refine blk_drew ?_ | refine blk_alloc ?_ _)); refine blk_put (cs := #[.int .i64 ((rd_T33 l0 x5_2).f0), .int .i64 ((rd_T33 l0 x5_2).f1.f0), .int .i64 ((rd_T33 l0 x5_2).f1.f1), .int .i64 ((rd_T33 l0 x5_2).f2.f0), .int .i64 ((rd_T33 l0 x5_2).f2.f1), .int .i64 ((rd_T33 l0 x5_2).f2.f2.f0), .int .i64 ((rd_T33 l0 x5_2).f2.f2.f1), .slice none 0 0, .slice none 0 0, .slice none 0 0]) ?_ 7 _ rfl; (with_reducible repeat (first | refine blk_drewN ?_ _ | refine blk_drew ?_ | refine blk_alloc ?_ _)); refine blk_put (cs := #[.int .i64 ((rd_T33 l0 x5_2).f0), .int .i64 ((rd_T33 l0 x5_2).f1.f0), .int .i64 ((rd_T33 l0 x5_2).f1.f1), .int .i64 ((rd_T33 l0 x5_2).f2.f0), .int .i64 ((rd_T33 l0 x5_2).f2.f1), .int .i64 ((rd_T33 l0 x5_2).f2.f2.f0), .int .i64 0, .slice none 0 0, .slice none 0 0, .slice none 0 0]) ?_ 6 _ rfl; (with_reducible repeat (first | refine blk_drewN ?_ _ | refine blk_drew ?_ | refine blk_alloc ?_ _)); refine blk_put (cs := #[.int .i64 ((rd_T33 l0 x5_2).f0), .int .i64 ((rd_T33 l0 x5_2).f1.f0), .int .i64 ((rd_T33 l0 x5_2).f1.f1), .int .i64 ((rd_T33 l0 x5_2).f2.f0), .int .i64 ((rd_T33 l0 x5_2).f2.f1), .int .i64 0, .int .i64 0, .slice none 0 0, .slice none 0 0, .slice none 0 0]) ?_ 5 _ rfl; (with_reducible repeat (first | refine blk_drewN ?_ _ | refine blk_drew ?_ | refine blk_alloc ?_ _)); refine blk_put (cs := #[.int .i64 ((rd_T33 l0 x5_2).f0), .int .i64 ((rd_T33 l0 x5_2).f1.f0), .int .i64 ((rd_T33 l0 x5_2).f1.f1), .int .i64 ((rd_T33 l0 x5_2).f2.f0), .int .i64 0, .int .i64 0, .int .i64 0, .slice none 0 0, .slice none 0 0, .slice none 0 0]) ?_ 4 _ rfl; (with_reducible repeat (first | refine blk_drewN ?_ _ | refine blk_drew ?_ | refine blk_alloc ?_ _)); refine blk_put (cs := #[.int .i64 ((rd_T33 l0 x5_2).f0), .int .i64 ((rd_T33 l0 x5_2).f1.f0), .int .i64 ((rd_T33 l0 x5_2).f1.f1), .int .i64 0, .int .i64 0, .int .i64 0, .int .i64 0, .slice none 0 0, .slice none 0 0, .slice none 0 0]) ?_ 3 _ rfl; (with_reducible repeat (first | refine blk_drewN ?_ _ | refine blk_drew ?_ | refine blk_alloc ?_ _)); refine blk_put (cs := #[.int .i64 ((rd_T33 l0 x5_2).f0), .int .i64 ((rd_T33 l0 x5_2).f1.f0), .int .i64 0, .int .i64 0, .int .i64 0, .int .i64 0, .int .i64 0, .slice none 0 0, .slice none 0 0, .slice none 0 0]) ?_ 2 _ rfl; (with_reducible repeat (first | refine blk_drewN ?_ _ | refine blk_drew ?_ | refine blk_alloc ?_ _)); refine blk_put (cs := #[.int .i64 ((rd_T33 l0 x5_2).f0), .int .i64 0, .int .i64 0, .int .i64 0, .int .i64 0, .int .i64 0, .int .i64 0, .slice none 0 0, .slice none 0 0, .slice none 0 0]) ?_ 1 _ rfl; (with_reducible repeat (first | refine blk_drewN ?_ _ | refine blk_drew ?_ | refine blk_alloc ?_ _)); refine blk_put (cs := #[.int .i64 0, .int .i64 0, .int .i64 0, .int .i64 0, .int .i64 0, .int .i64 0, .int .i64 0, .slice none 0 0, .slice none 0 0, .slice none 0 0]) ?_ 0 _ rfl; (with_reducible repeat (first | refine blk_drewN ?_ _ | refine blk_drew ?_ | refine blk_alloc ?_ _)); exact BK121.out) : p := h
set_option maxHeartbeats 8000000 in
set_option maxRecDepth 100000 in
theorem spec_l4Form.calls (k : Nat) : ∀ (A0 : Option Addr) (c0 : Nat) (l0 : List (S33)) (a1 : Int) (r : Bool) (w : World) (hr0 : Kd.C k33 w A0 l0.length l0) (hc0 : l0.length ≤ c0) (h : spec_l4Form.f k l0 a1 = some r),
  Calls Tryz.prog 14 #[.slice A0 l0.length c0, .int .i64 a1] w fun e w' => e = .returned (.bool r) ∧ Below w.heap.size w w' := by
 induction k using Nat.strongRecOn with
 | _ k ih =>
 intro A0 c0 l0 a1 r w hr0 hc0 h
 cases k with
 | zero => exact absurd h (by simp [spec_l4Form.f])
 | succ k =>
 simp only [spec_l4Form.f] at h
 have hu33 := Tryz.underlying33
 have hu28 := Tryz.underlying28
 have hu31 := Tryz.underlying31
 have HR0 := z0 hr0
 have HC0 := z0 hc0
 clear hr0 hc0
 have HB := z0 (Below.refl w.heap.size w)
 have H : (if (l0.length : Int) > 0 then (spec_l4Form.j0 k l0 a1 (decide (a1 < 1))) else (spec_l4Form.j0 k l0 a1 false)) = some r := h
 clear h
 have HC3 := z0 H
 clear H
 go_enter Tryz.func14, Tryz.ntmps14
 go_upto_region 1 with (fail)
 go_cut [14] (fun v14 wc => ∃ (kq : Nat) (x14_2 : Bool), v14 = .bool x14_2 ∧ Aside0 (spec_l4Form.j0 kq l0 a1 x14_2 = some r) ∧ Aside0 (kq ≤ k) ∧ Aside0 (Below w.heap.size w wc))
 case first =>
  have H := HC3.out
  clear HC3
  by_cases c4 : (l0.length : Int) > 0
  ·rw [if_pos c4] at H
   have c4b0 : decide (0 < (l0.length : Int)) = true := decide_eq_true c4
   have c4b1 : decide (0 < l0.length) = true := decide_eq_true (by omega)
   clear c4
   (first | rw [c4b0] | (simp only [i64_w, i32_w]; rw [c4b0]) | skip)
   have H' := z0 H
   clear H
   go_wp2
   go_meet
   case rel => exact ⟨_, (decide (a1 < 1)), rfy, H', ⟨by first | omega | exact Nat.le_refl _⟩, ⟨mB HB.out⟩⟩
  ·rw [if_neg c4] at H
   have c4b0 : decide (0 < (l0.length : Int)) = false := decide_eq_false c4
   have c4b1 : decide (0 < l0.length) = false := decide_eq_false (by omega)
   clear c4
   (first | rw [c4b0] | (simp only [i64_w, i32_w]; rw [c4b0]) | skip)
   have H' := z0 H
   clear H
   go_wp2
   go_meet
   case rel => exact ⟨_, (false), rfy, H', ⟨by first | omega | exact Nat.le_refl _⟩, ⟨mB HB.out⟩⟩
 case rest =>
  clear HC3
  skip
  obtain ⟨kq, x14_2, rfl, HA, HJ2, HB⟩ := hcut
  cases kq with
  | zero => exact absurd HA.out (by simp [spec_l4Form.j0])
  | succ kj2 =>
   have H := HA.out
   clear HA
   simp only [spec_l4Form.j0] at H
   by_cases c5 : x14_2 = true
   ·subst c5
    have H1 : (some false) = some r := by rw [if_pos rfl] at H; exact H
    clear H
    have H := H1
    clear H1
    obtain rfl := Option.some.inj H
    go_wp2
    go_ret
    exact ⟨rfx, mB HB.out⟩
   ·replace c5 := Bool.eq_false_iff.mpr c5
    subst c5
    have H1 : (spec_l4Form.l0 kj2 l0 a1 0) = some r := by rw [if_neg (show ¬ (false = true) by decide)] at H; exact H
    clear H
    have H := H1
    clear H1
    have H' := z0 H
    clear H
    go_wp2
    go_loopg [5] kj2 (fun kq v5 w' => ∃ (x5_2 : Int), v5 = .int .i64 x5_2 ∧ Aside0 (spec_l4Form.l0 kq l0 a1 x5_2 = some r) ∧ Aside0 (kq ≤ kj2) ∧ Aside0 (Below w.heap.size w w'))
    case atStart => exact ⟨(0), rfy, H', ⟨Nat.le_refl _⟩, ⟨mB HB.out⟩⟩
    case round =>
     clear H'
     (try clear c5)
     obtain ⟨x5_2, rfl, HA, HK2, HB⟩ := hrel
     cases gk with
     | zero => exact absurd HA.out (by simp [spec_l4Form.l0])
     | succ k2 =>
      have H := HA.out
      clear HA
      simp only [spec_l4Form.l0] at H
      by_cases c6 : x5_2 < (l0.length : Int)
      ·rw [if_pos c6] at H
       have c6b0 : decide (x5_2 < (l0.length : Int)) = true := decide_eq_true c6
       clear c6
       by_cases c7 : 0 ≤ x5_2
       ·rw [if_pos c7] at H
        have c7b0 : decide (0 ≤ x5_2) = true := decide_eq_true c7
        clear c7
        have HC8 := z0 H
        clear H
        have p120 : 0 ≤ (x5_2 : Int) := of_decide_eq_true (by first | (with_reducible assumption) | assumption)
        have q120 : x5_2 < (l0.length : Int) := of_decide_eq_true (by first | (with_reducible assumption) | assumption)
        obtain ⟨ad120, A120_7, c120_7, A120_8, c120_8, A120_9, c120_9, e120, hx120_0, hx120_1, hx120_2, hx120_3, hx120_4, hx120_5, hx120_6, hx120_7, hx120_8, hx120_9, hl120_7, hi120_7, hl120_8, hi120_8, hl120_9, hi120_9⟩ := at_T33 HR0.out x5_2 p120 q120
        cases e120
        replace hx120_0 := (HB.out.cell (World.block_lt_of_cell? w _ hx120_0)).trans hx120_0
        replace hx120_1 := (HB.out.cell (World.block_lt_of_cell? w _ hx120_1)).trans hx120_1
        replace hx120_2 := (HB.out.cell (World.block_lt_of_cell? w _ hx120_2)).trans hx120_2
        replace hx120_3 := (HB.out.cell (World.block_lt_of_cell? w _ hx120_3)).trans hx120_3
        replace hx120_4 := (HB.out.cell (World.block_lt_of_cell? w _ hx120_4)).trans hx120_4
        replace hx120_5 := (HB.out.cell (World.block_lt_of_cell? w _ hx120_5)).trans hx120_5
        replace hx120_6 := (HB.out.cell (World.block_lt_of_cell? w _ hx120_6)).trans hx120_6
        replace hx120_7 := (HB.out.cell (World.block_lt_of_cell? w _ hx120_7)).trans hx120_7
        replace hx120_8 := (HB.out.cell (World.block_lt_of_cell? w _ hx120_8)).trans hx120_8
        replace hx120_9 := (HB.out.cell (World.block_lt_of_cell? w _ hx120_9)).trans hx120_9
        have HR120_7 := z0 hi120_7
        have HC120_7 := z0 hl120_7
        clear hi120_7 hl120_7
        have HR120_8 := z0 hi120_8
        have HC120_8 := z0 hl120_8
        clear hi120_8 hl120_8
        have HR120_9 := z0 hi120_9
        have HC120_9 := z0 hl120_9
        clear hi120_9 hl120_9
        replace p120 := eq_true p120
        replace q120 := eq_true q120
        go_upto_block 2 with (first | ((with_reducible refine gate_dst (N := 6) rfl ?_); (try (refine gate_guard (by rfl) ?_; dsimp only)); refine box_event ?hg (N := 6) ?hd (cs := #[.int .i64 0, .int .i64 0, .int .i64 0, .int .i64 0, .int .i64 0, .int .i64 0, .int .i64 0, .slice none 0 0, .slice none 0 0, .slice none 0 0]) (t := 33) ?hr ?_; (case hd => rfl); (case hg => rfl); (case hr => first | (go_simp; done) | (go_simp; rfl)); intro gb121 hg w9 hbox hb; have n_ := az (below_step (mB HB.out) hb) <| az (hbox) <| az ((by rw [hg]; exact (below_size (mB HB.out)) : w.heap.size ≤ gb121)) <| z0 ((by rw [hg]; exact (below_size (mB HB.out)) : w.heap.size ≤ gb121)); clear HB; obtain ⟨HB, BK121, GW121, GE121⟩ := n_; clear hb hbox hg; obtain ⟨hcz10_0, hcz10_1, hcz10_2, hcz10_3, hcz10_4, hcz10_5, hcz10_6, hcz10_7, hcz10_8, hcz10_9, hfz10_0, hfz10_1, hfz10_2, hfz10_3, hfz10_4, hfz10_5, hfz10_6, hfz10_7, hfz10_8, hfz10_9⟩ := cel10 BK121.out))
        (try simp only [Act.put, List.setIfInBounds_toArray, List.set_cons_zero, List.set_cons_succ])
        go_cut [7] (fun v7 wc => ∃ (kq : Nat) (x7_7 : Bool), v7 = .bool x7_7 ∧ Aside0 (spec_l4Form.j2 kq l0 a1 x5_2 x7_7 ((rd_T33 l0 x5_2).f0) ((rd_T33 l0 x5_2).f1.f0) ((rd_T33 l0 x5_2).f1.f1) ((rd_T33 l0 x5_2).f2.f0) ((rd_T33 l0 x5_2).f2.f1) ((rd_T33 l0 x5_2).f2.f2.f0) ((rd_T33 l0 x5_2).f2.f2.f1) ((rd_T33 l0 x5_2).f2.f3) ((rd_T33 l0 x5_2).f3) ((rd_T33 l0 x5_2).f4) = some r) ∧ Aside0 (kq ≤ k2) ∧ Aside0 (wc.heap[gb121]? = some (.cells #[.int .i64 ((rd_T33 l0 x5_2).f0), .int .i64 ((rd_T33 l0 x5_2).f1.f0), .int .i64 ((rd_T33 l0 x5_2).f1.f1), .int .i64 ((rd_T33 l0 x5_2).f2.f0), .int .i64 ((rd_T33 l0 x5_2).f2.f1), .int .i64 ((rd_T33 l0 x5_2).f2.f2.f0), .int .i64 ((rd_T33 l0 x5_2).f2.f2.f1), (.slice A120_7 ((rd_T33 l0 x5_2).f2.f3).length c120_7), (.slice A120_8 ((rd_T33 l0 x5_2).f3).length c120_8), (.slice A120_9 ((rd_T33 l0 x5_2).f4).length c120_9)] 33 (0, 0))) ∧ Aside0 (Below w.heap.size w wc))
        case first =>
         have H := HC8.out
         clear HC8
         by_cases c11 : ((rd_T33 l0 x5_2).f0) = 1
         ·rw [if_pos c11] at H
          have c11b0 : (((rd_T33 l0 x5_2).f0) == 1) = true := beq_iff_eq.mpr c11
          have c11b1 : (((rd_T33 l0 x5_2).f0) != 1) = false := bne_eq_false_iff_eq.mpr c11
          clear c11
          (first | rw [c11b0] | (simp only [i64_w, i32_w]; rw [c11b0]) | skip)
          replace H := Option.bind_eq_some_iff.mp H
          obtain ⟨t122, A120, H⟩ := H
          try dsimp only at H
          have A12 := z0 A120
          clear A120
          by_cases c13 : t122 = true
          ·subst c13
           have H1 : (if ((rd_T33 l0 x5_2).f1.f0) = 1 then (spec_l4Form.j2 k2 l0 a1 x5_2 false ((rd_T33 l0 x5_2).f0) ((rd_T33 l0 x5_2).f1.f0) ((rd_T33 l0 x5_2).f1.f1) ((rd_T33 l0 x5_2).f2.f0) ((rd_T33 l0 x5_2).f2.f1) ((rd_T33 l0 x5_2).f2.f2.f0) ((rd_T33 l0 x5_2).f2.f2.f1) ((rd_T33 l0 x5_2).f2.f3) ((rd_T33 l0 x5_2).f3) ((rd_T33 l0 x5_2).f4)) else (if (((rd_T33 l0 x5_2).f3).length : Int) = 0 then (spec_l4Form.j2 k2 l0 a1 x5_2 ((((rd_T33 l0 x5_2).f4).length : Int) == 0) ((rd_T33 l0 x5_2).f0) ((rd_T33 l0 x5_2).f1.f0) ((rd_T33 l0 x5_2).f1.f1) ((rd_T33 l0 x5_2).f2.f0) ((rd_T33 l0 x5_2).f2.f1) ((rd_T33 l0 x5_2).f2.f2.f0) ((rd_T33 l0 x5_2).f2.f2.f1) ((rd_T33 l0 x5_2).f2.f3) ((rd_T33 l0 x5_2).f3) ((rd_T33 l0 x5_2).f4)) else (spec_l4Form.j2 k2 l0 a1 x5_2 false ((rd_T33 l0 x5_2).f0) ((rd_T33 l0 x5_2).f1.f0) ((rd_T33 l0 x5_2).f1.f1) ((rd_T33 l0 x5_2).f2.f0) ((rd_T33 l0 x5_2).f2.f1) ((rd_T33 l0 x5_2).f2.f2.f0) ((rd_T33 l0 x5_2).f2.f2.f1) ((rd_T33 l0 x5_2).f2.f3) ((rd_T33 l0 x5_2).f3) ((rd_T33 l0 x5_2).f4)))) = some r := by rw [if_pos rfl] at H; exact H
           clear H
           have H := H1
           clear H1
           by_cases c14 : ((rd_T33 l0 x5_2).f1.f0) = 1
           ·rw [if_pos c14] at H
            have c14b0 : (((rd_T33 l0 x5_2).f1.f0) == 1) = true := beq_iff_eq.mpr c14
            have c14b1 : (((rd_T33 l0 x5_2).f1.f0) != 1) = false := bne_eq_false_iff_eq.mpr c14
            clear c14
            have H' := z0 H
            clear H
            obtain ⟨hcz15_0, hcz15_1, hcz15_2, hcz15_3, hcz15_4, hcz15_5, hcz15_6, hcz15_7, hcz15_8, hcz15_9, hfz15_0, hfz15_1, hfz15_2, hfz15_3, hfz15_4, hfz15_5, hfz15_6, hfz15_7, hfz15_8, hfz15_9⟩ := cel10 BK121.out
            go_wp2_with (first | ((with_reducible refine gate_callee (f := 26) rfl ?_); refine goesL_ (some 31) rfl rfl Tryz.func26 (by kernel_rfl) rfl #[.agg #[.int .i64 ((rd_T33 l0 x5_2).f1.f0), .int .i64 ((rd_T33 l0 x5_2).f1.f1)]] rfl argx ?_; (with_reducible refine (spec_AddrOk.calls ((rd_T33 l0 x5_2).f1.f0) ((rd_T33 l0 x5_2).f1.f1) true _ A12.out).mono ?_); rintro e w16 ⟨rfl, hb⟩; refine ⟨_, rfl, ?_⟩; have n_ := az (blk_below (g := gb121) (o := .cells #[.int .i64 ((rd_T33 l0 x5_2).f0), .int .i64 ((rd_T33 l0 x5_2).f1.f0), .int .i64 ((rd_T33 l0 x5_2).f1.f1), .int .i64 ((rd_T33 l0 x5_2).f2.f0), .int .i64 ((rd_T33 l0 x5_2).f2.f1), .int .i64 ((rd_T33 l0 x5_2).f2.f2.f0), .int .i64 ((rd_T33 l0 x5_2).f2.f2.f1), .slice A120_7 ((rd_T33 l0 x5_2).f2.f3).length c120_7, .slice A120_8 ((rd_T33 l0 x5_2).f3).length c120_8, .slice A120_9 ((rd_T33 l0 x5_2).f4).length c120_9] 33 (0, 0)) q14_1 hb) <| z0 (below_step (mB HB.out) hb); clear BK121 HB; obtain ⟨BK121, HB⟩ := n_; clear hb; obtain ⟨hcz17_0, hcz17_1, hcz17_2, hcz17_3, hcz17_4, hcz17_5, hcz17_6, hcz17_7, hcz17_8, hcz17_9, hfz17_0, hfz17_1, hfz17_2, hfz17_3, hfz17_4, hfz17_5, hfz17_6, hfz17_7, hfz17_8, hfz17_9⟩ := cel10 BK121.out))
            go_meet
            case rel => exact ⟨_, (false), rfy, H', ⟨by have := HJ2.out; have := HK2.out; first | omega | exact Nat.le_refl _⟩, ⟨mK BK121.out⟩, ⟨mB HB.out⟩⟩
           ·rw [if_neg c14] at H
            have c14b0 : (((rd_T33 l0 x5_2).f1.f0) == 1) = false := beq_eq_false_iff_ne.mpr c14
            have c14b1 : (((rd_T33 l0 x5_2).f1.f0) != 1) = true := bne_iff_ne.mpr c14
            by_cases c18 : (((rd_T33 l0 x5_2).f3).length : Int) = 0
            ·rw [if_pos c18] at H
             have c18b0 : ((((rd_T33 l0 x5_2).f3).length : Int) == 0) = true := beq_iff_eq.mpr c18
             have c18b1 : ((((rd_T33 l0 x5_2).f3).length : Int) != 0) = false := bne_eq_false_iff_eq.mpr c18
             clear c18
             have H' := z0 H
             clear H
             obtain ⟨hcz19_0, hcz19_1, hcz19_2, hcz19_3, hcz19_4, hcz19_5, hcz19_6, hcz19_7, hcz19_8, hcz19_9, hfz19_0, hfz19_1, hfz19_2, hfz19_3, hfz19_4, hfz19_5, hfz19_6, hfz19_7, hfz19_8, hfz19_9⟩ := cel10 BK121.out
             go_wp2_with (first | ((with_reducible refine gate_callee (f := 26) rfl ?_); refine goesL_ (some 31) rfl rfl Tryz.func26 (by kernel_rfl) rfl #[.agg #[.int .i64 ((rd_T33 l0 x5_2).f1.f0), .int .i64 ((rd_T33 l0 x5_2).f1.f1)]] rfl argx ?_; (with_reducible refine (spec_AddrOk.calls ((rd_T33 l0 x5_2).f1.f0) ((rd_T33 l0 x5_2).f1.f1) true _ A12.out).mono ?_); rintro e w20 ⟨rfl, hb⟩; refine ⟨_, rfl, ?_⟩; have n_ := az (blk_below (g := gb121) (o := .cells #[.int .i64 ((rd_T33 l0 x5_2).f0), .int .i64 ((rd_T33 l0 x5_2).f1.f0), .int .i64 ((rd_T33 l0 x5_2).f1.f1), .int .i64 ((rd_T33 l0 x5_2).f2.f0), .int .i64 ((rd_T33 l0 x5_2).f2.f1), .int .i64 ((rd_T33 l0 x5_2).f2.f2.f0), .int .i64 ((rd_T33 l0 x5_2).f2.f2.f1), .slice A120_7 ((rd_T33 l0 x5_2).f2.f3).length c120_7, .slice A120_8 ((rd_T33 l0 x5_2).f3).length c120_8, .slice A120_9 ((rd_T33 l0 x5_2).f4).length c120_9] 33 (0, 0)) q14_1 hb) <| z0 (below_step (mB HB.out) hb); clear BK121 HB; obtain ⟨BK121, HB⟩ := n_; clear hb; obtain ⟨hcz21_0, hcz21_1, hcz21_2, hcz21_3, hcz21_4, hcz21_5, hcz21_6, hcz21_7, hcz21_8, hcz21_9, hfz21_0, hfz21_1, hfz21_2, hfz21_3, hfz21_4, hfz21_5, hfz21_6, hfz21_7, hfz21_8, hfz21_9⟩ := cel10 BK121.out))
             go_meet
             case rel => exact ⟨_, (((((rd_T33 l0 x5_2).f4).length : Int) == 0)), rfy, H', ⟨by have := HJ2.out; have := HK2.out; first | omega | exact Nat.le_refl _⟩, ⟨mK BK121.out⟩, ⟨mB HB.out⟩⟩
            ·rw [if_neg c18] at H
             have c18b0 : ((((rd_T33 l0 x5_2).f3).length : Int) == 0) = false := beq_eq_false_iff_ne.mpr c18
             have c18b1 : ((((rd_T33 l0 x5_2).f3).length : Int) != 0) = true := bne_iff_ne.mpr c18
             have c18b2 : ¬ (((rd_T33 l0 x5_2).f3) = []) := fun h_ => c18 (by rw [h_]; rfl)
             have H' := z0 H
             clear H
             obtain ⟨hcz22_0, hcz22_1, hcz22_2, hcz22_3, hcz22_4, hcz22_5, hcz22_6, hcz22_7, hcz22_8, hcz22_9, hfz22_0, hfz22_1, hfz22_2, hfz22_3, hfz22_4, hfz22_5, hfz22_6, hfz22_7, hfz22_8, hfz22_9⟩ := cel10 BK121.out
             go_wp2_with (first | ((with_reducible refine gate_callee (f := 26) rfl ?_); refine goesL_ (some 31) rfl rfl Tryz.func26 (by kernel_rfl) rfl #[.agg #[.int .i64 ((rd_T33 l0 x5_2).f1.f0), .int .i64 ((rd_T33 l0 x5_2).f1.f1)]] rfl argx ?_; (with_reducible refine (spec_AddrOk.calls ((rd_T33 l0 x5_2).f1.f0) ((rd_T33 l0 x5_2).f1.f1) true _ A12.out).mono ?_); rintro e w23 ⟨rfl, hb⟩; refine ⟨_, rfl, ?_⟩; have n_ := az (blk_below (g := gb121) (o := .cells #[.int .i64 ((rd_T33 l0 x5_2).f0), .int .i64 ((rd_T33 l0 x5_2).f1.f0), .int .i64 ((rd_T33 l0 x5_2).f1.f1), .int .i64 ((rd_T33 l0 x5_2).f2.f0), .int .i64 ((rd_T33 l0 x5_2).f2.f1), .int .i64 ((rd_T33 l0 x5_2).f2.f2.f0), .int .i64 ((rd_T33 l0 x5_2).f2.f2.f1), .slice A120_7 ((rd_T33 l0 x5_2).f2.f3).length c120_7, .slice A120_8 ((rd_T33 l0 x5_2).f3).length c120_8, .slice A120_9 ((rd_T33 l0 x5_2).f4).length c120_9] 33 (0, 0)) q14_1 hb) <| z0 (below_step (mB HB.out) hb); clear BK121 HB; obtain ⟨BK121, HB⟩ := n_; clear hb; obtain ⟨hcz24_0, hcz24_1, hcz24_2, hcz24_3, hcz24_4, hcz24_5, hcz24_6, hcz24_7, hcz24_8, hcz24_9, hfz24_0, hfz24_1, hfz24_2, hfz24_3, hfz24_4, hfz24_5, hfz24_6, hfz24_7, hfz24_8, hfz24_9⟩ := cel10 BK121.out))
             go_meet
             case rel => exact ⟨_, (false), rfy, H', ⟨by have := HJ2.out; have := HK2.out; first | omega | exact Nat.le_refl _⟩, ⟨mK BK121.out⟩, ⟨mB HB.out⟩⟩
          ·replace c13 := Bool.eq_false_iff.mpr c13
           subst c13
           have H1 : (spec_l4Form.j2 k2 l0 a1 x5_2 false ((rd_T33 l0 x5_2).f0) ((rd_T33 l0 x5_2).f1.f0) ((rd_T33 l0 x5_2).f1.f1) ((rd_T33 l0 x5_2).f2.f0) ((rd_T33 l0 x5_2).f2.f1) ((rd_T33 l0 x5_2).f2.f2.f0) ((rd_T33 l0 x5_2).f2.f2.f1) ((rd_T33 l0 x5_2).f2.f3) ((rd_T33 l0 x5_2).f3) ((rd_T33 l0 x5_2).f4)) = some r := by rw [if_neg (show ¬ (false = true) by decide)] at H; exact H
           clear H
           have H := H1
           clear H1
           have H' := z0 H
           clear H
           obtain ⟨hcz25_0, hcz25_1, hcz25_2, hcz25_3, hcz25_4, hcz25_5, hcz25_6, hcz25_7, hcz25_8, hcz25_9, hfz25_0, hfz25_1, hfz25_2, hfz25_3, hfz25_4, hfz25_5, hfz25_6, hfz25_7, hfz25_8, hfz25_9⟩ := cel10 BK121.out
           go_wp2_with (first | ((with_reducible refine gate_callee (f := 26) rfl ?_); refine goesL_ (some 31) rfl rfl Tryz.func26 (by kernel_rfl) rfl #[.agg #[.int .i64 ((rd_T33 l0 x5_2).f1.f0), .int .i64 ((rd_T33 l0 x5_2).f1.f1)]] rfl argx ?_; (with_reducible refine (spec_AddrOk.calls ((rd_T33 l0 x5_2).f1.f0) ((rd_T33 l0 x5_2).f1.f1) false _ A12.out).mono ?_); rintro e w26 ⟨rfl, hb⟩; refine ⟨_, rfl, ?_⟩; have n_ := az (blk_below (g := gb121) (o := .cells #[.int .i64 ((rd_T33 l0 x5_2).f0), .int .i64 ((rd_T33 l0 x5_2).f1.f0), .int .i64 ((rd_T33 l0 x5_2).f1.f1), .int .i64 ((rd_T33 l0 x5_2).f2.f0), .int .i64 ((rd_T33 l0 x5_2).f2.f1), .int .i64 ((rd_T33 l0 x5_2).f2.f2.f0), .int .i64 ((rd_T33 l0 x5_2).f2.f2.f1), .slice A120_7 ((rd_T33 l0 x5_2).f2.f3).length c120_7, .slice A120_8 ((rd_T33 l0 x5_2).f3).length c120_8, .slice A120_9 ((rd_T33 l0 x5_2).f4).length c120_9] 33 (0, 0)) q14_1 hb) <| z0 (below_step (mB HB.out) hb); clear BK121 HB; obtain ⟨BK121, HB⟩ := n_; clear hb))
           go_meet
           case rel => exact ⟨_, (false), rfy, H', ⟨by have := HJ2.out; have := HK2.out; first | omega | exact Nat.le_refl _⟩, ⟨mK BK121.out⟩, ⟨mB HB.out⟩⟩
         ·rw [if_neg c11] at H
          have c11b0 : (((rd_T33 l0 x5_2).f0) == 1) = false := beq_eq_false_iff_ne.mpr c11
          have c11b1 : (((rd_T33 l0 x5_2).f0) != 1) = true := bne_iff_ne.mpr c11
          (first | rw [c11b0] | (simp only [i64_w, i32_w]; rw [c11b0]) | skip)
          by_cases c27 : ((rd_T33 l0 x5_2).f0) = 2
          ·rw [if_pos c27] at H
           have c27b0 : (((rd_T33 l0 x5_2).f0) == 2) = true := beq_iff_eq.mpr c27
           have c27b1 : (((rd_T33 l0 x5_2).f0) != 2) = false := bne_eq_false_iff_eq.mpr c27
           clear c27
           have H' := z0 H
           clear H
           obtain ⟨hcz28_0, hcz28_1, hcz28_2, hcz28_3, hcz28_4, hcz28_5, hcz28_6, hcz28_7, hcz28_8, hcz28_9, hfz28_0, hfz28_1, hfz28_2, hfz28_3, hfz28_4, hfz28_5, hfz28_6, hfz28_7, hfz28_8, hfz28_9⟩ := cel10 BK121.out
           go_wp2
           go_meet
           case rel => exact ⟨_, ((((rd_T33 l0 x5_2).f1.f0) == 0 && (((rd_T33 l0 x5_2).f1.f1) == 0))), rfy, H', ⟨by have := HJ2.out; have := HK2.out; first | omega | exact Nat.le_refl _⟩, ⟨by (with_reducible repeat (first | refine blk_drewN ?_ _ | refine blk_drew ?_ | refine blk_alloc ?_ _)); refine blk_put (cs := #[.int .i64 ((rd_T33 l0 x5_2).f0), .int .i64 ((rd_T33 l0 x5_2).f1.f0), .int .i64 ((rd_T33 l0 x5_2).f1.f1), .int .i64 ((rd_T33 l0 x5_2).f2.f0), .int .i64 ((rd_T33 l0 x5_2).f2.f1), .int .i64 ((rd_T33 l0 x5_2).f2.f2.f0), .int .i64 ((rd_T33 l0 x5_2).f2.f2.f1), .slice A120_7 ((rd_T33 l0 x5_2).f2.f3).length c120_7, .slice A120_8 ((rd_T33 l0 x5_2).f3).length c120_8, .slice none 0 0]) ?_ 9 _ rfl; (with_reducible repeat (first | refine blk_drewN ?_ _ | refine blk_drew ?_ | refine blk_alloc ?_ _)); refine blk_put (cs := #[.int .i64 ((rd_T33 l0 x5_2).f0), .int .i64 ((rd_T33 l0 x5_2).f1.f0), .int .i64 ((rd_T33 l0 x5_2).f1.f1), .int .i64 ((rd_T33 l0 x5_2).f2.f0), .int .i64 ((rd_T33 l0 x5_2).f2.f1), .int .i64 ((rd_T33 l0 x5_2).f2.f2.f0), .int .i64 ((rd_T33 l0 x5_2).f2.f2.f1), .slice A120_7 ((rd_T33 l0 x5_2).f2.f3).length c120_7, .slice none 0 0, .slice none 0 0]) ?_ 8 _ rfl; (with_reducible repeat (first | refine blk_drewN ?_ _ | refine blk_drew ?_ | refine blk_alloc ?_ _)); refine blk_put (cs := #[.int .i64 ((rd_T33 l0 x5_2).f0), .int .i64 ((rd_T33 l0 x5_2).f1.f0), .int .i64 ((rd_T33 l0 x5_2).f1.f1), .int .i64 ((rd_T33 l0 x5_2).f2.f0), .int .i64 ((rd_T33 l0 x5_2).f2.f1), .int .i64 ((rd_T33 l0 x5_2).f2.f2.f0), .int .i64 ((rd_T33 l0 x5_2).f2.f2.f1), .slice none 0 0, .slice none 0 0, .slice none 0 0]) ?_ 7 _ rfl; (with_reducible repeat (first | refine blk_drewN ?_ _ | refine blk_drew ?_ | refine blk_alloc ?_ _)); refine blk_put (cs := #[.int .i64 ((rd_T33 l0 x5_2).f0), .int .i64 ((rd_T33 l0 x5_2).f1.f0), .int .i64 ((rd_T33 l0 x5_2).f1.f1), .int .i64 ((rd_T33 l0 x5_2).f2.f0), .int .i64 ((rd_T33 l0 x5_2).f2.f1), .int .i64 ((rd_T33 l0 x5_2).f2.f2.f0), .int .i64 0, .slice none 0 0, .slice none 0 0, .slice none 0 0]) ?_ 6 _ rfl; (with_reducible repeat (first | refine blk_drewN ?_ _ | refine blk_drew ?_ | refine blk_alloc ?_ _)); refine blk_put (cs := #[.int .i64 ((rd_T33 l0 x5_2).f0), .int .i64 ((rd_T33 l0 x5_2).f1.f0), .int .i64 ((rd_T33 l0 x5_2).f1.f1), .int .i64 ((rd_T33 l0 x5_2).f2.f0), .int .i64 ((rd_T33 l0 x5_2).f2.f1), .int .i64 0, .int .i64 0, .slice none 0 0, .slice none 0 0, .slice none 0 0]) ?_ 5 _ rfl; (with_reducible repeat (first | refine blk_drewN ?_ _ | refine blk_drew ?_ | refine blk_alloc ?_ _)); refine blk_put (cs := #[.int .i64 ((rd_T33 l0 x5_2).f0), .int .i64 ((rd_T33 l0 x5_2).f1.f0), .int .i64 ((rd_T33 l0 x5_2).f1.f1), .int .i64 ((rd_T33 l0 x5_2).f2.f0), .int .i64 0, .int .i64 0, .int .i64 0, .slice none 0 0, .slice none 0 0, .slice none 0 0]) ?_ 4 _ rfl; (with_reducible repeat (first | refine blk_drewN ?_ _ | refine blk_drew ?_ | refine blk_alloc ?_ _)); refine blk_put (cs := #[.int .i64 ((rd_T33 l0 x5_2).f0), .int .i64 ((rd_T33 l0 x5_2).f1.f0), .int .i64 ((rd_T33 l0 x5_2).f1.f1), .int .i64 0, .int .i64 0, .int .i64 0, .int .i64 0, .slice none 0 0, .slice none 0 0, .slice none 0 0]) ?_ 3 _ rfl; (with_reducible repeat (first | refine blk_drewN ?_ _ | refine blk_drew ?_ | refine blk_alloc ?_ _)); refine blk_put (cs := #[.int .i64 ((rd_T33 l0 x5_2).f0), .int .i64 ((rd_T33 l0 x5_2).f1.f0), .int .i64 0, .int .i64 0, .int .i64 0, .int .i64 0, .int .i64 0, .slice none 0 0, .slice none 0 0, .slice none 0 0]) ?_ 2 _ rfl; (with_reducible repeat (first | refine blk_drewN ?_ _ | refine blk_drew ?_ | refine blk_alloc ?_ _)); refine blk_put (cs := #[.int .i64 ((rd_T33 l0 x5_2).f0), .int .i64 0, .int .i64 0, .int .i64 0, .int .i64 0, .int .i64 0, .int .i64 0, .slice none 0 0, .slice none 0 0, .slice none 0 0]) ?_ 1 _ rfl; (with_reducible repeat (first | refine blk_drewN ?_ _ | refine blk_drew ?_ | refine blk_alloc ?_ _)); refine blk_put (cs := #[.int .i64 0, .int .i64 0, .int .i64 0, .int .i64 0, .int .i64 0, .int .i64 0, .int .i64 0, .slice none 0 0, .slice none 0 0, .slice none 0 0]) ?_ 0 _ rfl; (with_reducible repeat (first | refine blk_drewN ?_ _ | refine blk_drew ?_ | refine blk_alloc ?_ _)); exact BK121.out⟩, ⟨mB HB.out⟩⟩
          ·rw [if_neg c27] at H
           have c27b0 : (((rd_T33 l0 x5_2).f0) == 2) = false := beq_eq_false_iff_ne.mpr c27
           have c27b1 : (((rd_T33 l0 x5_2).f0) != 2) = true := bne_iff_ne.mpr c27
           by_cases c29 : ((rd_T33 l0 x5_2).f0) = 3
           ·rw [if_pos c29] at H
            have c29b0 : (((rd_T33 l0 x5_2).f0) == 3) = true := beq_iff_eq.mpr c29
            have c29b1 : (((rd_T33 l0 x5_2).f0) != 3) = false := bne_eq_false_iff_eq.mpr c29
            clear c29
            by_cases c30 : (((rd_T33 l0 x5_2).f1.f0) == 0 && (((rd_T33 l0 x5_2).f1.f1) == 0)) = true
            ·rw [if_pos c30] at H
             have c30b0 : (((rd_T33 l0 x5_2).f1.f0) == 0 && (((rd_T33 l0 x5_2).f1.f1) == 0)) = true := c30
             (try (have c30b1 : decide (((rd_T33 l0 x5_2).f1.f0) = 0 && (((rd_T33 l0 x5_2).f1.f1) == 0)) = true := by simpa using c30))
             (try (have c30b2 : (((rd_T33 l0 x5_2).f1.f0) == 0 && (((rd_T33 l0 x5_2).f1.f1) == 0)) = true := by simpa using c30))
             clear c30
             have H' := z0 H
             clear H
             obtain ⟨hcz31_0, hcz31_1, hcz31_2, hcz31_3, hcz31_4, hcz31_5, hcz31_6, hcz31_7, hcz31_8, hcz31_9, hfz31_0, hfz31_1, hfz31_2, hfz31_3, hfz31_4, hfz31_5, hfz31_6, hfz31_7, hfz31_8, hfz31_9⟩ := cel10 BK121.out
             go_wp2
             go_meet
             case rel => exact ⟨_, (((((rd_T33 l0 x5_2).f4).length : Int) == 0)), rfy, H', ⟨by have := HJ2.out; have := HK2.out; first | omega | exact Nat.le_refl _⟩, ⟨by (with_reducible repeat (first | refine blk_drewN ?_ _ | refine blk_drew ?_ | refine blk_alloc ?_ _)); refine blk_put (cs := #[.int .i64 ((rd_T33 l0 x5_2).f0), .int .i64 ((rd_T33 l0 x5_2).f1.f0), .int .i64 ((rd_T33 l0 x5_2).f1.f1), .int .i64 ((rd_T33 l0 x5_2).f2.f0), .int .i64 ((rd_T33 l0 x5_2).f2.f1), .int .i64 ((rd_T33 l0 x5_2).f2.f2.f0), .int .i64 ((rd_T33 l0 x5_2).f2.f2.f1), .slice A120_7 ((rd_T33 l0 x5_2).f2.f3).length c120_7, .slice A120_8 ((rd_T33 l0 x5_2).f3).length c120_8, .slice none 0 0]) ?_ 9 _ rfl; (with_reducible repeat (first | refine blk_drewN ?_ _ | refine blk_drew ?_ | refine blk_alloc ?_ _)); refine blk_put (cs := #[.int .i64 ((rd_T33 l0 x5_2).f0), .int .i64 ((rd_T33 l0 x5_2).f1.f0), .int .i64 ((rd_T33 l0 x5_2).f1.f1), .int .i64 ((rd_T33 l0 x5_2).f2.f0), .int .i64 ((rd_T33 l0 x5_2).f2.f1), .int .i64 ((rd_T33 l0 x5_2).f2.f2.f0), .int .i64 ((rd_T33 l0 x5_2).f2.f2.f1), .slice A120_7 ((rd_T33 l0 x5_2).f2.f3).length c120_7, .slice none 0 0, .slice none 0 0]) ?_ 8 _ rfl; (with_reducible repeat (first | refine blk_drewN ?_ _ | refine blk_drew ?_ | refine blk_alloc ?_ _)); refine blk_put (cs := #[.int .i64 ((rd_T33 l0 x5_2).f0), .int .i64 ((rd_T33 l0 x5_2).f1.f0), .int .i64 ((rd_T33 l0 x5_2).f1.f1), .int .i64 ((rd_T33 l0 x5_2).f2.f0), .int .i64 ((rd_T33 l0 x5_2).f2.f1), .int .i64 ((rd_T33 l0 x5_2).f2.f2.f0), .int .i64 ((rd_T33 l0 x5_2).f2.f2.f1), .slice none 0 0, .slice none 0 0, .slice none 0 0]) ?_ 7 _ rfl; (with_reducible repeat (first | refine blk_drewN ?_ _ | refine blk_drew ?_ | refine blk_alloc ?_ _)); refine blk_put (cs := #[.int .i64 ((rd_T33 l0 x5_2).f0), .int .i64 ((rd_T33 l0 x5_2).f1.f0), .int .i64 ((rd_T33 l0 x5_2).f1.f1), .int .i64 ((rd_T33 l0 x5_2).f2.f0), .int .i64 ((rd_T33 l0 x5_2).f2.f1), .int .i64 ((rd_T33 l0 x5_2).f2.f2.f0), .int .i64 0, .slice none 0 0, .slice none 0 0, .slice none 0 0]) ?_ 6 _ rfl; (with_reducible repeat (first | refine blk_drewN ?_ _ | refine blk_drew ?_ | refine blk_alloc ?_ _)); refine blk_put (cs := #[.int .i64 ((rd_T33 l0 x5_2).f0), .int .i64 ((rd_T33 l0 x5_2).f1.f0), .int .i64 ((rd_T33 l0 x5_2).f1.f1), .int .i64 ((rd_T33 l0 x5_2).f2.f0), .int .i64 ((rd_T33 l0 x5_2).f2.f1), .int .i64 0, .int .i64 0, .slice none 0 0, .slice none 0 0, .slice none 0 0]) ?_ 5 _ rfl; (with_reducible repeat (first | refine blk_drewN ?_ _ | refine blk_drew ?_ | refine blk_alloc ?_ _)); refine blk_put (cs := #[.int .i64 ((rd_T33 l0 x5_2).f0), .int .i64 ((rd_T33 l0 x5_2).f1.f0), .int .i64 ((rd_T33 l0 x5_2).f1.f1), .int .i64 ((rd_T33 l0 x5_2).f2.f0), .int .i64 0, .int .i64 0, .int .i64 0, .slice none 0 0, .slice none 0 0, .slice none 0 0]) ?_ 4 _ rfl; (with_reducible repeat (first | refine blk_drewN ?_ _ | refine blk_drew ?_ | refine blk_alloc ?_ _)); refine blk_put (cs := #[.int .i64 ((rd_T33 l0 x5_2).f0), .int .i64 ((rd_T33 l0 x5_2).f1.f0), .int .i64 ((rd_T33 l0 x5_2).f1.f1), .int .i64 0, .int .i64 0, .int .i64 0, .int .i64 0, .slice none 0 0, .slice none 0 0, .slice none 0 0]) ?_ 3 _ rfl; (with_reducible repeat (first | refine blk_drewN ?_ _ | refine blk_drew ?_ | refine blk_alloc ?_ _)); refine blk_put (cs := #[.int .i64 ((rd_T33 l0 x5_2).f0), .int .i64 ((rd_T33 l0 x5_2).f1.f0), .int .i64 0, .int .i64 0, .int .i64 0, .int .i64 0, .int .i64 0, .slice none 0 0, .slice none 0 0, .slice none 0 0]) ?_ 2 _ rfl; (with_reducible repeat (first | refine blk_drewN ?_ _ | refine blk_drew ?_ | refine blk_alloc ?_ _)); refine blk_put (cs := #[.int .i64 ((rd_T33 l0 x5_2).f0), .int .i64 0, .int .i64 0, .int .i64 0, .int .i64 0, .int .i64 0, .int .i64 0, .slice none 0 0, .slice none 0 0, .slice none 0 0]) ?_ 1 _ rfl; (with_reducible repeat (first | refine blk_drewN ?_ _ | refine blk_drew ?_ | refine blk_alloc ?_ _)); refine blk_put (cs := #[.int .i64 0, .int .i64 0, .int .i64 0, .int .i64 0, .int .i64 0, .int .i64 0, .int .i64 0, .slice none 0 0, .slice none 0 0, .slice none 0 0]) ?_ 0 _ rfl; (with_reducible repeat (first | refine blk_drewN ?_ _ | refine blk_drew ?_ | refine blk_alloc ?_ _)); exact BK121.out⟩, ⟨mB HB.out⟩⟩
            ·rw [if_neg c30] at H
             have c30b0 : (((rd_T33 l0 x5_2).f1.f0) == 0 && (((rd_T33 l0 x5_2).f1.f1) == 0)) = false := by simpa using c30
             (try (have c30b1 : decide (((rd_T33 l0 x5_2).f1.f0) = 0 && (((rd_T33 l0 x5_2).f1.f1) == 0)) = false := by simpa using c30))
             (try (have c30b2 : (((rd_T33 l0 x5_2).f1.f0) == 0 && (((rd_T33 l0 x5_2).f1.f1) == 0)) = false := by simpa using c30))
             (try (have c30b3 : ¬ (((rd_T33 l0 x5_2).f1.f0) = 0 && (((rd_T33 l0 x5_2).f1.f1) == 0)) := by simpa using c30))
             clear c30
             have H' := z0 H
             clear H
             obtain ⟨hcz32_0, hcz32_1, hcz32_2, hcz32_3, hcz32_4, hcz32_5, hcz32_6, hcz32_7, hcz32_8, hcz32_9, hfz32_0, hfz32_1, hfz32_2, hfz32_3, hfz32_4, hfz32_5, hfz32_6, hfz32_7, hfz32_8, hfz32_9⟩ := cel10 BK121.out
             go_wp2
             go_meet
             case rel => exact ⟨_, (false), rfy, H', ⟨by have := HJ2.out; have := HK2.out; first | omega | exact Nat.le_refl _⟩, ⟨by (with_reducible repeat (first | refine blk_drewN ?_ _ | refine blk_drew ?_ | refine blk_alloc ?_ _)); refine blk_put (cs := #[.int .i64 ((rd_T33 l0 x5_2).f0), .int .i64 ((rd_T33 l0 x5_2).f1.f0), .int .i64 ((rd_T33 l0 x5_2).f1.f1), .int .i64 ((rd_T33 l0 x5_2).f2.f0), .int .i64 ((rd_T33 l0 x5_2).f2.f1), .int .i64 ((rd_T33 l0 x5_2).f2.f2.f0), .int .i64 ((rd_T33 l0 x5_2).f2.f2.f1), .slice A120_7 ((rd_T33 l0 x5_2).f2.f3).length c120_7, .slice A120_8 ((rd_T33 l0 x5_2).f3).length c120_8, .slice none 0 0]) ?_ 9 _ rfl; (with_reducible repeat (first | refine blk_drewN ?_ _ | refine blk_drew ?_ | refine blk_alloc ?_ _)); refine blk_put (cs := #[.int .i64 ((rd_T33 l0 x5_2).f0), .int .i64 ((rd_T33 l0 x5_2).f1.f0), .int .i64 ((rd_T33 l0 x5_2).f1.f1), .int .i64 ((rd_T33 l0 x5_2).f2.f0), .int .i64 ((rd_T33 l0 x5_2).f2.f1), .int .i64 ((rd_T33 l0 x5_2).f2.f2.f0), .int .i64 ((rd_T33 l0 x5_2).f2.f2.f1), .slice A120_7 ((rd_T33 l0 x5_2).f2.f3).length c120_7, .slice none 0 0, .slice none 0 0]) ?_ 8 _ rfl; (with_reducible repeat (first | refine blk_drewN ?_ _ | refine blk_drew ?_ | refine blk_alloc ?_ _)); refine blk_put (cs := #[.int .i64 ((rd_T33 l0 x5_2).f0), .int .i64 ((rd_T33 l0 x5_2).f1.f0), .int .i64 ((rd_T33 l0 x5_2).f1.f1), .int .i64 ((rd_T33 l0 x5_2).f2.f0), .int .i64 ((rd_T33 l0 x5_2).f2.f1), .int .i64 ((rd_T33 l0 x5_2).f2.f2.f0), .int .i64 ((rd_T33 l0 x5_2).f2.f2.f1), .slice none 0 0, .slice none 0 0, .slice none 0 0]) ?_ 7 _ rfl; (with_reducible repeat (first | refine blk_drewN ?_ _ | refine blk_drew ?_ | refine blk_alloc ?_ _)); refine blk_put (cs := #[.int .i64 ((rd_T33 l0 x5_2).f0), .int .i64 ((rd_T33 l0 x5_2).f1.f0), .int .i64 ((rd_T33 l0 x5_2).f1.f1), .int .i64 ((rd_T33 l0 x5_2).f2.f0), .int .i64 ((rd_T33 l0 x5_2).f2.f1), .int .i64 ((rd_T33 l0 x5_2).f2.f2.f0), .int .i64 0, .slice none 0 0, .slice none 0 0, .slice none 0 0]) ?_ 6 _ rfl; (with_reducible repeat (first | refine blk_drewN ?_ _ | refine blk_drew ?_ | refine blk_alloc ?_ _)); refine blk_put (cs := #[.int .i64 ((rd_T33 l0 x5_2).f0), .int .i64 ((rd_T33 l0 x5_2).f1.f0), .int .i64 ((rd_T33 l0 x5_2).f1.f1), .int .i64 ((rd_T33 l0 x5_2).f2.f0), .int .i64 ((rd_T33 l0 x5_2).f2.f1), .int .i64 0, .int .i64 0, .slice none 0 0, .slice none 0 0, .slice none 0 0]) ?_ 5 _ rfl; (with_reducible repeat (first | refine blk_drewN ?_ _ | refine blk_drew ?_ | refine blk_alloc ?_ _)); refine blk_put (cs := #[.int .i64 ((rd_T33 l0 x5_2).f0), .int .i64 ((rd_T33 l0 x5_2).f1.f0), .int .i64 ((rd_T33 l0 x5_2).f1.f1), .int .i64 ((rd_T33 l0 x5_2).f2.f0), .int .i64 0, .int .i64 0, .int .i64 0, .slice none 0 0, .slice none 0 0, .slice none 0 0]) ?_ 4 _ rfl; (with_reducible repeat (first | refine blk_drewN ?_ _ | refine blk_drew ?_ | refine blk_alloc ?_ _)); refine blk_put (cs := #[.int .i64 ((rd_T33 l0 x5_2).f0), .int .i64 ((rd_T33 l0 x5_2).f1.f0), .int .i64 ((rd_T33 l0 x5_2).f1.f1), .int .i64 0, .int .i64 0, .int .i64 0, .int .i64 0, .slice none 0 0, .slice none 0 0, .slice none 0 0]) ?_ 3 _ rfl; (with_reducible repeat (first | refine blk_drewN ?_ _ | refine blk_drew ?_ | refine blk_alloc ?_ _)); refine blk_put (cs := #[.int .i64 ((rd_T33 l0 x5_2).f0), .int .i64 ((rd_T33 l0 x5_2).f1.f0), .int .i64 0, .int .i64 0, .int .i64 0, .int .i64 0, .int .i64 0, .slice none 0 0, .slice none 0 0, .slice none 0 0]) ?_ 2 _ rfl; (with_reducible repeat (first | refine blk_drewN ?_ _ | refine blk_drew ?_ | refine blk_alloc ?_ _)); refine blk_put (cs := #[.int .i64 ((rd_T33 l0 x5_2).f0), .int .i64 0, .int .i64 0, .int .i64 0, .int .i64 0, .int .i64 0, .int .i64 0, .slice none 0 0, .slice none 0 0, .slice none 0 0]) ?_ 1 _ rfl; (with_reducible repeat (first | refine blk_drewN ?_ _ | refine blk_drew ?_ | refine blk_alloc ?_ _)); refine blk_put (cs := #[.int .i64 0, .int .i64 0, .int .i64 0, .int .i64 0, .int .i64 0, .int .i64 0, .int .i64 0, .slice none 0 0, .slice none 0 0, .slice none 0 0]) ?_ 0 _ rfl; (with_reducible repeat (first | refine blk_drewN ?_ _ | refine blk_drew ?_ | refine blk_alloc ?_ _)); exact BK121.out⟩, ⟨mB HB.out⟩⟩
           ·rw [if_neg c29] at H
            have c29b0 : (((rd_T33 l0 x5_2).f0) == 3) = false := beq_eq_false_iff_ne.mpr c29
            have c29b1 : (((rd_T33 l0 x5_2).f0) != 3) = true := bne_iff_ne.mpr c29
            have H' := z0 H
            clear H
            go_wp2
            go_meet
            case rel => exact ⟨_, (false), rfy, H', ⟨by have := HJ2.out; have := HK2.out; first | omega | exact Nat.le_refl _⟩, ⟨by (with_reducible repeat (first | refine blk_drewN ?_ _ | refine blk_drew ?_ | refine blk_alloc ?_ _)); refine blk_put (cs := #[.int .i64 ((rd_T33 l0 x5_2).f0), .int .i64 ((rd_T33 l0 x5_2).f1.f0), .int .i64 ((rd_T33 l0 x5_2).f1.f1), .int .i64 ((rd_T33 l0 x5_2).f2.f0), .int .i64 ((rd_T33 l0 x5_2).f2.f1), .int .i64 ((rd_T33 l0 x5_2).f2.f2.f0), .int .i64 ((rd_T33 l0 x5_2).f2.f2.f1), .slice A120_7 ((rd_T33 l0 x5_2).f2.f3).length c120_7, .slice A120_8 ((rd_T33 l0 x5_2).f3).length c120_8, .slice none 0 0]) ?_ 9 _ rfl; (with_reducible repeat (first | refine blk_drewN ?_ _ | refine blk_drew ?_ | refine blk_alloc ?_ _)); refine blk_put (cs := #[.int .i64 ((rd_T33 l0 x5_2).f0), .int .i64 ((rd_T33 l0 x5_2).f1.f0), .int .i64 ((rd_T33 l0 x5_2).f1.f1), .int .i64 ((rd_T33 l0 x5_2).f2.f0), .int .i64 ((rd_T33 l0 x5_2).f2.f1), .int .i64 ((rd_T33 l0 x5_2).f2.f2.f0), .int .i64 ((rd_T33 l0 x5_2).f2.f2.f1), .slice A120_7 ((rd_T33 l0 x5_2).f2.f3).length c120_7, .slice none 0 0, .slice none 0 0]) ?_ 8 _ rfl; (with_reducible repeat (first | refine blk_drewN ?_ _ | refine blk_drew ?_ | refine blk_alloc ?_ _)); refine blk_put (cs := #[.int .i64 ((rd_T33 l0 x5_2).f0), .int .i64 ((rd_T33 l0 x5_2).f1.f0), .int .i64 ((rd_T33 l0 x5_2).f1.f1), .int .i64 ((rd_T33 l0 x5_2).f2.f0), .int .i64 ((rd_T33 l0 x5_2).f2.f1), .int .i64 ((rd_T33 l0 x5_2).f2.f2.f0), .int .i64 ((rd_T33 l0 x5_2).f2.f2.f1), .slice none 0 0, .slice none 0 0, .slice none 0 0]) ?_ 7 _ rfl; (with_reducible repeat (first | refine blk_drewN ?_ _ | refine blk_drew ?_ | refine blk_alloc ?_ _)); refine blk_put (cs := #[.int .i64 ((rd_T33 l0 x5_2).f0), .int .i64 ((rd_T33 l0 x5_2).f1.f0), .int .i64 ((rd_T33 l0 x5_2).f1.f1), .int .i64 ((rd_T33 l0 x5_2).f2.f0), .int .i64 ((rd_T33 l0 x5_2).f2.f1), .int .i64 ((rd_T33 l0 x5_2).f2.f2.f0), .int .i64 0, .slice none 0 0, .slice none 0 0, .slice none 0 0]) ?_ 6 _ rfl; (with_reducible repeat (first | refine blk_drewN ?_ _ | refine blk_drew ?_ | refine blk_alloc ?_ _)); refine blk_put (cs := #[.int .i64 ((rd_T33 l0 x5_2).f0), .int .i64 ((rd_T33 l0 x5_2).f1.f0), .int .i64 ((rd_T33 l0 x5_2).f1.f1), .int .i64 ((rd_T33 l0 x5_2).f2.f0), .int .i64 ((rd_T33 l0 x5_2).f2.f1), .int .i64 0, .int .i64 0, .slice none 0 0, .slice none 0 0, .slice none 0 0]) ?_ 5 _ rfl; (with_reducible repeat (first | refine blk_drewN ?_ _ | refine blk_drew ?_ | refine blk_alloc ?_ _)); refine blk_put (cs := #[.int .i64 ((rd_T33 l0 x5_2).f0), .int .i64 ((rd_T33 l0 x5_2).f1.f0), .int .i64 ((rd_T33 l0 x5_2).f1.f1), .int .i64 ((rd_T33 l0 x5_2).f2.f0), .int .i64 0, .int .i64 0, .int .i64 0, .slice none 0 0, .slice none 0 0, .slice none 0 0]) ?_ 4 _ rfl; (with_reducible repeat (first | refine blk_drewN ?_ _ | refine blk_drew ?_ | refine blk_alloc ?_ _)); refine blk_put (cs := #[.int .i64 ((rd_T33 l0 x5_2).f0), .int .i64 ((rd_T33 l0 x5_2).f1.f0), .int .i64 ((rd_T33 l0 x5_2).f1.f1), .int .i64 0, .int .i64 0, .int .i64 0, .int .i64 0, .slice none 0 0, .slice none 0 0, .slice none 0 0]) ?_ 3 _ rfl; (with_reducible repeat (first | refine blk_drewN ?_ _ | refine blk_drew ?_ | refine blk_alloc ?_ _)); refine blk_put (cs := #[.int .i64 ((rd_T33 l0 x5_2).f0), .int .i64 ((rd_T33 l0 x5_2).f1.f0), .int .i64 0, .int .i64 0, .int .i64 0, .int .i64 0, .int .i64 0, .slice none 0 0, .slice none 0 0, .slice none 0 0]) ?_ 2 _ rfl; (with_reducible repeat (first | refine blk_drewN ?_ _ | refine blk_drew ?_ | refine blk_alloc ?_ _)); refine blk_put (cs := #[.int .i64 ((rd_T33 l0 x5_2).f0), .int .i64 0, .int .i64 0, .int .i64 0, .int .i64 0, .int .i64 0, .int .i64 0, .slice none 0 0, .slice none 0 0, .slice none 0 0]) ?_ 1 _ rfl; (with_reducible repeat (first | refine blk_drewN ?_ _ | refine blk_drew ?_ | refine blk_alloc ?_ _)); refine blk_put (cs := #[.int .i64 0, .int .i64 0, .int .i64 0, .int .i64 0, .int .i64 0, .int .i64 0, .int .i64 0, .slice none 0 0, .slice none 0 0, .slice none 0 0]) ?_ 0 _ rfl; (with_reducible repeat (first | refine blk_drewN ?_ _ | refine blk_drew ?_ | refine blk_alloc ?_ _)); exact BK121.out⟩, ⟨mB HB.out⟩⟩
        case rest =>
         clear HC8
         (try clear c5); (try clear c6); (try clear c6b0); (try clear c7); (try clear c7b0); (try clear hcz10_0); (try clear hcz10_1); (try clear hcz10_2); (try clear hcz10_3); (try clear hcz10_4); (try clear hcz10_5); (try clear hcz10_6); (try clear hcz10_7); (try clear hcz10_8); (try clear hcz10_9); (try clear hfz10_0); (try clear hfz10_1); (try clear hfz10_2); (try clear hfz10_3); (try clear hfz10_4); (try clear hfz10_5); (try clear hfz10_6); (try clear hfz10_7); (try clear hfz10_8); (try clear hfz10_9); (try clear hx120_0); (try clear hx120_1); (try clear hx120_2); (try clear hx120_3); (try clear hx120_4); (try clear hx120_5); (try clear hx120_6); (try clear hx120_7); (try clear hx120_8); (try clear hx120_9); (try clear p120); (try clear q120)
         obtain ⟨kq, x7_7, rfl, HA, HJ7, BK121, HB⟩ := hcut
         cases kq with
         | zero => exact absurd HA.out (by simp [spec_l4Form.j2])
         | succ kj7 =>
          have H := HA.out
          clear HA
          simp only [spec_l4Form.j2] at H
          by_cases c33 : x7_7 = true
          ·subst c33
           have H1 : ((spec_ExprOk.f kj7 ((rd_T33 l0 x5_2).f2.f0) ((rd_T33 l0 x5_2).f2.f1) ((rd_T33 l0 x5_2).f2.f2.f0) ((rd_T33 l0 x5_2).f2.f2.f1) ((rd_T33 l0 x5_2).f2.f3)).bind fun t123 => (if t123 = true then ((spec_l4Form.f kj7 ((rd_T33 l0 x5_2).f3) (wrap64 (a1 - 1))).bind fun t124 => (if t124 = true then ((spec_l4Form.f kj7 ((rd_T33 l0 x5_2).f4) (wrap64 (a1 - 1))).bind fun t125 => (if t125 = true then (spec_l4Form.l0 kj7 l0 a1 (wrap64 (x5_2 + 1))) else (some false))) else (some false))) else (some false))) = some r := by rw [if_pos rfl] at H; exact H
           clear H
           have H := H1
           clear H1
           replace H := Option.bind_eq_some_iff.mp H
           obtain ⟨t123, A340, H⟩ := H
           try dsimp only at H
           have A34 := z0 A340
           clear A340
           by_cases c35 : t123 = true
           ·subst c35
            have H1 : ((spec_l4Form.f kj7 ((rd_T33 l0 x5_2).f3) (wrap64 (a1 - 1))).bind fun t124 => (if t124 = true then ((spec_l4Form.f kj7 ((rd_T33 l0 x5_2).f4) (wrap64 (a1 - 1))).bind fun t125 => (if t125 = true then (spec_l4Form.l0 kj7 l0 a1 (wrap64 (x5_2 + 1))) else (some false))) else (some false))) = some r := by rw [if_pos rfl] at H; exact H
            clear H
            have H := H1
            clear H1
            replace H := Option.bind_eq_some_iff.mp H
            obtain ⟨t124, A360, H⟩ := H
            try dsimp only at H
            have A36 := z0 A360
            clear A360
            by_cases c37 : t124 = true
            ·subst c37
             have H1 : ((spec_l4Form.f kj7 ((rd_T33 l0 x5_2).f4) (wrap64 (a1 - 1))).bind fun t125 => (if t125 = true then (spec_l4Form.l0 kj7 l0 a1 (wrap64 (x5_2 + 1))) else (some false))) = some r := by rw [if_pos rfl] at H; exact H
             clear H
             have H := H1
             clear H1
             replace H := Option.bind_eq_some_iff.mp H
             obtain ⟨t125, A380, H⟩ := H
             try dsimp only at H
             have A38 := z0 A380
             clear A380
             have HF39 := z0 H
             clear H
             obtain ⟨hcz40_0, hcz40_1, hcz40_2, hcz40_3, hcz40_4, hcz40_5, hcz40_6, hcz40_7, hcz40_8, hcz40_9, hfz40_0, hfz40_1, hfz40_2, hfz40_3, hfz40_4, hfz40_5, hfz40_6, hfz40_7, hfz40_8, hfz40_9⟩ := cel10 BK121.out
             go_upto_if 91 with (first | (go_at_call 27; (with_reducible refine (spec_ExprOk.calls kj7 ((rd_T33 l0 x5_2).f2.f0) ((rd_T33 l0 x5_2).f2.f1) ((rd_T33 l0 x5_2).f2.f2.f0) ((rd_T33 l0 x5_2).f2.f2.f1) _ _ ((rd_T33 l0 x5_2).f2.f3) true _ ?side1 ?side2 A34.out).mono ?_); (case side1 => exact mC (Kd.C_below HR120_7.out HB.out)); (case side2 => exact HC120_7.out); rintro e w41 ⟨rfl, hb⟩; have n_ := az (bB BK121.out hb) <| z0 (below_step (mB HB.out) hb); clear BK121 HB; obtain ⟨BK121, HB⟩ := n_; clear hb; obtain ⟨hcz42_0, hcz42_1, hcz42_2, hcz42_3, hcz42_4, hcz42_5, hcz42_6, hcz42_7, hcz42_8, hcz42_9, hfz42_0, hfz42_1, hfz42_2, hfz42_3, hfz42_4, hfz42_5, hfz42_6, hfz42_7, hfz42_8, hfz42_9⟩ := cel10 BK121.out) | (go_at_call 14; (with_reducible refine (ih kj7 (by have := HJ2.out; have := HK2.out; have := HJ7.out; omega) _ _ ((rd_T33 l0 x5_2).f3) (wrap64 (a1 - 1)) true _ ?side1 ?side2 A36.out).mono ?_); (case side1 => exact mC (Kd.C_below HR120_8.out HB.out)); (case side2 => exact HC120_8.out); rintro e w43 ⟨rfl, hb⟩; have n_ := az (bB BK121.out hb) <| z0 (below_step (mB HB.out) hb); clear BK121 HB; obtain ⟨BK121, HB⟩ := n_; clear hb; obtain ⟨hcz44_0, hcz44_1, hcz44_2, hcz44_3, hcz44_4, hcz44_5, hcz44_6, hcz44_7, hcz44_8, hcz44_9, hfz44_0, hfz44_1, hfz44_2, hfz44_3, hfz44_4, hfz44_5, hfz44_6, hfz44_7, hfz44_8, hfz44_9⟩ := cel10 BK121.out) | (go_at_call 14; (with_reducible refine (ih kj7 (by have := HJ2.out; have := HK2.out; have := HJ7.out; omega) _ _ ((rd_T33 l0 x5_2).f4) (wrap64 (a1 - 1)) t125 _ ?side1 ?side2 A38.out).mono ?_); (case side1 => exact mC (Kd.C_below HR120_9.out HB.out)); (case side2 => exact HC120_9.out); rintro e w45 ⟨rfl, hb⟩; have n_ := az (bB BK121.out hb) <| z0 (below_step (mB HB.out) hb); clear BK121 HB; obtain ⟨BK121, HB⟩ := n_; clear hb))
             (try simp only [Act.put, List.setIfInBounds_toArray, List.set_cons_zero, List.set_cons_succ])
             have H := HF39.out
             clear HF39
             (try clear c5); (try clear c6); (try clear c6b0); (try clear c7); (try clear c7b0); (try clear c33); (try clear c35); (try clear c37); (try clear hcz10_0); (try clear hcz10_1); (try clear hcz10_2); (try clear hcz10_3); (try clear hcz10_4); (try clear hcz10_5); (try clear hcz10_6); (try clear hcz10_7); (try clear hcz10_8); (try clear hcz10_9); (try clear hcz40_0); (try clear hcz40_1); (try clear hcz40_2); (try clear hcz40_3); (try clear hcz40_4); (try clear hcz40_5); (try clear hcz40_6); (try clear hcz40_7); (try clear hcz40_8); (try clear hcz40_9); (try clear hcz42_0); (try clear hcz42_1); (try clear hcz42_2); (try clear hcz42_3); (try clear hcz42_4); (try clear hcz42_5); (try clear hcz42_6); (try clear hcz42_7); (try clear hcz42_8); (try clear hcz42_9); (try clear hcz44_0); (try clear hcz44_1); (try clear hcz44_2); (try clear hcz44_3); (try clear hcz44_4); (try clear hcz44_5); (try clear hcz44_6); (try clear hcz44_7); (try clear hcz44_8); (try clear hcz44_9); (try clear hfz10_0); (try clear hfz10_1); (try clear hfz10_2); (try clear hfz10_3); (try clear hfz10_4); (try clear hfz10_5); (try clear hfz10_6); (try clear hfz10_7); (try clear hfz10_8); (try clear hfz10_9); (try clear hfz40_0); (try clear hfz40_1); (try clear hfz40_2); (try clear hfz40_3); (try clear hfz40_4); (try clear hfz40_5); (try clear hfz40_6); (try clear hfz40_7); (try clear hfz40_8); (try clear hfz40_9); (try clear hfz42_0); (try clear hfz42_1); (try clear hfz42_2); (try clear hfz42_3); (try clear hfz42_4); (try clear hfz42_5); (try clear hfz42_6); (try clear hfz42_7); (try clear hfz42_8); (try clear hfz42_9); (try clear hfz44_0); (try clear hfz44_1); (try clear hfz44_2); (try clear hfz44_3); (try clear hfz44_4); (try clear hfz44_5); (try clear hfz44_6); (try clear hfz44_7); (try clear hfz44_8); (try clear hfz44_9); (try clear hx120_0); (try clear hx120_1); (try clear hx120_2); (try clear hx120_3); (try clear hx120_4); (try clear hx120_5); (try clear hx120_6); (try clear hx120_7); (try clear hx120_8); (try clear hx120_9); (try clear p120); (try clear q120)
             by_cases c46 : t125 = true
             ·subst c46
              have H1 : (spec_l4Form.l0 kj7 l0 a1 (wrap64 (x5_2 + 1))) = some r := by rw [if_pos rfl] at H; exact H
              clear H
              have H := H1
              clear H1
              have H' := z0 H
              clear H
              go_wp2
              go_roundg kj7
              case measure => have := HJ2.out; have := HK2.out; have := HJ7.out; omega
              case rel => exact ⟨(wrap64 (x5_2 + 1)), rfy, H', ⟨by have := HJ2.out; have := HK2.out; have := HJ7.out; omega⟩, ⟨mB HB.out⟩⟩
             ·replace c46 := Bool.eq_false_iff.mpr c46
              subst c46
              have H1 : (some false) = some r := by rw [if_neg (show ¬ (false = true) by decide)] at H; exact H
              clear H
              have H := H1
              clear H1
              obtain rfl := Option.some.inj H
              go_wp2
              go_ret
              exact ⟨rfx, mB HB.out⟩
            ·replace c37 := Bool.eq_false_iff.mpr c37
             subst c37
             have H1 : (some false) = some r := by rw [if_neg (show ¬ (false = true) by decide)] at H; exact H
             clear H
             have H := H1
             clear H1
             obtain rfl := Option.some.inj H
             obtain ⟨hcz47_0, hcz47_1, hcz47_2, hcz47_3, hcz47_4, hcz47_5, hcz47_6, hcz47_7, hcz47_8, hcz47_9, hfz47_0, hfz47_1, hfz47_2, hfz47_3, hfz47_4, hfz47_5, hfz47_6, hfz47_7, hfz47_8, hfz47_9⟩ := cel10 BK121.out
             go_wp2_with (first | (go_at_call 27; (with_reducible refine (spec_ExprOk.calls kj7 ((rd_T33 l0 x5_2).f2.f0) ((rd_T33 l0 x5_2).f2.f1) ((rd_T33 l0 x5_2).f2.f2.f0) ((rd_T33 l0 x5_2).f2.f2.f1) _ _ ((rd_T33 l0 x5_2).f2.f3) true _ ?side1 ?side2 A34.out).mono ?_); (case side1 => exact mC (Kd.C_below HR120_7.out HB.out)); (case side2 => exact HC120_7.out); rintro e w48 ⟨rfl, hb⟩; have n_ := az (bB BK121.out hb) <| z0 (below_step (mB HB.out) hb); clear BK121 HB; obtain ⟨BK121, HB⟩ := n_; clear hb; obtain ⟨hcz49_0, hcz49_1, hcz49_2, hcz49_3, hcz49_4, hcz49_5, hcz49_6, hcz49_7, hcz49_8, hcz49_9, hfz49_0, hfz49_1, hfz49_2, hfz49_3, hfz49_4, hfz49_5, hfz49_6, hfz49_7, hfz49_8, hfz49_9⟩ := cel10 BK121.out) | (go_at_call 14; (with_reducible refine (ih kj7 (by have := HJ2.out; have := HK2.out; have := HJ7.out; omega) _ _ ((rd_T33 l0 x5_2).f3) (wrap64 (a1 - 1)) false _ ?side1 ?side2 A36.out).mono ?_); (case side1 => exact mC (Kd.C_below HR120_8.out HB.out)); (case side2 => exact HC120_8.out); rintro e w50 ⟨rfl, hb⟩; have n_ := az (bB BK121.out hb) <| z0 (below_step (mB HB.out) hb); clear BK121 HB; obtain ⟨BK121, HB⟩ := n_; clear hb))
             go_ret
             exact ⟨rfx, mB HB.out⟩
           ·replace c35 := Bool.eq_false_iff.mpr c35
            subst c35
            have H1 : (some false) = some r := by rw [if_neg (show ¬ (false = true) by decide)] at H; exact H
            clear H
            have H := H1
            clear H1
            obtain rfl := Option.some.inj H
            obtain ⟨hcz51_0, hcz51_1, hcz51_2, hcz51_3, hcz51_4, hcz51_5, hcz51_6, hcz51_7, hcz51_8, hcz51_9, hfz51_0, hfz51_1, hfz51_2, hfz51_3, hfz51_4, hfz51_5, hfz51_6, hfz51_7, hfz51_8, hfz51_9⟩ := cel10 BK121.out
            go_wp2_with (first | (go_at_call 27; (with_reducible refine (spec_ExprOk.calls kj7 ((rd_T33 l0 x5_2).f2.f0) ((rd_T33 l0 x5_2).f2.f1) ((rd_T33 l0 x5_2).f2.f2.f0) ((rd_T33 l0 x5_2).f2.f2.f1) _ _ ((rd_T33 l0 x5_2).f2.f3) false _ ?side1 ?side2 A34.out).mono ?_); (case side1 => exact mC (Kd.C_below HR120_7.out HB.out)); (case side2 => exact HC120_7.out); rintro e w52 ⟨rfl, hb⟩; have n_ := az (bB BK121.out hb) <| z0 (below_step (mB HB.out) hb); clear BK121 HB; obtain ⟨BK121, HB⟩ := n_; clear hb))
            go_ret
            exact ⟨rfx, mB HB.out⟩
          ·replace c33 := Bool.eq_false_iff.mpr c33
           subst c33
           have H1 : (some false) = some r := by rw [if_neg (show ¬ (false = true) by decide)] at H; exact H
           clear H
           have H := H1
           clear H1
           obtain rfl := Option.some.inj H
           go_wp2
           go_ret
           exact ⟨rfx, mB HB.out⟩
       ·rw [if_neg c7] at H
        exact absurd H (by simp)
      ·rw [if_neg c6] at H
       have c6b0 : decide (x5_2 < (l0.length : Int)) = false := decide_eq_false c6
       clear c6
       obtain rfl := Option.some.inj H
       go_wp2
       go_ret
       exact ⟨rfx, mB HB.out⟩

end Go.Proofs.YtbckpgipehjgmaaGreat.B
namespace Go.Proofs.YtbckpgipehjgmaaGreat.B
open Go.RowKit Go.Proofs.YtbckpgipehjgmaaGreatW.PrintWords Go.Proofs.YtbckpgipehjgmaaGreatW.PrintLast Go.Proofs.YtbckpgipehjgmaaGreatW.PrintMore
attribute [local go_sem] max2_int min2_int max_two min_two max_three min_three max_four min_four   -- for this text's walks alone
set_option linter.unusedVariables false
set_option linter.unusedSimpArgs false

/-! ### spec_StmtsOk: function 7 -/
def spec_StmtsOk.f (k : Nat) (l0 : List (S33)) : Option (Bool) := (spec_l4Many.f k l0 4).bind fun t126 => (if t126 ≤ 16 then ((spec_l4Form.f k l0 4).bind fun t127 => (some t127)) else (some false))
set_option maxHeartbeats 8000000 in
set_option maxRecDepth 100000 in
theorem spec_StmtsOk.calls (k : Nat) (A0 : Option Addr) (c0 : Nat) (l0 : List (S33)) (r : Bool) (w : World) (hr0 : Kd.C k33 w A0 l0.length l0) (hc0 : l0.length ≤ c0) (h : spec_StmtsOk.f k l0 = some r) :
  Calls Tryz.prog 7 #[.slice A0 l0.length c0] w fun e w' => e = .returned (.bool r) ∧ Below w.heap.size w w' := by
 have HR0 := z0 hr0
 have HC0 := z0 hc0
 clear hr0 hc0
 have HB := z0 (Below.refl w.heap.size w)
 have H : ((spec_l4Many.f k l0 4).bind fun t126 => (if t126 ≤ 16 then ((spec_l4Form.f k l0 4).bind fun t127 => (some t127)) else (some false))) = some r := h
 clear h
 replace H := Option.bind_eq_some_iff.mp H
 obtain ⟨t126, A20, H⟩ := H
 try dsimp only at H
 have A2 := z0 A20
 clear A20
 by_cases c3 : t126 ≤ 16
 ·rw [if_pos c3] at H
  have c3b0 : decide (t126 ≤ 16) = true := decide_eq_true c3
  clear c3
  replace H := Option.bind_eq_some_iff.mp H
  obtain ⟨t127, A40, H⟩ := H
  try dsimp only at H
  have A4 := z0 A40
  clear A40
  obtain rfl := Option.some.inj H
  go_enter Tryz.func7, Tryz.ntmps7
  go_wp2_with (first | ((with_reducible refine gate_callee (f := 13) rfl ?_); refine goesL_ (some 4) rfl rfl Tryz.func13 (by kernel_rfl) rfl #[.slice A0 l0.length c0, .int .i64 4] rfl argx ?_; (with_reducible refine (spec_l4Many.calls k _ _ l0 4 t126 _ ?side1 ?side2 A2.out).mono ?_); (case side1 => exact mC HR0.out); (case side2 => exact HC0.out); rintro e w5 ⟨rfl, hb⟩; refine ⟨_, rfl, ?_⟩; have n0_ := z0 (below_step (mB HB.out) hb); clear HB; have HB := n0_; clear n0_; (try clear hb); (try clear hb2); (try clear hk); (try clear hi)) | (go_at_call 14; (with_reducible refine (spec_l4Form.calls k _ _ l0 4 t127 _ ?side1 ?side2 A4.out).mono ?_); (case side1 => exact mC (Kd.C_below HR0.out HB.out)); (case side2 => exact HC0.out); rintro e w6 ⟨rfl, hb⟩; have n0_ := z0 (below_step (mB HB.out) hb); clear HB; have HB := n0_; clear n0_; (try clear hb); (try clear hb2); (try clear hk); (try clear hi)))
  go_ret
  exact ⟨rfx, mB HB.out⟩
 ·rw [if_neg c3] at H
  have c3b0 : decide (t126 ≤ 16) = false := decide_eq_false c3
  clear c3
  obtain rfl := Option.some.inj H
  go_enter Tryz.func7, Tryz.ntmps7
  go_wp2_with (first | ((with_reducible refine gate_callee (f := 13) rfl ?_); refine goesL_ (some 4) rfl rfl Tryz.func13 (by kernel_rfl) rfl #[.slice A0 l0.length c0, .int .i64 4] rfl argx ?_; (with_reducible refine (spec_l4Many.calls k _ _ l0 4 t126 _ ?side1 ?side2 A2.out).mono ?_); (case side1 => exact mC HR0.out); (case side2 => exact HC0.out); rintro e w7 ⟨rfl, hb⟩; refine ⟨_, rfl, ?_⟩; have n0_ := z0 (below_step (mB HB.out) hb); clear HB; have HB := n0_; clear n0_; (try clear hb); (try clear hb2); (try clear hk); (try clear hi)))
  go_ret
  exact ⟨rfx, mB HB.out⟩

/-- A state of type 53 at block g of W; what its slices lead to came in by w0. -/
def IsS53 (w0 W : World) (g : Nat) (f0 : List Int) (f1 : Int) : Prop := ∃ A0 c0, W.heap[g]? = some (.cells #[.slice A0 f0.length c0, .int .i64 f1] 53 (0, 0)) ∧ w0.heap.size ≤ g ∧ Kd.C (Kd.int .u8) w0 A0 f0.length f0
theorem IsS53.grown {w0 W : World} {g : Nat} {f0 : List Int} {f1 : Int} {W1 : World} {row : Option Nat} (h : IsS53 w0 W g f0 f1) (hw : W.grownBy W1 row) (hne : some g ≠ row) : IsS53 w0 W1 g f0 f1 := by
  obtain ⟨A0, c0, hb, hg, hr0⟩ := h
  exact ⟨A0, c0, blk_grown hb hw hne, hg, hr0⟩
theorem IsS53.own_neN {w0 W : World} {g : Nat} {f0 : List Int} {f1 : Int} {α : Type} {d : Kd α} {e : Nat} {base : Nat} {ok : Nat → Prop} {v : Value} {xs : List α} (h : IsS53 w0 W g f0 f1) (ho : Kd.N d e W base ok v xs) (ht : e ≠ 53) : some g ≠ v.ownBlock := by
  obtain ⟨A0, c0, hb, hg, hr0⟩ := h
  exact Kd.N_ne ho hb ht
theorem IsS53.fresh {w0 W : World} {g : Nat} {f0 : List Int} {f1 : Int} (h : IsS53 w0 W g f0 f1) : ∀ k, W.heap.size ≤ k → k ≠ g := by
  obtain ⟨A0, c0, hb, hg, hr0⟩ := h
  exact Kd.freshB hb
theorem IsS53.kept {w0 W : World} {g : Nat} {f0 : List Int} {f1 : Int} {W1 : World} {S : Nat → Prop} (h : IsS53 w0 W g f0 f1) (hk : Kept W W1 S) (hne : ¬ S g) : IsS53 w0 W1 g f0 f1 := by
  obtain ⟨A0, c0, hb, hg, hr0⟩ := h
  exact ⟨A0, c0, blk_kept hb hk hne, hg, hr0⟩
theorem IsS53.below {w0 W : World} {g : Nat} {f0 : List Int} {f1 : Int} {W1 : World} (h : IsS53 w0 W g f0 f1) (hw : Below W.heap.size W W1) : IsS53 w0 W1 g f0 f1 := h.grown (grown_of_below hw none) (by simp)
theorem IsS53.alloc {w0 W : World} {g : Nat} {f0 : List Int} {f1 : Int} (h : IsS53 w0 W g f0 f1) (o : Obj) : IsS53 w0 (W.alloc o) g f0 f1 := h.below (below_alloc (Below.refl _ _) o)
theorem IsS53.drewN {w0 W : World} {g : Nat} {f0 : List Int} {f1 : Int} (h : IsS53 w0 W g f0 f1) (m : Nat) : IsS53 w0 (W.drewN m) g f0 f1 := h
theorem IsS53.drew {w0 W : World} {g : Nat} {f0 : List Int} {f1 : Int} (h : IsS53 w0 W g f0 f1) : IsS53 w0 W.drew g f0 f1 := h
theorem IsS53.at_ {w0 W : World} {g : Nat} {f0 : List Int} {f1 : Int} {w' : World} {m : Nat} (hq : W.drewN m = w') (h : IsS53 w0 W g f0 f1) : IsS53 w0 w' g f0 f1 := by subst hq; exact IsS53.drewN h m
theorem IsS53.apart {w0 W : World} {g : Nat} {f0 : List Int} {f1 : Int} {α : Type} {d : Kd α} {e : Nat} {base : Nat} {ok : Nat → Prop} {v : Value} {xs : List α} (h : IsS53 w0 W g f0 f1) (ho : d.R e W base ok v xs) (ht : ∀ q, q ∈ e :: d.E → q ≠ 53) : d.R e W base (fun k => ok k ∧ k ≠ g) v xs := by
  obtain ⟨A0, c0, hb, hg, hr0⟩ := h
  exact Kd.R_types ho hb ht
theorem IsS53.own_ne {w0 W : World} {g : Nat} {f0 : List Int} {f1 : Int} {α : Type} {d : Kd α} {e : Nat} {base : Nat} {ok : Nat → Prop} {v : Value} {xs : List α} (h : IsS53 w0 W g f0 f1) (ho : d.R e W base ok v xs) (ht : e ≠ 53) : some g ≠ v.ownBlock := by
  obtain ⟨A0, c0, hb, hg, hr0⟩ := h
  exact Kd.R_ne ho hb ht
theorem IsS53.lt {w0 W : World} {g : Nat} {f0 : List Int} {f1 : Int} (h : IsS53 w0 W g f0 f1) : g < W.heap.size := by
  obtain ⟨A0, c0, hb, hg, hr0⟩ := h
  exact blk_lt hb
theorem IsS53.ge {w0 W : World} {g : Nat} {f0 : List Int} {f1 : Int} (h : IsS53 w0 W g f0 f1) : w0.heap.size ≤ g := by
  obtain ⟨A0, c0, hb, hg, hr0⟩ := h
  exact hg
theorem IsS53.far {w0 W : World} {g : Nat} {f0 : List Int} {f1 : Int} {p : Addr} (h : IsS53 w0 W g f0 f1) (hne : g ≠ p.block) (u : Value) : IsS53 w0 (W.setCell p u) g f0 f1 := by
  obtain ⟨A0, c0, hb, hg, hr0⟩ := h
  exact ⟨A0, c0, blk_far hb hne u, hg, hr0⟩
theorem cellS53_0 {W : World} {g : Nat} {A0 : Option Addr} {c0 : Nat} {f0 : List Int} {f1 : Int} (h : W.heap[g]? = some (.cells #[.slice A0 f0.length c0, .int .i64 f1] 53 (0, 0))) : W.cell? ⟨g, 0, none⟩ = some (.slice A0 f0.length c0) := (blk_cell h 0).trans rfl
theorem cellS53_1 {W : World} {g : Nat} {A0 : Option Addr} {c0 : Nat} {f0 : List Int} {f1 : Int} (h : W.heap[g]? = some (.cells #[.slice A0 f0.length c0, .int .i64 f1] 53 (0, 0))) : W.cell? ⟨g, 1, none⟩ = some (.int .i64 f1) := (blk_cell h 1).trans rfl
theorem IsS53.set_1 {w0 W : World} {g : Nat} {f0 : List Int} {f1 : Int} (h : IsS53 w0 W g f0 f1) (x : Int) : IsS53 w0 (W.setCell ⟨g, 1, none⟩ (.int .i64 x)) g f0 x := by
  obtain ⟨A0, c0, hb, hg, hr0⟩ := h
  exact ⟨A0, c0, by simpa using blk_set hb 1 (.int .i64 x), hg, hr0⟩
theorem IsS53.new (w0 W : World) (A0 : Option Addr) (c0 : Nat) (f0 : List Int) (f1 : Int) (hB : Below w0.heap.size w0 W) (hr0 : Kd.C (Kd.int .u8) w0 A0 f0.length f0) : IsS53 w0 (W.alloc (.cells #[.slice A0 f0.length c0, .int .i64 f1] 53)) W.heap.size f0 f1 := ⟨A0, c0, by simpa using heap_alloc_new W _, hB.size, hr0⟩

/-! ### spec_l12Rd_pick: function 18 -/
def spec_l12Rd_pick.j0 : Nat → Int → Bool → List Int → Int → Option (Int × Int)
 | 0, _, _, _, _ => none
 | k + 1, x1, x24, x1000, x1001 => if x24 = true then (some (0, x1001)) else (if (wrap64 (x1001 - 1)) < (x1000.length : Int) then (if 0 ≤ (wrap64 (x1001 - 1)) then (if x1 = 0 then (none) else (some (Int.tmod (wrap64 (rd x1000 (wrap64 (x1001 - 1)))) x1, x1001))) else (none)) else (if (x1000.length : Int) = 0 then (none) else (if 0 ≤ (Int.tmod (wrap64 (x1001 - 1)) (x1000.length : Int)) then (if (Int.tmod (wrap64 (x1001 - 1)) (x1000.length : Int)) < (x1000.length : Int) then (if 0 ≤ (Int.tmod (wrap64 ((wrap64 ((wrap64 (x1001 - 1)) * 7)) + 3)) (x1000.length : Int)) then (if (Int.tmod (wrap64 ((wrap64 ((wrap64 (x1001 - 1)) * 7)) + 3)) (x1000.length : Int)) < (x1000.length : Int) then (if x1 = 0 then (none) else (some (Int.tmod (Go.bits .xor .i64 (wrap64 ((wrap64 ((wrap64 ((wrap64 ((wrap64 (rd x1000 (Int.tmod (wrap64 (x1001 - 1)) (x1000.length : Int)))) * 131)) + (wrap64 ((wrap64 (rd x1000 (Int.tmod (wrap64 ((wrap64 ((wrap64 (x1001 - 1)) * 7)) + 3)) (x1000.length : Int)))) * 1117)))) + (wrap64 ((wrap64 (x1001 - 1)) * 29)))) + (wrap64 ((wrap64 (Int.tdiv (wrap64 (x1001 - 1)) (x1000.length : Int))) * 53)))) (wrap64 (Int.tdiv (wrap64 ((wrap64 ((wrap64 ((wrap64 ((wrap64 (rd x1000 (Int.tmod (wrap64 (x1001 - 1)) (x1000.length : Int)))) * 131)) + (wrap64 ((wrap64 (rd x1000 (Int.tmod (wrap64 ((wrap64 ((wrap64 (x1001 - 1)) * 7)) + 3)) (x1000.length : Int)))) * 1117)))) + (wrap64 ((wrap64 (x1001 - 1)) * 29)))) + (wrap64 ((wrap64 (Int.tdiv (wrap64 (x1001 - 1)) (x1000.length : Int))) * 53)))) 64))) x1, x1001))) else (none)) else (none)) else (none)) else (none))))
def spec_l12Rd_pick.f (k : Nat) (s0_0 : List Int) (s0_1 : Int) (a1 : Int) : Option (Int × Int) := if a1 < 1 then (spec_l12Rd_pick.j0 k a1 true s0_0 (wrap64 (s0_1 + 1))) else (spec_l12Rd_pick.j0 k a1 ((s0_0.length : Int) == 0) s0_0 (wrap64 (s0_1 + 1)))
theorem spec_l12Rd_pick.mono_l : ∀ k, (∀ y0 y1 y2 y3, LeO (spec_l12Rd_pick.j0 k y0 y1 y2 y3) (spec_l12Rd_pick.j0 (k + 1) y0 y1 y2 y3))
 | 0 => fun _ _ _ _ r h => by simp [spec_l12Rd_pick.j0] at h
 | k + 1 => by
  have ih0 := spec_l12Rd_pick.mono_l k
  ·intro y0 y1 y2 y3
   unfold spec_l12Rd_pick.j0
   repeat' first
   | (with_reducible exact ih0 _ _ _ _)
   | (with_reducible exact LeO.refl _)
   | (with_reducible exact LeO.none _)
   | (with_reducible refine LeO.ite ?_ ?_)
   | (with_reducible refine LeO.bind ?_ (fun _ => ?_))
   | exact ih0 _ _ _ _
   | exact LeO.none _
   | refine LeO.ite ?_ ?_
   | refine LeO.bind ?_ (fun _ => ?_)
theorem spec_l12Rd_pick.mono : ∀ a0 a1 a2 k, LeO (spec_l12Rd_pick.f k a0 a1 a2) (spec_l12Rd_pick.f (k + 1) a0 a1 a2) := by
 intro a0 a1 a2 k
 have ih0 := spec_l12Rd_pick.mono_l k
 unfold spec_l12Rd_pick.f
 repeat' first
   | (with_reducible exact ih0 _ _ _ _)
   | (with_reducible exact LeO.refl _)
   | (with_reducible exact LeO.none _)
   | (with_reducible refine LeO.ite ?_ ?_)
   | (with_reducible refine LeO.bind ?_ (fun _ => ?_))
   | exact ih0 _ _ _ _
   | exact LeO.none _
   | refine LeO.ite ?_ ?_
   | refine LeO.bind ?_ (fun _ => ?_)
set_option maxHeartbeats 8000000 in
set_option maxRecDepth 100000 in
theorem spec_l12Rd_pick.calls (k : Nat) (g : Nat) (s0_0 : List Int) (s0_1 : Int) (a1 : Int) (r1 : Int) (r2 : Int) (w0 w : World) (hI : IsS53 w0 w g s0_0 s0_1) (hB : Below w0.heap.size w0 w) (h : spec_l12Rd_pick.f k s0_0 s0_1 a1 = some (r1, r2)) :
  Calls Tryz.prog 18 #[.pointer (some ⟨g, 0, none⟩), .int .i64 a1] w fun e w' => e = .returned (.int .i64 r1) ∧ IsS53 w0 w' g s0_0 r2 ∧ Below w0.heap.size w0 w' ∧ KeepBut w w' g none := by
 have HI0 := z0 hI
 have HK := z0 (KeepBut.refl w g none)
 have HL := z0 hB.size
 clear hI
 have HW0 := z0 hB.size
 have HB := z0 hB
 clear hB
 have H : (if a1 < 1 then (spec_l12Rd_pick.j0 k a1 true s0_0 (wrap64 (s0_1 + 1))) else (spec_l12Rd_pick.j0 k a1 ((s0_0.length : Int) == 0) s0_0 (wrap64 (s0_1 + 1)))) = some (r1, r2) := h
 clear h
 have HC3 := z0 H
 clear H
 obtain ⟨ASz4_0, cSz4_0, HGz4, hgz4, HSz4_0⟩ := HI0.out
 have hcz4_0 := cellS53_0 HGz4
 have hcz4_1 := cellS53_1 HGz4
 have hfz4_1 := blk_frozen HGz4 1
 clear HGz4 hgz4
 go_enter Tryz.func18, Tryz.ntmps18
 go_upto_region 2 with (fail)
 repeat (go_quiet (fail); go_upto_region 2 with (fail))
 go_cut [24] (fun v24 wc => ∃ (kq : Nat) (x24_2 : Bool), v24 = .bool x24_2 ∧ Aside0 (spec_l12Rd_pick.j0 kq a1 x24_2 s0_0 (wrap64 (s0_1 + 1)) = some (r1, r2)) ∧ Aside0 (kq ≤ k) ∧ Aside0 (IsS53 w0 wc g s0_0 (wrap64 (s0_1 + 1))) ∧ Aside0 (KeepBut w wc g none) ∧ Aside0 (Below w0.heap.size w0 wc))
 case first =>
  have H := HC3.out
  clear HC3
  by_cases c5 : a1 < 1
  ·rw [if_pos c5] at H
   have c5b0 : decide (a1 < 1) = true := decide_eq_true c5
   clear c5
   (first | rw [c5b0] | (simp only [i64_w, i32_w]; rw [c5b0]) | skip)
   have H' := z0 H
   clear H
   go_wp2
   repeat (go_quiet (fail); try go_wp2)
   go_meet
   case rel => exact ⟨_, (true), rfy, H', ⟨by first | omega | exact Nat.le_refl _⟩, ⟨mI53_1 HI0.out⟩, ⟨mKp HK.out⟩, ⟨mB53HI0 HB.out⟩⟩
  ·rw [if_neg c5] at H
   have c5b0 : decide (a1 < 1) = false := decide_eq_false c5
   clear c5
   (first | rw [c5b0] | (simp only [i64_w, i32_w]; rw [c5b0]) | skip)
   have H' := z0 H
   clear H
   obtain ⟨ASz6_0, cSz6_0, HGz6, hgz6, HSz6_0⟩ := HI0.out
   have hcz6_0 := cellS53_0 HGz6
   have hcz6_1 := cellS53_1 HGz6
   have hfz6_1 := blk_frozen HGz6 1
   clear HGz6 hgz6
   go_wp2
   repeat (go_quiet (fail); try go_wp2)
   go_meet
   case rel => exact ⟨_, (((s0_0.length : Int) == 0)), rfy, H', ⟨by first | omega | exact Nat.le_refl _⟩, ⟨mI53_1 HI0.out⟩, ⟨mKp HK.out⟩, ⟨mB53HI0 HB.out⟩⟩
 case rest =>
  clear HC3
  (try clear hcz4_0); (try clear hcz4_1); (try clear hfz4_1)
  obtain ⟨kq, x24_2, rfl, HA, HJ2, HI0, HK, HB⟩ := hcut
  cases kq with
  | zero => exact absurd HA.out (by simp [spec_l12Rd_pick.j0])
  | succ kj2 =>
   have H := HA.out
   clear HA
   simp only [spec_l12Rd_pick.j0] at H
   by_cases c7 : x24_2 = true
   ·subst c7
    have H1 : (some (0, (wrap64 (s0_1 + 1)))) = some (r1, r2) := by rw [if_pos rfl] at H; exact H
    clear H
    have H := H1
    clear H1
    simp only [Option.some.injEq, Prod.mk.injEq] at H
    obtain ⟨rfl, rfl⟩ := H
    go_wp2
    repeat (go_quiet (fail); try go_wp2)
    go_ret
    exact ⟨rfx, mI53_1 HI0.out, mB53HI0 HB.out, mKp HK.out⟩
   ·replace c7 := Bool.eq_false_iff.mpr c7
    subst c7
    have H1 : (if (wrap64 ((wrap64 (s0_1 + 1)) - 1)) < (s0_0.length : Int) then (if 0 ≤ (wrap64 ((wrap64 (s0_1 + 1)) - 1)) then (if a1 = 0 then (none) else (some (Int.tmod (wrap64 (rd s0_0 (wrap64 ((wrap64 (s0_1 + 1)) - 1)))) a1, (wrap64 (s0_1 + 1))))) else (none)) else (if (s0_0.length : Int) = 0 then (none) else (if 0 ≤ (Int.tmod (wrap64 ((wrap64 (s0_1 + 1)) - 1)) (s0_0.length : Int)) then (if (Int.tmod (wrap64 ((wrap64 (s0_1 + 1)) - 1)) (s0_0.length : Int)) < (s0_0.length : Int) then (if 0 ≤ (Int.tmod (wrap64 ((wrap64 ((wrap64 ((wrap64 (s0_1 + 1)) - 1)) * 7)) + 3)) (s0_0.length : Int)) then (if (Int.tmod (wrap64 ((wrap64 ((wrap64 ((wrap64 (s0_1 + 1)) - 1)) * 7)) + 3)) (s0_0.length : Int)) < (s0_0.length : Int) then (if a1 = 0 then (none) else (some (Int.tmod (Go.bits .xor .i64 (wrap64 ((wrap64 ((wrap64 ((wrap64 ((wrap64 (rd s0_0 (Int.tmod (wrap64 ((wrap64 (s0_1 + 1)) - 1)) (s0_0.length : Int)))) * 131)) + (wrap64 ((wrap64 (rd s0_0 (Int.tmod (wrap64 ((wrap64 ((wrap64 ((wrap64 (s0_1 + 1)) - 1)) * 7)) + 3)) (s0_0.length : Int)))) * 1117)))) + (wrap64 ((wrap64 ((wrap64 (s0_1 + 1)) - 1)) * 29)))) + (wrap64 ((wrap64 (Int.tdiv (wrap64 ((wrap64 (s0_1 + 1)) - 1)) (s0_0.length : Int))) * 53)))) (wrap64 (Int.tdiv (wrap64 ((wrap64 ((wrap64 ((wrap64 ((wrap64 (rd s0_0 (Int.tmod (wrap64 ((wrap64 (s0_1 + 1)) - 1)) (s0_0.length : Int)))) * 131)) + (wrap64 ((wrap64 (rd s0_0 (Int.tmod (wrap64 ((wrap64 ((wrap64 ((wrap64 (s0_1 + 1)) - 1)) * 7)) + 3)) (s0_0.length : Int)))) * 1117)))) + (wrap64 ((wrap64 ((wrap64 (s0_1 + 1)) - 1)) * 29)))) + (wrap64 ((wrap64 (Int.tdiv (wrap64 ((wrap64 (s0_1 + 1)) - 1)) (s0_0.length : Int))) * 53)))) 64))) a1, (wrap64 (s0_1 + 1))))) else (none)) else (none)) else (none)) else (none)))) = some (r1, r2) := by rw [if_neg (show ¬ (false = true) by decide)] at H; exact H
    clear H
    have H := H1
    clear H1
    by_cases c8 : (wrap64 ((wrap64 (s0_1 + 1)) - 1)) < (s0_0.length : Int)
    ·rw [if_pos c8] at H
     have c8b0 : decide ((wrap64 ((wrap64 (s0_1 + 1)) - 1)) < (s0_0.length : Int)) = true := decide_eq_true c8
     clear c8
     obtain ⟨ji9, hji9⟩ : ∃ j_ : Int, (wrap64 ((wrap64 (s0_1 + 1)) - 1)) = j_ := ⟨_, rfl⟩
     replace H : (if 0 ≤ (ji9) then (if a1 = 0 then (none) else (some (Int.tmod (wrap64 (rd s0_0 (ji9))) a1, (wrap64 (s0_1 + 1))))) else (none)) = some (r1, r2) := by first | (rw [hji9] at H; exact H) | (simp only [hji9] at H ⊢; exact H)
     (try rw [hji9] at c8b0)
     have hji9w : (IntKind.i64.wrap ((wrap64 (s0_1 + 1)) - 1)) = ji9 := (i64_w _).trans hji9
     by_cases c10 : 0 ≤ (ji9)
     ·rw [if_pos c10] at H
      have c10b0 : decide (0 ≤ (ji9)) = true := decide_eq_true c10
      clear c10
      by_cases c11 : a1 = 0
      ·rw [if_pos c11] at H
       exact absurd H (by simp)
      ·rw [if_neg c11] at H
       have c11b0 : (a1 == 0) = false := beq_eq_false_iff_ne.mpr c11
       have c11b1 : (a1 != 0) = true := bne_iff_ne.mpr c11
       simp only [Option.some.injEq, Prod.mk.injEq] at H
       obtain ⟨rfl, rfl⟩ := H
       obtain ⟨ASz12_0, cSz12_0, HGz12, hgz12, HSz12_0⟩ := HI0.out
       have hcz12_0 := cellS53_0 HGz12
       have hcz12_1 := cellS53_1 HGz12
       have hfz12_1 := blk_frozen HGz12 1
       clear HGz12 hgz12
       have p128 : 0 ≤ ((ji9) : Int) := of_decide_eq_true (by first | (with_reducible assumption) | assumption)
       have q128 : (ji9) < (s0_0.length : Int) := of_decide_eq_true (by first | (with_reducible assumption) | assumption)
       obtain ⟨ad128, e128, hx128_0⟩ := Kd.at_int HSz12_0 (ji9) p128 q128
       cases e128
       replace hx128_0 := pw_cell_below HB.out hx128_0
       replace p128 := eq_true p128
       replace q128 := eq_true q128
       go_wp2
       repeat (go_quiet (fail); try go_wp2)
       go_ret
       exact ⟨by first | rfl | (simp [errW_none, errW_some] <;> rfl) | (simp only [← hji9]; first | rfl | (simp [errW_none, errW_some] <;> rfl)) | (simp [*, errW_none, errW_some] <;> rfl), mI53_1 HI0.out, mB53HI0 HB.out, mKp HK.out⟩
     ·rw [if_neg c10] at H
      exact absurd H (by simp)
    ·rw [if_neg c8] at H
     have c8b0 : decide ((wrap64 ((wrap64 (s0_1 + 1)) - 1)) < (s0_0.length : Int)) = false := decide_eq_false c8
     clear c8
     by_cases c13 : (s0_0.length : Int) = 0
     ·rw [if_pos c13] at H
      exact absurd H (by simp)
     ·rw [if_neg c13] at H
      have c13b0 : ((s0_0.length : Int) == 0) = false := beq_eq_false_iff_ne.mpr c13
      have c13b1 : ((s0_0.length : Int) != 0) = true := bne_iff_ne.mpr c13
      have c13b2 : ¬ (s0_0 = []) := fun h_ => c13 (by rw [h_]; rfl)
      obtain ⟨ji14, hji14⟩ : ∃ j_ : Int, (Int.tmod (wrap64 ((wrap64 (s0_1 + 1)) - 1)) (s0_0.length : Int)) = j_ := ⟨_, rfl⟩
      replace H : (if 0 ≤ (ji14) then (if (ji14) < (s0_0.length : Int) then (if 0 ≤ (Int.tmod (wrap64 ((wrap64 ((wrap64 ((wrap64 (s0_1 + 1)) - 1)) * 7)) + 3)) (s0_0.length : Int)) then (if (Int.tmod (wrap64 ((wrap64 ((wrap64 ((wrap64 (s0_1 + 1)) - 1)) * 7)) + 3)) (s0_0.length : Int)) < (s0_0.length : Int) then (if a1 = 0 then (none) else (some (Int.tmod (Go.bits .xor .i64 (wrap64 ((wrap64 ((wrap64 ((wrap64 ((wrap64 (rd s0_0 (ji14))) * 131)) + (wrap64 ((wrap64 (rd s0_0 (Int.tmod (wrap64 ((wrap64 ((wrap64 ((wrap64 (s0_1 + 1)) - 1)) * 7)) + 3)) (s0_0.length : Int)))) * 1117)))) + (wrap64 ((wrap64 ((wrap64 (s0_1 + 1)) - 1)) * 29)))) + (wrap64 ((wrap64 (Int.tdiv (wrap64 ((wrap64 (s0_1 + 1)) - 1)) (s0_0.length : Int))) * 53)))) (wrap64 (Int.tdiv (wrap64 ((wrap64 ((wrap64 ((wrap64 ((wrap64 (rd s0_0 (ji14))) * 131)) + (wrap64 ((wrap64 (rd s0_0 (Int.tmod (wrap64 ((wrap64 ((wrap64 ((wrap64 (s0_1 + 1)) - 1)) * 7)) + 3)) (s0_0.length : Int)))) * 1117)))) + (wrap64 ((wrap64 ((wrap64 (s0_1 + 1)) - 1)) * 29)))) + (wrap64 ((wrap64 (Int.tdiv (wrap64 ((wrap64 (s0_1 + 1)) - 1)) (s0_0.length : Int))) * 53)))) 64))) a1, (wrap64 (s0_1 + 1))))) else (none)) else (none)) else (none)) else (none)) = some (r1, r2) := by first | (rw [hji14] at H; exact H) | (simp only [hji14] at H ⊢; exact H)
      by_cases c15 : 0 ≤ (ji14)
      ·rw [if_pos c15] at H
       have c15b0 : decide (0 ≤ (ji14)) = true := decide_eq_true c15
       clear c15
       by_cases c16 : (ji14) < (s0_0.length : Int)
       ·rw [if_pos c16] at H
        have c16b0 : decide ((ji14) < (s0_0.length : Int)) = true := decide_eq_true c16
        clear c16
        obtain ⟨ji17, hji17⟩ : ∃ j_ : Int, (Int.tmod (wrap64 ((wrap64 ((wrap64 ((wrap64 (s0_1 + 1)) - 1)) * 7)) + 3)) (s0_0.length : Int)) = j_ := ⟨_, rfl⟩
        replace H : (if 0 ≤ (ji17) then (if (ji17) < (s0_0.length : Int) then (if a1 = 0 then (none) else (some (Int.tmod (Go.bits .xor .i64 (wrap64 ((wrap64 ((wrap64 ((wrap64 ((wrap64 (rd s0_0 (ji14))) * 131)) + (wrap64 ((wrap64 (rd s0_0 (ji17))) * 1117)))) + (wrap64 ((wrap64 ((wrap64 (s0_1 + 1)) - 1)) * 29)))) + (wrap64 ((wrap64 (Int.tdiv (wrap64 ((wrap64 (s0_1 + 1)) - 1)) (s0_0.length : Int))) * 53)))) (wrap64 (Int.tdiv (wrap64 ((wrap64 ((wrap64 ((wrap64 ((wrap64 (rd s0_0 (ji14))) * 131)) + (wrap64 ((wrap64 (rd s0_0 (ji17))) * 1117)))) + (wrap64 ((wrap64 ((wrap64 (s0_1 + 1)) - 1)) * 29)))) + (wrap64 ((wrap64 (Int.tdiv (wrap64 ((wrap64 (s0_1 + 1)) - 1)) (s0_0.length : Int))) * 53)))) 64))) a1, (wrap64 (s0_1 + 1))))) else (none)) else (none)) = some (r1, r2) := by first | (rw [hji17] at H; exact H) | (simp only [hji17] at H ⊢; exact H)
        by_cases c18 : 0 ≤ (ji17)
        ·rw [if_pos c18] at H
         have c18b0 : decide (0 ≤ (ji17)) = true := decide_eq_true c18
         clear c18
         by_cases c19 : (ji17) < (s0_0.length : Int)
         ·rw [if_pos c19] at H
          have c19b0 : decide ((ji17) < (s0_0.length : Int)) = true := decide_eq_true c19
          clear c19
          by_cases c20 : a1 = 0
          ·rw [if_pos c20] at H
           exact absurd H (by simp)
          ·rw [if_neg c20] at H
           have c20b0 : (a1 == 0) = false := beq_eq_false_iff_ne.mpr c20
           have c20b1 : (a1 != 0) = true := bne_iff_ne.mpr c20
           simp only [Option.some.injEq, Prod.mk.injEq] at H
           obtain ⟨rfl, rfl⟩ := H
           obtain ⟨ASz21_0, cSz21_0, HGz21, hgz21, HSz21_0⟩ := HI0.out
           have hcz21_0 := cellS53_0 HGz21
           have hcz21_1 := cellS53_1 HGz21
           have hfz21_1 := blk_frozen HGz21 1
           clear HGz21 hgz21
           have p129 : 0 ≤ ((ji14) : Int) := of_decide_eq_true (by first | (with_reducible assumption) | assumption)
           have q129 : (ji14) < (s0_0.length : Int) := of_decide_eq_true (by first | (with_reducible assumption) | assumption)
           obtain ⟨ad129, e129, hx129_0⟩ := Kd.at_int HSz21_0 (ji14) p129 q129
           cases e129
           replace hx129_0 := pw_cell_below HB.out hx129_0
           replace p129 := eq_true p129
           replace q129 := eq_true q129
           have p130 : 0 ≤ ((ji17) : Int) := of_decide_eq_true (by first | (with_reducible assumption) | assumption)
           have q130 : (ji17) < (s0_0.length : Int) := of_decide_eq_true (by first | (with_reducible assumption) | assumption)
           obtain ⟨ad130, e130, hx130_0⟩ := Kd.at_int HSz21_0 (ji17) p130 q130
           obtain rfl : ad129 = ad130 := (by injection e130)
           replace hx130_0 := pw_cell_below HB.out hx130_0
           replace p130 := eq_true p130
           replace q130 := eq_true q130
           go_wp2
           repeat (go_quiet (fail); try go_wp2)
           go_ret
           exact ⟨by first | rfl | (simp [errW_none, errW_some] <;> rfl) | (simp only [← hji14, ← hji17]; first | rfl | (simp [errW_none, errW_some] <;> rfl)) | (simp [*, errW_none, errW_some] <;> rfl), mI53_1 HI0.out, mB53HI0 HB.out, mKp HK.out⟩
         ·rw [if_neg c19] at H
          exact absurd H (by simp)
        ·rw [if_neg c18] at H
         exact absurd H (by simp)
       ·rw [if_neg c16] at H
        exact absurd H (by simp)
      ·rw [if_neg c15] at H
       exact absurd H (by simp)

/-! ### spec_l12Rd_num: function 19 -/
def spec_l12Rd_num.f (k : Nat) (s0_0 : List Int) (s0_1 : Int) (l1 : List Int) : Option (Int × Int) := (spec_l12Rd_pick.f k s0_0 s0_1 (l1.length : Int)).bind fun bt131 => (if 0 ≤ bt131.1 then (if bt131.1 < (l1.length : Int) then (some (rd l1 bt131.1, bt131.2)) else (none)) else (none))
theorem spec_l12Rd_num.mono : ∀ a0 a1 a2 k, LeO (spec_l12Rd_num.f k a0 a1 a2) (spec_l12Rd_num.f (k + 1) a0 a1 a2) := by
 intro a0 a1 a2 k
 unfold spec_l12Rd_num.f
 repeat' first
   | (with_reducible exact spec_l12Rd_pick.mono _ _ _ _)
   | (with_reducible exact LeO.refl _)
   | (with_reducible exact LeO.none _)
   | (with_reducible refine LeO.ite ?_ ?_)
   | (with_reducible refine LeO.bind ?_ (fun _ => ?_))
   | exact spec_l12Rd_pick.mono _ _ _ _
   | exact LeO.none _
   | refine LeO.ite ?_ ?_
   | refine LeO.bind ?_ (fun _ => ?_)
set_option maxHeartbeats 8000000 in
set_option maxRecDepth 100000 in
theorem spec_l12Rd_num.calls (k : Nat) (g : Nat) (s0_0 : List Int) (s0_1 : Int) (A1 : Option Addr) (c1 : Nat) (l1 : List Int) (r1 : Int) (r2 : Int) (w0 w : World) (hI : IsS53 w0 w g s0_0 s0_1) (hB : Below w0.heap.size w0 w) (hr1 : Kd.C (Kd.int .i64) w A1 l1.length l1) (hc1 : l1.length ≤ c1) (hf1 : ∀ ad, A1 = some ad → 0 < l1.length → ad.block ≠ g) (h : spec_l12Rd_num.f k s0_0 s0_1 l1 = some (r1, r2)) :
  Calls Tryz.prog 19 #[.pointer (some ⟨g, 0, none⟩), .slice A1 l1.length c1] w fun e w' => e = .returned (.int .i64 r1) ∧ IsS53 w0 w' g s0_0 r2 ∧ Below w0.heap.size w0 w' ∧ KeepBut w w' g none := by
 have HR1 := z0 hr1
 have HC1 := z0 hc1
 clear hr1 hc1
 have HI0 := z0 hI
 have HK := z0 (KeepBut.refl w g none)
 have HL := z0 hB.size
 clear hI
 have HW0 := z0 hB.size
 have HB := z0 hB
 clear hB
 have H : ((spec_l12Rd_pick.f k s0_0 s0_1 (l1.length : Int)).bind fun bt131 => (if 0 ≤ bt131.1 then (if bt131.1 < (l1.length : Int) then (some (rd l1 bt131.1, bt131.2)) else (none)) else (none))) = some (r1, r2) := h
 clear h
 replace H := Option.bind_eq_some_iff.mp H
 obtain ⟨⟨t131, t132⟩, A30, H⟩ := H
 try dsimp only at H
 have A3 := z0 A30
 clear A30
 by_cases c4 : 0 ≤ t131
 ·rw [if_pos c4] at H
  have c4b0 : decide (0 ≤ t131) = true := decide_eq_true c4
  clear c4
  by_cases c5 : t131 < (l1.length : Int)
  ·rw [if_pos c5] at H
   have c5b0 : decide (t131 < (l1.length : Int)) = true := decide_eq_true c5
   clear c5
   simp only [Option.some.injEq, Prod.mk.injEq] at H
   obtain ⟨rfl, rfl⟩ := H
   go_enter Tryz.func19, Tryz.ntmps19
   go_wp2_with (first | ((with_reducible refine gate_callee (f := 18) rfl ?_); refine goesL_ (some 9) rfl rfl Tryz.func18 (by kernel_rfl) rfl #[.pointer (some ⟨g, 0, none⟩), .int .i64 (l1.length : Int)] rfl argx ?_; (with_reducible refine (spec_l12Rd_pick.calls k g s0_0 s0_1 (l1.length : Int) t131 t132 w0 _ ?side1 ?side2 A3.out).mono ?_); (case side1 => exact mI53_1 HI0.out); (case side2 => exact mB53HI0 HB.out); rintro e w6 ⟨rfl, hi, hb, hk⟩; refine ⟨_, rfl, ?_⟩; have n_ := az (KeepBut.trans (mKp HK.out) hk (.inl rfl)) <| az (hb) <| z0 (hi); clear HK HB HI0; obtain ⟨HK, HB, HI0⟩ := n_; clear hb hk hi; have p133 : 0 ≤ (t131 : Int) := of_decide_eq_true (by first | (with_reducible assumption) | assumption); have q133 : t131 < (l1.length : Int) := of_decide_eq_true (by first | (with_reducible assumption) | assumption); obtain ⟨ad133, e133, hx133_0⟩ := Kd.at_int HR1.out t131 p133 q133; cases e133; replace hx133_0 := keep_cell HK.out hx133_0 (by first | (rw [add_block]; exact hf1 _ rfl (by omega)) | exact hf1 _ rfl (by omega) | exact hf1 ad133 rfl (by omega)); replace p133 := eq_true p133; replace q133 := eq_true q133))
   go_ret
   exact ⟨rfx, mI53_1 HI0.out, mB53HI0 HB.out, mKp HK.out⟩
  ·rw [if_neg c5] at H
   exact absurd H (by simp)
 ·rw [if_neg c4] at H
  exact absurd H (by simp)

/-! ### spec_l2Addr: function 33 -/
def spec_l2Addr.f (k : Nat) (s0_0 : List Int) (s0_1 : Int) : Option (Int × Int × Int) := (spec_l12Rd_pick.f k s0_0 s0_1 3).bind fun bt135 => ((spec_l12Rd_pick.f k s0_0 bt135.2 3).bind fun bt137 => (some (wrap64 (1 + bt135.1), bt137.1, bt137.2)))
theorem spec_l2Addr.mono : ∀ a0 a1 k, LeO (spec_l2Addr.f k a0 a1) (spec_l2Addr.f (k + 1) a0 a1) := by
 intro a0 a1 k
 unfold spec_l2Addr.f
 repeat' first
   | (with_reducible exact spec_l12Rd_pick.mono _ _ _ _)
   | (with_reducible exact LeO.refl _)
   | (with_reducible exact LeO.none _)
   | (with_reducible refine LeO.ite ?_ ?_)
   | (with_reducible refine LeO.bind ?_ (fun _ => ?_))
   | exact spec_l12Rd_pick.mono _ _ _ _
   | exact LeO.none _
   | refine LeO.ite ?_ ?_
   | refine LeO.bind ?_ (fun _ => ?_)
set_option maxHeartbeats 8000000 in
set_option maxRecDepth 100000 in
theorem spec_l2Addr.calls (k : Nat) (g : Nat) (s0_0 : List Int) (s0_1 : Int) (r1 : Int) (r2 : Int) (r3 : Int) (w0 w : World) (hI : IsS53 w0 w g s0_0 s0_1) (hB : Below w0.heap.size w0 w) (h : spec_l2Addr.f k s0_0 s0_1 = some (r1, r2, r3)) :
  Calls Tryz.prog 33 #[.pointer (some ⟨g, 0, none⟩)] w fun e w' => e = .returned (.agg #[.int .i64 r1, .int .i64 r2]) ∧ IsS53 w0 w' g s0_0 r3 ∧ Below w0.heap.size w0 w' ∧ KeepBut w w' g none := by
 have hu28 := Tryz.underlying28
 have HI0 := z0 hI
 have HK := z0 (KeepBut.refl w g none)
 have HL := z0 hB.size
 clear hI
 have HW0 := z0 hB.size
 have HB := z0 hB
 clear hB
 have H : ((spec_l12Rd_pick.f k s0_0 s0_1 3).bind fun bt135 => ((spec_l12Rd_pick.f k s0_0 bt135.2 3).bind fun bt137 => (some (wrap64 (1 + bt135.1), bt137.1, bt137.2)))) = some (r1, r2, r3) := h
 clear h
 replace H := Option.bind_eq_some_iff.mp H
 obtain ⟨⟨t135, t136⟩, A20, H⟩ := H
 try dsimp only at H
 have A2 := z0 A20
 clear A20
 replace H := Option.bind_eq_some_iff.mp H
 obtain ⟨⟨t137, t138⟩, A30, H⟩ := H
 try dsimp only at H
 have A3 := z0 A30
 clear A30
 simp only [Option.some.injEq, Prod.mk.injEq] at H
 obtain ⟨rfl, rfl, rfl⟩ := H
 go_enter Tryz.func33, Tryz.ntmps33
 go_wp2_with (first | ((with_reducible refine gate_dst (N := 2) rfl ?_); refine box_event ?hg (N := 2) ?hd (cs := #[.int .i64 0, .int .i64 0]) (t := 28) ?hr ?_; (case hd => rfl); (case hg => rfl); (case hr => first | (go_simp; done) | (go_simp; rfl)); intro gb134 hg w4 hbox hb; have n_ := az (IsS53.below (mI53_1 HI0.out) hb) <| az (KeepBut.trans (mKp HK.out) (KeepBut.of_below hb g none) (.inl rfl)) <| az (below_step (mB53HI0 HB.out) hb) <| az (hbox) <| az ((gW hg HK.out)) <| az ((Nat.le_trans HW0.out (gW hg HK.out) : w0.heap.size ≤ gb134)) <| az ((by rw [hg]; exact Nat.ne_of_lt (IsS53.lt (show IsS53 w0 _ g s0_0 s0_1 from mI53_1 HI0.out)) : g ≠ gb134)) <| z0 ((by rw [hg]; exact Nat.ne_of_gt (IsS53.lt (show IsS53 w0 _ g s0_0 s0_1 from mI53_1 HI0.out)) : gb134 ≠ g)); clear HI0 HK HB; obtain ⟨HI0, HK, HB, BK134, GW134, GE134, NB0_134, NB134_0⟩ := n_; clear hb hbox hg) | ((with_reducible refine gate_callee (f := 18) rfl ?_); refine goesL_ (some 4) rfl rfl Tryz.func18 (by kernel_rfl) rfl #[.pointer (some ⟨g, 0, none⟩), .int .i64 3] rfl argx ?_; (with_reducible refine (spec_l12Rd_pick.calls k g s0_0 s0_1 3 t135 t136 w0 _ ?side1 ?side2 A2.out).mono ?_); (case side1 => exact mI53_1 HI0.out); (case side2 => exact mB53HI0 HB.out); rintro e w5 ⟨rfl, hi, hb, hk⟩; refine ⟨_, rfl, ?_⟩; have n_ := az (kB hk BK134.out NB134_0.out) <| az (KeepBut.trans (mKp HK.out) hk (.inl rfl)) <| az (hb) <| z0 (hi); clear BK134 HK HB HI0; obtain ⟨BK134, HK, HB, HI0⟩ := n_; clear hb hk hi) | ((with_reducible refine gate_callee (f := 18) rfl ?_); refine goesL_ (some 7) rfl rfl Tryz.func18 (by kernel_rfl) rfl #[.pointer (some ⟨g, 0, none⟩), .int .i64 3] rfl argx ?_; (with_reducible refine (spec_l12Rd_pick.calls k g s0_0 t136 3 t137 t138 w0 _ ?side1 ?side2 A3.out).mono ?_); (case side1 => exact mI53_1 HI0.out); (case side2 => exact mB53HI0 HB.out); rintro e w6 ⟨rfl, hi, hb, hk⟩; refine ⟨_, rfl, ?_⟩; have n_ := az (kB hk BK134.out NB134_0.out) <| az (KeepBut.trans (mKp HK.out) hk (.inl rfl)) <| az (hb) <| z0 (hi); clear BK134 HK HB HI0; obtain ⟨BK134, HK, HB, HI0⟩ := n_; clear hb hk hi; have hnb7 := NB134_0.out; have hnc7 := NB0_134.out; obtain ⟨hcz8_0, hcz8_1, hfz8_0, hfz8_1⟩ := cel2 BK134.out))
 refine bodyPost_ret (results_cell_row rfl _ _ gb134 28 #[.int .i64 (wrap64 (1 + t135)), .int .i64 t137] (0, 0) _ rfl (pF BK134.out) Tryz.underlying28 rfl (by kernel_rfl)) rfl ?_
 exact ⟨rfx, mI53_1 HI0.out, mB53HI0 HB.out, mKp HK.out⟩

/-! ### spec_l3Expr: function 22 -/
mutual
def spec_l3Expr.j0 : Nat → Int → Bool → List Int → Int → Option (Int × Int × Int × Int × (List (S31)) × Int)
 | 0, _, _, _, _ => none
 | k + 1, x1, x13, x1000, x1001 => if x13 = true then ((spec_l12Rd_pick.f k x1000 x1001 3).bind fun bt142 => (if bt142.1 = 0 then ((spec_l12Rd_num.f k x1000 bt142.2 (([0, 1, 2, 3, (-1), 5, 1000000] : List Int))).bind fun bt147 => (some (1, bt147.1, 0, 0, ([] : List (S31)), bt147.2))) else ((spec_l2Addr.f k x1000 bt142.2).bind fun bt149 => (some (2, 0, bt149.1, bt149.2.1, ([] : List (S31)), bt149.2.2))))) else ((spec_l12Rd_num.f k x1000 x1001 (([3, 3, 4, 5, 6, 6, 7, 8, 9, 10] : List Int))).bind fun bt155 => ((spec_l3Kids.f k bt155.1).bind fun t158 => (spec_l3Expr.l0 k x1 t158 x1000 bt155.2 bt155.1 0 0 0 ([] : List (S31)))))
def spec_l3Expr.l0 : Nat → Int → Int → List Int → Int → Int → Int → Int → Int → List (S31) → Option (Int × Int × Int × Int × (List (S31)) × Int)
 | 0, _, _, _, _, _, _, _, _, _ => none
 | k + 1, x1, x6, x1000, x1001, x158000, x158001, x158002, x158003, x158004 => if x6 > 0 then ((spec_l3Expr.f k x1000 x1001 (wrap64 (x1 - 1))).bind fun bt159 => (if x158004.length < 2513169434916 then (spec_l3Expr.l0 k x1 (wrap64 (x6 - 1)) x1000 bt159.2.2.2.2.2 x158000 x158001 x158002 x158003 (x158004 ++ [(⟨bt159.1, bt159.2.1, (⟨bt159.2.2.1, bt159.2.2.2.1⟩ : S28), bt159.2.2.2.2.1⟩ : S31)])) else (none))) else (some (x158000, x158001, x158002, x158003, x158004, x1001))
def spec_l3Expr.f : Nat → List Int → Int → Int → Option (Int × Int × Int × Int × (List (S31)) × Int)
 | 0, _, _, _ => none
 | k + 1, s0_0, s0_1, a1 => if a1 ≤ 1 then (spec_l3Expr.j0 k a1 true s0_0 s0_1) else ((spec_l12Rd_pick.f k s0_0 s0_1 4).bind fun bt140 => (spec_l3Expr.j0 k a1 (bt140.1 == 0) s0_0 bt140.2))
end
theorem spec_l3Expr.mono_l : ∀ k, (∀ y0 y1 y2, LeO (spec_l3Expr.f k y0 y1 y2) (spec_l3Expr.f (k + 1) y0 y1 y2)) ∧ (∀ y0 y1 y2 y3, LeO (spec_l3Expr.j0 k y0 y1 y2 y3) (spec_l3Expr.j0 (k + 1) y0 y1 y2 y3)) ∧ (∀ y0 y1 y2 y3 y4 y5 y6 y7 y8, LeO (spec_l3Expr.l0 k y0 y1 y2 y3 y4 y5 y6 y7 y8) (spec_l3Expr.l0 (k + 1) y0 y1 y2 y3 y4 y5 y6 y7 y8))
 | 0 => ⟨fun _ _ _ r h => by simp [spec_l3Expr.f] at h, fun _ _ _ _ r h => by simp [spec_l3Expr.j0] at h, fun _ _ _ _ _ _ _ _ _ r h => by simp [spec_l3Expr.l0] at h⟩
 | k + 1 => by
  obtain ⟨ih0, ih1, ih2⟩ := spec_l3Expr.mono_l k
  refine ⟨?_, ?_, ?_⟩
  ·intro y0 y1 y2
   unfold spec_l3Expr.f
   repeat' first
   | (with_reducible exact ih0 _ _ _)
   | (with_reducible exact ih1 _ _ _ _)
   | (with_reducible exact ih2 _ _ _ _ _ _ _ _ _)
   | (with_reducible exact spec_l12Rd_num.mono _ _ _ _)
   | (with_reducible exact spec_l12Rd_pick.mono _ _ _ _)
   | (with_reducible exact spec_l2Addr.mono _ _ _)
   | (with_reducible exact spec_l3Kids.mono _ _)
   | (with_reducible exact LeO.refl _)
   | (with_reducible exact LeO.none _)
   | (with_reducible refine LeO.ite ?_ ?_)
   | (with_reducible refine LeO.bind ?_ (fun _ => ?_))
   | exact ih0 _ _ _
   | exact ih1 _ _ _ _
   | exact ih2 _ _ _ _ _ _ _ _ _
   | exact spec_l12Rd_num.mono _ _ _ _
   | exact spec_l12Rd_pick.mono _ _ _ _
   | exact spec_l2Addr.mono _ _ _
   | exact spec_l3Kids.mono _ _
   | exact LeO.none _
   | refine LeO.ite ?_ ?_
   | refine LeO.bind ?_ (fun _ => ?_)
  ·intro y0 y1 y2 y3
   unfold spec_l3Expr.j0
   repeat' first
   | (with_reducible exact ih0 _ _ _)
   | (with_reducible exact ih1 _ _ _ _)
   | (with_reducible exact ih2 _ _ _ _ _ _ _ _ _)
   | (with_reducible exact spec_l12Rd_num.mono _ _ _ _)
   | (with_reducible exact spec_l12Rd_pick.mono _ _ _ _)
   | (with_reducible exact spec_l2Addr.mono _ _ _)
   | (with_reducible exact spec_l3Kids.mono _ _)
   | (with_reducible exact LeO.refl _)
   | (with_reducible exact LeO.none _)
   | (with_reducible refine LeO.ite ?_ ?_)
   | (with_reducible refine LeO.bind ?_ (fun _ => ?_))
   | exact ih0 _ _ _
   | exact ih1 _ _ _ _
   | exact ih2 _ _ _ _ _ _ _ _ _
   | exact spec_l12Rd_num.mono _ _ _ _
   | exact spec_l12Rd_pick.mono _ _ _ _
   | exact spec_l2Addr.mono _ _ _
   | exact spec_l3Kids.mono _ _
   | exact LeO.none _
   | refine LeO.ite ?_ ?_
   | refine LeO.bind ?_ (fun _ => ?_)
  ·intro y0 y1 y2 y3 y4 y5 y6 y7 y8
   unfold spec_l3Expr.l0
   repeat' first
   | (with_reducible exact ih0 _ _ _)
   | (with_reducible exact ih1 _ _ _ _)
   | (with_reducible exact ih2 _ _ _ _ _ _ _ _ _)
   | (with_reducible exact spec_l12Rd_num.mono _ _ _ _)
   | (with_reducible exact spec_l12Rd_pick.mono _ _ _ _)
   | (with_reducible exact spec_l2Addr.mono _ _ _)
   | (with_reducible exact spec_l3Kids.mono _ _)
   | (with_reducible exact LeO.refl _)
   | (with_reducible exact LeO.none _)
   | (with_reducible refine LeO.ite ?_ ?_)
   | (with_reducible refine LeO.bind ?_ (fun _ => ?_))
   | exact ih0 _ _ _
   | exact ih1 _ _ _ _
   | exact ih2 _ _ _ _ _ _ _ _ _
   | exact spec_l12Rd_num.mono _ _ _ _
   | exact spec_l12Rd_pick.mono _ _ _ _
   | exact spec_l2Addr.mono _ _ _
   | exact spec_l3Kids.mono _ _
   | exact LeO.none _
   | refine LeO.ite ?_ ?_
   | refine LeO.bind ?_ (fun _ => ?_)
theorem spec_l3Expr.mono : ∀ a0 a1 a2 k, LeO (spec_l3Expr.f k a0 a1 a2) (spec_l3Expr.f (k + 1) a0 a1 a2) := by
 intro a0 a1 a2 k
 obtain ⟨ih0, ih1, ih2⟩ := spec_l3Expr.mono_l k
 exact ih0 a0 a1 a2
def spec_l3Expr.T9 : Bool × List (List Nat × List Nat) := (true, [([], []), ([0], [0]), ([], []), ([], []), ([3], [3]), ([2, 4], [2, 4]), ([5], [5]), ([1, 6, 5], [1, 6]), ([0, 1, 2, 3, 4, 5, 6, 7], []), ([8, 7, 7, 0, 1, 2, 3, 4, 5, 6, 7], [7, 8])])
def spec_l3Expr.B9 : List Nat := [0, 1, 0, 0, 8, 28, 60, 127, 255, 511]
theorem spec_l3Expr.tab9 : rtab .any (opsOf Tryz.f22 9) = spec_l3Expr.T9 := by kernel_rfl
theorem spec_l3Expr.bits9 : waitsOk spec_l3Expr.T9.2 spec_l3Expr.B9 = true := by kernel_rfl
set_option maxHeartbeats 8000000 in
set_option maxRecDepth 100000 in
theorem spec_l3Expr.calls (k : Nat) : ∀ (g : Nat) (s0_0 : List Int) (s0_1 : Int) (a1 : Int) (r1 : Int) (r2 : Int) (r3 : Int) (r4 : Int) (r5 : List (S31)) (r6 : Int) (w0 w : World) (hI : IsS53 w0 w g s0_0 s0_1) (hB : Below w0.heap.size w0 w) (h : spec_l3Expr.f k s0_0 s0_1 a1 = some (r1, r2, r3, r4, r5, r6)),
  Calls Tryz.prog 22 #[.pointer (some ⟨g, 0, none⟩), .int .i64 a1] w fun e w' => ∃ v4_ : Value, e = .returned (.agg #[.int .i64 r1, .int .i64 r2, .int .i64 r3, .int .i64 r4, v4_]) ∧ Kd.R k31 31 w' w.heap.size (fun _ => True) v4_ r5 ∧ IsS53 w0 w' g s0_0 r6 ∧ Below w0.heap.size w0 w' ∧ KeepBut w w' g none := by
 induction k using Nat.strongRecOn with
 | _ k ih =>
 intro g s0_0 s0_1 a1 r1 r2 r3 r4 r5 r6 w0 w hI hB h
 cases k with
 | zero => exact absurd h (by simp [spec_l3Expr.f])
 | succ k =>
 simp only [spec_l3Expr.f] at h
 have hu31 := Tryz.underlying31
 have HI0 := z0 hI
 have HK := z0 (KeepBut.refl w g none)
 have HL := z0 hB.size
 clear hI
 have HW0 := z0 hB.size
 have HB := z0 hB
 clear hB
 have H : (if a1 ≤ 1 then (spec_l3Expr.j0 k a1 true s0_0 s0_1) else ((spec_l12Rd_pick.f k s0_0 s0_1 4).bind fun bt140 => (spec_l3Expr.j0 k a1 (bt140.1 == 0) s0_0 bt140.2))) = some (r1, r2, r3, r4, r5, r6) := h
 clear h
 have HC3 := z0 H
 clear H
 go_enter Tryz.func22, Tryz.ntmps22
 go_upto_region 1 with (first | ((with_reducible refine gate_dst (N := 4) rfl ?_); refine box_event ?hg (N := 4) ?hd (cs := #[.int .i64 0, .int .i64 0, .int .i64 0, .int .i64 0, .slice none 0 0]) (t := 31) ?hr ?_; (case hd => rfl); (case hg => rfl); (case hr => first | (go_simp; done) | (go_simp; rfl)); intro gb139 hg w4 hbox hb; have n_ := az (IsS53.below (mI53_1 HI0.out) hb) <| az (KeepBut.trans (mKp HK.out) (KeepBut.of_below hb g none) (.inl rfl)) <| az (below_step (mB53HI0 HB.out) hb) <| az (hbox) <| az ((gW hg HK.out)) <| az ((Nat.le_trans HW0.out (gW hg HK.out) : w0.heap.size ≤ gb139)) <| az ((by rw [hg]; exact Nat.ne_of_lt (IsS53.lt (show IsS53 w0 _ g s0_0 s0_1 from mI53_1 HI0.out)) : g ≠ gb139)) <| z0 ((by rw [hg]; exact Nat.ne_of_gt (IsS53.lt (show IsS53 w0 _ g s0_0 s0_1 from mI53_1 HI0.out)) : gb139 ≠ g)); clear HI0 HK HB; obtain ⟨HI0, HK, HB, BK139, GW139, GE139, NB0_139, NB139_0⟩ := n_; clear hb hbox hg))
 (try simp only [Act.put, List.setIfInBounds_toArray, List.set_cons_zero, List.set_cons_succ])
 go_cut [13] (fun v13 wc => ∃ (kq : Nat) (x13_2 : Bool) (x1001_2 : Int), v13 = .bool x13_2 ∧ Aside0 (spec_l3Expr.j0 kq a1 x13_2 s0_0 x1001_2 = some (r1, r2, r3, r4, r5, r6)) ∧ Aside0 (kq ≤ k) ∧ Aside0 (wc.heap[gb139]? = some (.cells #[.int .i64 0, .int .i64 0, .int .i64 0, .int .i64 0, (.slice none 0 0)] 31 (0, 0))) ∧ Aside0 (IsS53 w0 wc g s0_0 x1001_2) ∧ Aside0 (KeepBut w wc g none) ∧ Aside0 (Below w0.heap.size w0 wc))
 case first =>
  have H := HC3.out
  clear HC3
  by_cases c5 : a1 ≤ 1
  ·rw [if_pos c5] at H
   have c5b0 : decide (a1 ≤ 1) = true := decide_eq_true c5
   clear c5
   (first | rw [c5b0] | (simp only [i64_w, i32_w]; rw [c5b0]) | skip)
   have H' := z0 H
   clear H
   go_wp2
   go_meet
   case rel => exact ⟨_, (true), (s0_1), rfy, H', ⟨by first | omega | exact Nat.le_refl _⟩, ⟨mK BK139.out⟩, ⟨mI53_1 HI0.out⟩, ⟨mKp HK.out⟩, ⟨mB53HI0 HB.out⟩⟩
  ·rw [if_neg c5] at H
   have c5b0 : decide (a1 ≤ 1) = false := decide_eq_false c5
   clear c5
   (first | rw [c5b0] | (simp only [i64_w, i32_w]; rw [c5b0]) | skip)
   replace H := Option.bind_eq_some_iff.mp H
   obtain ⟨⟨t140, t141⟩, A60, H⟩ := H
   try dsimp only at H
   have A6 := z0 A60
   clear A60
   have H' := z0 H
   clear H
   go_wp2_with (first | (go_at_call 18; (with_reducible refine (spec_l12Rd_pick.calls k g s0_0 s0_1 4 t140 t141 w0 _ ?side1 ?side2 A6.out).mono ?_); (case side1 => exact mI53_1 HI0.out); (case side2 => exact mB53HI0 HB.out); rintro e w7 ⟨rfl, hi, hb, hk⟩; have n_ := az (kB hk BK139.out NB139_0.out) <| az (KeepBut.trans (mKp HK.out) hk (.inl rfl)) <| az (hb) <| z0 (hi); clear BK139 HK HB HI0; obtain ⟨BK139, HK, HB, HI0⟩ := n_; clear hb hk hi))
   go_meet
   case rel => exact ⟨_, ((t140 == 0)), (t141), rfy, H', ⟨by first | omega | exact Nat.le_refl _⟩, ⟨mK BK139.out⟩, ⟨mI53_1 HI0.out⟩, ⟨mKp HK.out⟩, ⟨mB53HI0 HB.out⟩⟩
 case rest =>
  clear HC3
  skip
  obtain ⟨kq, x13_2, x1001_2, rfl, HA, HJ2, BK139, HI0, HK, HB⟩ := hcut
  cases kq with
  | zero => exact absurd HA.out (by simp [spec_l3Expr.j0])
  | succ kj2 =>
   have H := HA.out
   clear HA
   simp only [spec_l3Expr.j0] at H
   by_cases c8 : x13_2 = true
   ·subst c8
    have H1 : ((spec_l12Rd_pick.f kj2 s0_0 x1001_2 3).bind fun bt142 => (if bt142.1 = 0 then ((spec_l12Rd_num.f kj2 s0_0 bt142.2 (([0, 1, 2, 3, (-1), 5, 1000000] : List Int))).bind fun bt147 => (some (1, bt147.1, 0, 0, ([] : List (S31)), bt147.2))) else ((spec_l2Addr.f kj2 s0_0 bt142.2).bind fun bt149 => (some (2, 0, bt149.1, bt149.2.1, ([] : List (S31)), bt149.2.2))))) = some (r1, r2, r3, r4, r5, r6) := by rw [if_pos rfl] at H; exact H
    clear H
    have H := H1
    clear H1
    replace H := Option.bind_eq_some_iff.mp H
    obtain ⟨⟨t142, t143⟩, A90, H⟩ := H
    try dsimp only at H
    have A9 := z0 A90
    clear A90
    have HF10 := z0 H
    clear H
    go_upto_if 16 with (first | ((with_reducible refine gate_callee (f := 18) rfl ?_); refine goesL_ (some 15) rfl rfl Tryz.func18 (by kernel_rfl) rfl #[.pointer (some ⟨g, 0, none⟩), .int .i64 3] rfl argx ?_; (with_reducible refine (spec_l12Rd_pick.calls kj2 g s0_0 x1001_2 3 t142 t143 w0 _ ?side1 ?side2 A9.out).mono ?_); (case side1 => exact mI53_1 HI0.out); (case side2 => exact mB53HI0 HB.out); rintro e w11 ⟨rfl, hi, hb, hk⟩; refine ⟨_, rfl, ?_⟩; have n_ := az (kB hk BK139.out NB139_0.out) <| az (KeepBut.trans (mKp HK.out) hk (.inl rfl)) <| az (hb) <| z0 (hi); clear BK139 HK HB HI0; obtain ⟨BK139, HK, HB, HI0⟩ := n_; clear hb hk hi))
    (try simp only [Act.put, List.setIfInBounds_toArray, List.set_cons_zero, List.set_cons_succ])
    have H := HF10.out
    clear HF10
    (try clear c8)
    by_cases c12 : t142 = 0
    ·rw [if_pos c12] at H
     have c12b0 : (t142 == 0) = true := beq_iff_eq.mpr c12
     have c12b1 : (t142 != 0) = false := bne_eq_false_iff_eq.mpr c12
     clear c12
     (first | rw [c12b0] | (simp only [i64_w, i32_w]; rw [c12b0]) | skip)
     obtain ⟨y144, hy144⟩ : ∃ y_ : List Int, y_ = (([0, 1, 2, 3, (-1), 5, 1000000] : List Int)) := ⟨_, rfl⟩
     replace H : ((spec_l12Rd_num.f kj2 s0_0 t143 y144).bind fun bt147 => (some (1, bt147.1, 0, 0, ([] : List (S31)), bt147.2))) = some (r1, r2, r3, r4, r5, r6) := by first | (rw [hy144]; with_reducible exact H) | (have H2_ := (Option.bind_some _ _).symm.trans H; rw [hy144]; with_reducible exact H2_) | (have H2_ := (Option.bind_some _ _).symm.trans H; with_reducible exact H2_) | with_reducible exact H | (rw [hy144]; exact H) | exact H
     have Ny144 := z0 hy144
     clear hy144
     replace H := Option.bind_eq_some_iff.mp H
     obtain ⟨⟨t147, t148⟩, A130, H⟩ := H
     try dsimp only at H
     have A13 := z0 A130
     clear A130
     simp only [Option.some.injEq, Prod.mk.injEq] at H
     obtain ⟨rfl, rfl, rfl, rfl, rfl, rfl⟩ := H
     go_wp2_with (first | ((with_reducible refine gate_dst (N := 18) rfl ?_); refine Kd.R_lit (Kd.int .i64) _ 3 ?hg (N := 18) ?hd (xs := ([0, 1, 2, 3, (-1), 5, 1000000] : List Int)) (inner := [.int .i64 0, .int .i64 1, .int .i64 2, .int .i64 3, .int .i64 (-1), .int .i64 5, .int .i64 1000000]) (ok := fun _ => True) (okp := fun _ => True) ?hr ?hp (fun _ hk => hk) trivial (Below.refl _ _) (Nat.le_refl _) (by simp) ?_; (case hd => rfl); (case hg => rfl); (case hr => first | (go_simp; done) | (go_simp; rfl)); (case hp => exact (Reps.one (show Kd.M (Kd.int .i64) _ _ _ 0 [.int .i64 0] from rfl) (Reps.one (show Kd.M (Kd.int .i64) _ _ _ 1 [.int .i64 1] from rfl) (Reps.one (show Kd.M (Kd.int .i64) _ _ _ 2 [.int .i64 2] from rfl) (Reps.one (show Kd.M (Kd.int .i64) _ _ _ 3 [.int .i64 3] from rfl) (Reps.one (show Kd.M (Kd.int .i64) _ _ _ (-1) [.int .i64 (-1)] from rfl) (Reps.one (show Kd.M (Kd.int .i64) _ _ _ 5 [.int .i64 5] from rfl) (Reps.one (show Kd.M (Kd.int .i64) _ _ _ 1000000 [.int .i64 1000000] from rfl) (Reps.none _ _))))))))); intro v145 w14 ho15 hb hg_ hnew_; clear hg_ hnew_; (first | rw [← Ny144.out] at ho15 | (simp only [Int.reduceToNat] at ho15; rw [← Ny144.out] at ho15)); have n_ := az (Kd.R_lower ho15 (kS HK.out)) <| az (bB BK139.out hb) <| az (IsS53.below (mI53_1 HI0.out) hb) <| az (KeepBut.trans (mKp HK.out) (KeepBut.of_below hb g none) (.inl rfl)) <| z0 (below_step (mB53HI0 HB.out) hb); clear BK139 HI0 HK HB; obtain ⟨HO146, BK139, HI0, HK, HB⟩ := n_; clear hb ho15; obtain ⟨Ao16, co16, eo16⟩ := Kd.R_slice HO146.out; subst eo16) | ((with_reducible refine gate_callee (f := 19) rfl ?_); refine goesL_ (some 19) rfl rfl Tryz.func19 (by kernel_rfl) rfl #[.pointer (some ⟨g, 0, none⟩), .slice Ao16 y144.length co16] rfl argx ?_; (with_reducible refine (spec_l12Rd_num.calls kj2 g s0_0 t143 _ _ y144 t147 t148 w0 _ ?side1 ?side2 ?side3 ?side4 ?side5 A13.out).mono ?_); (case side1 => exact mI53_1 HI0.out); (case side2 => exact mB53HI0 HB.out); (case side3 => exact mC (Kd.R_reads' HO146.out).2.2); (case side4 => exact (Kd.R_reads' HO146.out).2.1); (case side5 => exact far_slice (IsS53.own_ne HI0.out HO146.out (by decide))); rintro e w17 ⟨rfl, hi, hb, hk⟩; refine ⟨_, rfl, ?_⟩; have n_ := az (kB hk BK139.out NB139_0.out) <| az (Kd.R_mono (Kd.R_keep (IsS53.apart (show IsS53 w0 _ g s0_0 t143 from mI53_1 HI0.out) (mR HO146.out) (by decide)) hk (fun _ h => h.2)) (fun _ h => h.1)) <| az (KeepBut.trans (mKp HK.out) hk (.inl rfl)) <| az (hb) <| z0 (hi); clear BK139 HO146 HK HB HI0; obtain ⟨BK139, HO146, HK, HB, HI0⟩ := n_; clear hb hk hi; have hnb18 := NB139_0.out; have hnc18 := NB0_139.out; obtain ⟨hcz19_0, hcz19_1, hcz19_2, hcz19_3, hcz19_4, hfz19_0, hfz19_1, hfz19_2, hfz19_3, hfz19_4⟩ := cel5 BK139.out))
     refine bodyPost_ret (results_cell_row rfl _ _ gb139 31 #[.int .i64 1, .int .i64 t147, .int .i64 0, .int .i64 0, .slice none 0 0] (0, 0) _ rfl (pF BK139.out) Tryz.underlying31 rfl (by kernel_rfl)) rfl ?_
     exact ⟨_, rfx, by first | exact Kd.R_nil _ _ _ _ _ | exact Kd.N_nil _ _ _ _ _ | exact Kd.V_nil _ _ _ _ _ | exact Kd.Q_nil _ _ _ _ _ | exact Kd.S_nil _ _ _ _ _, mI53_1 HI0.out, mB53HI0 HB.out, mKp HK.out⟩
    ·rw [if_neg c12] at H
     have c12b0 : (t142 == 0) = false := beq_eq_false_iff_ne.mpr c12
     have c12b1 : (t142 != 0) = true := bne_iff_ne.mpr c12
     (first | rw [c12b0] | (simp only [i64_w, i32_w]; rw [c12b0]) | skip)
     replace H := Option.bind_eq_some_iff.mp H
     obtain ⟨⟨t149, t150, t151⟩, A200, H⟩ := H
     try dsimp only at H
     have A20 := z0 A200
     clear A200
     simp only [Option.some.injEq, Prod.mk.injEq] at H
     obtain ⟨rfl, rfl, rfl, rfl, rfl, rfl⟩ := H
     go_wp2_with (first | ((with_reducible refine gate_callee (f := 33) rfl ?_); refine goesL_ (some 22) rfl rfl Tryz.func33 (by kernel_rfl) rfl #[.pointer (some ⟨g, 0, none⟩)] rfl argx ?_; (with_reducible refine (spec_l2Addr.calls kj2 g s0_0 t143 t149 t150 t151 w0 _ ?side1 ?side2 A20.out).mono ?_); (case side1 => exact mI53_1 HI0.out); (case side2 => exact mB53HI0 HB.out); rintro e w21 ⟨rfl, hi, hb, hk⟩; refine ⟨_, rfl, ?_⟩; have n_ := az (kB hk BK139.out NB139_0.out) <| az (KeepBut.trans (mKp HK.out) hk (.inl rfl)) <| az (hb) <| z0 (hi); clear BK139 HK HB HI0; obtain ⟨BK139, HK, HB, HI0⟩ := n_; clear hb hk hi; have hnb22 := NB139_0.out; have hnc22 := NB0_139.out; obtain ⟨hcz23_0, hcz23_1, hcz23_2, hcz23_3, hcz23_4, hfz23_0, hfz23_1, hfz23_2, hfz23_3, hfz23_4⟩ := cel5 BK139.out))
     refine bodyPost_ret (results_cell_row rfl _ _ gb139 31 #[.int .i64 2, .int .i64 0, .int .i64 t149, .int .i64 t150, .slice none 0 0] (0, 0) _ rfl (pF BK139.out) Tryz.underlying31 rfl (by kernel_rfl)) rfl ?_
     exact ⟨_, rfx, by first | exact Kd.R_nil _ _ _ _ _ | exact Kd.N_nil _ _ _ _ _ | exact Kd.V_nil _ _ _ _ _ | exact Kd.Q_nil _ _ _ _ _ | exact Kd.S_nil _ _ _ _ _, mI53_1 HI0.out, mB53HI0 HB.out, mKp HK.out⟩
   ·replace c8 := Bool.eq_false_iff.mpr c8
    subst c8
    have H1 : ((spec_l12Rd_num.f kj2 s0_0 x1001_2 (([3, 3, 4, 5, 6, 6, 7, 8, 9, 10] : List Int))).bind fun bt155 => ((spec_l3Kids.f kj2 bt155.1).bind fun t158 => (spec_l3Expr.l0 kj2 a1 t158 s0_0 bt155.2 bt155.1 0 0 0 ([] : List (S31))))) = some (r1, r2, r3, r4, r5, r6) := by rw [if_neg (show ¬ (false = true) by decide)] at H; exact H
    clear H
    have H := H1
    clear H1
    obtain ⟨y152, hy152⟩ : ∃ y_ : List Int, y_ = (([3, 3, 4, 5, 6, 6, 7, 8, 9, 10] : List Int)) := ⟨_, rfl⟩
    replace H : ((spec_l12Rd_num.f kj2 s0_0 x1001_2 y152).bind fun bt155 => ((spec_l3Kids.f kj2 bt155.1).bind fun t158 => (spec_l3Expr.l0 kj2 a1 t158 s0_0 bt155.2 bt155.1 0 0 0 ([] : List (S31))))) = some (r1, r2, r3, r4, r5, r6) := by first | (rw [hy152]; with_reducible exact H) | (have H2_ := (Option.bind_some _ _).symm.trans H; rw [hy152]; with_reducible exact H2_) | (have H2_ := (Option.bind_some _ _).symm.trans H; with_reducible exact H2_) | with_reducible exact H | (rw [hy152]; exact H) | exact H
    have Ny152 := z0 hy152
    clear hy152
    replace H := Option.bind_eq_some_iff.mp H
    obtain ⟨⟨t155, t156⟩, A240, H⟩ := H
    try dsimp only at H
    have A24 := z0 A240
    clear A240
    replace H := Option.bind_eq_some_iff.mp H
    obtain ⟨t158, A250, H⟩ := H
    try dsimp only at H
    have A25 := z0 A250
    clear A250
    have H' := z0 H
    clear H
    go_wp2_with (first | ((with_reducible refine gate_dst (N := 25) rfl ?_); refine Kd.R_lit (Kd.int .i64) _ 3 ?hg (N := 25) ?hd (xs := ([3, 3, 4, 5, 6, 6, 7, 8, 9, 10] : List Int)) (inner := [.int .i64 3, .int .i64 3, .int .i64 4, .int .i64 5, .int .i64 6, .int .i64 6, .int .i64 7, .int .i64 8, .int .i64 9, .int .i64 10]) (ok := fun _ => True) (okp := fun _ => True) ?hr ?hp (fun _ hk => hk) trivial (Below.refl _ _) (Nat.le_refl _) (by simp) ?_; (case hd => rfl); (case hg => rfl); (case hr => first | (go_simp; done) | (go_simp; rfl)); (case hp => exact (Reps.one (show Kd.M (Kd.int .i64) _ _ _ 3 [.int .i64 3] from rfl) (Reps.one (show Kd.M (Kd.int .i64) _ _ _ 3 [.int .i64 3] from rfl) (Reps.one (show Kd.M (Kd.int .i64) _ _ _ 4 [.int .i64 4] from rfl) (Reps.one (show Kd.M (Kd.int .i64) _ _ _ 5 [.int .i64 5] from rfl) (Reps.one (show Kd.M (Kd.int .i64) _ _ _ 6 [.int .i64 6] from rfl) (Reps.one (show Kd.M (Kd.int .i64) _ _ _ 6 [.int .i64 6] from rfl) (Reps.one (show Kd.M (Kd.int .i64) _ _ _ 7 [.int .i64 7] from rfl) (Reps.one (show Kd.M (Kd.int .i64) _ _ _ 8 [.int .i64 8] from rfl) (Reps.one (show Kd.M (Kd.int .i64) _ _ _ 9 [.int .i64 9] from rfl) (Reps.one (show Kd.M (Kd.int .i64) _ _ _ 10 [.int .i64 10] from rfl) (Reps.none _ _)))))))))))); intro v153 w26 ho27 hb hg_ hnew_; clear hg_ hnew_; (first | rw [← Ny152.out] at ho27 | (simp only [Int.reduceToNat] at ho27; rw [← Ny152.out] at ho27)); have n_ := az (Kd.R_lower ho27 (kS HK.out)) <| az (bB BK139.out hb) <| az (IsS53.below (mI53_1 HI0.out) hb) <| az (KeepBut.trans (mKp HK.out) (KeepBut.of_below hb g none) (.inl rfl)) <| z0 (below_step (mB53HI0 HB.out) hb); clear BK139 HI0 HK HB; obtain ⟨HO154, BK139, HI0, HK, HB⟩ := n_; clear hb ho27; obtain ⟨Ao28, co28, eo28⟩ := Kd.R_slice HO154.out; subst eo28) | ((with_reducible refine gate_callee (f := 19) rfl ?_); refine goesL_ (some 26) rfl rfl Tryz.func19 (by kernel_rfl) rfl #[.pointer (some ⟨g, 0, none⟩), .slice Ao28 y152.length co28] rfl argx ?_; (with_reducible refine (spec_l12Rd_num.calls kj2 g s0_0 x1001_2 _ _ y152 t155 t156 w0 _ ?side1 ?side2 ?side3 ?side4 ?side5 A24.out).mono ?_); (case side1 => exact mI53_1 HI0.out); (case side2 => exact mB53HI0 HB.out); (case side3 => exact mC (Kd.R_reads' HO154.out).2.2); (case side4 => exact (Kd.R_reads' HO154.out).2.1); (case side5 => exact far_slice (IsS53.own_ne HI0.out HO154.out (by decide))); rintro e w29 ⟨rfl, hi, hb, hk⟩; refine ⟨_, rfl, ?_⟩; have n_ := az (kB hk BK139.out NB139_0.out) <| az (Kd.R_mono (Kd.R_keep (IsS53.apart (show IsS53 w0 _ g s0_0 x1001_2 from mI53_1 HI0.out) (mR HO154.out) (by decide)) hk (fun _ h => h.2)) (fun _ h => h.1)) <| az (KeepBut.trans (mKp HK.out) hk (.inl rfl)) <| az (hb) <| z0 (hi); clear BK139 HO154 HK HB HI0; obtain ⟨BK139, HO154, HK, HB, HI0⟩ := n_; clear hb hk hi) | ((with_reducible refine gate_dst (N := 5) rfl ?_); refine box_event ?hg (N := 5) ?hd (cs := #[.int .i64 0, .int .i64 0, .int .i64 0, .int .i64 0, .slice none 0 0]) (t := 31) ?hr ?_; (case hd => rfl); (case hg => rfl); (case hr => first | (go_simp; done) | (go_simp; rfl)); intro gb157 hg w30 hbox hb; have n_ := az (Kd.R_below (mR HO154.out) hb) <| az (bB BK139.out hb) <| az (IsS53.below (mI53_1 HI0.out) hb) <| az (KeepBut.trans (mKp HK.out) (KeepBut.of_below hb g none) (.inl rfl)) <| az (below_step (mB53HI0 HB.out) hb) <| az (hbox) <| az ((gW hg HK.out)) <| az ((Nat.le_trans HW0.out (gW hg HK.out) : w0.heap.size ≤ gb157)) <| az ((nL hg BK139.out)) <| az ((nG hg BK139.out)) <| az ((by rw [hg]; exact Nat.ne_of_lt (IsS53.lt (show IsS53 w0 _ g s0_0 t156 from mI53_1 HI0.out)) : g ≠ gb157)) <| z0 ((by rw [hg]; exact Nat.ne_of_gt (IsS53.lt (show IsS53 w0 _ g s0_0 t156 from mI53_1 HI0.out)) : gb157 ≠ g)); clear HO154 BK139 HI0 HK HB; obtain ⟨HO154, BK139, HI0, HK, HB, BK157, GW157, GE157, NB139_157, NB157_139, NB0_157, NB157_0⟩ := n_; clear hb hbox hg; have hnb31 := NB157_139.out; have hnc31 := NB139_157.out; have hnb32 := NB157_0.out; have hnc32 := NB0_157.out; obtain ⟨hcz33_0, hcz33_1, hcz33_2, hcz33_3, hcz33_4, hfz33_0, hfz33_1, hfz33_2, hfz33_3, hfz33_4⟩ := cel5 BK157.out) | ((with_reducible refine gate_callee (f := 36) rfl ?_); refine goesL_ (some 30) rfl rfl Tryz.func36 (by kernel_rfl) rfl #[.int .i64 t155] rfl argx ?_; (with_reducible refine (spec_l3Kids.calls kj2 t155 t158 _ A25.out).mono ?_); rintro e w' ⟨rfl, ⟨nd, rfl⟩⟩; refine ⟨_, rfl, ?_⟩))
    go_loopg [6] kj2 (fun kq v6 w' => ∃ (x6_2 : Int) (x1001_2 : Int) (x158004_2 : List (S31)) (u158004 : Value), v6 = .int .i64 x6_2 ∧ Aside0 (spec_l3Expr.l0 kq a1 x6_2 s0_0 x1001_2 t155 0 0 0 x158004_2 = some (r1, r2, r3, r4, r5, r6)) ∧ Aside0 (kq ≤ kj2) ∧ Aside0 (Kd.R k31 31 w' w.heap.size (fun k_ => k_ ≠ gb139 ∧ k_ ≠ gb157) u158004 x158004_2) ∧ Aside0 (w'.heap[gb139]? = some (.cells #[.int .i64 0, .int .i64 0, .int .i64 0, .int .i64 0, (.slice none 0 0)] 31 (0, 0))) ∧ Aside0 (w'.heap[gb157]? = some (.cells #[.int .i64 t155, .int .i64 0, .int .i64 0, .int .i64 0, u158004] 31 (0, 0))) ∧ Aside0 (IsS53 w0 w' g s0_0 x1001_2) ∧ Aside0 (KeepBut w w' g none) ∧ Aside0 (Below w0.heap.size w0 w'))
    case atStart => exact ⟨(t158), (t156), (([] : List (S31))), (.slice none 0 0), rfy, H', ⟨Nat.le_refl _⟩, ⟨by first | exact Kd.R_nil _ _ _ _ _ | exact Kd.N_nil _ _ _ _ _ | exact Kd.V_nil _ _ _ _ _ | exact Kd.Q_nil _ _ _ _ _ | exact Kd.S_nil _ _ _ _ _⟩, ⟨mF BK139.out⟩, ⟨by (with_reducible repeat (first | refine blk_drewN ?_ _ | refine blk_drew ?_ | refine blk_alloc ?_ _)); refine blk_put (cs := #[.int .i64 t155, .int .i64 0, .int .i64 0, .int .i64 0, .slice none 0 0]) ?_ 4 _ rfl; (with_reducible repeat (first | refine blk_drewN ?_ _ | refine blk_drew ?_ | refine blk_alloc ?_ _)); refine blk_put (cs := #[.int .i64 t155, .int .i64 0, .int .i64 0, .int .i64 0, .slice none 0 0]) ?_ 3 _ rfl; (with_reducible repeat (first | refine blk_drewN ?_ _ | refine blk_drew ?_ | refine blk_alloc ?_ _)); refine blk_put (cs := #[.int .i64 t155, .int .i64 0, .int .i64 0, .int .i64 0, .slice none 0 0]) ?_ 2 _ rfl; (with_reducible repeat (first | refine blk_drewN ?_ _ | refine blk_drew ?_ | refine blk_alloc ?_ _)); refine blk_put (cs := #[.int .i64 t155, .int .i64 0, .int .i64 0, .int .i64 0, .slice none 0 0]) ?_ 1 _ rfl; (with_reducible repeat (first | refine blk_drewN ?_ _ | refine blk_drew ?_ | refine blk_alloc ?_ _)); refine blk_put (cs := #[.int .i64 0, .int .i64 0, .int .i64 0, .int .i64 0, .slice none 0 0]) ?_ 0 _ rfl; (with_reducible repeat (first | refine blk_drewN ?_ _ | refine blk_drew ?_ | refine blk_alloc ?_ _)); exact BK157.out⟩, ⟨mI53_1 HI0.out⟩, ⟨mKp HK.out⟩, ⟨mB53HI0 HB.out⟩⟩
    case round =>
     clear H'
     (try clear c8); (try clear c12); (try clear hcz33_0); (try clear hcz33_1); (try clear hcz33_2); (try clear hcz33_3); (try clear hcz33_4); (try clear hfz33_0); (try clear hfz33_1); (try clear hfz33_2); (try clear hfz33_3); (try clear hfz33_4)
     obtain ⟨x6_2, x1001_2, x158004_2, u158004, rfl, HA, HK2, HO_158004, BK139, BK157, HI0, HK, HB⟩ := hrel
     cases gk with
     | zero => exact absurd HA.out (by simp [spec_l3Expr.l0])
     | succ k2 =>
      have H := HA.out
      clear HA
      simp only [spec_l3Expr.l0] at H
      by_cases c34 : x6_2 > 0
      ·rw [if_pos c34] at H
       have c34b0 : decide (0 < x6_2) = true := decide_eq_true c34
       clear c34
       replace H := Option.bind_eq_some_iff.mp H
       obtain ⟨⟨t159, t160, t161, t162, t163, t166⟩, A350, H⟩ := H
       try dsimp only at H
       have A35 := z0 A350
       clear A350
       by_cases c36 : x158004_2.length < 2513169434916
       ·rw [if_pos c36] at H
        have LMc36 := z0 c36
        clear c36
        obtain ⟨y167, hy167⟩ : ∃ y_ : List (S31), y_ = (x158004_2 ++ [(⟨t159, t160, (⟨t161, t162⟩ : S28), t163⟩ : S31)]) := ⟨_, rfl⟩
        replace H : (spec_l3Expr.l0 k2 a1 (wrap64 (x6_2 - 1)) s0_0 t166 t155 0 0 0 y167) = some (r1, r2, r3, r4, r5, r6) := by first | (rw [hy167]; with_reducible exact H) | (have H2_ := (Option.bind_some _ _).symm.trans H; rw [hy167]; with_reducible exact H2_) | (have H2_ := (Option.bind_some _ _).symm.trans H; with_reducible exact H2_) | with_reducible exact H | (rw [hy167]; exact H) | exact H
        have Ny167 := z0 hy167
        clear hy167
        have H' := z0 H
        clear H
        try go_wp2
        have n_ := az (Kd.R_drew HO_158004.out) <| az (blk_drew BK139.out) <| az (blk_drew BK157.out) <| az (IsS53.drew HI0.out) <| az (keep_drew HK.out) <| z0 (below_drew1 HB.out)
        clear HO_158004 BK139 BK157 HI0 HK HB
        obtain ⟨HO_158004, BK139, BK157, HI0, HK, HB⟩ := n_
        refine start_ (n := 10) (S := fun w' => w'.cell? ⟨gb157, 0, none⟩ = some (.int .i64 t155) ∧ w'.cell? ⟨gb157, 1, none⟩ = some (.int .i64 0) ∧ w'.cell? ⟨gb157, 2, none⟩ = some (.int .i64 0) ∧ w'.cell? ⟨gb157, 3, none⟩ = some (.int .i64 0) ∧ w'.cell? ⟨gb157, 4, none⟩ = some (u158004)) (ds := [9]) #[false, false, false, false, false, false, false, false, false, false] (by kernel_rfl) rfl rfl ⟨(blk_cell BK157.out 0).trans rfl, (blk_cell BK157.out 1).trans rfl, (blk_cell BK157.out 2).trans rfl, (blk_cell BK157.out 3).trans rfl, (blk_cell BK157.out 4).trans rfl⟩ (fun hHeld => ?_); refine with_tabW spec_l3Expr.tab9 spec_l3Expr.bits9 (fun HT_ HW_ => ?_)
        generalize wr.drew = w37 at HO_158004 BK139 BK157 HI0 HK HB hHeld ⊢
        refine pure_ (i := 0) (N := some 35) (v := ?_) (a' := ?_) #[true, false, false, false, false, false, false, false, false, false] rfl rfl (any_of HT_.out (by kernel_rfl)) (fun _ _ _ h => h) (Or.inl ⟨by rfl, ?_⟩) ?_ ?_
        rotate_left
        ·intro w'
         go_simp
         with_reducible rfl
        rotate_left
        ·simp only [Act.put, List.setIfInBounds_toArray, List.set_cons_zero, List.set_cons_succ, i64_w, i32_w]
         rfl
        refine pure_ (i := 2) (N := some 37) (v := ?_) (a' := ?_) #[true, false, true, false, false, false, false, false, false, false] rfl rfl (any_of HT_.out (by kernel_rfl)) (fun _ _ _ h => h) (Or.inl ⟨by rfl, ?_⟩) ?_ ?_
        rotate_left
        ·intro w'
         go_simp
         with_reducible rfl
        rotate_left
        ·simp only [Act.put, List.setIfInBounds_toArray, List.set_cons_zero, List.set_cons_succ, i64_w, i32_w]
         rfl
        refine pure_ (i := 3) (N := some 38) (v := ?_) (a' := ?_) #[true, false, true, true, false, false, false, false, false, false] rfl rfl (any_of HT_.out (by kernel_rfl)) (fun _ _ _ h => h) (Or.inl ⟨by rfl, ?_⟩) ?_ ?_
        rotate_left
        ·intro w'
         go_simp
         with_reducible rfl
        rotate_left
        ·simp only [Act.put, List.setIfInBounds_toArray, List.set_cons_zero, List.set_cons_succ, i64_w, i32_w]
         rfl
        refine pure_ (i := 4) (N := some 39) (v := ?_) (a' := ?_) #[true, false, true, true, true, false, false, false, false, false] rfl rfl (any_of HT_.out (by kernel_rfl)) (fun _ _ _ h => h) (Or.inl ⟨by rfl, ?_⟩) ?_ ?_
        rotate_left
        ·intro w'
         go_simp
         with_reducible rfl
        rotate_left
        ·simp only [Act.put, List.setIfInBounds_toArray, List.set_cons_zero, List.set_cons_succ, i64_w, i32_w]
         rfl
        refine take_ (i := 1) (N := some 36) (v := ?_) (a' := ?_) #[true, true, true, true, true, false, false, false, false, false] rfl rfl (take_ofW HT_.out HW_.out (by kernel_rfl)) (fun _ _ _ h => h) (Or.inl ⟨by rfl, ?_⟩) hHeld ?_ ?_
        rotate_left
        ·rintro w' ⟨s0, s1, s2, s3, s4⟩
         go_simp
         with_reducible rfl
        rotate_left
        ·simp only [Act.put, List.setIfInBounds_toArray, List.set_cons_zero, List.set_cons_succ, i64_w, i32_w]
         rfl
        refine one_ (i := 5) (N := some 40) #[true, true, true, true, true, true, false, false, false, false] rfl rfl (one_of HT_.out (by kernel_rfl)) (by decide) (fun K hK => ?_)
        refine goes_ Tryz.func22 (by kernel_rfl) rfl #[.pointer (some ⟨g, 0, none⟩), .int .i64 (wrap64 (a1 - 1))] (by rfl) rfl rfl argx ?_
        with_reducible refine (ih k2 (by have := HJ2.out; have := HK2.out; omega) g s0_0 x1001_2 (wrap64 (a1 - 1)) t159 t160 t161 t162 t163 t166 w0 _ ?side1 ?side2 A35.out).mono ?_
        (case side1 => exact mI53_1 HI0.out)
        (case side2 => exact mB53HI0 HB.out)
        rintro e w38 ⟨v164, rfl, ho0, hi, hb, hk⟩
        refine ⟨_, rfl, ?_⟩
        have n_ := And.intro (z0 (Kd.R_mono (Kd.R_told (Kd.R_oldK (IsS53.apart (show IsS53 w0 _ g s0_0 x1001_2 from mI53_1 HI0.out) (mR HO_158004.out) (by decide)) hk) (by first | exact Kd.R_base ho0 | exact Kd.R_base ho0)) (fun _ h_ => h_.1))) <| az (kB hk BK139.out NB139_0.out) <| az (kB hk BK157.out NB157_0.out) <| And.intro (z0 (Kd.R_lower (Kd.R_newB (Kd.R_newB (Kd.R_new' ho0 (Kd.R_lt (mR HO_158004.out))) (g := gb139) (o := .cells #[.int .i64 0, .int .i64 0, .int .i64 0, .int .i64 0, .slice none 0 0] 31 (0, 0)) (mK BK139.out)) (g := gb157) (o := .cells #[.int .i64 t155, .int .i64 0, .int .i64 0, .int .i64 0, u158004] 31 (0, 0)) (mK BK157.out)) (kS HK.out))) <| az (KeepBut.trans (mKp HK.out) hk (.inl rfl)) <| az (hb) <| z0 (hi)
        clear HO_158004 BK139 BK157 HK HB HI0
        obtain ⟨HO_158004, BK139, BK157, HO165, HK, HB, HI0⟩ := n_
        (try clear hb)
        (try clear hb2)
        (try clear hk)
        (try clear hi)
        (try clear ho0)
        obtain ⟨Ao40, co40, eo40⟩ := Kd.R_slice HO165.out
        (first | subst eo40 | (injection eo40 with f1_ f2_ f3_; have f4_ := f1_.symm; have f5_ := f3_.symm; clear f1_ f2_ f3_; subst f4_; subst f5_))
        refine hK.out _ _ ⟨(blk_cell BK157.out 0).trans rfl, (blk_cell BK157.out 1).trans rfl, (blk_cell BK157.out 2).trans rfl, (blk_cell BK157.out 3).trans rfl, (blk_cell BK157.out 4).trans rfl⟩ (fun hHeld => ?_)
        clear hK K
        refine norm_ (a' := ?_) ?_ ?_
        rotate_left
        ·show Act.put _ (some 40) _ = _
         simp only [Act.put, List.setIfInBounds_toArray, List.set_cons_zero, List.set_cons_succ, i64_w, i32_w]
         rfl
        refine one_ (i := 6) (N := some 41) #[true, true, true, true, true, true, true, false, false, false] rfl rfl (one_of HT_.out (by kernel_rfl)) (by decide) (fun K hK => ?_)
        refine value_ (w1 := ?_) (v := ?_) (by rfl) rfl ?_ ?_
        rotate_left 2
        ·go_simp
         constructor
         ·rfl
         ·rfl
        refine hK.out _ _ ⟨(blk_cell (blk_alloc BK157.out _) 0).trans rfl, (blk_cell (blk_alloc BK157.out _) 1).trans rfl, (blk_cell (blk_alloc BK157.out _) 2).trans rfl, (blk_cell (blk_alloc BK157.out _) 3).trans rfl, (blk_cell (blk_alloc BK157.out _) 4).trans rfl⟩ (fun hHeld => ?_)
        clear hK K
        refine norm_ (a' := ?_) ?_ ?_
        rotate_left
        ·show Act.put _ (some 41) _ = _
         simp only [Act.put, List.setIfInBounds_toArray, List.set_cons_zero, List.set_cons_succ, i64_w, i32_w]
         rfl
        refine one_ (i := 7) (N := some 42) #[true, true, true, true, true, true, true, true, false, false] rfl rfl (one_of HT_.out (by kernel_rfl)) (by decide) (fun K hK => ?_)
        refine Kd.R_append_step k31 w.heap.size (by rfl) (.tmp 36) (.tmp 41) 29 31 (.agg #[(.int .i64 0), (.int .i64 0), (.int .i64 0), (.int .i64 0), (.slice none 0 0)]) 56 rfl Tryz.underlying29 info31 rfl (by decide) (by omega) u158004 x158004_2 (⟨t159, t160, (⟨t161, t162⟩ : S28), t163⟩ : S31) [.int .i64 t159, .int .i64 t160, .int .i64 t161, .int .i64 t162, .slice Ao40 t163.length co40] (fun k_ => k_ ≠ gb139 ∧ k_ ≠ gb157) (fun k_ => ((fun k_ => k_ ≠ gb139 ∧ k_ ≠ gb157)) k_ ∧ nB k_ u158004) rfl rfl ?aP (fun _ hk => hk) ?aF ?aO (Below.refl _ _) ?aS ?aL ?_
        (case aP => exact k31_mkM _ _ _ (⟨t159, t160, (⟨t161, t162⟩ : S28), t163⟩ : S31) (Kd.R_mono (HO165.out) (fun k_ hk => ⟨⟨hk.1.2, hk.2⟩, hk.1.1.2⟩)))
        (case aF => exact (fun k_ hk => ⟨fB BK139.out hk, fB BK157.out hk⟩))
        (case aO => exact (by (with_reducible repeat (first | apply Kd.R_alloc | apply Kd.R_drewN | apply Kd.R_drew)); exact Kd.R_mono HO_158004.out (fun _ hk => ⟨hk.1.1, hk.1.2⟩)))
        (case aS => exact (kS HK.out))
        (case aL => have := LMc36.out; omega)
        intro v168 w39 ho hb hg hat
        rw [← Ny167.out] at ho
        have n_ := az (blk_grown (g := gb139) (o := .cells #[.int .i64 0, .int .i64 0, .int .i64 0, .int .i64 0, .slice none 0 0] 31 (0, 0)) (mK BK139.out) hg (Kd.R_away HO_158004.out (fun _ hk => hk.1.1))) <| az (blk_grown (g := gb157) (o := .cells #[.int .i64 t155, .int .i64 0, .int .i64 0, .int .i64 0, u158004] 31 (0, 0)) (mK BK157.out) hg (Kd.R_away HO_158004.out (fun _ hk => hk.1.2))) <| az (IsS53.grown (mI53_1 HI0.out) hg (IsS53.own_ne HI0.out HO_158004.out (by decide))) <| az (below_weaken (mB53HI0 HB.out) HL.out hb) <| az (KeepBut.trans (mKp HK.out) (KeepBut.of_grown hg g) (Kd.R_base2 HO_158004.out)) <| z0 (ho)
        clear BK139 BK157 HI0 HB HK HO_158004 HO165
        obtain ⟨BK139, BK157, HI0, HB, HK, HO169⟩ := n_
        clear ho hb hg hat
        obtain ⟨Ao41, co41, eo41⟩ := Kd.R_slice HO169.out
        (first | subst eo41 | (injection eo41 with f1_ f2_ f3_; have f4_ := f1_.symm; have f5_ := f3_.symm; clear f1_ f2_ f3_; subst f4_; subst f5_))
        refine hK.out _ _ ⟨(blk_cell BK157.out 0).trans rfl, (blk_cell BK157.out 1).trans rfl, (blk_cell BK157.out 2).trans rfl, (blk_cell BK157.out 3).trans rfl, (blk_cell BK157.out 4).trans rfl⟩ (fun hHeld => ?_)
        clear hK K
        refine norm_ (a' := ?_) ?_ ?_
        rotate_left
        ·show Act.put _ (some 42) _ = _
         simp only [Act.put, List.setIfInBounds_toArray, List.set_cons_zero, List.set_cons_succ, i64_w, i32_w]
         rfl
        refine pure_ (i := 8) (N := some 43) (v := ?_) (a' := ?_) #[true, true, true, true, true, true, true, true, true, false] rfl rfl (any_of HT_.out (by kernel_rfl)) (fun _ _ _ h => h) (Or.inl ⟨by rfl, ?_⟩) ?_ ?_
        rotate_left
        ·intro w'
         go_simp
         with_reducible rfl
        rotate_left
        ·simp only [Act.put, List.setIfInBounds_toArray, List.set_cons_zero, List.set_cons_succ, i64_w, i32_w]
         rfl
        refine last_ (i := 9) (N := none) #[true, true, true, true, true, true, true, true, true, true] rfl rfl (one_of HT_.out (by kernel_rfl)) (by decide) (fun K hK => ?_)
        have hs42 : w39.cell? ⟨gb157, 4, none⟩ = some (u158004) := (blk_cell BK157.out 4).trans rfl
        have hfs42 := blk_frozen BK157.out 4
        have hns42_0 := NB139_157.out
        have hms42_0 := NB157_139.out
        refine skip_ (w1 := ?_) (by rfl) rfl ?_ ?_
        rotate_left
        ·go_simp
         rfl
        refine hK.out _ _ ?_
        clear hK K
        refine done_ (done_of HT_.out (by kernel_rfl)) ?_
        try go_wp2
        go_roundg k2
        case measure => have := HJ2.out; have := HK2.out; omega
        case rel => exact ⟨(wrap64 (x6_2 - 1)), (t166), (y167), (.slice Ao41 y167.length co41), rfy, H', ⟨by have := HJ2.out; have := HK2.out; omega⟩, ⟨by (with_reducible repeat (first | apply Kd.R_alloc | apply Kd.R_drewN | apply Kd.R_drew)); exact Kd.R_mono (Kd.R_far (p := ⟨gb157, 4, none⟩) (Kd.R_mono HO169.out (fun k_ hk => (⟨hk, hk.2⟩ : _ ∧ k_ ≠ gb157))) (fun _ hk => hk.2) (.slice Ao41 y167.length co41)) (fun _ hk => ⟨hk.1.1, hk.1.2⟩)⟩, ⟨mF BK139.out⟩, ⟨by (with_reducible repeat (first | refine blk_drewN ?_ _ | refine blk_drew ?_ | refine blk_alloc ?_ _)); refine blk_put (cs := #[.int .i64 t155, .int .i64 0, .int .i64 0, .int .i64 0, u158004]) ?_ 4 _ rfl; (with_reducible repeat (first | refine blk_drewN ?_ _ | refine blk_drew ?_ | refine blk_alloc ?_ _)); exact BK157.out⟩, ⟨mI53_1 HI0.out⟩, ⟨mKp HK.out⟩, ⟨mB53HI0 HB.out⟩⟩
       ·rw [if_neg c36] at H
        exact absurd H (by simp)
      ·rw [if_neg c34] at H
       have c34b0 : decide (0 < x6_2) = false := decide_eq_false c34
       clear c34
       simp only [Option.some.injEq, Prod.mk.injEq] at H
       obtain ⟨rfl, rfl, rfl, rfl, rfl, rfl⟩ := H
       have hnb43 := NB157_139.out
       have hnc43 := NB139_157.out
       have hnb44 := NB157_0.out
       have hnc44 := NB0_157.out
       obtain ⟨hcz45_0, hcz45_1, hcz45_2, hcz45_3, hcz45_4, hfz45_0, hfz45_1, hfz45_2, hfz45_3, hfz45_4⟩ := cel5 BK157.out
       have hnb46 := NB139_0.out
       have hnc46 := NB0_139.out
       obtain ⟨hcz47_0, hcz47_1, hcz47_2, hcz47_3, hcz47_4, hfz47_0, hfz47_1, hfz47_2, hfz47_3, hfz47_4⟩ := cel5 BK139.out
       obtain ⟨Ao48, co48, eo48⟩ := Kd.R_slice HO_158004.out
       subst eo48
       go_wp2
       refine bodyPost_ret (results_cell_row rfl _ _ gb139 31 #[.int .i64 t155, .int .i64 0, .int .i64 0, .int .i64 0, .slice Ao48 x158004_2.length co48] (0, 0) _ rfl (pF BK139.out) Tryz.underlying31 rfl (by kernel_rfl)) rfl ?_
       exact ⟨_, rfx, by (with_reducible repeat (first | apply Kd.R_alloc | apply Kd.R_drewN | apply Kd.R_drew)); exact Kd.R_mono (Kd.R_far (p := ⟨gb139, 4, none⟩) (Kd.R_far (p := ⟨gb139, 3, none⟩) (Kd.R_far (p := ⟨gb139, 2, none⟩) (Kd.R_far (p := ⟨gb139, 1, none⟩) (Kd.R_far (p := ⟨gb139, 0, none⟩) (Kd.R_mono HO_158004.out (fun k_ hk => (⟨hk, hk.1⟩ : _ ∧ k_ ≠ gb139))) (fun _ hk => hk.2) (.int .i64 t155)) (fun _ hk => hk.2) (.int .i64 0)) (fun _ hk => hk.2) (.int .i64 0)) (fun _ hk => hk.2) (.int .i64 0)) (fun _ hk => hk.2) (.slice Ao48 x158004_2.length co48)) (fun _ hk => trivial), mI53_1 HI0.out, mB53HI0 HB.out, mKp HK.out⟩

/-! ### spec_l2To: function 23 -/
def spec_l2To.f (k : Nat) (s0_0 : List Int) (s0_1 : Int) : Option (Int × Int × Int) := (spec_l12Rd_pick.f k s0_0 s0_1 2).bind fun bt171 => ((spec_l12Rd_pick.f k s0_0 bt171.2 3).bind fun bt173 => (some (wrap64 (2 + bt171.1), bt173.1, bt173.2)))
set_option maxHeartbeats 8000000 in
set_option maxRecDepth 100000 in
theorem spec_l2To.calls (k : Nat) (g : Nat) (s0_0 : List Int) (s0_1 : Int) (r1 : Int) (r2 : Int) (r3 : Int) (w0 w : World) (hI : IsS53 w0 w g s0_0 s0_1) (hB : Below w0.heap.size w0 w) (h : spec_l2To.f k s0_0 s0_1 = some (r1, r2, r3)) :
  Calls Tryz.prog 23 #[.pointer (some ⟨g, 0, none⟩)] w fun e w' => e = .returned (.agg #[.int .i64 r1, .int .i64 r2]) ∧ IsS53 w0 w' g s0_0 r3 ∧ Below w0.heap.size w0 w' ∧ KeepBut w w' g none := by
 have hu28 := Tryz.underlying28
 have HI0 := z0 hI
 have HK := z0 (KeepBut.refl w g none)
 have HL := z0 hB.size
 clear hI
 have HW0 := z0 hB.size
 have HB := z0 hB
 clear hB
 have H : ((spec_l12Rd_pick.f k s0_0 s0_1 2).bind fun bt171 => ((spec_l12Rd_pick.f k s0_0 bt171.2 3).bind fun bt173 => (some (wrap64 (2 + bt171.1), bt173.1, bt173.2)))) = some (r1, r2, r3) := h
 clear h
 replace H := Option.bind_eq_some_iff.mp H
 obtain ⟨⟨t171, t172⟩, A20, H⟩ := H
 try dsimp only at H
 have A2 := z0 A20
 clear A20
 replace H := Option.bind_eq_some_iff.mp H
 obtain ⟨⟨t173, t174⟩, A30, H⟩ := H
 try dsimp only at H
 have A3 := z0 A30
 clear A30
 simp only [Option.some.injEq, Prod.mk.injEq] at H
 obtain ⟨rfl, rfl, rfl⟩ := H
 go_enter Tryz.func23, Tryz.ntmps23
 go_wp2_with (first | ((with_reducible refine gate_dst (N := 2) rfl ?_); refine box_event ?hg (N := 2) ?hd (cs := #[.int .i64 0, .int .i64 0]) (t := 28) ?hr ?_; (case hd => rfl); (case hg => rfl); (case hr => first | (go_simp; done) | (go_simp; rfl)); intro gb170 hg w4 hbox hb; have n_ := az (IsS53.below (mI53_1 HI0.out) hb) <| az (KeepBut.trans (mKp HK.out) (KeepBut.of_below hb g none) (.inl rfl)) <| az (below_step (mB53HI0 HB.out) hb) <| az (hbox) <| az ((gW hg HK.out)) <| az ((Nat.le_trans HW0.out (gW hg HK.out) : w0.heap.size ≤ gb170)) <| az ((by rw [hg]; exact Nat.ne_of_lt (IsS53.lt (show IsS53 w0 _ g s0_0 s0_1 from mI53_1 HI0.out)) : g ≠ gb170)) <| z0 ((by rw [hg]; exact Nat.ne_of_gt (IsS53.lt (show IsS53 w0 _ g s0_0 s0_1 from mI53_1 HI0.out)) : gb170 ≠ g)); clear HI0 HK HB; obtain ⟨HI0, HK, HB, BK170, GW170, GE170, NB0_170, NB170_0⟩ := n_; clear hb hbox hg) | ((with_reducible refine gate_callee (f := 18) rfl ?_); refine goesL_ (some 4) rfl rfl Tryz.func18 (by kernel_rfl) rfl #[.pointer (some ⟨g, 0, none⟩), .int .i64 2] rfl argx ?_; (with_reducible refine (spec_l12Rd_pick.calls k g s0_0 s0_1 2 t171 t172 w0 _ ?side1 ?side2 A2.out).mono ?_); (case side1 => exact mI53_1 HI0.out); (case side2 => exact mB53HI0 HB.out); rintro e w5 ⟨rfl, hi, hb, hk⟩; refine ⟨_, rfl, ?_⟩; have n_ := az (kB hk BK170.out NB170_0.out) <| az (KeepBut.trans (mKp HK.out) hk (.inl rfl)) <| az (hb) <| z0 (hi); clear BK170 HK HB HI0; obtain ⟨BK170, HK, HB, HI0⟩ := n_; clear hb hk hi) | ((with_reducible refine gate_callee (f := 18) rfl ?_); refine goesL_ (some 7) rfl rfl Tryz.func18 (by kernel_rfl) rfl #[.pointer (some ⟨g, 0, none⟩), .int .i64 3] rfl argx ?_; (with_reducible refine (spec_l12Rd_pick.calls k g s0_0 t172 3 t173 t174 w0 _ ?side1 ?side2 A3.out).mono ?_); (case side1 => exact mI53_1 HI0.out); (case side2 => exact mB53HI0 HB.out); rintro e w6 ⟨rfl, hi, hb, hk⟩; refine ⟨_, rfl, ?_⟩; have n_ := az (kB hk BK170.out NB170_0.out) <| az (KeepBut.trans (mKp HK.out) hk (.inl rfl)) <| az (hb) <| z0 (hi); clear BK170 HK HB HI0; obtain ⟨BK170, HK, HB, HI0⟩ := n_; clear hb hk hi; have hnb7 := NB170_0.out; have hnc7 := NB0_170.out; obtain ⟨hcz8_0, hcz8_1, hfz8_0, hfz8_1⟩ := cel2 BK170.out))
 refine bodyPost_ret (results_cell_row rfl _ _ gb170 28 #[.int .i64 (wrap64 (2 + t171)), .int .i64 t173] (0, 0) _ rfl (pF BK170.out) Tryz.underlying28 rfl (by kernel_rfl)) rfl ?_
 exact ⟨rfx, mI53_1 HI0.out, mB53HI0 HB.out, mKp HK.out⟩

end Go.Proofs.YtbckpgipehjgmaaGreat.B
