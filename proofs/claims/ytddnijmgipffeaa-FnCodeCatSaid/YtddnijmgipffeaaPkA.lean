/- Printed functions of this seat, in one text. -/
import Derived.Test.YtddnijmgipffeaaB0
import Derived.Test.YtddnijmgipffeaaSq
namespace Go.Proofs.Ytddnijmgipffeaa.B
open Go.RowKit Go.Proofs.YtddnijmgipffeaaW.PrintWords Go.Proofs.YtddnijmgipffeaaW.PrintLast Go.Proofs.YtddnijmgipffeaaW.PrintMore
attribute [local go_sem] max2_int min2_int max_two min_two max_three min_three max_four min_four   -- for this text's walks alone
set_option linter.unusedVariables false
set_option linter.unusedSimpArgs false

theorem eqA37 (d : Nat) (w : World) (x0 y0 : Int) (x1 y1 : Int) :
    (Op.equalIn (d + 2) 37 (.agg #[.int .i64 x0, .int .i64 x1]) (.agg #[.int .i64 y0, .int .i64 y1])).run Try.prog w = .ok (x0 == y0 && (x1 == y1)) w := by
  refine eqA_of Try.underlying37 (by kernel_rfl) ?_
  refine eqf_cons (by rfl) (by go_simp; rfl) (by go_simp; rfl) (by go_simp) ?_
  exact eqf_last (by rfl) (by go_simp; rfl) (by go_simp; rfl) (by go_simp)
theorem eqA39 (d : Nat) (w : World) (x0 y0 : Int) (x1 y1 : Int) (x2 y2 : Int) (x3 y3 : Int) :
    (Op.equalIn (d + 3) 39 (.agg #[.int .i64 x0, .int .i64 x1, .int .i64 x2, .int .i64 x3]) (.agg #[.int .i64 y0, .int .i64 y1, .int .i64 y2, .int .i64 y3])).run Try.prog w = .ok (x0 == y0 && (x1 == y1 && ((x2 == y2 && (x3 == y3))))) w := by
  refine eqA_of Try.underlying39 (by kernel_rfl) ?_
  refine eqf_cons (by rfl) (by go_simp; rfl) (by go_simp; rfl) (by go_simp) ?_
  refine eqf_cons (by rfl) (by go_simp; rfl) (by go_simp; rfl) (by go_simp) ?_
  exact eqf_last (by rfl) (by go_simp) (by go_simp) (eqA37 (d + 0) w _ _ _ _)
/-! ### spec_l4Many: function 44 -/
mutual
def spec_l4Many.l0 : Nat → List (S69) → Int → Int → Int → Option (Int)
 | 0, _, _, _, _ => none
 | k + 1, x0, x1, x5, x6 => if x6 < (x0.length : Int) then (spec_l4Many.j1 k x0 x1 x5 x6 (decide (x1 > 0))) else (spec_l4Many.j1 k x0 x1 x5 x6 false)
def spec_l4Many.j1 : Nat → List (S69) → Int → Int → Int → Bool → Option (Int)
 | 0, _, _, _, _, _ => none
 | k + 1, x0, x1, x5, x6, x16 => if x16 = true then (if 0 ≤ x6 then (if x6 < (x0.length : Int) then ((spec_l4Many.f k ((rd_T69 x0 x6).f3) (wrap64 (x1 - 1))).bind fun t112 => ((spec_l4Many.f k ((rd_T69 x0 x6).f4) (wrap64 (x1 - 1))).bind fun t114 => (spec_l4Many.l0 k x0 x1 (wrap64 ((wrap64 (x5 + t112)) + t114)) (wrap64 (x6 + 1))))) else (none)) else (none)) else (some x5)
def spec_l4Many.f : Nat → List (S69) → Int → Option (Int)
 | 0, _, _ => none
 | k + 1, l0, a1 => spec_l4Many.l0 k l0 a1 (l0.length : Int) 0
end
def spec_l4Many.T5 : Bool × List (List Nat × List Nat) := (true, [([], []), ([], []), ([], []), ([1, 2], [1, 2]), ([3], [3]), ([4], [4]), ([], []), ([6], [6]), ([5, 7], [5, 7]), ([0, 8], [0, 8]), ([], []), ([], []), ([10, 11], [10, 11]), ([12], [12]), ([13], [13]), ([], []), ([15], [15]), ([14, 16, 8], [14, 16]), ([9, 17], [9, 17]), ([18, 17, 0, 1, 2, 3, 4, 5, 6, 7, 8, 9, 10, 11, 12, 13, 14, 15, 16, 17, 18], [0, 18])])
def spec_l4Many.B5 : List Nat := [0, 0, 0, 6, 14, 30, 0, 64, 254, 511, 0, 0, 3072, 7168, 15360, 0, 32768, 130558, 262143, 524287]
theorem spec_l4Many.tab5 : rtab .any (opsOf Try.f44 5) = spec_l4Many.T5 := by kernel_rfl
theorem spec_l4Many.bits5 : waitsOk spec_l4Many.T5.2 spec_l4Many.B5 = true := by kernel_rfl
set_option maxHeartbeats 8000000 in
set_option maxRecDepth 100000 in
theorem spec_l4Many.calls (k : Nat) : ∀ (A0 : Option Addr) (c0 : Nat) (l0 : List (S69)) (a1 : Int) (r : Int) (w : World) (hr0 : Kd.C k69 w A0 l0.length l0) (hc0 : l0.length ≤ c0) (h : spec_l4Many.f k l0 a1 = some r),
  Calls Try.prog 44 #[.slice A0 l0.length c0, .int .i64 a1] w fun e w' => e = .returned (.int .i64 r) ∧ Below w.heap.size w w' := by
 induction k using Nat.strongRecOn with
 | _ k ih =>
 intro A0 c0 l0 a1 r w hr0 hc0 h
 cases k with
 | zero => exact absurd h (by simp [spec_l4Many.f])
 | succ k =>
 simp only [spec_l4Many.f] at h
 have HR0 := z0 hr0
 have HC0 := z0 hc0
 clear hr0 hc0
 have HB := z0 (Below.refl w.heap.size w)
 have H : (spec_l4Many.l0 k l0 a1 (l0.length : Int) 0) = some r := h
 clear h
 have H' := z0 H
 clear H
 go_enter Try.func44, Try.ntmps44
 go_wp2
 go_loopg [5, 6] k (fun kq v5 v6 w' => ∃ (x5_1 : Int) (x6_1 : Int), v5 = .int .i64 x5_1 ∧ v6 = .int .i64 x6_1 ∧ Aside0 (spec_l4Many.l0 kq l0 a1 x5_1 x6_1 = some r) ∧ Aside0 (kq ≤ k) ∧ Aside0 (Below w.heap.size w w'))
 case atStart => exact ⟨((l0.length : Int)), (0), rfy, rfy, H', ⟨Nat.le_refl _⟩, ⟨mB HB.out⟩⟩
 case round =>
  clear H'
  try clear p2
  obtain ⟨x5_1, x6_1, rfl, rfl, HA, HK1, HB⟩ := hrel
  cases gk with
  | zero => exact absurd HA.out (by simp [spec_l4Many.l0])
  | succ k1 =>
   have H := HA.out
   clear HA
   simp only [spec_l4Many.l0] at H
   have HC3 := z0 H
   clear H
   go_upto_region 3 with (fail)
   go_cut [16] (fun v16 wc => ∃ (kq : Nat) (x16_2 : Bool), v16 = .bool x16_2 ∧ Aside0 (spec_l4Many.j1 kq l0 a1 x5_1 x6_1 x16_2 = some r) ∧ Aside0 (kq ≤ k1) ∧ Aside0 (Below w.heap.size w wc))
   case first =>
    have H := HC3.out
    clear HC3
    by_cases c4 : x6_1 < (l0.length : Int)
    ·rw [if_pos c4] at H
     have c4b0 : decide (x6_1 < (l0.length : Int)) = true := decide_eq_true c4
     clear c4
     (first | rw [c4b0] | (simp only [i64_w, i32_w]; rw [c4b0]) | skip)
     have H' := z0 H
     clear H
     go_wp2
     go_meet
     case rel => exact ⟨_, (decide (a1 > 0)), rfy, H', ⟨by have := HK1.out; first | omega | exact Nat.le_refl _⟩, ⟨mB HB.out⟩⟩
    ·rw [if_neg c4] at H
     have c4b0 : decide (x6_1 < (l0.length : Int)) = false := decide_eq_false c4
     clear c4
     (first | rw [c4b0] | (simp only [i64_w, i32_w]; rw [c4b0]) | skip)
     have H' := z0 H
     clear H
     go_wp2
     go_meet
     case rel => exact ⟨_, (false), rfy, H', ⟨by have := HK1.out; first | omega | exact Nat.le_refl _⟩, ⟨mB HB.out⟩⟩
   case rest =>
    clear HC3
    (try clear p2); (try clear p2)
    obtain ⟨kq, x16_2, rfl, HA, HJ2, HB⟩ := hcut
    cases kq with
    | zero => exact absurd HA.out (by simp [spec_l4Many.j1])
    | succ kj2 =>
     have H := HA.out
     clear HA
     simp only [spec_l4Many.j1] at H
     by_cases c5 : x16_2 = true
     ·subst c5
      have H1 : (if 0 ≤ x6_1 then (if x6_1 < (l0.length : Int) then ((spec_l4Many.f kj2 ((rd_T69 l0 x6_1).f3) (wrap64 (a1 - 1))).bind fun t112 => ((spec_l4Many.f kj2 ((rd_T69 l0 x6_1).f4) (wrap64 (a1 - 1))).bind fun t114 => (spec_l4Many.l0 kj2 l0 a1 (wrap64 ((wrap64 (x5_1 + t112)) + t114)) (wrap64 (x6_1 + 1))))) else (none)) else (none)) = some r := by rw [if_pos rfl] at H; exact H
      clear H
      have H := H1
      clear H1
      by_cases c6 : 0 ≤ x6_1
      ·rw [if_pos c6] at H
       have c6b0 : decide (0 ≤ x6_1) = true := decide_eq_true c6
       clear c6
       by_cases c7 : x6_1 < (l0.length : Int)
       ·rw [if_pos c7] at H
        have c7b0 : decide (x6_1 < (l0.length : Int)) = true := decide_eq_true c7
        clear c7
        replace H := Option.bind_eq_some_iff.mp H
        obtain ⟨t112, A80, H⟩ := H
        try dsimp only at H
        have A8 := z0 A80
        clear A80
        replace H := Option.bind_eq_some_iff.mp H
        obtain ⟨t114, A90, H⟩ := H
        try dsimp only at H
        have A9 := z0 A90
        clear A90
        have H' := z0 H
        clear H
        try go_wp2
        have n0_ := z0 (below_drew1 HB.out)
        clear HB
        have HB := n0_
        clear n0_
        have p111 : 0 ≤ (x6_1 : Int) := of_decide_eq_true (by first | (with_reducible assumption) | assumption)
        have q111 : x6_1 < (l0.length : Int) := of_decide_eq_true (by first | (with_reducible assumption) | assumption)
        obtain ⟨ad111, A111_7, c111_7, A111_8, c111_8, A111_9, c111_9, e111, hx111_0, hx111_1, hx111_2, hx111_3, hx111_4, hx111_5, hx111_6, hx111_7, hx111_8, hx111_9, hl111_7, hi111_7, hl111_8, hi111_8, hl111_9, hi111_9⟩ := at_T69 HR0.out x6_1 p111 q111
        have hw111_9 := hx111_9
        have hw111_8 := hx111_8
        have hw111_7 := hx111_7
        have hw111_6 := hx111_6
        have hw111_5 := hx111_5
        have hw111_4 := hx111_4
        have hw111_3 := hx111_3
        have hw111_2 := hx111_2
        have hw111_1 := hx111_1
        have hw111_0 := hx111_0
        cases e111
        replace hx111_0 := (HB.out.cell (World.block_lt_of_cell? w _ hx111_0)).trans hx111_0
        replace hx111_1 := (HB.out.cell (World.block_lt_of_cell? w _ hx111_1)).trans hx111_1
        replace hx111_2 := (HB.out.cell (World.block_lt_of_cell? w _ hx111_2)).trans hx111_2
        replace hx111_3 := (HB.out.cell (World.block_lt_of_cell? w _ hx111_3)).trans hx111_3
        replace hx111_4 := (HB.out.cell (World.block_lt_of_cell? w _ hx111_4)).trans hx111_4
        replace hx111_5 := (HB.out.cell (World.block_lt_of_cell? w _ hx111_5)).trans hx111_5
        replace hx111_6 := (HB.out.cell (World.block_lt_of_cell? w _ hx111_6)).trans hx111_6
        replace hx111_7 := (HB.out.cell (World.block_lt_of_cell? w _ hx111_7)).trans hx111_7
        replace hx111_8 := (HB.out.cell (World.block_lt_of_cell? w _ hx111_8)).trans hx111_8
        replace hx111_9 := (HB.out.cell (World.block_lt_of_cell? w _ hx111_9)).trans hx111_9
        have HR111_7 := z0 hi111_7
        have HC111_7 := z0 hl111_7
        clear hi111_7 hl111_7
        have HR111_8 := z0 hi111_8
        have HC111_8 := z0 hl111_8
        clear hi111_8 hl111_8
        have HR111_9 := z0 hi111_9
        have HC111_9 := z0 hl111_9
        clear hi111_9 hl111_9
        replace p111 := eq_true p111
        replace q111 := eq_true q111
        have p113 : 0 ≤ (x6_1 : Int) := of_decide_eq_true (by first | (with_reducible assumption) | assumption)
        have q113 : x6_1 < (l0.length : Int) := of_decide_eq_true (by first | (with_reducible assumption) | assumption)
        obtain ⟨ad113, A113_7, c113_7, A113_8, c113_8, A113_9, c113_9, e113, hx113_0, hx113_1, hx113_2, hx113_3, hx113_4, hx113_5, hx113_6, hx113_7, hx113_8, hx113_9, hl113_7, hi113_7, hl113_8, hi113_8, hl113_9, hi113_9⟩ := at_T69 HR0.out x6_1 p113 q113
        have hw113_9 := hx113_9
        have hw113_8 := hx113_8
        have hw113_7 := hx113_7
        have hw113_6 := hx113_6
        have hw113_5 := hx113_5
        have hw113_4 := hx113_4
        have hw113_3 := hx113_3
        have hw113_2 := hx113_2
        have hw113_1 := hx113_1
        have hw113_0 := hx113_0
        obtain rfl : ad111 = ad113 := (by injection e113)
        replace hx113_0 := (HB.out.cell (World.block_lt_of_cell? w _ hx113_0)).trans hx113_0
        replace hx113_1 := (HB.out.cell (World.block_lt_of_cell? w _ hx113_1)).trans hx113_1
        replace hx113_2 := (HB.out.cell (World.block_lt_of_cell? w _ hx113_2)).trans hx113_2
        replace hx113_3 := (HB.out.cell (World.block_lt_of_cell? w _ hx113_3)).trans hx113_3
        replace hx113_4 := (HB.out.cell (World.block_lt_of_cell? w _ hx113_4)).trans hx113_4
        replace hx113_5 := (HB.out.cell (World.block_lt_of_cell? w _ hx113_5)).trans hx113_5
        replace hx113_6 := (HB.out.cell (World.block_lt_of_cell? w _ hx113_6)).trans hx113_6
        replace hx113_7 := (HB.out.cell (World.block_lt_of_cell? w _ hx113_7)).trans hx113_7
        replace hx113_8 := (HB.out.cell (World.block_lt_of_cell? w _ hx113_8)).trans hx113_8
        replace hx113_9 := (HB.out.cell (World.block_lt_of_cell? w _ hx113_9)).trans hx113_9
        have HR113_7 := z0 hi113_7
        have HC113_7 := z0 hl113_7
        clear hi113_7 hl113_7
        have HR113_8 := z0 hi113_8
        have HC113_8 := z0 hl113_8
        clear hi113_8 hl113_8
        have HR113_9 := z0 hi113_9
        have HC113_9 := z0 hl113_9
        clear hi113_9 hl113_9
        replace p113 := eq_true p113
        replace q113 := eq_true q113
        have ea_ := Option.some.inj (hx111_7.symm.trans hx113_7)
        injection ea_ with ea_ en_ ec_
        subst ea_
        subst ec_
        clear en_
        have ea_ := Option.some.inj (hx111_8.symm.trans hx113_8)
        injection ea_ with ea_ en_ ec_
        subst ea_
        subst ec_
        clear en_
        have ea_ := Option.some.inj (hx111_9.symm.trans hx113_9)
        injection ea_ with ea_ en_ ec_
        subst ea_
        subst ec_
        clear en_
        refine start_ (n := 20) (S := fun w' => w'.cell? (ad111.add ((x6_1).toNat * 10)) = some (.int .i64 ((rd_T69 l0 x6_1).f0)) ∧ w'.cell? ⟨(ad111.add ((x6_1).toNat * 10)).block, (ad111.add ((x6_1).toNat * 10)).off + 1, none⟩ = some (.int .i64 ((rd_T69 l0 x6_1).f1.f0)) ∧ w'.cell? ⟨(ad111.add ((x6_1).toNat * 10)).block, (ad111.add ((x6_1).toNat * 10)).off + 2, none⟩ = some (.int .i64 ((rd_T69 l0 x6_1).f1.f1)) ∧ w'.cell? ⟨(ad111.add ((x6_1).toNat * 10)).block, (ad111.add ((x6_1).toNat * 10)).off + 3, none⟩ = some (.int .i64 ((rd_T69 l0 x6_1).f2.f0)) ∧ w'.cell? ⟨(ad111.add ((x6_1).toNat * 10)).block, (ad111.add ((x6_1).toNat * 10)).off + 4, none⟩ = some (.int .i64 ((rd_T69 l0 x6_1).f2.f1)) ∧ w'.cell? ⟨(ad111.add ((x6_1).toNat * 10)).block, (ad111.add ((x6_1).toNat * 10)).off + 5, none⟩ = some (.int .i64 ((rd_T69 l0 x6_1).f2.f2.f0)) ∧ w'.cell? ⟨(ad111.add ((x6_1).toNat * 10)).block, (ad111.add ((x6_1).toNat * 10)).off + 6, none⟩ = some (.int .i64 ((rd_T69 l0 x6_1).f2.f2.f1)) ∧ w'.cell? ⟨(ad111.add ((x6_1).toNat * 10)).block, (ad111.add ((x6_1).toNat * 10)).off + 7, none⟩ = some (.slice A111_7 ((rd_T69 l0 x6_1).f2.f3).length c111_7) ∧ w'.cell? ⟨(ad111.add ((x6_1).toNat * 10)).block, (ad111.add ((x6_1).toNat * 10)).off + 8, none⟩ = some (.slice A111_8 ((rd_T69 l0 x6_1).f3).length c111_8) ∧ w'.cell? ⟨(ad111.add ((x6_1).toNat * 10)).block, (ad111.add ((x6_1).toNat * 10)).off + 9, none⟩ = some (.slice A111_9 ((rd_T69 l0 x6_1).f4).length c111_9) ∧ w'.cell? (ad111.add ((x6_1).toNat * 10)) = some (.int .i64 ((rd_T69 l0 x6_1).f0)) ∧ w'.cell? ⟨(ad111.add ((x6_1).toNat * 10)).block, (ad111.add ((x6_1).toNat * 10)).off + 1, none⟩ = some (.int .i64 ((rd_T69 l0 x6_1).f1.f0)) ∧ w'.cell? ⟨(ad111.add ((x6_1).toNat * 10)).block, (ad111.add ((x6_1).toNat * 10)).off + 2, none⟩ = some (.int .i64 ((rd_T69 l0 x6_1).f1.f1)) ∧ w'.cell? ⟨(ad111.add ((x6_1).toNat * 10)).block, (ad111.add ((x6_1).toNat * 10)).off + 3, none⟩ = some (.int .i64 ((rd_T69 l0 x6_1).f2.f0)) ∧ w'.cell? ⟨(ad111.add ((x6_1).toNat * 10)).block, (ad111.add ((x6_1).toNat * 10)).off + 4, none⟩ = some (.int .i64 ((rd_T69 l0 x6_1).f2.f1)) ∧ w'.cell? ⟨(ad111.add ((x6_1).toNat * 10)).block, (ad111.add ((x6_1).toNat * 10)).off + 5, none⟩ = some (.int .i64 ((rd_T69 l0 x6_1).f2.f2.f0)) ∧ w'.cell? ⟨(ad111.add ((x6_1).toNat * 10)).block, (ad111.add ((x6_1).toNat * 10)).off + 6, none⟩ = some (.int .i64 ((rd_T69 l0 x6_1).f2.f2.f1)) ∧ w'.cell? ⟨(ad111.add ((x6_1).toNat * 10)).block, (ad111.add ((x6_1).toNat * 10)).off + 7, none⟩ = some (.slice A111_7 ((rd_T69 l0 x6_1).f2.f3).length c111_7) ∧ w'.cell? ⟨(ad111.add ((x6_1).toNat * 10)).block, (ad111.add ((x6_1).toNat * 10)).off + 8, none⟩ = some (.slice A111_8 ((rd_T69 l0 x6_1).f3).length c111_8) ∧ w'.cell? ⟨(ad111.add ((x6_1).toNat * 10)).block, (ad111.add ((x6_1).toNat * 10)).off + 9, none⟩ = some (.slice A111_9 ((rd_T69 l0 x6_1).f4).length c111_9)) (ds := []) #[false, false, false, false, false, false, false, false, false, false, false, false, false, false, false, false, false, false, false, false] (by kernel_rfl) rfl rfl ⟨((HB.out.cell (World.block_lt_of_cell? w _ hw111_0)).trans hw111_0), ((HB.out.cell (World.block_lt_of_cell? w _ hw111_1)).trans hw111_1), ((HB.out.cell (World.block_lt_of_cell? w _ hw111_2)).trans hw111_2), ((HB.out.cell (World.block_lt_of_cell? w _ hw111_3)).trans hw111_3), ((HB.out.cell (World.block_lt_of_cell? w _ hw111_4)).trans hw111_4), ((HB.out.cell (World.block_lt_of_cell? w _ hw111_5)).trans hw111_5), ((HB.out.cell (World.block_lt_of_cell? w _ hw111_6)).trans hw111_6), ((HB.out.cell (World.block_lt_of_cell? w _ hw111_7)).trans hw111_7), ((HB.out.cell (World.block_lt_of_cell? w _ hw111_8)).trans hw111_8), ((HB.out.cell (World.block_lt_of_cell? w _ hw111_9)).trans hw111_9), ((HB.out.cell (World.block_lt_of_cell? w _ hw113_0)).trans hw113_0), ((HB.out.cell (World.block_lt_of_cell? w _ hw113_1)).trans hw113_1), ((HB.out.cell (World.block_lt_of_cell? w _ hw113_2)).trans hw113_2), ((HB.out.cell (World.block_lt_of_cell? w _ hw113_3)).trans hw113_3), ((HB.out.cell (World.block_lt_of_cell? w _ hw113_4)).trans hw113_4), ((HB.out.cell (World.block_lt_of_cell? w _ hw113_5)).trans hw113_5), ((HB.out.cell (World.block_lt_of_cell? w _ hw113_6)).trans hw113_6), ((HB.out.cell (World.block_lt_of_cell? w _ hw113_7)).trans hw113_7), ((HB.out.cell (World.block_lt_of_cell? w _ hw113_8)).trans hw113_8), ((HB.out.cell (World.block_lt_of_cell? w _ hw113_9)).trans hw113_9)⟩ (fun hHeld => ?_); refine with_tabW spec_l4Many.tab5 spec_l4Many.bits5 (fun HT_ HW_ => ?_)
        generalize wc.drew = w10 at HB HR111_7 HR111_8 HR111_9 HR113_7 HR113_8 HR113_9 hx111_0 hx111_1 hx111_2 hx111_3 hx111_4 hx111_5 hx111_6 hx111_7 hx111_8 hx111_9 hx113_0 hx113_1 hx113_2 hx113_3 hx113_4 hx113_5 hx113_6 hx113_7 hx113_8 hx113_9 hHeld ⊢
        refine pure_ (i := 0) (N := some 19) (v := ?_) (a' := ?_) #[true, false, false, false, false, false, false, false, false, false, false, false, false, false, false, false, false, false, false, false] rfl rfl (any_of HT_.out (by kernel_rfl)) (fun _ _ _ h => h) (Or.inl ⟨by rfl, ?_⟩) ?_ ?_
        rotate_left
        ·intro w'
         go_simp
         with_reducible rfl
        rotate_left
        ·simp only [Act.put, List.setIfInBounds_toArray, List.set_cons_zero, List.set_cons_succ, i64_w, i32_w]
         rfl
        refine pure_ (i := 1) (N := some 20) (v := ?_) (a' := ?_) #[true, true, false, false, false, false, false, false, false, false, false, false, false, false, false, false, false, false, false, false] rfl rfl (any_of HT_.out (by kernel_rfl)) (fun _ _ _ h => h) (Or.inl ⟨by rfl, ?_⟩) ?_ ?_
        rotate_left
        ·intro w'
         go_simp
         with_reducible rfl
        rotate_left
        ·simp only [Act.put, List.setIfInBounds_toArray, List.set_cons_zero, List.set_cons_succ, i64_w, i32_w]
         rfl
        refine pure_ (i := 2) (N := some 21) (v := ?_) (a' := ?_) #[true, true, true, false, false, false, false, false, false, false, false, false, false, false, false, false, false, false, false, false] rfl rfl (any_of HT_.out (by kernel_rfl)) (fun _ _ _ h => h) (Or.inl ⟨by rfl, ?_⟩) ?_ ?_
        rotate_left
        ·intro w'
         go_simp
         with_reducible rfl
        rotate_left
        ·simp only [Act.put, List.setIfInBounds_toArray, List.set_cons_zero, List.set_cons_succ, i64_w, i32_w]
         rfl
        refine pure_ (i := 3) (N := some 22) (v := ?_) (a' := ?_) #[true, true, true, true, false, false, false, false, false, false, false, false, false, false, false, false, false, false, false, false] rfl rfl (any_of HT_.out (by kernel_rfl)) (fun _ _ _ h => h) (Or.inl ⟨by rfl, ?_⟩) ?_ ?_
        rotate_left
        ·intro w'
         go_simp
         with_reducible rfl
        rotate_left
        ·simp only [Act.put, List.setIfInBounds_toArray, List.set_cons_zero, List.set_cons_succ, i64_w, i32_w]
         rfl
        refine pure_ (i := 4) (N := some 23) (v := ?_) (a' := ?_) #[true, true, true, true, true, false, false, false, false, false, false, false, false, false, false, false, false, false, false, false] rfl rfl (any_of HT_.out (by kernel_rfl)) (fun _ _ _ h => h) (Or.inl ⟨by rfl, ?_⟩) ?_ ?_
        rotate_left
        ·intro w'
         go_simp
         with_reducible rfl
        rotate_left
        ·simp only [Act.put, List.setIfInBounds_toArray, List.set_cons_zero, List.set_cons_succ, i64_w, i32_w]
         rfl
        refine pure_ (i := 6) (N := some 25) (v := ?_) (a' := ?_) #[true, true, true, true, true, false, true, false, false, false, false, false, false, false, false, false, false, false, false, false] rfl rfl (any_of HT_.out (by kernel_rfl)) (fun _ _ _ h => h) (Or.inl ⟨by rfl, ?_⟩) ?_ ?_
        rotate_left
        ·intro w'
         go_simp
         with_reducible rfl
        rotate_left
        ·simp only [Act.put, List.setIfInBounds_toArray, List.set_cons_zero, List.set_cons_succ, i64_w, i32_w]
         rfl
        refine pure_ (i := 7) (N := some 26) (v := ?_) (a' := ?_) #[true, true, true, true, true, false, true, true, false, false, false, false, false, false, false, false, false, false, false, false] rfl rfl (any_of HT_.out (by kernel_rfl)) (fun _ _ _ h => h) (Or.inl ⟨by rfl, ?_⟩) ?_ ?_
        rotate_left
        ·intro w'
         go_simp
         with_reducible rfl
        rotate_left
        ·simp only [Act.put, List.setIfInBounds_toArray, List.set_cons_zero, List.set_cons_succ, i64_w, i32_w]
         rfl
        refine pure_ (i := 10) (N := some 29) (v := ?_) (a' := ?_) #[true, true, true, true, true, false, true, true, false, false, true, false, false, false, false, false, false, false, false, false] rfl rfl (any_of HT_.out (by kernel_rfl)) (fun _ _ _ h => h) (Or.inl ⟨by rfl, ?_⟩) ?_ ?_
        rotate_left
        ·intro w'
         go_simp
         with_reducible rfl
        rotate_left
        ·simp only [Act.put, List.setIfInBounds_toArray, List.set_cons_zero, List.set_cons_succ, i64_w, i32_w]
         rfl
        refine pure_ (i := 11) (N := some 30) (v := ?_) (a' := ?_) #[true, true, true, true, true, false, true, true, false, false, true, true, false, false, false, false, false, false, false, false] rfl rfl (any_of HT_.out (by kernel_rfl)) (fun _ _ _ h => h) (Or.inl ⟨by rfl, ?_⟩) ?_ ?_
        rotate_left
        ·intro w'
         go_simp
         with_reducible rfl
        rotate_left
        ·simp only [Act.put, List.setIfInBounds_toArray, List.set_cons_zero, List.set_cons_succ, i64_w, i32_w]
         rfl
        refine pure_ (i := 12) (N := some 31) (v := ?_) (a' := ?_) #[true, true, true, true, true, false, true, true, false, false, true, true, true, false, false, false, false, false, false, false] rfl rfl (any_of HT_.out (by kernel_rfl)) (fun _ _ _ h => h) (Or.inl ⟨by rfl, ?_⟩) ?_ ?_
        rotate_left
        ·intro w'
         go_simp
         with_reducible rfl
        rotate_left
        ·simp only [Act.put, List.setIfInBounds_toArray, List.set_cons_zero, List.set_cons_succ, i64_w, i32_w]
         rfl
        refine pure_ (i := 13) (N := some 32) (v := ?_) (a' := ?_) #[true, true, true, true, true, false, true, true, false, false, true, true, true, true, false, false, false, false, false, false] rfl rfl (any_of HT_.out (by kernel_rfl)) (fun _ _ _ h => h) (Or.inl ⟨by rfl, ?_⟩) ?_ ?_
        rotate_left
        ·intro w'
         go_simp
         with_reducible rfl
        rotate_left
        ·simp only [Act.put, List.setIfInBounds_toArray, List.set_cons_zero, List.set_cons_succ, i64_w, i32_w]
         rfl
        refine pure_ (i := 15) (N := some 34) (v := ?_) (a' := ?_) #[true, true, true, true, true, false, true, true, false, false, true, true, true, true, false, true, false, false, false, false] rfl rfl (any_of HT_.out (by kernel_rfl)) (fun _ _ _ h => h) (Or.inl ⟨by rfl, ?_⟩) ?_ ?_
        rotate_left
        ·intro w'
         go_simp
         with_reducible rfl
        rotate_left
        ·simp only [Act.put, List.setIfInBounds_toArray, List.set_cons_zero, List.set_cons_succ, i64_w, i32_w]
         rfl
        refine pure_ (i := 16) (N := some 35) (v := ?_) (a' := ?_) #[true, true, true, true, true, false, true, true, false, false, true, true, true, true, false, true, true, false, false, false] rfl rfl (any_of HT_.out (by kernel_rfl)) (fun _ _ _ h => h) (Or.inl ⟨by rfl, ?_⟩) ?_ ?_
        rotate_left
        ·intro w'
         go_simp
         with_reducible rfl
        rotate_left
        ·simp only [Act.put, List.setIfInBounds_toArray, List.set_cons_zero, List.set_cons_succ, i64_w, i32_w]
         rfl
        refine take_ (i := 5) (N := some 24) (v := ?_) (a' := ?_) #[true, true, true, true, true, true, true, true, false, false, true, true, true, true, false, true, true, false, false, false] rfl rfl (take_ofW HT_.out HW_.out (by kernel_rfl)) (fun _ _ _ h => h) (Or.inl ⟨by rfl, ?_⟩) hHeld ?_ ?_
        rotate_left
        ·rintro w' ⟨s0, s1, s2, s3, s4, s5, s6, s7, s8, s9, s10, s11, s12, s13, s14, s15, s16, s17, s18, s19⟩
         go_simp
         with_reducible rfl
        rotate_left
        ·simp only [Act.put, List.setIfInBounds_toArray, List.set_cons_zero, List.set_cons_succ, i64_w, i32_w]
         rfl
        refine take_ (i := 14) (N := some 33) (v := ?_) (a' := ?_) #[true, true, true, true, true, true, true, true, false, false, true, true, true, true, true, true, true, false, false, false] rfl rfl (take_ofW HT_.out HW_.out (by kernel_rfl)) (fun _ _ _ h => h) (Or.inl ⟨by rfl, ?_⟩) hHeld ?_ ?_
        rotate_left
        ·rintro w' ⟨s0, s1, s2, s3, s4, s5, s6, s7, s8, s9, s10, s11, s12, s13, s14, s15, s16, s17, s18, s19⟩
         go_simp
         with_reducible rfl
        rotate_left
        ·simp only [Act.put, List.setIfInBounds_toArray, List.set_cons_zero, List.set_cons_succ, i64_w, i32_w]
         rfl
        refine one_ (i := 8) (N := some 27) #[true, true, true, true, true, true, true, true, true, false, true, true, true, true, true, true, true, false, false, false] rfl rfl (one_of HT_.out (by kernel_rfl)) (by decide) (fun K hK => ?_)
        refine goes_ Try.func44 (by kernel_rfl) rfl #[.slice A111_8 ((rd_T69 l0 x6_1).f3).length c111_8, .int .i64 (wrap64 (a1 - 1))] (by rfl) rfl rfl argx ?_
        with_reducible refine (ih kj2 (by have := HK1.out; have := HJ2.out; omega) _ _ ((rd_T69 l0 x6_1).f3) (wrap64 (a1 - 1)) t112 _ ?side1 ?side2 A8.out).mono ?_
        (case side1 => exact mC (Kd.C_below HR111_8.out HB.out))
        (case side2 => exact HC111_8.out)
        rintro e w11 ⟨rfl, hb⟩
        refine ⟨_, rfl, ?_⟩
        have n0_ := z0 (below_step (mB HB.out) hb)
        clear HB
        have HB := n0_
        clear n0_
        (try clear hb)
        (try clear hb2)
        (try clear hk)
        (try clear hi)
        refine hK.out _ _ ⟨((HB.out.cell (World.block_lt_of_cell? w _ hw111_0)).trans hw111_0), ((HB.out.cell (World.block_lt_of_cell? w _ hw111_1)).trans hw111_1), ((HB.out.cell (World.block_lt_of_cell? w _ hw111_2)).trans hw111_2), ((HB.out.cell (World.block_lt_of_cell? w _ hw111_3)).trans hw111_3), ((HB.out.cell (World.block_lt_of_cell? w _ hw111_4)).trans hw111_4), ((HB.out.cell (World.block_lt_of_cell? w _ hw111_5)).trans hw111_5), ((HB.out.cell (World.block_lt_of_cell? w _ hw111_6)).trans hw111_6), ((HB.out.cell (World.block_lt_of_cell? w _ hw111_7)).trans hw111_7), ((HB.out.cell (World.block_lt_of_cell? w _ hw111_8)).trans hw111_8), ((HB.out.cell (World.block_lt_of_cell? w _ hw111_9)).trans hw111_9), ((HB.out.cell (World.block_lt_of_cell? w _ hw113_0)).trans hw113_0), ((HB.out.cell (World.block_lt_of_cell? w _ hw113_1)).trans hw113_1), ((HB.out.cell (World.block_lt_of_cell? w _ hw113_2)).trans hw113_2), ((HB.out.cell (World.block_lt_of_cell? w _ hw113_3)).trans hw113_3), ((HB.out.cell (World.block_lt_of_cell? w _ hw113_4)).trans hw113_4), ((HB.out.cell (World.block_lt_of_cell? w _ hw113_5)).trans hw113_5), ((HB.out.cell (World.block_lt_of_cell? w _ hw113_6)).trans hw113_6), ((HB.out.cell (World.block_lt_of_cell? w _ hw113_7)).trans hw113_7), ((HB.out.cell (World.block_lt_of_cell? w _ hw113_8)).trans hw113_8), ((HB.out.cell (World.block_lt_of_cell? w _ hw113_9)).trans hw113_9)⟩ (fun hHeld => ?_)
        clear hK K
        refine norm_ (a' := ?_) ?_ ?_
        rotate_left
        ·show Act.put _ (some 27) _ = _
         simp only [Act.put, List.setIfInBounds_toArray, List.set_cons_zero, List.set_cons_succ, i64_w, i32_w]
         rfl
        refine pure_ (i := 9) (N := some 28) (v := ?_) (a' := ?_) #[true, true, true, true, true, true, true, true, true, true, true, true, true, true, true, true, true, false, false, false] rfl rfl (any_of HT_.out (by kernel_rfl)) (fun _ _ _ h => h) (Or.inl ⟨by rfl, ?_⟩) ?_ ?_
        rotate_left
        ·intro w'
         go_simp
         with_reducible rfl
        rotate_left
        ·simp only [Act.put, List.setIfInBounds_toArray, List.set_cons_zero, List.set_cons_succ, i64_w, i32_w]
         rfl
        refine one_ (i := 17) (N := some 36) #[true, true, true, true, true, true, true, true, true, true, true, true, true, true, true, true, true, true, false, false] rfl rfl (one_of HT_.out (by kernel_rfl)) (by decide) (fun K hK => ?_)
        refine goes_ Try.func44 (by kernel_rfl) rfl #[.slice A111_9 ((rd_T69 l0 x6_1).f4).length c111_9, .int .i64 (wrap64 (a1 - 1))] (by rfl) rfl rfl argx ?_
        with_reducible refine (ih kj2 (by have := HK1.out; have := HJ2.out; omega) _ _ ((rd_T69 l0 x6_1).f4) (wrap64 (a1 - 1)) t114 _ ?side1 ?side2 A9.out).mono ?_
        (case side1 => exact mC (Kd.C_below HR113_9.out HB.out))
        (case side2 => exact HC113_9.out)
        rintro e w12 ⟨rfl, hb⟩
        refine ⟨_, rfl, ?_⟩
        have n0_ := z0 (below_step (mB HB.out) hb)
        clear HB
        have HB := n0_
        clear n0_
        (try clear hb)
        (try clear hb2)
        (try clear hk)
        (try clear hi)
        refine hK.out _ _ ⟨((HB.out.cell (World.block_lt_of_cell? w _ hw111_0)).trans hw111_0), ((HB.out.cell (World.block_lt_of_cell? w _ hw111_1)).trans hw111_1), ((HB.out.cell (World.block_lt_of_cell? w _ hw111_2)).trans hw111_2), ((HB.out.cell (World.block_lt_of_cell? w _ hw111_3)).trans hw111_3), ((HB.out.cell (World.block_lt_of_cell? w _ hw111_4)).trans hw111_4), ((HB.out.cell (World.block_lt_of_cell? w _ hw111_5)).trans hw111_5), ((HB.out.cell (World.block_lt_of_cell? w _ hw111_6)).trans hw111_6), ((HB.out.cell (World.block_lt_of_cell? w _ hw111_7)).trans hw111_7), ((HB.out.cell (World.block_lt_of_cell? w _ hw111_8)).trans hw111_8), ((HB.out.cell (World.block_lt_of_cell? w _ hw111_9)).trans hw111_9), ((HB.out.cell (World.block_lt_of_cell? w _ hw113_0)).trans hw113_0), ((HB.out.cell (World.block_lt_of_cell? w _ hw113_1)).trans hw113_1), ((HB.out.cell (World.block_lt_of_cell? w _ hw113_2)).trans hw113_2), ((HB.out.cell (World.block_lt_of_cell? w _ hw113_3)).trans hw113_3), ((HB.out.cell (World.block_lt_of_cell? w _ hw113_4)).trans hw113_4), ((HB.out.cell (World.block_lt_of_cell? w _ hw113_5)).trans hw113_5), ((HB.out.cell (World.block_lt_of_cell? w _ hw113_6)).trans hw113_6), ((HB.out.cell (World.block_lt_of_cell? w _ hw113_7)).trans hw113_7), ((HB.out.cell (World.block_lt_of_cell? w _ hw113_8)).trans hw113_8), ((HB.out.cell (World.block_lt_of_cell? w _ hw113_9)).trans hw113_9)⟩ (fun hHeld => ?_)
        clear hK K
        refine norm_ (a' := ?_) ?_ ?_
        rotate_left
        ·show Act.put _ (some 36) _ = _
         simp only [Act.put, List.setIfInBounds_toArray, List.set_cons_zero, List.set_cons_succ, i64_w, i32_w]
         rfl
        refine pure_ (i := 18) (N := some 37) (v := ?_) (a' := ?_) #[true, true, true, true, true, true, true, true, true, true, true, true, true, true, true, true, true, true, true, false] rfl rfl (any_of HT_.out (by kernel_rfl)) (fun _ _ _ h => h) (Or.inl ⟨by rfl, ?_⟩) ?_ ?_
        rotate_left
        ·intro w'
         go_simp
         with_reducible rfl
        rotate_left
        ·simp only [Act.put, List.setIfInBounds_toArray, List.set_cons_zero, List.set_cons_succ, i64_w, i32_w]
         rfl
        refine pure_ (i := 19) (N := some 5) (v := ?_) (a' := ?_) #[true, true, true, true, true, true, true, true, true, true, true, true, true, true, true, true, true, true, true, true] rfl rfl (any_of HT_.out (by kernel_rfl)) (fun _ _ _ h => h) (Or.inl ⟨by rfl, ?_⟩) ?_ ?_
        rotate_left
        ·intro w'
         go_simp
         with_reducible rfl
        rotate_left
        ·simp only [Act.put, List.setIfInBounds_toArray, List.set_cons_zero, List.set_cons_succ, i64_w, i32_w]
         rfl
        refine done_ (done_of HT_.out (by kernel_rfl)) ?_
        try go_wp2
        go_roundg kj2
        case measure => have := HK1.out; have := HJ2.out; omega
        case rel => exact ⟨(wrap64 ((wrap64 (x5_1 + t112)) + t114)), (wrap64 (x6_1 + 1)), rfy, rfy, H', ⟨by have := HK1.out; have := HJ2.out; omega⟩, ⟨mB HB.out⟩⟩
       ·rw [if_neg c7] at H
        exact absurd H (by simp)
      ·rw [if_neg c6] at H
       exact absurd H (by simp)
     ·replace c5 := Bool.eq_false_iff.mpr c5
      subst c5
      have H1 : (some x5_1) = some r := by rw [if_neg (show ¬ (false = true) by decide)] at H; exact H
      clear H
      have H := H1
      clear H1
      obtain rfl := Option.some.inj H
      go_wp2
      go_ret
      exact ⟨rfx, mB HB.out⟩

/-! ### spec_AddrOk: function 78 -/
def spec_AddrOk.f (a0_0 : Int) (a0_1 : Int) : Option (Bool) := if a0_0 ≥ 1 then (if a0_0 ≤ 3 then (if a0_1 ≥ 0 then (some (decide (a0_1 < 6))) else (some false)) else (some false)) else (some false)
set_option maxHeartbeats 8000000 in
set_option maxRecDepth 100000 in
theorem spec_AddrOk.calls (a0_0 : Int) (a0_1 : Int) (r : Bool) (w : World) (h : spec_AddrOk.f a0_0 a0_1 = some r) :
  Calls Try.prog 78 #[.agg #[.int .i64 a0_0, .int .i64 a0_1]] w fun e w' => e = .returned (.bool r) ∧ Below w.heap.size w w' := by
 have hu37 := Try.underlying37
 have HB := z0 (Below.refl w.heap.size w)
 have H : (if a0_0 ≥ 1 then (if a0_0 ≤ 3 then (if a0_1 ≥ 0 then (some (decide (a0_1 < 6))) else (some false)) else (some false)) else (some false)) = some r := h
 clear h
 have HF2 := z0 H
 clear H
 go_enter Try.func78, Try.ntmps78
 go_upto_region 1 with (first | ((with_reducible refine gate_dst (N := 1) rfl ?_); refine box_event ?hg (N := 1) ?hd (cs := #[.int .i64 a0_0, .int .i64 a0_1]) (t := 37) ?hr ?_; (case hd => rfl); (case hg => rfl); (case hr => first | (go_simp; done) | (go_simp; rfl)); intro gb115 hg w3 hbox hb; have n_ := az (below_step (mB HB.out) hb) <| az (hbox) <| az ((by rw [hg]; exact (below_size (mB HB.out)) : w.heap.size ≤ gb115)) <| z0 ((by rw [hg]; exact (below_size (mB HB.out)) : w.heap.size ≤ gb115)); clear HB; obtain ⟨HB, BK115, GW115, GE115⟩ := n_; clear hb hbox hg))
 (try simp only [Act.put, List.setIfInBounds_toArray, List.set_cons_zero, List.set_cons_succ])
 have H := HF2.out
 clear HF2
 by_cases c4 : a0_0 ≥ 1
 ·rw [if_pos c4] at H
  have c4b0 : decide (1 ≤ a0_0) = true := decide_eq_true c4
  clear c4
  by_cases c5 : a0_0 ≤ 3
  ·rw [if_pos c5] at H
   have c5b0 : decide (a0_0 ≤ 3) = true := decide_eq_true c5
   clear c5
   by_cases c6 : a0_1 ≥ 0
   ·rw [if_pos c6] at H
    have c6b0 : decide (0 ≤ a0_1) = true := decide_eq_true c6
    clear c6
    obtain rfl := Option.some.inj H
    obtain ⟨hcz7_0, hcz7_1, hfz7_0, hfz7_1⟩ := cel2 BK115.out
    go_wp2
    go_ret
    exact ⟨rfx, mB HB.out⟩
   ·rw [if_neg c6] at H
    have c6b0 : decide (0 ≤ a0_1) = false := decide_eq_false c6
    clear c6
    obtain rfl := Option.some.inj H
    obtain ⟨hcz8_0, hcz8_1, hfz8_0, hfz8_1⟩ := cel2 BK115.out
    go_wp2
    go_ret
    exact ⟨rfx, mB HB.out⟩
  ·rw [if_neg c5] at H
   have c5b0 : decide (a0_0 ≤ 3) = false := decide_eq_false c5
   clear c5
   obtain rfl := Option.some.inj H
   obtain ⟨hcz9_0, hcz9_1, hfz9_0, hfz9_1⟩ := cel2 BK115.out
   go_wp2
   go_ret
   exact ⟨rfx, mB HB.out⟩
 ·rw [if_neg c4] at H
  have c4b0 : decide (1 ≤ a0_0) = false := decide_eq_false c4
  clear c4
  obtain rfl := Option.some.inj H
  obtain ⟨hcz10_0, hcz10_1, hfz10_0, hfz10_1⟩ := cel2 BK115.out
  go_wp2
  go_ret
  exact ⟨rfx, mB HB.out⟩

/-! ### spec_l3Kids: function 80 -/
def spec_l3Kids.j0 : Nat → Int → Bool → Option (Int)
 | 0, _, _ => none
 | k + 1, x0, x3 => if x3 = true then (some 0) else (if x0 = 10 then (some 1) else (if x0 ≥ 3 then (if x0 ≤ 9 then (some 2) else (some (-1))) else (some (-1))))
def spec_l3Kids.f (k : Nat) (a0 : Int) : Option (Int) := if a0 = 1 then (spec_l3Kids.j0 k a0 true) else (spec_l3Kids.j0 k a0 (a0 == 2))
theorem spec_l3Kids.mono_l : ∀ k, (∀ y0 y1, LeO (spec_l3Kids.j0 k y0 y1) (spec_l3Kids.j0 (k + 1) y0 y1))
 | 0 => fun _ _ r h => by simp [spec_l3Kids.j0] at h
 | k + 1 => by
  have ih0 := spec_l3Kids.mono_l k
  ·intro y0 y1
   unfold spec_l3Kids.j0
   repeat' first
   | (with_reducible exact ih0 _ _)
   | (with_reducible exact LeO.refl _)
   | (with_reducible exact LeO.none _)
   | (with_reducible refine LeO.ite ?_ ?_)
   | (with_reducible refine LeO.bind ?_ (fun _ => ?_))
   | exact ih0 _ _
   | exact LeO.none _
   | refine LeO.ite ?_ ?_
   | refine LeO.bind ?_ (fun _ => ?_)
theorem spec_l3Kids.mono : ∀ a0 k, LeO (spec_l3Kids.f k a0) (spec_l3Kids.f (k + 1) a0) := by
 intro a0 k
 have ih0 := spec_l3Kids.mono_l k
 unfold spec_l3Kids.f
 repeat' first
   | (with_reducible exact ih0 _ _)
   | (with_reducible exact LeO.refl _)
   | (with_reducible exact LeO.none _)
   | (with_reducible refine LeO.ite ?_ ?_)
   | (with_reducible refine LeO.bind ?_ (fun _ => ?_))
   | exact ih0 _ _
   | exact LeO.none _
   | refine LeO.ite ?_ ?_
   | refine LeO.bind ?_ (fun _ => ?_)
set_option maxHeartbeats 8000000 in
set_option maxRecDepth 100000 in
theorem spec_l3Kids.calls (k : Nat) (a0 : Int) (r : Int) (w : World) (h : spec_l3Kids.f k a0 = some r) :
  Calls Try.prog 80 #[.int .i64 a0] w fun e w' => e = .returned (.int .i64 r) ∧ Drawn0 w w' := by
 have H : (if a0 = 1 then (spec_l3Kids.j0 k a0 true) else (spec_l3Kids.j0 k a0 (a0 == 2))) = some r := h
 clear h
 have HC2 := z0 H
 clear H
 go_enter Try.func80, Try.ntmps80
 go_upto_region 1 with (fail)
 go_cut [3] (fun v3 wc => ∃ (kq : Nat) (x3_1 : Bool), v3 = .bool x3_1 ∧ Aside0 (spec_l3Kids.j0 kq a0 x3_1 = some r) ∧ Aside0 (kq ≤ k) ∧ Drawn0 w wc)
 case first =>
  have H := HC2.out
  clear HC2
  by_cases c3 : a0 = 1
  ·rw [if_pos c3] at H
   have c3b0 : (a0 == 1) = true := beq_iff_eq.mpr c3
   have c3b1 : (a0 != 1) = false := bne_eq_false_iff_eq.mpr c3
   clear c3
   (first | rw [c3b0] | (simp only [i64_w, i32_w]; rw [c3b0]) | skip)
   have H' := z0 H
   clear H
   go_wp2
   go_meet
   case rel => exact ⟨_, (true), rfy, H', ⟨by first | omega | exact Nat.le_refl _⟩, by repeat (first | exact Drawn0.refl _ | apply Drawn0.step)⟩
  ·rw [if_neg c3] at H
   have c3b0 : (a0 == 1) = false := beq_eq_false_iff_ne.mpr c3
   have c3b1 : (a0 != 1) = true := bne_iff_ne.mpr c3
   (first | rw [c3b0] | (simp only [i64_w, i32_w]; rw [c3b0]) | skip)
   have H' := z0 H
   clear H
   go_wp2
   go_meet
   case rel => exact ⟨_, ((a0 == 2)), rfy, H', ⟨by first | omega | exact Nat.le_refl _⟩, by repeat (first | exact Drawn0.refl _ | apply Drawn0.step)⟩
 case rest =>
  clear HC2
  skip
  obtain ⟨kq, x3_1, rfl, HA, HJ1, ⟨mc1, rfl⟩⟩ := hcut
  cases kq with
  | zero => exact absurd HA.out (by simp [spec_l3Kids.j0])
  | succ kj1 =>
   have H := HA.out
   clear HA
   simp only [spec_l3Kids.j0] at H
   by_cases c4 : x3_1 = true
   ·subst c4
    have H1 : (some 0) = some r := by rw [if_pos rfl] at H; exact H
    clear H
    have H := H1
    clear H1
    obtain rfl := Option.some.inj H
    go_wp2
    go_ret
    exact ⟨by first | rfl | (simp; done) | (simp [*]; done), by repeat (first | exact Drawn0.refl _ | apply Drawn0.step)⟩
   ·replace c4 := Bool.eq_false_iff.mpr c4
    subst c4
    have H1 : (if a0 = 10 then (some 1) else (if a0 ≥ 3 then (if a0 ≤ 9 then (some 2) else (some (-1))) else (some (-1)))) = some r := by rw [if_neg (show ¬ (false = true) by decide)] at H; exact H
    clear H
    have H := H1
    clear H1
    by_cases c5 : a0 = 10
    ·rw [if_pos c5] at H
     have c5b0 : (a0 == 10) = true := beq_iff_eq.mpr c5
     have c5b1 : (a0 != 10) = false := bne_eq_false_iff_eq.mpr c5
     clear c5
     obtain rfl := Option.some.inj H
     go_wp2
     go_ret
     exact ⟨by first | rfl | (simp; done) | (simp [*]; done), by repeat (first | exact Drawn0.refl _ | apply Drawn0.step)⟩
    ·rw [if_neg c5] at H
     have c5b0 : (a0 == 10) = false := beq_eq_false_iff_ne.mpr c5
     have c5b1 : (a0 != 10) = true := bne_iff_ne.mpr c5
     by_cases c6 : a0 ≥ 3
     ·rw [if_pos c6] at H
      have c6b0 : decide (3 ≤ a0) = true := decide_eq_true c6
      clear c6
      by_cases c7 : a0 ≤ 9
      ·rw [if_pos c7] at H
       have c7b0 : decide (a0 ≤ 9) = true := decide_eq_true c7
       clear c7
       obtain rfl := Option.some.inj H
       go_wp2
       go_ret
       exact ⟨by first | rfl | (simp; done) | (simp [*]; done), by repeat (first | exact Drawn0.refl _ | apply Drawn0.step)⟩
      ·rw [if_neg c7] at H
       have c7b0 : decide (a0 ≤ 9) = false := decide_eq_false c7
       clear c7
       obtain rfl := Option.some.inj H
       go_wp2
       go_ret
       exact ⟨by first | rfl | (simp; done) | (simp [*]; done), by repeat (first | exact Drawn0.refl _ | apply Drawn0.step)⟩
     ·rw [if_neg c6] at H
      have c6b0 : decide (3 ≤ a0) = false := decide_eq_false c6
      clear c6
      obtain rfl := Option.some.inj H
      go_wp2
      go_ret
      exact ⟨by first | rfl | (simp; done) | (simp [*]; done), by repeat (first | exact Drawn0.refl _ | apply Drawn0.step)⟩

/-! ### spec_l1Max: function 105 -/
def spec_l1Max.f (a0 : Int) (a1 : Int) : Option (Int) := if a0 > a1 then (some a0) else (some a1)
set_option maxHeartbeats 8000000 in
set_option maxRecDepth 100000 in
theorem spec_l1Max.calls (a0 : Int) (a1 : Int) (r : Int) (w : World) (h : spec_l1Max.f a0 a1 = some r) :
  Calls Try.prog 105 #[.int .i64 a0, .int .i64 a1] w fun e w' => e = .returned (.int .i64 r) ∧ Drawn0 w w' := by
 have H : (if a0 > a1 then (some a0) else (some a1)) = some r := h
 clear h
 by_cases c3 : a0 > a1
 ·rw [if_pos c3] at H
  have c3b0 : decide (a1 < a0) = true := decide_eq_true c3
  clear c3
  obtain rfl := Option.some.inj H
  go_enter Try.func105, Try.ntmps105
  go_wp2
  go_ret
  exact ⟨by first | rfl | (simp; done) | (simp [*]; done), by repeat (first | exact Drawn0.refl _ | apply Drawn0.step)⟩
 ·rw [if_neg c3] at H
  have c3b0 : decide (a1 < a0) = false := decide_eq_false c3
  clear c3
  obtain rfl := Option.some.inj H
  go_enter Try.func105, Try.ntmps105
  go_wp2
  go_ret
  exact ⟨by first | rfl | (simp; done) | (simp [*]; done), by repeat (first | exact Drawn0.refl _ | apply Drawn0.step)⟩

/-! ### spec_l1Min: function 106 -/
def spec_l1Min.f (a0 : Int) (a1 : Int) : Option (Int) := if a0 < a1 then (some a0) else (some a1)
set_option maxHeartbeats 8000000 in
set_option maxRecDepth 100000 in
theorem spec_l1Min.calls (a0 : Int) (a1 : Int) (r : Int) (w : World) (h : spec_l1Min.f a0 a1 = some r) :
  Calls Try.prog 106 #[.int .i64 a0, .int .i64 a1] w fun e w' => e = .returned (.int .i64 r) ∧ Drawn0 w w' := by
 have H : (if a0 < a1 then (some a0) else (some a1)) = some r := h
 clear h
 by_cases c3 : a0 < a1
 ·rw [if_pos c3] at H
  have c3b0 : decide (a0 < a1) = true := decide_eq_true c3
  clear c3
  obtain rfl := Option.some.inj H
  go_enter Try.func106, Try.ntmps106
  go_wp2
  go_ret
  exact ⟨by first | rfl | (simp; done) | (simp [*]; done), by repeat (first | exact Drawn0.refl _ | apply Drawn0.step)⟩
 ·rw [if_neg c3] at H
  have c3b0 : decide (a0 < a1) = false := decide_eq_false c3
  clear c3
  obtain rfl := Option.some.inj H
  go_enter Try.func106, Try.ntmps106
  go_wp2
  go_ret
  exact ⟨by first | rfl | (simp; done) | (simp [*]; done), by repeat (first | exact Drawn0.refl _ | apply Drawn0.step)⟩

/-! ### spec_NumCut: function 81 -/
def spec_NumCut.f (a0 : Int) : Option (Int) := (spec_l1Min.f 1000000 a0).bind fun t116 => ((spec_l1Max.f (-1000000) t116).bind fun t117 => (some t117))
set_option maxHeartbeats 8000000 in
set_option maxRecDepth 100000 in
theorem spec_NumCut.calls (a0 : Int) (r : Int) (w : World) (h : spec_NumCut.f a0 = some r) :
  Calls Try.prog 81 #[.int .i64 a0] w fun e w' => e = .returned (.int .i64 r) ∧ Drawn0 w w' := by
 have H : ((spec_l1Min.f 1000000 a0).bind fun t116 => ((spec_l1Max.f (-1000000) t116).bind fun t117 => (some t117))) = some r := h
 clear h
 replace H := Option.bind_eq_some_iff.mp H
 obtain ⟨t116, A20, H⟩ := H
 try dsimp only at H
 have A2 := z0 A20
 clear A20
 replace H := Option.bind_eq_some_iff.mp H
 obtain ⟨t117, A30, H⟩ := H
 try dsimp only at H
 have A3 := z0 A30
 clear A30
 obtain rfl := Option.some.inj H
 go_enter Try.func81, Try.ntmps81
 go_wp2_with (first | ((with_reducible refine gate_callee (f := 106) rfl ?_); refine goesL_ (some 4) rfl rfl Try.func106 (by kernel_rfl) rfl #[.int .i64 1000000, .int .i64 a0] rfl argx ?_; (with_reducible refine (spec_l1Min.calls 1000000 a0 t116 _ A2.out).mono ?_); rintro e w' ⟨rfl, ⟨nd, rfl⟩⟩; refine ⟨_, rfl, ?_⟩) | ((with_reducible refine gate_callee (f := 105) rfl ?_); refine goesL_ (some 5) rfl rfl Try.func105 (by kernel_rfl) rfl #[.int .i64 (-1000000), .int .i64 t116] rfl argx ?_; (with_reducible refine (spec_l1Max.calls (-1000000) t116 t117 _ A3.out).mono ?_); rintro e w' ⟨rfl, ⟨nd, rfl⟩⟩; refine ⟨_, rfl, ?_⟩))
 go_ret
 exact ⟨by first | rfl | (simp; done) | (simp [*]; done), by repeat (first | exact Drawn0.refl _ | apply Drawn0.step)⟩

end Go.Proofs.Ytddnijmgipffeaa.B
namespace Go.Proofs.Ytddnijmgipffeaa.B
open Go.RowKit Go.Proofs.YtddnijmgipffeaaW.PrintWords Go.Proofs.YtddnijmgipffeaaW.PrintLast Go.Proofs.YtddnijmgipffeaaW.PrintMore
attribute [local go_sem] max2_int min2_int max_two min_two max_three min_three max_four min_four   -- for this text's walks alone
set_option linter.unusedVariables false
set_option linter.unusedSimpArgs false

attribute [local go_sem high] eqA37
/-! ### spec_l3Form: function 48 -/
mutual
def spec_l3Form.j0 : Nat → Int → Bool → Int → Int → Int → Int → List (S46) → Option (Bool)
 | 0, _, _, _, _, _, _, _ => none
 | k + 1, x1, x16, x119000, x119001, x119002, x119003, x119004 => if x16 = true then (some false) else (if x119000 = 1 then ((spec_NumCut.f x119001).bind fun t120 => (if t120 = x119001 then (spec_l3Form.j1 k x1 false x119000 x119001 x119002 x119003 x119004) else (spec_l3Form.j1 k x1 true x119000 x119001 x119002 x119003 x119004))) else (spec_l3Form.j1 k x1 (x119001 != 0) x119000 x119001 x119002 x119003 x119004))
def spec_l3Form.j1 : Nat → Int → Bool → Int → Int → Int → Int → List (S46) → Option (Bool)
 | 0, _, _, _, _, _, _, _ => none
 | k + 1, x1, x37, x119000, x119001, x119002, x119003, x119004 => if x37 = true then (some false) else (if x119000 = 2 then ((spec_AddrOk.f x119002 x119003).bind fun t121 => (if t121 = true then (spec_l3Form.j2 k x1 false x119000 x119001 x119002 x119003 x119004) else (spec_l3Form.j2 k x1 true x119000 x119001 x119002 x119003 x119004))) else (spec_l3Form.j2 k x1 (!(x119002 == 0) || (!(x119003 == 0))) x119000 x119001 x119002 x119003 x119004))
def spec_l3Form.j2 : Nat → Int → Bool → Int → Int → Int → Int → List (S46) → Option (Bool)
 | 0, _, _, _, _, _, _, _ => none
 | k + 1, x1, x57, x119000, x119001, x119002, x119003, x119004 => if x57 = true then (some false) else (spec_l3Form.l0 k x1 0 x119000 x119001 x119002 x119003 x119004)
def spec_l3Form.l0 : Nat → Int → Int → Int → Int → Int → Int → List (S46) → Option (Bool)
 | 0, _, _, _, _, _, _, _ => none
 | k + 1, x1, x5, x119000, x119001, x119002, x119003, x119004 => if x5 < (x119004.length : Int) then (if 0 ≤ x5 then ((spec_l3Form.f k ((rd_T46 x119004 x5).f0) ((rd_T46 x119004 x5).f1) ((rd_T46 x119004 x5).f2.f0) ((rd_T46 x119004 x5).f2.f1) ((rd_T46 x119004 x5).f3) (wrap64 (x1 - 1))).bind fun t123 => (if t123 = true then (spec_l3Form.l0 k x1 (wrap64 (x5 + 1)) x119000 x119001 x119002 x119003 x119004) else (some false))) else (none)) else (some true)
def spec_l3Form.f : Nat → Int → Int → Int → Int → List (S46) → Int → Option (Bool)
 | 0, _, _, _, _, _, _ => none
 | k + 1, a0_0, a0_1, a0_2, a0_3, l0_4, a1 => if a1 < 1 then (spec_l3Form.j0 k a1 true a0_0 a0_1 a0_2 a0_3 l0_4) else ((spec_l3Kids.f k a0_0).bind fun t119 => (spec_l3Form.j0 k a1 (t119 != (l0_4.length : Int)) a0_0 a0_1 a0_2 a0_3 l0_4))
end
theorem spec_l3Form.mono_l : ∀ k, (∀ y0 y1 y2 y3 y4 y5, LeO (spec_l3Form.f k y0 y1 y2 y3 y4 y5) (spec_l3Form.f (k + 1) y0 y1 y2 y3 y4 y5)) ∧ (∀ y0 y1 y2 y3 y4 y5 y6, LeO (spec_l3Form.j0 k y0 y1 y2 y3 y4 y5 y6) (spec_l3Form.j0 (k + 1) y0 y1 y2 y3 y4 y5 y6)) ∧ (∀ y0 y1 y2 y3 y4 y5 y6, LeO (spec_l3Form.j1 k y0 y1 y2 y3 y4 y5 y6) (spec_l3Form.j1 (k + 1) y0 y1 y2 y3 y4 y5 y6)) ∧ (∀ y0 y1 y2 y3 y4 y5 y6, LeO (spec_l3Form.j2 k y0 y1 y2 y3 y4 y5 y6) (spec_l3Form.j2 (k + 1) y0 y1 y2 y3 y4 y5 y6)) ∧ (∀ y0 y1 y2 y3 y4 y5 y6, LeO (spec_l3Form.l0 k y0 y1 y2 y3 y4 y5 y6) (spec_l3Form.l0 (k + 1) y0 y1 y2 y3 y4 y5 y6))
 | 0 => ⟨fun _ _ _ _ _ _ r h => by simp [spec_l3Form.f] at h, fun _ _ _ _ _ _ _ r h => by simp [spec_l3Form.j0] at h, fun _ _ _ _ _ _ _ r h => by simp [spec_l3Form.j1] at h, fun _ _ _ _ _ _ _ r h => by simp [spec_l3Form.j2] at h, fun _ _ _ _ _ _ _ r h => by simp [spec_l3Form.l0] at h⟩
 | k + 1 => by
  obtain ⟨ih0, ih1, ih2, ih3, ih4⟩ := spec_l3Form.mono_l k
  refine ⟨?_, ?_, ?_, ?_, ?_⟩
  ·intro y0 y1 y2 y3 y4 y5
   unfold spec_l3Form.f
   repeat' first
   | (with_reducible exact ih0 _ _ _ _ _ _)
   | (with_reducible exact ih1 _ _ _ _ _ _ _)
   | (with_reducible exact ih2 _ _ _ _ _ _ _)
   | (with_reducible exact ih3 _ _ _ _ _ _ _)
   | (with_reducible exact ih4 _ _ _ _ _ _ _)
   | (with_reducible exact spec_l3Kids.mono _ _)
   | (with_reducible exact LeO.refl _)
   | (with_reducible exact LeO.none _)
   | (with_reducible refine LeO.ite ?_ ?_)
   | (with_reducible refine LeO.bind ?_ (fun _ => ?_))
   | exact ih0 _ _ _ _ _ _
   | exact ih1 _ _ _ _ _ _ _
   | exact ih2 _ _ _ _ _ _ _
   | exact ih3 _ _ _ _ _ _ _
   | exact ih4 _ _ _ _ _ _ _
   | exact spec_l3Kids.mono _ _
   | exact LeO.none _
   | refine LeO.ite ?_ ?_
   | refine LeO.bind ?_ (fun _ => ?_)
  ·intro y0 y1 y2 y3 y4 y5 y6
   unfold spec_l3Form.j0
   repeat' first
   | (with_reducible exact ih0 _ _ _ _ _ _)
   | (with_reducible exact ih1 _ _ _ _ _ _ _)
   | (with_reducible exact ih2 _ _ _ _ _ _ _)
   | (with_reducible exact ih3 _ _ _ _ _ _ _)
   | (with_reducible exact ih4 _ _ _ _ _ _ _)
   | (with_reducible exact spec_l3Kids.mono _ _)
   | (with_reducible exact LeO.refl _)
   | (with_reducible exact LeO.none _)
   | (with_reducible refine LeO.ite ?_ ?_)
   | (with_reducible refine LeO.bind ?_ (fun _ => ?_))
   | exact ih0 _ _ _ _ _ _
   | exact ih1 _ _ _ _ _ _ _
   | exact ih2 _ _ _ _ _ _ _
   | exact ih3 _ _ _ _ _ _ _
   | exact ih4 _ _ _ _ _ _ _
   | exact spec_l3Kids.mono _ _
   | exact LeO.none _
   | refine LeO.ite ?_ ?_
   | refine LeO.bind ?_ (fun _ => ?_)
  ·intro y0 y1 y2 y3 y4 y5 y6
   unfold spec_l3Form.j1
   repeat' first
   | (with_reducible exact ih0 _ _ _ _ _ _)
   | (with_reducible exact ih1 _ _ _ _ _ _ _)
   | (with_reducible exact ih2 _ _ _ _ _ _ _)
   | (with_reducible exact ih3 _ _ _ _ _ _ _)
   | (with_reducible exact ih4 _ _ _ _ _ _ _)
   | (with_reducible exact spec_l3Kids.mono _ _)
   | (with_reducible exact LeO.refl _)
   | (with_reducible exact LeO.none _)
   | (with_reducible refine LeO.ite ?_ ?_)
   | (with_reducible refine LeO.bind ?_ (fun _ => ?_))
   | exact ih0 _ _ _ _ _ _
   | exact ih1 _ _ _ _ _ _ _
   | exact ih2 _ _ _ _ _ _ _
   | exact ih3 _ _ _ _ _ _ _
   | exact ih4 _ _ _ _ _ _ _
   | exact spec_l3Kids.mono _ _
   | exact LeO.none _
   | refine LeO.ite ?_ ?_
   | refine LeO.bind ?_ (fun _ => ?_)
  ·intro y0 y1 y2 y3 y4 y5 y6
   unfold spec_l3Form.j2
   repeat' first
   | (with_reducible exact ih0 _ _ _ _ _ _)
   | (with_reducible exact ih1 _ _ _ _ _ _ _)
   | (with_reducible exact ih2 _ _ _ _ _ _ _)
   | (with_reducible exact ih3 _ _ _ _ _ _ _)
   | (with_reducible exact ih4 _ _ _ _ _ _ _)
   | (with_reducible exact spec_l3Kids.mono _ _)
   | (with_reducible exact LeO.refl _)
   | (with_reducible exact LeO.none _)
   | (with_reducible refine LeO.ite ?_ ?_)
   | (with_reducible refine LeO.bind ?_ (fun _ => ?_))
   | exact ih0 _ _ _ _ _ _
   | exact ih1 _ _ _ _ _ _ _
   | exact ih2 _ _ _ _ _ _ _
   | exact ih3 _ _ _ _ _ _ _
   | exact ih4 _ _ _ _ _ _ _
   | exact spec_l3Kids.mono _ _
   | exact LeO.none _
   | refine LeO.ite ?_ ?_
   | refine LeO.bind ?_ (fun _ => ?_)
  ·intro y0 y1 y2 y3 y4 y5 y6
   unfold spec_l3Form.l0
   repeat' first
   | (with_reducible exact ih0 _ _ _ _ _ _)
   | (with_reducible exact ih1 _ _ _ _ _ _ _)
   | (with_reducible exact ih2 _ _ _ _ _ _ _)
   | (with_reducible exact ih3 _ _ _ _ _ _ _)
   | (with_reducible exact ih4 _ _ _ _ _ _ _)
   | (with_reducible exact spec_l3Kids.mono _ _)
   | (with_reducible exact LeO.refl _)
   | (with_reducible exact LeO.none _)
   | (with_reducible refine LeO.ite ?_ ?_)
   | (with_reducible refine LeO.bind ?_ (fun _ => ?_))
   | exact ih0 _ _ _ _ _ _
   | exact ih1 _ _ _ _ _ _ _
   | exact ih2 _ _ _ _ _ _ _
   | exact ih3 _ _ _ _ _ _ _
   | exact ih4 _ _ _ _ _ _ _
   | exact spec_l3Kids.mono _ _
   | exact LeO.none _
   | refine LeO.ite ?_ ?_
   | refine LeO.bind ?_ (fun _ => ?_)
theorem spec_l3Form.mono : ∀ a0 a1 a2 a3 a4 a5 k, LeO (spec_l3Form.f k a0 a1 a2 a3 a4 a5) (spec_l3Form.f (k + 1) a0 a1 a2 a3 a4 a5) := by
 intro a0 a1 a2 a3 a4 a5 k
 obtain ⟨ih0, ih1, ih2, ih3, ih4⟩ := spec_l3Form.mono_l k
 exact ih0 a0 a1 a2 a3 a4 a5
theorem q48_1 {p : Prop} (h : p := by have := HJ2.out; have := HJ8.out; have := HJ16.out; have := HK4.out; omega) : p := h
set_option maxHeartbeats 8000000 in
set_option maxRecDepth 100000 in
theorem spec_l3Form.calls (k : Nat) : ∀ (a0_0 : Int) (a0_1 : Int) (a0_2 : Int) (a0_3 : Int) (A0_4 : Option Addr) (c0_4 : Nat) (l0_4 : List (S46)) (a1 : Int) (r : Bool) (w : World) (hr0_4 : Kd.C k46 w A0_4 l0_4.length l0_4) (hc0_4 : l0_4.length ≤ c0_4) (h : spec_l3Form.f k a0_0 a0_1 a0_2 a0_3 l0_4 a1 = some r),
  Calls Try.prog 48 #[.agg #[.int .i64 a0_0, .int .i64 a0_1, .int .i64 a0_2, .int .i64 a0_3, .slice A0_4 l0_4.length c0_4], .int .i64 a1] w fun e w' => e = .returned (.bool r) ∧ Below w.heap.size w w' := by
 induction k using Nat.strongRecOn with
 | _ k ih =>
 intro a0_0 a0_1 a0_2 a0_3 A0_4 c0_4 l0_4 a1 r w hr0_4 hc0_4 h
 cases k with
 | zero => exact absurd h (by simp [spec_l3Form.f])
 | succ k =>
 simp only [spec_l3Form.f] at h
 have hu46 := Try.underlying46
 have hu37 := Try.underlying37
 have HR0_4 := z0 hr0_4
 have HC0_4 := z0 hc0_4
 clear hr0_4 hc0_4
 have HB := z0 (Below.refl w.heap.size w)
 have H : (if a1 < 1 then (spec_l3Form.j0 k a1 true a0_0 a0_1 a0_2 a0_3 l0_4) else ((spec_l3Kids.f k a0_0).bind fun t119 => (spec_l3Form.j0 k a1 (t119 != (l0_4.length : Int)) a0_0 a0_1 a0_2 a0_3 l0_4))) = some r := h
 clear h
 have HC3 := z0 H
 clear H
 go_enter Try.func48, Try.ntmps48
 go_upto_region 1 with (first | ((with_reducible refine gate_dst (N := 2) rfl ?_); (try (refine gate_guard (by rfl) ?_; dsimp only)); refine box_event ?hg (N := 2) ?hd (cs := #[.int .i64 a0_0, .int .i64 a0_1, .int .i64 a0_2, .int .i64 a0_3, .slice A0_4 l0_4.length c0_4]) (t := 46) ?hr ?_; (case hd => rfl); (case hg => rfl); (case hr => first | (go_simp; done) | (go_simp; rfl)); intro gb118 hg w4 hbox hb; have n_ := az (below_step (mB HB.out) hb) <| az (hbox) <| az ((by rw [hg]; exact (below_size (mB HB.out)) : w.heap.size ≤ gb118)) <| z0 ((by rw [hg]; exact (below_size (mB HB.out)) : w.heap.size ≤ gb118)); clear HB; obtain ⟨HB, BK118, GW118, GE118⟩ := n_; clear hb hbox hg))
 repeat (go_quiet (first | ((with_reducible refine gate_dst (N := 2) rfl ?_); (try (refine gate_guard (by rfl) ?_; dsimp only)); refine box_event ?hg (N := 2) ?hd (cs := #[.int .i64 a0_0, .int .i64 a0_1, .int .i64 a0_2, .int .i64 a0_3, .slice A0_4 l0_4.length c0_4]) (t := 46) ?hr ?_; (case hd => rfl); (case hg => rfl); (case hr => first | (go_simp; done) | (go_simp; rfl)); intro gb118 hg w4 hbox hb; have n_ := az (below_step (mB HB.out) hb) <| az (hbox) <| az ((by rw [hg]; exact (below_size (mB HB.out)) : w.heap.size ≤ gb118)) <| z0 ((by rw [hg]; exact (below_size (mB HB.out)) : w.heap.size ≤ gb118)); clear HB; obtain ⟨HB, BK118, GW118, GE118⟩ := n_; clear hb hbox hg)); go_upto_region 1 with (first | ((with_reducible refine gate_dst (N := 2) rfl ?_); (try (refine gate_guard (by rfl) ?_; dsimp only)); refine box_event ?hg (N := 2) ?hd (cs := #[.int .i64 a0_0, .int .i64 a0_1, .int .i64 a0_2, .int .i64 a0_3, .slice A0_4 l0_4.length c0_4]) (t := 46) ?hr ?_; (case hd => rfl); (case hg => rfl); (case hr => first | (go_simp; done) | (go_simp; rfl)); intro gb118 hg w4 hbox hb; have n_ := az (below_step (mB HB.out) hb) <| az (hbox) <| az ((by rw [hg]; exact (below_size (mB HB.out)) : w.heap.size ≤ gb118)) <| z0 ((by rw [hg]; exact (below_size (mB HB.out)) : w.heap.size ≤ gb118)); clear HB; obtain ⟨HB, BK118, GW118, GE118⟩ := n_; clear hb hbox hg)))
 (try simp only [Act.put, List.setIfInBounds_toArray, List.set_cons_zero, List.set_cons_succ])
 go_cut [16] (fun v16 wc => ∃ (kq : Nat) (x16_2 : Bool), v16 = .bool x16_2 ∧ Aside0 (spec_l3Form.j0 kq a1 x16_2 a0_0 a0_1 a0_2 a0_3 l0_4 = some r) ∧ Aside0 (kq ≤ k) ∧ Aside0 (wc.heap[gb118]? = some (.cells #[.int .i64 a0_0, .int .i64 a0_1, .int .i64 a0_2, .int .i64 a0_3, (.slice A0_4 l0_4.length c0_4)] 46 (0, 0))) ∧ Aside0 (Below w.heap.size w wc))
 case first =>
  have H := HC3.out
  clear HC3
  by_cases c5 : a1 < 1
  ·rw [if_pos c5] at H
   have c5b0 : decide (a1 < 1) = true := decide_eq_true c5
   clear c5
   (first | rw [c5b0] | (simp only [i64_w, i32_w]; rw [c5b0]) | skip)
   have H' := z0 H
   clear H
   go_wp2
   repeat (go_quiet (fail); try go_wp2)
   go_meet
   case rel => exact ⟨_, (true), rfy, H', ⟨by first | omega | exact Nat.le_refl _⟩, ⟨mK BK118.out⟩, ⟨mB HB.out⟩⟩
  ·rw [if_neg c5] at H
   have c5b0 : decide (a1 < 1) = false := decide_eq_false c5
   clear c5
   (first | rw [c5b0] | (simp only [i64_w, i32_w]; rw [c5b0]) | skip)
   replace H := Option.bind_eq_some_iff.mp H
   obtain ⟨t119, A60, H⟩ := H
   try dsimp only at H
   have A6 := z0 A60
   clear A60
   have H' := z0 H
   clear H
   obtain ⟨hcz7_0, hcz7_1, hcz7_2, hcz7_3, hcz7_4, hfz7_0, hfz7_1, hfz7_2, hfz7_3, hfz7_4⟩ := cel5 BK118.out
   go_wp2_with (first | (go_at_call 80; (with_reducible refine (spec_l3Kids.calls k a0_0 t119 _ A6.out).mono ?_); rintro e w' ⟨rfl, ⟨nd, rfl⟩⟩; (try first | exact ⟨rfl, _, World.drewN_drewN _ _ _⟩ | exact ⟨rfl, _, Eq.trans (World.drewN_drewN _ _ _) (congrArg (World.drewN _) (Nat.add_assoc _ _ _))⟩)))
   repeat (go_quiet (first | (go_at_call 80; (with_reducible refine (spec_l3Kids.calls k a0_0 t119 _ A6.out).mono ?_); rintro e w' ⟨rfl, ⟨nd, rfl⟩⟩; (try first | exact ⟨rfl, _, World.drewN_drewN _ _ _⟩ | exact ⟨rfl, _, Eq.trans (World.drewN_drewN _ _ _) (congrArg (World.drewN _) (Nat.add_assoc _ _ _))⟩))); try go_wp2_with (first | (go_at_call 80; (with_reducible refine (spec_l3Kids.calls k a0_0 t119 _ A6.out).mono ?_); rintro e w' ⟨rfl, ⟨nd, rfl⟩⟩; (try first | exact ⟨rfl, _, World.drewN_drewN _ _ _⟩ | exact ⟨rfl, _, Eq.trans (World.drewN_drewN _ _ _) (congrArg (World.drewN _) (Nat.add_assoc _ _ _))⟩))))
   go_meet
   case rel => exact ⟨_, ((t119 != (l0_4.length : Int))), rfy, H', ⟨by first | omega | exact Nat.le_refl _⟩, ⟨mK BK118.out⟩, ⟨mB HB.out⟩⟩
 case rest =>
  clear HC3
  skip
  obtain ⟨kq, x16_2, rfl, HA, HJ2, BK118, HB⟩ := hcut
  cases kq with
  | zero => exact absurd HA.out (by simp [spec_l3Form.j0])
  | succ kj2 =>
   have H := HA.out
   clear HA
   simp only [spec_l3Form.j0] at H
   by_cases c8 : x16_2 = true
   ·subst c8
    have H1 : (some false) = some r := by rw [if_pos rfl] at H; exact H
    clear H
    have H := H1
    clear H1
    obtain rfl := Option.some.inj H
    go_wp2
    repeat (go_quiet (fail); try go_wp2)
    go_ret
    exact ⟨rfx, mB HB.out⟩
   ·replace c8 := Bool.eq_false_iff.mpr c8
    subst c8
    have H1 : (if a0_0 = 1 then ((spec_NumCut.f a0_1).bind fun t120 => (if t120 = a0_1 then (spec_l3Form.j1 kj2 a1 false a0_0 a0_1 a0_2 a0_3 l0_4) else (spec_l3Form.j1 kj2 a1 true a0_0 a0_1 a0_2 a0_3 l0_4))) else (spec_l3Form.j1 kj2 a1 (a0_1 != 0) a0_0 a0_1 a0_2 a0_3 l0_4)) = some r := by rw [if_neg (show ¬ (false = true) by decide)] at H; exact H
    clear H
    have H := H1
    clear H1
    have HC9 := z0 H
    clear H
    go_upto_region 3 with (fail)
    repeat (go_quiet (fail); go_upto_region 3 with (fail))
    go_cut [37] (fun v37 wc => ∃ (kq : Nat) (x37_8 : Bool), v37 = .bool x37_8 ∧ Aside0 (spec_l3Form.j1 kq a1 x37_8 a0_0 a0_1 a0_2 a0_3 l0_4 = some r) ∧ Aside0 (kq ≤ kj2) ∧ Aside0 (wc.heap[gb118]? = some (.cells #[.int .i64 a0_0, .int .i64 a0_1, .int .i64 a0_2, .int .i64 a0_3, (.slice A0_4 l0_4.length c0_4)] 46 (0, 0))) ∧ Aside0 (Below w.heap.size w wc))
    case first =>
     have H := HC9.out
     clear HC9
     by_cases c10 : a0_0 = 1
     ·rw [if_pos c10] at H
      have c10b0 : (a0_0 == 1) = true := beq_iff_eq.mpr c10
      have c10b1 : (a0_0 != 1) = false := bne_eq_false_iff_eq.mpr c10
      clear c10
      (first | rw [c10b0] | (simp only [i64_w, i32_w]; rw [c10b0]) | skip)
      replace H := Option.bind_eq_some_iff.mp H
      obtain ⟨t120, A110, H⟩ := H
      try dsimp only at H
      have A11 := z0 A110
      clear A110
      by_cases c12 : t120 = a0_1
      ·rw [if_pos c12] at H
       have c12b0 : (t120 == a0_1) = true := beq_iff_eq.mpr c12
       have c12b1 : (t120 != a0_1) = false := bne_eq_false_iff_eq.mpr c12
       clear c12
       have H' := z0 H
       clear H
       obtain ⟨hcz13_0, hcz13_1, hcz13_2, hcz13_3, hcz13_4, hfz13_0, hfz13_1, hfz13_2, hfz13_3, hfz13_4⟩ := cel5 BK118.out
       go_wp2_with (first | (go_at_call 81; (with_reducible refine (spec_NumCut.calls a0_1 t120 _ A11.out).mono ?_); rintro e w' ⟨rfl, ⟨nd, rfl⟩⟩; (try first | exact ⟨rfl, _, World.drewN_drewN _ _ _⟩ | exact ⟨rfl, _, Eq.trans (World.drewN_drewN _ _ _) (congrArg (World.drewN _) (Nat.add_assoc _ _ _))⟩)))
       repeat (go_quiet (first | (go_at_call 81; (with_reducible refine (spec_NumCut.calls a0_1 t120 _ A11.out).mono ?_); rintro e w' ⟨rfl, ⟨nd, rfl⟩⟩; (try first | exact ⟨rfl, _, World.drewN_drewN _ _ _⟩ | exact ⟨rfl, _, Eq.trans (World.drewN_drewN _ _ _) (congrArg (World.drewN _) (Nat.add_assoc _ _ _))⟩))); try go_wp2_with (first | (go_at_call 81; (with_reducible refine (spec_NumCut.calls a0_1 t120 _ A11.out).mono ?_); rintro e w' ⟨rfl, ⟨nd, rfl⟩⟩; (try first | exact ⟨rfl, _, World.drewN_drewN _ _ _⟩ | exact ⟨rfl, _, Eq.trans (World.drewN_drewN _ _ _) (congrArg (World.drewN _) (Nat.add_assoc _ _ _))⟩))))
       go_meet
       case rel => exact ⟨_, (false), rfy, H', ⟨by have := HJ2.out; first | omega | exact Nat.le_refl _⟩, ⟨mK BK118.out⟩, ⟨mB HB.out⟩⟩
      ·rw [if_neg c12] at H
       have c12b0 : (t120 == a0_1) = false := beq_eq_false_iff_ne.mpr c12
       have c12b1 : (t120 != a0_1) = true := bne_iff_ne.mpr c12
       have H' := z0 H
       clear H
       obtain ⟨hcz14_0, hcz14_1, hcz14_2, hcz14_3, hcz14_4, hfz14_0, hfz14_1, hfz14_2, hfz14_3, hfz14_4⟩ := cel5 BK118.out
       go_wp2_with (first | (go_at_call 81; (with_reducible refine (spec_NumCut.calls a0_1 t120 _ A11.out).mono ?_); rintro e w' ⟨rfl, ⟨nd, rfl⟩⟩; (try first | exact ⟨rfl, _, World.drewN_drewN _ _ _⟩ | exact ⟨rfl, _, Eq.trans (World.drewN_drewN _ _ _) (congrArg (World.drewN _) (Nat.add_assoc _ _ _))⟩)))
       repeat (go_quiet (first | (go_at_call 81; (with_reducible refine (spec_NumCut.calls a0_1 t120 _ A11.out).mono ?_); rintro e w' ⟨rfl, ⟨nd, rfl⟩⟩; (try first | exact ⟨rfl, _, World.drewN_drewN _ _ _⟩ | exact ⟨rfl, _, Eq.trans (World.drewN_drewN _ _ _) (congrArg (World.drewN _) (Nat.add_assoc _ _ _))⟩))); try go_wp2_with (first | (go_at_call 81; (with_reducible refine (spec_NumCut.calls a0_1 t120 _ A11.out).mono ?_); rintro e w' ⟨rfl, ⟨nd, rfl⟩⟩; (try first | exact ⟨rfl, _, World.drewN_drewN _ _ _⟩ | exact ⟨rfl, _, Eq.trans (World.drewN_drewN _ _ _) (congrArg (World.drewN _) (Nat.add_assoc _ _ _))⟩))))
       go_meet
       case rel => exact ⟨_, (true), rfy, H', ⟨by have := HJ2.out; first | omega | exact Nat.le_refl _⟩, ⟨mK BK118.out⟩, ⟨mB HB.out⟩⟩
     ·rw [if_neg c10] at H
      have c10b0 : (a0_0 == 1) = false := beq_eq_false_iff_ne.mpr c10
      have c10b1 : (a0_0 != 1) = true := bne_iff_ne.mpr c10
      (first | rw [c10b0] | (simp only [i64_w, i32_w]; rw [c10b0]) | skip)
      have H' := z0 H
      clear H
      obtain ⟨hcz15_0, hcz15_1, hcz15_2, hcz15_3, hcz15_4, hfz15_0, hfz15_1, hfz15_2, hfz15_3, hfz15_4⟩ := cel5 BK118.out
      go_wp2
      repeat (go_quiet (fail); try go_wp2)
      go_meet
      case rel => exact ⟨_, ((a0_1 != 0)), rfy, H', ⟨by have := HJ2.out; first | omega | exact Nat.le_refl _⟩, ⟨mK BK118.out⟩, ⟨mB HB.out⟩⟩
    case rest =>
     clear HC9
     (try clear c8)
     obtain ⟨kq, x37_8, rfl, HA, HJ8, BK118, HB⟩ := hcut
     cases kq with
     | zero => exact absurd HA.out (by simp [spec_l3Form.j1])
     | succ kj8 =>
      have H := HA.out
      clear HA
      simp only [spec_l3Form.j1] at H
      by_cases c16 : x37_8 = true
      ·subst c16
       have H1 : (some false) = some r := by rw [if_pos rfl] at H; exact H
       clear H
       have H := H1
       clear H1
       obtain rfl := Option.some.inj H
       go_wp2
       repeat (go_quiet (fail); try go_wp2)
       go_ret
       exact ⟨rfx, mB HB.out⟩
      ·replace c16 := Bool.eq_false_iff.mpr c16
       subst c16
       have H1 : (if a0_0 = 2 then ((spec_AddrOk.f a0_2 a0_3).bind fun t121 => (if t121 = true then (spec_l3Form.j2 kj8 a1 false a0_0 a0_1 a0_2 a0_3 l0_4) else (spec_l3Form.j2 kj8 a1 true a0_0 a0_1 a0_2 a0_3 l0_4))) else (spec_l3Form.j2 kj8 a1 (!(a0_2 == 0) || (!(a0_3 == 0))) a0_0 a0_1 a0_2 a0_3 l0_4)) = some r := by rw [if_neg (show ¬ (false = true) by decide)] at H; exact H
       clear H
       have H := H1
       clear H1
       have HC17 := z0 H
       clear H
       go_upto_region 5 with (fail)
       repeat (go_quiet (fail); go_upto_region 5 with (fail))
       go_cut [57] (fun v57 wc => ∃ (kq : Nat) (x57_16 : Bool), v57 = .bool x57_16 ∧ Aside0 (spec_l3Form.j2 kq a1 x57_16 a0_0 a0_1 a0_2 a0_3 l0_4 = some r) ∧ Aside0 (kq ≤ kj8) ∧ Aside0 (wc.heap[gb118]? = some (.cells #[.int .i64 a0_0, .int .i64 a0_1, .int .i64 a0_2, .int .i64 a0_3, (.slice A0_4 l0_4.length c0_4)] 46 (0, 0))) ∧ Aside0 (Below w.heap.size w wc))
       case first =>
        have H := HC17.out
        clear HC17
        by_cases c18 : a0_0 = 2
        ·rw [if_pos c18] at H
         have c18b0 : (a0_0 == 2) = true := beq_iff_eq.mpr c18
         have c18b1 : (a0_0 != 2) = false := bne_eq_false_iff_eq.mpr c18
         clear c18
         (first | rw [c18b0] | (simp only [i64_w, i32_w]; rw [c18b0]) | skip)
         replace H := Option.bind_eq_some_iff.mp H
         obtain ⟨t121, A190, H⟩ := H
         try dsimp only at H
         have A19 := z0 A190
         clear A190
         by_cases c20 : t121 = true
         ·subst c20
          have H1 : (spec_l3Form.j2 kj8 a1 false a0_0 a0_1 a0_2 a0_3 l0_4) = some r := by rw [if_pos rfl] at H; exact H
          clear H
          have H := H1
          clear H1
          have H' := z0 H
          clear H
          obtain ⟨hcz21_0, hcz21_1, hcz21_2, hcz21_3, hcz21_4, hfz21_0, hfz21_1, hfz21_2, hfz21_3, hfz21_4⟩ := cel5 BK118.out
          go_wp2_with (first | (go_at_call 78; (with_reducible refine (spec_AddrOk.calls a0_2 a0_3 true _ A19.out).mono ?_); rintro e w22 ⟨rfl, hb⟩; have n_ := az (bB BK118.out hb) <| z0 (below_step (mB HB.out) hb); clear BK118 HB; obtain ⟨BK118, HB⟩ := n_; clear hb; obtain ⟨hcz23_0, hcz23_1, hcz23_2, hcz23_3, hcz23_4, hfz23_0, hfz23_1, hfz23_2, hfz23_3, hfz23_4⟩ := cel5 BK118.out))
          repeat (go_quiet (first | (go_at_call 78; (with_reducible refine (spec_AddrOk.calls a0_2 a0_3 true _ A19.out).mono ?_); rintro e w22 ⟨rfl, hb⟩; have n_ := az (bB BK118.out hb) <| z0 (below_step (mB HB.out) hb); clear BK118 HB; obtain ⟨BK118, HB⟩ := n_; clear hb; obtain ⟨hcz23_0, hcz23_1, hcz23_2, hcz23_3, hcz23_4, hfz23_0, hfz23_1, hfz23_2, hfz23_3, hfz23_4⟩ := cel5 BK118.out)); try go_wp2_with (first | (go_at_call 78; (with_reducible refine (spec_AddrOk.calls a0_2 a0_3 true _ A19.out).mono ?_); rintro e w22 ⟨rfl, hb⟩; have n_ := az (bB BK118.out hb) <| z0 (below_step (mB HB.out) hb); clear BK118 HB; obtain ⟨BK118, HB⟩ := n_; clear hb; obtain ⟨hcz23_0, hcz23_1, hcz23_2, hcz23_3, hcz23_4, hfz23_0, hfz23_1, hfz23_2, hfz23_3, hfz23_4⟩ := cel5 BK118.out)))
          go_meet
          case rel => exact ⟨_, (false), rfy, H', ⟨by have := HJ2.out; have := HJ8.out; first | omega | exact Nat.le_refl _⟩, ⟨mK BK118.out⟩, ⟨mB HB.out⟩⟩
         ·replace c20 := Bool.eq_false_iff.mpr c20
          subst c20
          have H1 : (spec_l3Form.j2 kj8 a1 true a0_0 a0_1 a0_2 a0_3 l0_4) = some r := by rw [if_neg (show ¬ (false = true) by decide)] at H; exact H
          clear H
          have H := H1
          clear H1
          have H' := z0 H
          clear H
          obtain ⟨hcz24_0, hcz24_1, hcz24_2, hcz24_3, hcz24_4, hfz24_0, hfz24_1, hfz24_2, hfz24_3, hfz24_4⟩ := cel5 BK118.out
          go_wp2_with (first | (go_at_call 78; (with_reducible refine (spec_AddrOk.calls a0_2 a0_3 false _ A19.out).mono ?_); rintro e w25 ⟨rfl, hb⟩; have n_ := az (bB BK118.out hb) <| z0 (below_step (mB HB.out) hb); clear BK118 HB; obtain ⟨BK118, HB⟩ := n_; clear hb))
          repeat (go_quiet (first | (go_at_call 78; (with_reducible refine (spec_AddrOk.calls a0_2 a0_3 false _ A19.out).mono ?_); rintro e w25 ⟨rfl, hb⟩; have n_ := az (bB BK118.out hb) <| z0 (below_step (mB HB.out) hb); clear BK118 HB; obtain ⟨BK118, HB⟩ := n_; clear hb)); try go_wp2_with (first | (go_at_call 78; (with_reducible refine (spec_AddrOk.calls a0_2 a0_3 false _ A19.out).mono ?_); rintro e w25 ⟨rfl, hb⟩; have n_ := az (bB BK118.out hb) <| z0 (below_step (mB HB.out) hb); clear BK118 HB; obtain ⟨BK118, HB⟩ := n_; clear hb)))
          go_meet
          case rel => exact ⟨_, (true), rfy, H', ⟨by have := HJ2.out; have := HJ8.out; first | omega | exact Nat.le_refl _⟩, ⟨mK BK118.out⟩, ⟨mB HB.out⟩⟩
        ·rw [if_neg c18] at H
         have c18b0 : (a0_0 == 2) = false := beq_eq_false_iff_ne.mpr c18
         have c18b1 : (a0_0 != 2) = true := bne_iff_ne.mpr c18
         (first | rw [c18b0] | (simp only [i64_w, i32_w]; rw [c18b0]) | skip)
         have H' := z0 H
         clear H
         obtain ⟨hcz26_0, hcz26_1, hcz26_2, hcz26_3, hcz26_4, hfz26_0, hfz26_1, hfz26_2, hfz26_3, hfz26_4⟩ := cel5 BK118.out
         go_wp2
         repeat (go_quiet (fail); try go_wp2)
         go_meet
         case rel => exact ⟨_, ((!(a0_2 == 0) || (!(a0_3 == 0)))), rfy, H', ⟨by have := HJ2.out; have := HJ8.out; first | omega | exact Nat.le_refl _⟩, ⟨mK BK118.out⟩, ⟨mB HB.out⟩⟩
       case rest =>
        clear HC17
        (try clear c8); (try clear c16)
        obtain ⟨kq, x57_16, rfl, HA, HJ16, BK118, HB⟩ := hcut
        cases kq with
        | zero => exact absurd HA.out (by simp [spec_l3Form.j2])
        | succ kj16 =>
         have H := HA.out
         clear HA
         simp only [spec_l3Form.j2] at H
         by_cases c27 : x57_16 = true
         ·subst c27
          have H1 : (some false) = some r := by rw [if_pos rfl] at H; exact H
          clear H
          have H := H1
          clear H1
          obtain rfl := Option.some.inj H
          go_wp2
          repeat (go_quiet (fail); try go_wp2)
          go_ret
          exact ⟨rfx, mB HB.out⟩
         ·replace c27 := Bool.eq_false_iff.mpr c27
          subst c27
          have H1 : (spec_l3Form.l0 kj16 a1 0 a0_0 a0_1 a0_2 a0_3 l0_4) = some r := by rw [if_neg (show ¬ (false = true) by decide)] at H; exact H
          clear H
          have H := H1
          clear H1
          have H' := z0 H
          clear H
          go_wp2
          repeat (go_quiet (fail); try go_wp2)
          go_loopg [5] kj16 (fun kq v5 w' => ∃ (x5_4 : Int), v5 = .int .i64 x5_4 ∧ Aside0 (spec_l3Form.l0 kq a1 x5_4 a0_0 a0_1 a0_2 a0_3 l0_4 = some r) ∧ Aside0 (kq ≤ kj16) ∧ Aside0 (w'.heap[gb118]? = some (.cells #[.int .i64 a0_0, .int .i64 a0_1, .int .i64 a0_2, .int .i64 a0_3, (.slice A0_4 l0_4.length c0_4)] 46 (0, 0))) ∧ Aside0 (Below w.heap.size w w'))
          case atStart => exact ⟨(0), rfy, H', ⟨Nat.le_refl _⟩, ⟨mK BK118.out⟩, ⟨mB HB.out⟩⟩
          case round =>
           clear H'
           (try clear c8); (try clear c16); (try clear c27)
           obtain ⟨x5_4, rfl, HA, HK4, BK118, HB⟩ := hrel
           cases gk with
           | zero => exact absurd HA.out (by simp [spec_l3Form.l0])
           | succ k4 =>
            have H := HA.out
            clear HA
            simp only [spec_l3Form.l0] at H
            by_cases c28 : x5_4 < (l0_4.length : Int)
            ·rw [if_pos c28] at H
             have c28b0 : decide (x5_4 < (l0_4.length : Int)) = true := decide_eq_true c28
             clear c28
             by_cases c29 : 0 ≤ x5_4
             ·rw [if_pos c29] at H
              have c29b0 : decide (0 ≤ x5_4) = true := decide_eq_true c29
              clear c29
              replace H := Option.bind_eq_some_iff.mp H
              obtain ⟨t123, A300, H⟩ := H
              try dsimp only at H
              have A30 := z0 A300
              clear A300
              by_cases c31 : t123 = true
              ·subst c31
               have H1 : (spec_l3Form.l0 k4 a1 (wrap64 (x5_4 + 1)) a0_0 a0_1 a0_2 a0_3 l0_4) = some r := by rw [if_pos rfl] at H; exact H
               clear H
               have H := H1
               clear H1
               have H' := z0 H
               clear H
               obtain ⟨hcz32_0, hcz32_1, hcz32_2, hcz32_3, hcz32_4, hfz32_0, hfz32_1, hfz32_2, hfz32_3, hfz32_4⟩ := cel5 BK118.out
               have p122 : 0 ≤ (x5_4 : Int) := of_decide_eq_true (by first | (with_reducible assumption) | assumption)
               have q122 : x5_4 < (l0_4.length : Int) := of_decide_eq_true (by first | (with_reducible assumption) | assumption)
               obtain ⟨ad122, A122_4, c122_4, e122, hx122_0, hx122_1, hx122_2, hx122_3, hx122_4, hl122_4, hi122_4⟩ := at_T46 HR0_4.out x5_4 p122 q122
               cases e122
               replace hx122_0 := (HB.out.cell (World.block_lt_of_cell? w _ hx122_0)).trans hx122_0
               replace hx122_1 := (HB.out.cell (World.block_lt_of_cell? w _ hx122_1)).trans hx122_1
               replace hx122_2 := (HB.out.cell (World.block_lt_of_cell? w _ hx122_2)).trans hx122_2
               replace hx122_3 := (HB.out.cell (World.block_lt_of_cell? w _ hx122_3)).trans hx122_3
               replace hx122_4 := (HB.out.cell (World.block_lt_of_cell? w _ hx122_4)).trans hx122_4
               have HR122_4 := z0 hi122_4
               have HC122_4 := z0 hl122_4
               clear hi122_4 hl122_4
               replace p122 := eq_true p122
               replace q122 := eq_true q122
               go_wp2_with (first | (go_at_call 48; (with_reducible refine (ih k4 q48_1 ((rd_T46 l0_4 x5_4).f0) ((rd_T46 l0_4 x5_4).f1) ((rd_T46 l0_4 x5_4).f2.f0) ((rd_T46 l0_4 x5_4).f2.f1) _ _ ((rd_T46 l0_4 x5_4).f3) (wrap64 (a1 - 1)) true _ ?side1 ?side2 A30.out).mono ?_); (case side1 => exact mC (Kd.C_below HR122_4.out HB.out)); (case side2 => exact HC122_4.out); rintro e w33 ⟨rfl, hb⟩; have n_ := az (bB BK118.out hb) <| z0 (below_step (mB HB.out) hb); clear BK118 HB; obtain ⟨BK118, HB⟩ := n_; clear hb))
               repeat (go_quiet (first | (go_at_call 48; (with_reducible refine (ih k4 q48_1 ((rd_T46 l0_4 x5_4).f0) ((rd_T46 l0_4 x5_4).f1) ((rd_T46 l0_4 x5_4).f2.f0) ((rd_T46 l0_4 x5_4).f2.f1) _ _ ((rd_T46 l0_4 x5_4).f3) (wrap64 (a1 - 1)) true _ ?side1 ?side2 A30.out).mono ?_); (case side1 => exact mC (Kd.C_below HR122_4.out HB.out)); (case side2 => exact HC122_4.out); rintro e w33 ⟨rfl, hb⟩; have n_ := az (bB BK118.out hb) <| z0 (below_step (mB HB.out) hb); clear BK118 HB; obtain ⟨BK118, HB⟩ := n_; clear hb)); try go_wp2_with (first | (go_at_call 48; (with_reducible refine (ih k4 q48_1 ((rd_T46 l0_4 x5_4).f0) ((rd_T46 l0_4 x5_4).f1) ((rd_T46 l0_4 x5_4).f2.f0) ((rd_T46 l0_4 x5_4).f2.f1) _ _ ((rd_T46 l0_4 x5_4).f3) (wrap64 (a1 - 1)) true _ ?side1 ?side2 A30.out).mono ?_); (case side1 => exact mC (Kd.C_below HR122_4.out HB.out)); (case side2 => exact HC122_4.out); rintro e w33 ⟨rfl, hb⟩; have n_ := az (bB BK118.out hb) <| z0 (below_step (mB HB.out) hb); clear BK118 HB; obtain ⟨BK118, HB⟩ := n_; clear hb)))
               go_roundg k4
               case measure => have := HJ2.out; have := HJ8.out; have := HJ16.out; have := HK4.out; omega
               case rel => exact ⟨(wrap64 (x5_4 + 1)), rfy, H', ⟨by have := HJ2.out; have := HJ8.out; have := HJ16.out; have := HK4.out; omega⟩, ⟨mK BK118.out⟩, ⟨mB HB.out⟩⟩
              ·replace c31 := Bool.eq_false_iff.mpr c31
               subst c31
               have H1 : (some false) = some r := by rw [if_neg (show ¬ (false = true) by decide)] at H; exact H
               clear H
               have H := H1
               clear H1
               obtain rfl := Option.some.inj H
               obtain ⟨hcz34_0, hcz34_1, hcz34_2, hcz34_3, hcz34_4, hfz34_0, hfz34_1, hfz34_2, hfz34_3, hfz34_4⟩ := cel5 BK118.out
               have p122 : 0 ≤ (x5_4 : Int) := of_decide_eq_true (by first | (with_reducible assumption) | assumption)
               have q122 : x5_4 < (l0_4.length : Int) := of_decide_eq_true (by first | (with_reducible assumption) | assumption)
               obtain ⟨ad122, A122_4, c122_4, e122, hx122_0, hx122_1, hx122_2, hx122_3, hx122_4, hl122_4, hi122_4⟩ := at_T46 HR0_4.out x5_4 p122 q122
               cases e122
               replace hx122_0 := (HB.out.cell (World.block_lt_of_cell? w _ hx122_0)).trans hx122_0
               replace hx122_1 := (HB.out.cell (World.block_lt_of_cell? w _ hx122_1)).trans hx122_1
               replace hx122_2 := (HB.out.cell (World.block_lt_of_cell? w _ hx122_2)).trans hx122_2
               replace hx122_3 := (HB.out.cell (World.block_lt_of_cell? w _ hx122_3)).trans hx122_3
               replace hx122_4 := (HB.out.cell (World.block_lt_of_cell? w _ hx122_4)).trans hx122_4
               have HR122_4 := z0 hi122_4
               have HC122_4 := z0 hl122_4
               clear hi122_4 hl122_4
               replace p122 := eq_true p122
               replace q122 := eq_true q122
               go_wp2_with (first | (go_at_call 48; (with_reducible refine (ih k4 q48_1 ((rd_T46 l0_4 x5_4).f0) ((rd_T46 l0_4 x5_4).f1) ((rd_T46 l0_4 x5_4).f2.f0) ((rd_T46 l0_4 x5_4).f2.f1) _ _ ((rd_T46 l0_4 x5_4).f3) (wrap64 (a1 - 1)) false _ ?side1 ?side2 A30.out).mono ?_); (case side1 => exact mC (Kd.C_below HR122_4.out HB.out)); (case side2 => exact HC122_4.out); rintro e w35 ⟨rfl, hb⟩; have n_ := az (bB BK118.out hb) <| z0 (below_step (mB HB.out) hb); clear BK118 HB; obtain ⟨BK118, HB⟩ := n_; clear hb))
               repeat (go_quiet (first | (go_at_call 48; (with_reducible refine (ih k4 q48_1 ((rd_T46 l0_4 x5_4).f0) ((rd_T46 l0_4 x5_4).f1) ((rd_T46 l0_4 x5_4).f2.f0) ((rd_T46 l0_4 x5_4).f2.f1) _ _ ((rd_T46 l0_4 x5_4).f3) (wrap64 (a1 - 1)) false _ ?side1 ?side2 A30.out).mono ?_); (case side1 => exact mC (Kd.C_below HR122_4.out HB.out)); (case side2 => exact HC122_4.out); rintro e w35 ⟨rfl, hb⟩; have n_ := az (bB BK118.out hb) <| z0 (below_step (mB HB.out) hb); clear BK118 HB; obtain ⟨BK118, HB⟩ := n_; clear hb)); try go_wp2_with (first | (go_at_call 48; (with_reducible refine (ih k4 q48_1 ((rd_T46 l0_4 x5_4).f0) ((rd_T46 l0_4 x5_4).f1) ((rd_T46 l0_4 x5_4).f2.f0) ((rd_T46 l0_4 x5_4).f2.f1) _ _ ((rd_T46 l0_4 x5_4).f3) (wrap64 (a1 - 1)) false _ ?side1 ?side2 A30.out).mono ?_); (case side1 => exact mC (Kd.C_below HR122_4.out HB.out)); (case side2 => exact HC122_4.out); rintro e w35 ⟨rfl, hb⟩; have n_ := az (bB BK118.out hb) <| z0 (below_step (mB HB.out) hb); clear BK118 HB; obtain ⟨BK118, HB⟩ := n_; clear hb)))
               go_ret
               exact ⟨rfx, mB HB.out⟩
             ·rw [if_neg c29] at H
              exact absurd H (by simp)
            ·rw [if_neg c28] at H
             have c28b0 : decide (x5_4 < (l0_4.length : Int)) = false := decide_eq_false c28
             clear c28
             obtain rfl := Option.some.inj H
             obtain ⟨hcz36_0, hcz36_1, hcz36_2, hcz36_3, hcz36_4, hfz36_0, hfz36_1, hfz36_2, hfz36_3, hfz36_4⟩ := cel5 BK118.out
             go_wp2
             repeat (go_quiet (fail); try go_wp2)
             go_ret
             exact ⟨rfx, mB HB.out⟩

end Go.Proofs.Ytddnijmgipffeaa.B
namespace Go.Proofs.Ytddnijmgipffeaa.B
open Go.RowKit Go.Proofs.YtddnijmgipffeaaW.PrintWords Go.Proofs.YtddnijmgipffeaaW.PrintLast Go.Proofs.YtddnijmgipffeaaW.PrintMore
attribute [local go_sem] max2_int min2_int max_two min_two max_three min_three max_four min_four   -- for this text's walks alone
set_option linter.unusedVariables false
set_option linter.unusedSimpArgs false

/-! ### spec_l3Many: function 49 -/
mutual
def spec_l3Many.l0 : Nat → Int → Int → Int → Int → Int → Int → Int → List (S46) → Option (Int)
 | 0, _, _, _, _, _, _, _, _ => none
 | k + 1, x1, x5, x6, x125000, x125001, x125002, x125003, x125004 => if x6 < (x125004.length : Int) then (if x1 > 0 then (if 0 ≤ x6 then ((spec_l3Many.f k ((rd_T46 x125004 x6).f0) ((rd_T46 x125004 x6).f1) ((rd_T46 x125004 x6).f2.f0) ((rd_T46 x125004 x6).f2.f1) ((rd_T46 x125004 x6).f3) (wrap64 (x1 - 1))).bind fun t126 => (spec_l3Many.l0 k x1 (wrap64 (x5 + t126)) (wrap64 (x6 + 1)) x125000 x125001 x125002 x125003 x125004)) else (none)) else (some x5)) else (some x5)
def spec_l3Many.f : Nat → Int → Int → Int → Int → List (S46) → Int → Option (Int)
 | 0, _, _, _, _, _, _ => none
 | k + 1, a0_0, a0_1, a0_2, a0_3, l0_4, a1 => spec_l3Many.l0 k a1 1 0 a0_0 a0_1 a0_2 a0_3 l0_4
end
theorem spec_l3Many.mono_l : ∀ k, (∀ y0 y1 y2 y3 y4 y5, LeO (spec_l3Many.f k y0 y1 y2 y3 y4 y5) (spec_l3Many.f (k + 1) y0 y1 y2 y3 y4 y5)) ∧ (∀ y0 y1 y2 y3 y4 y5 y6 y7, LeO (spec_l3Many.l0 k y0 y1 y2 y3 y4 y5 y6 y7) (spec_l3Many.l0 (k + 1) y0 y1 y2 y3 y4 y5 y6 y7))
 | 0 => ⟨fun _ _ _ _ _ _ r h => by simp [spec_l3Many.f] at h, fun _ _ _ _ _ _ _ _ r h => by simp [spec_l3Many.l0] at h⟩
 | k + 1 => by
  obtain ⟨ih0, ih1⟩ := spec_l3Many.mono_l k
  refine ⟨?_, ?_⟩
  ·intro y0 y1 y2 y3 y4 y5
   unfold spec_l3Many.f
   repeat' first
   | (with_reducible exact ih0 _ _ _ _ _ _)
   | (with_reducible exact ih1 _ _ _ _ _ _ _ _)
   | (with_reducible exact LeO.refl _)
   | (with_reducible exact LeO.none _)
   | (with_reducible refine LeO.ite ?_ ?_)
   | (with_reducible refine LeO.bind ?_ (fun _ => ?_))
   | exact ih0 _ _ _ _ _ _
   | exact ih1 _ _ _ _ _ _ _ _
   | exact LeO.none _
   | refine LeO.ite ?_ ?_
   | refine LeO.bind ?_ (fun _ => ?_)
  ·intro y0 y1 y2 y3 y4 y5 y6 y7
   unfold spec_l3Many.l0
   repeat' first
   | (with_reducible exact ih0 _ _ _ _ _ _)
   | (with_reducible exact ih1 _ _ _ _ _ _ _ _)
   | (with_reducible exact LeO.refl _)
   | (with_reducible exact LeO.none _)
   | (with_reducible refine LeO.ite ?_ ?_)
   | (with_reducible refine LeO.bind ?_ (fun _ => ?_))
   | exact ih0 _ _ _ _ _ _
   | exact ih1 _ _ _ _ _ _ _ _
   | exact LeO.none _
   | refine LeO.ite ?_ ?_
   | refine LeO.bind ?_ (fun _ => ?_)
theorem spec_l3Many.mono : ∀ a0 a1 a2 a3 a4 a5 k, LeO (spec_l3Many.f k a0 a1 a2 a3 a4 a5) (spec_l3Many.f (k + 1) a0 a1 a2 a3 a4 a5) := by
 intro a0 a1 a2 a3 a4 a5 k
 obtain ⟨ih0, ih1⟩ := spec_l3Many.mono_l k
 exact ih0 a0 a1 a2 a3 a4 a5
set_option maxHeartbeats 8000000 in
set_option maxRecDepth 100000 in
theorem spec_l3Many.calls (k : Nat) : ∀ (a0_0 : Int) (a0_1 : Int) (a0_2 : Int) (a0_3 : Int) (A0_4 : Option Addr) (c0_4 : Nat) (l0_4 : List (S46)) (a1 : Int) (r : Int) (w : World) (hr0_4 : Kd.C k46 w A0_4 l0_4.length l0_4) (hc0_4 : l0_4.length ≤ c0_4) (h : spec_l3Many.f k a0_0 a0_1 a0_2 a0_3 l0_4 a1 = some r),
  Calls Try.prog 49 #[.agg #[.int .i64 a0_0, .int .i64 a0_1, .int .i64 a0_2, .int .i64 a0_3, .slice A0_4 l0_4.length c0_4], .int .i64 a1] w fun e w' => e = .returned (.int .i64 r) ∧ Below w.heap.size w w' := by
 induction k using Nat.strongRecOn with
 | _ k ih =>
 intro a0_0 a0_1 a0_2 a0_3 A0_4 c0_4 l0_4 a1 r w hr0_4 hc0_4 h
 cases k with
 | zero => exact absurd h (by simp [spec_l3Many.f])
 | succ k =>
 simp only [spec_l3Many.f] at h
 have hu46 := Try.underlying46
 have HR0_4 := z0 hr0_4
 have HC0_4 := z0 hc0_4
 clear hr0_4 hc0_4
 have HB := z0 (Below.refl w.heap.size w)
 have H : (spec_l3Many.l0 k a1 1 0 a0_0 a0_1 a0_2 a0_3 l0_4) = some r := h
 clear h
 have H' := z0 H
 clear H
 go_enter Try.func49, Try.ntmps49
 go_wp2_with (first | ((with_reducible refine gate_dst (N := 2) rfl ?_); refine box_event ?hg (N := 2) ?hd (cs := #[.int .i64 a0_0, .int .i64 a0_1, .int .i64 a0_2, .int .i64 a0_3, .slice A0_4 l0_4.length c0_4]) (t := 46) ?hr ?_; (case hd => rfl); (case hg => rfl); (case hr => first | (go_simp; done) | (go_simp; rfl)); intro gb124 hg w3 hbox hb; have n_ := az (below_step (mB HB.out) hb) <| az (hbox) <| az ((by rw [hg]; exact (below_size (mB HB.out)) : w.heap.size ≤ gb124)) <| z0 ((by rw [hg]; exact (below_size (mB HB.out)) : w.heap.size ≤ gb124)); clear HB; obtain ⟨HB, BK124, GW124, GE124⟩ := n_; clear hb hbox hg))
 go_loopg [5, 6] k (fun kq v5 v6 w' => ∃ (x5_1 : Int) (x6_1 : Int), v5 = .int .i64 x5_1 ∧ v6 = .int .i64 x6_1 ∧ Aside0 (spec_l3Many.l0 kq a1 x5_1 x6_1 a0_0 a0_1 a0_2 a0_3 l0_4 = some r) ∧ Aside0 (kq ≤ k) ∧ Aside0 (w'.heap[gb124]? = some (.cells #[.int .i64 a0_0, .int .i64 a0_1, .int .i64 a0_2, .int .i64 a0_3, (.slice A0_4 l0_4.length c0_4)] 46 (0, 0))) ∧ Aside0 (Below w.heap.size w w'))
 case atStart => exact ⟨(1), (0), rfy, rfy, H', ⟨Nat.le_refl _⟩, ⟨mK BK124.out⟩, ⟨mB HB.out⟩⟩
 case round =>
  clear H'
  try clear p2
  obtain ⟨x5_1, x6_1, rfl, rfl, HA, HK1, BK124, HB⟩ := hrel
  cases gk with
  | zero => exact absurd HA.out (by simp [spec_l3Many.l0])
  | succ k1 =>
   have H := HA.out
   clear HA
   simp only [spec_l3Many.l0] at H
   by_cases c4 : x6_1 < (l0_4.length : Int)
   ·rw [if_pos c4] at H
    have c4b0 : decide (x6_1 < (l0_4.length : Int)) = true := decide_eq_true c4
    clear c4
    by_cases c5 : a1 > 0
    ·rw [if_pos c5] at H
     have c5b0 : decide (0 < a1) = true := decide_eq_true c5
     clear c5
     by_cases c6 : 0 ≤ x6_1
     ·rw [if_pos c6] at H
      have c6b0 : decide (0 ≤ x6_1) = true := decide_eq_true c6
      clear c6
      replace H := Option.bind_eq_some_iff.mp H
      obtain ⟨t126, A70, H⟩ := H
      try dsimp only at H
      have A7 := z0 A70
      clear A70
      have H' := z0 H
      clear H
      obtain ⟨hcz8_0, hcz8_1, hcz8_2, hcz8_3, hcz8_4, hfz8_0, hfz8_1, hfz8_2, hfz8_3, hfz8_4⟩ := cel5 BK124.out
      have p125 : 0 ≤ (x6_1 : Int) := of_decide_eq_true (by first | (with_reducible assumption) | assumption)
      have q125 : x6_1 < (l0_4.length : Int) := of_decide_eq_true (by first | (with_reducible assumption) | assumption)
      obtain ⟨ad125, A125_4, c125_4, e125, hx125_0, hx125_1, hx125_2, hx125_3, hx125_4, hl125_4, hi125_4⟩ := at_T46 HR0_4.out x6_1 p125 q125
      cases e125
      replace hx125_0 := (HB.out.cell (World.block_lt_of_cell? w _ hx125_0)).trans hx125_0
      replace hx125_1 := (HB.out.cell (World.block_lt_of_cell? w _ hx125_1)).trans hx125_1
      replace hx125_2 := (HB.out.cell (World.block_lt_of_cell? w _ hx125_2)).trans hx125_2
      replace hx125_3 := (HB.out.cell (World.block_lt_of_cell? w _ hx125_3)).trans hx125_3
      replace hx125_4 := (HB.out.cell (World.block_lt_of_cell? w _ hx125_4)).trans hx125_4
      have HR125_4 := z0 hi125_4
      have HC125_4 := z0 hl125_4
      clear hi125_4 hl125_4
      replace p125 := eq_true p125
      replace q125 := eq_true q125
      go_wp2_with (first | ((with_reducible refine gate_callee (f := 49) rfl ?_); refine goesL_ (some 26) rfl rfl Try.func49 (by kernel_rfl) rfl #[.agg #[.int .i64 ((rd_T46 l0_4 x6_1).f0), .int .i64 ((rd_T46 l0_4 x6_1).f1), .int .i64 ((rd_T46 l0_4 x6_1).f2.f0), .int .i64 ((rd_T46 l0_4 x6_1).f2.f1), .slice A125_4 ((rd_T46 l0_4 x6_1).f3).length c125_4], .int .i64 (wrap64 (a1 - 1))] rfl argx ?_; (with_reducible refine (ih k1 (by have := HK1.out; omega) ((rd_T46 l0_4 x6_1).f0) ((rd_T46 l0_4 x6_1).f1) ((rd_T46 l0_4 x6_1).f2.f0) ((rd_T46 l0_4 x6_1).f2.f1) _ _ ((rd_T46 l0_4 x6_1).f3) (wrap64 (a1 - 1)) t126 _ ?side1 ?side2 A7.out).mono ?_); (case side1 => exact mC (Kd.C_below HR125_4.out HB.out)); (case side2 => exact HC125_4.out); rintro e w9 ⟨rfl, hb⟩; refine ⟨_, rfl, ?_⟩; have n_ := az (bB BK124.out hb) <| z0 (below_step (mB HB.out) hb); clear BK124 HB; obtain ⟨BK124, HB⟩ := n_; clear hb))
      go_roundg k1
      case measure => have := HK1.out; omega
      case rel => exact ⟨(wrap64 (x5_1 + t126)), (wrap64 (x6_1 + 1)), rfy, rfy, H', ⟨by have := HK1.out; omega⟩, ⟨mK BK124.out⟩, ⟨mB HB.out⟩⟩
     ·rw [if_neg c6] at H
      exact absurd H (by simp)
    ·rw [if_neg c5] at H
     have c5b0 : decide (0 < a1) = false := decide_eq_false c5
     clear c5
     obtain rfl := Option.some.inj H
     obtain ⟨hcz10_0, hcz10_1, hcz10_2, hcz10_3, hcz10_4, hfz10_0, hfz10_1, hfz10_2, hfz10_3, hfz10_4⟩ := cel5 BK124.out
     go_wp2
     go_ret
     exact ⟨rfx, mB HB.out⟩
   ·rw [if_neg c4] at H
    have c4b0 : decide (x6_1 < (l0_4.length : Int)) = false := decide_eq_false c4
    clear c4
    obtain rfl := Option.some.inj H
    obtain ⟨hcz11_0, hcz11_1, hcz11_2, hcz11_3, hcz11_4, hfz11_0, hfz11_1, hfz11_2, hfz11_3, hfz11_4⟩ := cel5 BK124.out
    go_wp2
    go_ret
    exact ⟨rfx, mB HB.out⟩

/-! ### spec_ExprOk: function 25 -/
def spec_ExprOk.f (k : Nat) (a0_0 : Int) (a0_1 : Int) (a0_2 : Int) (a0_3 : Int) (l0_4 : List (S46)) : Option (Bool) := (spec_l3Form.f k a0_0 a0_1 a0_2 a0_3 l0_4 6).bind fun t128 => (if t128 = true then ((spec_l3Many.f k a0_0 a0_1 a0_2 a0_3 l0_4 6).bind fun t129 => (some (decide (t129 ≤ 14)))) else (some false))
theorem spec_ExprOk.mono : ∀ a0 a1 a2 a3 a4 k, LeO (spec_ExprOk.f k a0 a1 a2 a3 a4) (spec_ExprOk.f (k + 1) a0 a1 a2 a3 a4) := by
 intro a0 a1 a2 a3 a4 k
 unfold spec_ExprOk.f
 repeat' first
   | (with_reducible exact spec_l3Form.mono _ _ _ _ _ _ _)
   | (with_reducible exact spec_l3Many.mono _ _ _ _ _ _ _)
   | (with_reducible exact LeO.refl _)
   | (with_reducible exact LeO.none _)
   | (with_reducible refine LeO.ite ?_ ?_)
   | (with_reducible refine LeO.bind ?_ (fun _ => ?_))
   | exact spec_l3Form.mono _ _ _ _ _ _ _
   | exact spec_l3Many.mono _ _ _ _ _ _ _
   | exact LeO.none _
   | refine LeO.ite ?_ ?_
   | refine LeO.bind ?_ (fun _ => ?_)
set_option maxHeartbeats 8000000 in
set_option maxRecDepth 100000 in
theorem spec_ExprOk.calls (k : Nat) (a0_0 : Int) (a0_1 : Int) (a0_2 : Int) (a0_3 : Int) (A0_4 : Option Addr) (c0_4 : Nat) (l0_4 : List (S46)) (r : Bool) (w : World) (hr0_4 : Kd.C k46 w A0_4 l0_4.length l0_4) (hc0_4 : l0_4.length ≤ c0_4) (h : spec_ExprOk.f k a0_0 a0_1 a0_2 a0_3 l0_4 = some r) :
  Calls Try.prog 25 #[.agg #[.int .i64 a0_0, .int .i64 a0_1, .int .i64 a0_2, .int .i64 a0_3, .slice A0_4 l0_4.length c0_4]] w fun e w' => e = .returned (.bool r) ∧ Below w.heap.size w w' := by
 have hu46 := Try.underlying46
 have HR0_4 := z0 hr0_4
 have HC0_4 := z0 hc0_4
 clear hr0_4 hc0_4
 have HB := z0 (Below.refl w.heap.size w)
 have H : ((spec_l3Form.f k a0_0 a0_1 a0_2 a0_3 l0_4 6).bind fun t128 => (if t128 = true then ((spec_l3Many.f k a0_0 a0_1 a0_2 a0_3 l0_4 6).bind fun t129 => (some (decide (t129 ≤ 14)))) else (some false))) = some r := h
 clear h
 have HF2 := z0 H
 clear H
 go_enter Try.func25, Try.ntmps25
 go_upto_region 1 with (first | ((with_reducible refine gate_dst (N := 1) rfl ?_); refine box_event ?hg (N := 1) ?hd (cs := #[.int .i64 a0_0, .int .i64 a0_1, .int .i64 a0_2, .int .i64 a0_3, .slice A0_4 l0_4.length c0_4]) (t := 46) ?hr ?_; (case hd => rfl); (case hg => rfl); (case hr => first | (go_simp; done) | (go_simp; rfl)); intro gb127 hg w3 hbox hb; have n_ := az (below_step (mB HB.out) hb) <| az (hbox) <| az ((by rw [hg]; exact (below_size (mB HB.out)) : w.heap.size ≤ gb127)) <| z0 ((by rw [hg]; exact (below_size (mB HB.out)) : w.heap.size ≤ gb127)); clear HB; obtain ⟨HB, BK127, GW127, GE127⟩ := n_; clear hb hbox hg))
 (try simp only [Act.put, List.setIfInBounds_toArray, List.set_cons_zero, List.set_cons_succ])
 have H := HF2.out
 clear HF2
 try clear c2
 replace H := Option.bind_eq_some_iff.mp H
 obtain ⟨t128, A40, H⟩ := H
 try dsimp only at H
 have A4 := z0 A40
 clear A40
 by_cases c5 : t128 = true
 ·subst c5
  have H1 : ((spec_l3Many.f k a0_0 a0_1 a0_2 a0_3 l0_4 6).bind fun t129 => (some (decide (t129 ≤ 14)))) = some r := by rw [if_pos rfl] at H; exact H
  clear H
  have H := H1
  clear H1
  replace H := Option.bind_eq_some_iff.mp H
  obtain ⟨t129, A60, H⟩ := H
  try dsimp only at H
  have A6 := z0 A60
  clear A60
  obtain rfl := Option.some.inj H
  obtain ⟨hcz7_0, hcz7_1, hcz7_2, hcz7_3, hcz7_4, hfz7_0, hfz7_1, hfz7_2, hfz7_3, hfz7_4⟩ := cel5 BK127.out
  go_wp2_with (first | ((with_reducible refine gate_callee (f := 48) rfl ?_); refine goesL_ (some 4) rfl rfl Try.func48 (by kernel_rfl) rfl #[.agg #[.int .i64 a0_0, .int .i64 a0_1, .int .i64 a0_2, .int .i64 a0_3, .slice A0_4 l0_4.length c0_4], .int .i64 6] rfl argx ?_; (with_reducible refine (spec_l3Form.calls k a0_0 a0_1 a0_2 a0_3 _ _ l0_4 6 true _ ?side1 ?side2 A4.out).mono ?_); (case side1 => exact mC (Kd.C_below HR0_4.out HB.out)); (case side2 => exact HC0_4.out); rintro e w8 ⟨rfl, hb⟩; refine ⟨_, rfl, ?_⟩; have n_ := az (bB BK127.out hb) <| z0 (below_step (mB HB.out) hb); clear BK127 HB; obtain ⟨BK127, HB⟩ := n_; clear hb; obtain ⟨hcz9_0, hcz9_1, hcz9_2, hcz9_3, hcz9_4, hfz9_0, hfz9_1, hfz9_2, hfz9_3, hfz9_4⟩ := cel5 BK127.out) | (go_at_call 49; (with_reducible refine (spec_l3Many.calls k a0_0 a0_1 a0_2 a0_3 _ _ l0_4 6 t129 _ ?side1 ?side2 A6.out).mono ?_); (case side1 => exact mC (Kd.C_below HR0_4.out HB.out)); (case side2 => exact HC0_4.out); rintro e w10 ⟨rfl, hb⟩; have n_ := az (bB BK127.out hb) <| z0 (below_step (mB HB.out) hb); clear BK127 HB; obtain ⟨BK127, HB⟩ := n_; clear hb))
  go_ret
  exact ⟨rfx, mB HB.out⟩
 ·replace c5 := Bool.eq_false_iff.mpr c5
  subst c5
  have H1 : (some false) = some r := by rw [if_neg (show ¬ (false = true) by decide)] at H; exact H
  clear H
  have H := H1
  clear H1
  obtain rfl := Option.some.inj H
  obtain ⟨hcz11_0, hcz11_1, hcz11_2, hcz11_3, hcz11_4, hfz11_0, hfz11_1, hfz11_2, hfz11_3, hfz11_4⟩ := cel5 BK127.out
  go_wp2_with (first | ((with_reducible refine gate_callee (f := 48) rfl ?_); refine goesL_ (some 4) rfl rfl Try.func48 (by kernel_rfl) rfl #[.agg #[.int .i64 a0_0, .int .i64 a0_1, .int .i64 a0_2, .int .i64 a0_3, .slice A0_4 l0_4.length c0_4], .int .i64 6] rfl argx ?_; (with_reducible refine (spec_l3Form.calls k a0_0 a0_1 a0_2 a0_3 _ _ l0_4 6 false _ ?side1 ?side2 A4.out).mono ?_); (case side1 => exact mC (Kd.C_below HR0_4.out HB.out)); (case side2 => exact HC0_4.out); rintro e w12 ⟨rfl, hb⟩; refine ⟨_, rfl, ?_⟩; have n_ := az (bB BK127.out hb) <| z0 (below_step (mB HB.out) hb); clear BK127 HB; obtain ⟨BK127, HB⟩ := n_; clear hb))
  go_ret
  exact ⟨rfx, mB HB.out⟩

end Go.Proofs.Ytddnijmgipffeaa.B
namespace Go.Proofs.Ytddnijmgipffeaa.B
open Go.RowKit Go.Proofs.YtddnijmgipffeaaW.PrintWords Go.Proofs.YtddnijmgipffeaaW.PrintLast Go.Proofs.YtddnijmgipffeaaW.PrintMore
attribute [local go_sem] max2_int min2_int max_two min_two max_three min_three max_four min_four   -- for this text's walks alone
set_option linter.unusedVariables false
set_option linter.unusedSimpArgs false

attribute [local go_sem high] eqA37
/-! ### spec_l4Form: function 45 -/
mutual
def spec_l4Form.j0 : Nat → List (S69) → Int → Bool → Option (Bool)
 | 0, _, _, _ => none
 | k + 1, x0, x1, x14 => if x14 = true then (some false) else (spec_l4Form.l0 k x0 x1 0)
def spec_l4Form.l0 : Nat → List (S69) → Int → Int → Option (Bool)
 | 0, _, _, _ => none
 | k + 1, x0, x1, x5 => if x5 < (x0.length : Int) then (if 0 ≤ x5 then (if ((rd_T69 x0 x5).f0) = 1 then ((spec_AddrOk.f ((rd_T69 x0 x5).f1.f0) ((rd_T69 x0 x5).f1.f1)).bind fun t132 => (if t132 = true then (if ((rd_T69 x0 x5).f1.f0) = 1 then (spec_l4Form.j2 k x0 x1 x5 false ((rd_T69 x0 x5).f0) ((rd_T69 x0 x5).f1.f0) ((rd_T69 x0 x5).f1.f1) ((rd_T69 x0 x5).f2.f0) ((rd_T69 x0 x5).f2.f1) ((rd_T69 x0 x5).f2.f2.f0) ((rd_T69 x0 x5).f2.f2.f1) ((rd_T69 x0 x5).f2.f3) ((rd_T69 x0 x5).f3) ((rd_T69 x0 x5).f4)) else (if (((rd_T69 x0 x5).f3).length : Int) = 0 then (spec_l4Form.j2 k x0 x1 x5 ((((rd_T69 x0 x5).f4).length : Int) == 0) ((rd_T69 x0 x5).f0) ((rd_T69 x0 x5).f1.f0) ((rd_T69 x0 x5).f1.f1) ((rd_T69 x0 x5).f2.f0) ((rd_T69 x0 x5).f2.f1) ((rd_T69 x0 x5).f2.f2.f0) ((rd_T69 x0 x5).f2.f2.f1) ((rd_T69 x0 x5).f2.f3) ((rd_T69 x0 x5).f3) ((rd_T69 x0 x5).f4)) else (spec_l4Form.j2 k x0 x1 x5 false ((rd_T69 x0 x5).f0) ((rd_T69 x0 x5).f1.f0) ((rd_T69 x0 x5).f1.f1) ((rd_T69 x0 x5).f2.f0) ((rd_T69 x0 x5).f2.f1) ((rd_T69 x0 x5).f2.f2.f0) ((rd_T69 x0 x5).f2.f2.f1) ((rd_T69 x0 x5).f2.f3) ((rd_T69 x0 x5).f3) ((rd_T69 x0 x5).f4)))) else (spec_l4Form.j2 k x0 x1 x5 false ((rd_T69 x0 x5).f0) ((rd_T69 x0 x5).f1.f0) ((rd_T69 x0 x5).f1.f1) ((rd_T69 x0 x5).f2.f0) ((rd_T69 x0 x5).f2.f1) ((rd_T69 x0 x5).f2.f2.f0) ((rd_T69 x0 x5).f2.f2.f1) ((rd_T69 x0 x5).f2.f3) ((rd_T69 x0 x5).f3) ((rd_T69 x0 x5).f4)))) else (if ((rd_T69 x0 x5).f0) = 2 then (spec_l4Form.j2 k x0 x1 x5 (((rd_T69 x0 x5).f1.f0) == 0 && (((rd_T69 x0 x5).f1.f1) == 0)) ((rd_T69 x0 x5).f0) ((rd_T69 x0 x5).f1.f0) ((rd_T69 x0 x5).f1.f1) ((rd_T69 x0 x5).f2.f0) ((rd_T69 x0 x5).f2.f1) ((rd_T69 x0 x5).f2.f2.f0) ((rd_T69 x0 x5).f2.f2.f1) ((rd_T69 x0 x5).f2.f3) ((rd_T69 x0 x5).f3) ((rd_T69 x0 x5).f4)) else (if ((rd_T69 x0 x5).f0) = 3 then (if (((rd_T69 x0 x5).f1.f0) == 0 && (((rd_T69 x0 x5).f1.f1) == 0)) = true then (spec_l4Form.j2 k x0 x1 x5 ((((rd_T69 x0 x5).f4).length : Int) == 0) ((rd_T69 x0 x5).f0) ((rd_T69 x0 x5).f1.f0) ((rd_T69 x0 x5).f1.f1) ((rd_T69 x0 x5).f2.f0) ((rd_T69 x0 x5).f2.f1) ((rd_T69 x0 x5).f2.f2.f0) ((rd_T69 x0 x5).f2.f2.f1) ((rd_T69 x0 x5).f2.f3) ((rd_T69 x0 x5).f3) ((rd_T69 x0 x5).f4)) else (spec_l4Form.j2 k x0 x1 x5 false ((rd_T69 x0 x5).f0) ((rd_T69 x0 x5).f1.f0) ((rd_T69 x0 x5).f1.f1) ((rd_T69 x0 x5).f2.f0) ((rd_T69 x0 x5).f2.f1) ((rd_T69 x0 x5).f2.f2.f0) ((rd_T69 x0 x5).f2.f2.f1) ((rd_T69 x0 x5).f2.f3) ((rd_T69 x0 x5).f3) ((rd_T69 x0 x5).f4))) else (spec_l4Form.j2 k x0 x1 x5 false ((rd_T69 x0 x5).f0) ((rd_T69 x0 x5).f1.f0) ((rd_T69 x0 x5).f1.f1) ((rd_T69 x0 x5).f2.f0) ((rd_T69 x0 x5).f2.f1) ((rd_T69 x0 x5).f2.f2.f0) ((rd_T69 x0 x5).f2.f2.f1) ((rd_T69 x0 x5).f2.f3) ((rd_T69 x0 x5).f3) ((rd_T69 x0 x5).f4))))) else (none)) else (some true)
def spec_l4Form.j2 : Nat → List (S69) → Int → Int → Bool → Int → Int → Int → Int → Int → Int → Int → List (S46) → List (S69) → List (S69) → Option (Bool)
 | 0, _, _, _, _, _, _, _, _, _, _, _, _, _, _ => none
 | k + 1, x0, x1, x5, x7, x132000, x132001, x132002, x132003, x132004, x132005, x132006, x132007, x132008, x132009 => if x7 = true then ((spec_ExprOk.f k x132003 x132004 x132005 x132006 x132007).bind fun t133 => (if t133 = true then ((spec_l4Form.f k x132008 (wrap64 (x1 - 1))).bind fun t134 => (if t134 = true then ((spec_l4Form.f k x132009 (wrap64 (x1 - 1))).bind fun t135 => (if t135 = true then (spec_l4Form.l0 k x0 x1 (wrap64 (x5 + 1))) else (some false))) else (some false))) else (some false))) else (some false)
def spec_l4Form.f : Nat → List (S69) → Int → Option (Bool)
 | 0, _, _ => none
 | k + 1, l0, a1 => if (l0.length : Int) > 0 then (spec_l4Form.j0 k l0 a1 (decide (a1 < 1))) else (spec_l4Form.j0 k l0 a1 false)
end
theorem q45_1 {p : Prop} (h : p := by (with_reducible repeat (first | refine blk_drewN ?_ _ | refine blk_drew ?_ | refine blk_alloc ?_ _)); refine blk_put (cs := #[.int .i64 ((rd_T69 l0 x5_2).f0), .int .i64 ((rd_T69 l0 x5_2).f1.f0), .int .i64 ((rd_T69 l0 x5_2).f1.f1), .int .i64 ((rd_T69 l0 x5_2).f2.f0), .int .i64 ((rd_T69 l0 x5_2).f2.f1), .int .i64 ((rd_T69 l0 x5_2).f2.f2.f0), .int .i64 ((rd_T69 l0 x5_2).f2.f2.f1), .slice A130_7 ((rd_T69 l0 x5_2).f2.f3).length c130_7, .slice A130_8 ((rd_T69 l0 x5_2).f3).length c130_8, .slice none 0 0]) ?_ 9 _ rfl; (with_reducible repeat (first | refine blk_drewN ?_ _ | refine blk_drew ?_ | refine blk_alloc ?_ _)); refine blk_put (cs := #[.int .i64 ((rd_T69 l0 x5_2).f0), .int .i64 ((rd_T69 l0 x5_2).f1.f0), .int .i64 ((rd_T69 l0 x5_2).f1.f1), .int .i64 ((rd_T69 l0 x5_2).f2.f0), .int .i64 ((rd_T69 l0 x5_2).f2.f1), .int .i64 ((rd_T69 l0 x5_2).f2.f2.f0), .int .i64 ((rd_T69 l0 x5_2).f2.f2.f1), .slice A130_7 ((rd_T69 l0 x5_2).f2.f3).length c130_7, .slice none 0 0, .slice none 0 0]) ?_ 8 _ rfl; (with_reducible repeat (first | refine blk_drewN ?_ _ | refine blk_drew ?_ | refine blk_alloc ?_ _)); refine blk_put (cs := #[.int .i64 ((rd_T69 l0 x5_2).f0), .int .i64 ((rd_T69 l0 x5_2).f1.f0), .int .i64 ((rd_T69 l0 x5_2).f1.f1), .int .i64 ((rd_T69 l0 x5_2).f2.f0), .int .i64 ((rd_T69 l0 x5_2).f2.f1), .int .i64 ((rd_T69 l0 x5_2).f2.f2.f0), .int .i64 ((rd_T69 l0 x5_2).f2.f2.f1), .slice none 0 0, .slice none 0 0, .slice none 0 0]) ?_ 7 _ rfl; (with_reducible repeat (first | refine blk_drewN ?_ _ | refine blk_drew ?_ | refine blk_alloc ?_ _)); refine blk_put (cs := #[.int .i64 ((rd_T69 l0 x5_2).f0), .int .i64 ((rd_T69 l0 x5_2).f1.f0), .int .i64 ((rd_T69 l0 x5_2).f1.f1), .int .i64 ((rd_T69 l0 x5_2).f2.f0), .int .i64 ((rd_T69 l0 x5_2).f2.f1), .int .i64 ((rd_T69 l0 x5_2).f2.f2.f0), .int .i64 0, .slice none 0 0, .slice none 0 0, .slice none 0 0]) ?_ 6 _ rfl; (with_reducible repeat (first | refine blk_drewN ?_ _ | refine blk_drew ?_ | refine blk_alloc ?_ _)); refine blk_put (cs := #[.int .i64 ((rd_T69 l0 x5_2).f0), .int .i64 ((rd_T69 l0 x5_2).f1.f0), .int .i64 ((rd_T69 l0 x5_2).f1.f1), .int .i64 ((rd_T69 l0 x5_2).f2.f0), .int .i64 ((rd_T69 l0 x5_2).f2.f1), .int .i64 0, .int .i64 0, .slice none 0 0, .slice none 0 0, .slice none 0 0]) ?_ 5 _ rfl; (with_reducible repeat (first | refine blk_drewN ?_ _ | refine blk_drew ?_ | refine blk_alloc ?_ _)); refine blk_put (cs := #[.int .i64 ((rd_T69 l0 x5_2).f0), .int .i64 ((rd_T69 l0 x5_2).f1.f0), .int .i64 ((rd_T69 l0 x5_2).f1.f1), .int .i64 ((rd_T69 l0 x5_2).f2.f0), .int .i64 0, .int .i64 0, .int .i64 0, .slice none 0 0, .slice none 0 0, .slice none 0 0]) ?_ 4 _ rfl; (with_reducible repeat (first | refine blk_drewN ?_ _ | refine blk_drew ?_ | refine blk_alloc ?_ _)); refine blk_put (cs := #[.int .i64 ((rd_T69 l0 x5_2).f0), .int .i64 ((rd_T69 l0 x5_2).f1.f0), .int .i64 ((rd_T69 l0 x5_2).f1.f1), .int .i64 0, .int .i64 0, .int .i64 0, .int .i64 0, .slice none 0 0, .slice none 0 0, .slice none 0 0]) ?_ 3 _ rfl; (with_reducible repeat (first | refine blk_drewN ?_ _ | refine blk_drew ?_ | refine blk_alloc ?_ _)); refine blk_put (cs := #[.int .i64 ((rd_T69 l0 x5_2).f0), .int .i64 ((rd_T69 l0 x5_2).f1.f0), .int .i64 0, .int .i64 0, .int .i64 0, .int .i64 0, .int .i64 0, .slice none 0 0, .slice none 0 0, .slice none 0 0]) ?_ 2 _ rfl; (with_reducible repeat (first | refine blk_drewN ?_ _ | refine blk_drew ?_ | refine blk_alloc ?_ _)); refine blk_put (cs := #[.int .i64 ((rd_T69 l0 x5_2).f0), .int .i64 0, .int .i64 0, .int .i64 0, .int .i64 0, .int .i64 0, .int .i64 0, .slice none 0 0, .slice none 0 0, .slice none 0 0]) ?_ 1 _ rfl; (with_reducible repeat (first | refine blk_drewN ?_ _ | refine blk_drew ?_ | refine blk_alloc ?_ _)); refine blk_put (cs := #[.int .i64 0, .int .i64 0, .int .i64 0, .int .i64 0, .int .i64 0, .int .i64 0, .int .i64 0, .slice none 0 0, .slice none 0 0, .slice none 0 0]) ?_ 0 _ rfl; (with_reducible repeat (first | refine blk_drewN ?_ _ | refine blk_drew ?_ | refine blk_alloc ?_ _)); exact BK131.out) : p := h
set_option maxHeartbeats 8000000 in
set_option maxRecDepth 100000 in
theorem spec_l4Form.calls (k : Nat) : ∀ (A0 : Option Addr) (c0 : Nat) (l0 : List (S69)) (a1 : Int) (r : Bool) (w : World) (hr0 : Kd.C k69 w A0 l0.length l0) (hc0 : l0.length ≤ c0) (h : spec_l4Form.f k l0 a1 = some r),
  Calls Try.prog 45 #[.slice A0 l0.length c0, .int .i64 a1] w fun e w' => e = .returned (.bool r) ∧ Below w.heap.size w w' := by
 induction k using Nat.strongRecOn with
 | _ k ih =>
 intro A0 c0 l0 a1 r w hr0 hc0 h
 cases k with
 | zero => exact absurd h (by simp [spec_l4Form.f])
 | succ k =>
 simp only [spec_l4Form.f] at h
 have hu69 := Try.underlying69
 have hu37 := Try.underlying37
 have hu46 := Try.underlying46
 have HR0 := z0 hr0
 have HC0 := z0 hc0
 clear hr0 hc0
 have HB := z0 (Below.refl w.heap.size w)
 have H : (if (l0.length : Int) > 0 then (spec_l4Form.j0 k l0 a1 (decide (a1 < 1))) else (spec_l4Form.j0 k l0 a1 false)) = some r := h
 clear h
 have HC3 := z0 H
 clear H
 go_enter Try.func45, Try.ntmps45
 go_upto_region 1 with (fail)
 go_cut [14] (fun v14 wc => ∃ (kq : Nat) (x14_2 : Bool), v14 = .bool x14_2 ∧ Aside0 (spec_l4Form.j0 kq l0 a1 x14_2 = some r) ∧ Aside0 (kq ≤ k) ∧ Aside0 (Below w.heap.size w wc))
 case first =>
  have H := HC3.out
  clear HC3
  by_cases c4 : (l0.length : Int) > 0
  ·rw [if_pos c4] at H
   have c4b0 : decide (0 < (l0.length : Int)) = true := decide_eq_true c4
   have c4b1 : decide (0 < l0.length) = true := decide_eq_true (by omega)
   clear c4
   (first | rw [c4b0] | (simp only [i64_w, i32_w]; rw [c4b0]) | skip)
   have H' := z0 H
   clear H
   go_wp2
   go_meet
   case rel => exact ⟨_, (decide (a1 < 1)), rfy, H', ⟨by first | omega | exact Nat.le_refl _⟩, ⟨mB HB.out⟩⟩
  ·rw [if_neg c4] at H
   have c4b0 : decide (0 < (l0.length : Int)) = false := decide_eq_false c4
   have c4b1 : decide (0 < l0.length) = false := decide_eq_false (by omega)
   clear c4
   (first | rw [c4b0] | (simp only [i64_w, i32_w]; rw [c4b0]) | skip)
   have H' := z0 H
   clear H
   go_wp2
   go_meet
   case rel => exact ⟨_, (false), rfy, H', ⟨by first | omega | exact Nat.le_refl _⟩, ⟨mB HB.out⟩⟩
 case rest =>
  clear HC3
  skip
  obtain ⟨kq, x14_2, rfl, HA, HJ2, HB⟩ := hcut
  cases kq with
  | zero => exact absurd HA.out (by simp [spec_l4Form.j0])
  | succ kj2 =>
   have H := HA.out
   clear HA
   simp only [spec_l4Form.j0] at H
   by_cases c5 : x14_2 = true
   ·subst c5
    have H1 : (some false) = some r := by rw [if_pos rfl] at H; exact H
    clear H
    have H := H1
    clear H1
    obtain rfl := Option.some.inj H
    go_wp2
    go_ret
    exact ⟨rfx, mB HB.out⟩
   ·replace c5 := Bool.eq_false_iff.mpr c5
    subst c5
    have H1 : (spec_l4Form.l0 kj2 l0 a1 0) = some r := by rw [if_neg (show ¬ (false = true) by decide)] at H; exact H
    clear H
    have H := H1
    clear H1
    have H' := z0 H
    clear H
    go_wp2
    go_loopg [5] kj2 (fun kq v5 w' => ∃ (x5_2 : Int), v5 = .int .i64 x5_2 ∧ Aside0 (spec_l4Form.l0 kq l0 a1 x5_2 = some r) ∧ Aside0 (kq ≤ kj2) ∧ Aside0 (Below w.heap.size w w'))
    case atStart => exact ⟨(0), rfy, H', ⟨Nat.le_refl _⟩, ⟨mB HB.out⟩⟩
    case round =>
     clear H'
     (try clear c5)
     obtain ⟨x5_2, rfl, HA, HK2, HB⟩ := hrel
     cases gk with
     | zero => exact absurd HA.out (by simp [spec_l4Form.l0])
     | succ k2 =>
      have H := HA.out
      clear HA
      simp only [spec_l4Form.l0] at H
      by_cases c6 : x5_2 < (l0.length : Int)
      ·rw [if_pos c6] at H
       have c6b0 : decide (x5_2 < (l0.length : Int)) = true := decide_eq_true c6
       clear c6
       by_cases c7 : 0 ≤ x5_2
       ·rw [if_pos c7] at H
        have c7b0 : decide (0 ≤ x5_2) = true := decide_eq_true c7
        clear c7
        have HC8 := z0 H
        clear H
        have p130 : 0 ≤ (x5_2 : Int) := of_decide_eq_true (by first | (with_reducible assumption) | assumption)
        have q130 : x5_2 < (l0.length : Int) := of_decide_eq_true (by first | (with_reducible assumption) | assumption)
        obtain ⟨ad130, A130_7, c130_7, A130_8, c130_8, A130_9, c130_9, e130, hx130_0, hx130_1, hx130_2, hx130_3, hx130_4, hx130_5, hx130_6, hx130_7, hx130_8, hx130_9, hl130_7, hi130_7, hl130_8, hi130_8, hl130_9, hi130_9⟩ := at_T69 HR0.out x5_2 p130 q130
        cases e130
        replace hx130_0 := (HB.out.cell (World.block_lt_of_cell? w _ hx130_0)).trans hx130_0
        replace hx130_1 := (HB.out.cell (World.block_lt_of_cell? w _ hx130_1)).trans hx130_1
        replace hx130_2 := (HB.out.cell (World.block_lt_of_cell? w _ hx130_2)).trans hx130_2
        replace hx130_3 := (HB.out.cell (World.block_lt_of_cell? w _ hx130_3)).trans hx130_3
        replace hx130_4 := (HB.out.cell (World.block_lt_of_cell? w _ hx130_4)).trans hx130_4
        replace hx130_5 := (HB.out.cell (World.block_lt_of_cell? w _ hx130_5)).trans hx130_5
        replace hx130_6 := (HB.out.cell (World.block_lt_of_cell? w _ hx130_6)).trans hx130_6
        replace hx130_7 := (HB.out.cell (World.block_lt_of_cell? w _ hx130_7)).trans hx130_7
        replace hx130_8 := (HB.out.cell (World.block_lt_of_cell? w _ hx130_8)).trans hx130_8
        replace hx130_9 := (HB.out.cell (World.block_lt_of_cell? w _ hx130_9)).trans hx130_9
        have HR130_7 := z0 hi130_7
        have HC130_7 := z0 hl130_7
        clear hi130_7 hl130_7
        have HR130_8 := z0 hi130_8
        have HC130_8 := z0 hl130_8
        clear hi130_8 hl130_8
        have HR130_9 := z0 hi130_9
        have HC130_9 := z0 hl130_9
        clear hi130_9 hl130_9
        replace p130 := eq_true p130
        replace q130 := eq_true q130
        go_upto_block 2 with (first | ((with_reducible refine gate_dst (N := 6) rfl ?_); (try (refine gate_guard (by rfl) ?_; dsimp only)); refine box_event ?hg (N := 6) ?hd (cs := #[.int .i64 0, .int .i64 0, .int .i64 0, .int .i64 0, .int .i64 0, .int .i64 0, .int .i64 0, .slice none 0 0, .slice none 0 0, .slice none 0 0]) (t := 69) ?hr ?_; (case hd => rfl); (case hg => rfl); (case hr => first | (go_simp; done) | (go_simp; rfl)); intro gb131 hg w9 hbox hb; have n_ := az (below_step (mB HB.out) hb) <| az (hbox) <| az ((by rw [hg]; exact (below_size (mB HB.out)) : w.heap.size ≤ gb131)) <| z0 ((by rw [hg]; exact (below_size (mB HB.out)) : w.heap.size ≤ gb131)); clear HB; obtain ⟨HB, BK131, GW131, GE131⟩ := n_; clear hb hbox hg; obtain ⟨hcz10_0, hcz10_1, hcz10_2, hcz10_3, hcz10_4, hcz10_5, hcz10_6, hcz10_7, hcz10_8, hcz10_9, hfz10_0, hfz10_1, hfz10_2, hfz10_3, hfz10_4, hfz10_5, hfz10_6, hfz10_7, hfz10_8, hfz10_9⟩ := cel10 BK131.out))
        (try simp only [Act.put, List.setIfInBounds_toArray, List.set_cons_zero, List.set_cons_succ])
        go_cut [7] (fun v7 wc => ∃ (kq : Nat) (x7_7 : Bool), v7 = .bool x7_7 ∧ Aside0 (spec_l4Form.j2 kq l0 a1 x5_2 x7_7 ((rd_T69 l0 x5_2).f0) ((rd_T69 l0 x5_2).f1.f0) ((rd_T69 l0 x5_2).f1.f1) ((rd_T69 l0 x5_2).f2.f0) ((rd_T69 l0 x5_2).f2.f1) ((rd_T69 l0 x5_2).f2.f2.f0) ((rd_T69 l0 x5_2).f2.f2.f1) ((rd_T69 l0 x5_2).f2.f3) ((rd_T69 l0 x5_2).f3) ((rd_T69 l0 x5_2).f4) = some r) ∧ Aside0 (kq ≤ k2) ∧ Aside0 (wc.heap[gb131]? = some (.cells #[.int .i64 ((rd_T69 l0 x5_2).f0), .int .i64 ((rd_T69 l0 x5_2).f1.f0), .int .i64 ((rd_T69 l0 x5_2).f1.f1), .int .i64 ((rd_T69 l0 x5_2).f2.f0), .int .i64 ((rd_T69 l0 x5_2).f2.f1), .int .i64 ((rd_T69 l0 x5_2).f2.f2.f0), .int .i64 ((rd_T69 l0 x5_2).f2.f2.f1), (.slice A130_7 ((rd_T69 l0 x5_2).f2.f3).length c130_7), (.slice A130_8 ((rd_T69 l0 x5_2).f3).length c130_8), (.slice A130_9 ((rd_T69 l0 x5_2).f4).length c130_9)] 69 (0, 0))) ∧ Aside0 (Below w.heap.size w wc))
        case first =>
         have H := HC8.out
         clear HC8
         by_cases c11 : ((rd_T69 l0 x5_2).f0) = 1
         ·rw [if_pos c11] at H
          have c11b0 : (((rd_T69 l0 x5_2).f0) == 1) = true := beq_iff_eq.mpr c11
          have c11b1 : (((rd_T69 l0 x5_2).f0) != 1) = false := bne_eq_false_iff_eq.mpr c11
          clear c11
          (first | rw [c11b0] | (simp only [i64_w, i32_w]; rw [c11b0]) | skip)
          replace H := Option.bind_eq_some_iff.mp H
          obtain ⟨t132, A120, H⟩ := H
          try dsimp only at H
          have A12 := z0 A120
          clear A120
          by_cases c13 : t132 = true
          ·subst c13
           have H1 : (if ((rd_T69 l0 x5_2).f1.f0) = 1 then (spec_l4Form.j2 k2 l0 a1 x5_2 false ((rd_T69 l0 x5_2).f0) ((rd_T69 l0 x5_2).f1.f0) ((rd_T69 l0 x5_2).f1.f1) ((rd_T69 l0 x5_2).f2.f0) ((rd_T69 l0 x5_2).f2.f1) ((rd_T69 l0 x5_2).f2.f2.f0) ((rd_T69 l0 x5_2).f2.f2.f1) ((rd_T69 l0 x5_2).f2.f3) ((rd_T69 l0 x5_2).f3) ((rd_T69 l0 x5_2).f4)) else (if (((rd_T69 l0 x5_2).f3).length : Int) = 0 then (spec_l4Form.j2 k2 l0 a1 x5_2 ((((rd_T69 l0 x5_2).f4).length : Int) == 0) ((rd_T69 l0 x5_2).f0) ((rd_T69 l0 x5_2).f1.f0) ((rd_T69 l0 x5_2).f1.f1) ((rd_T69 l0 x5_2).f2.f0) ((rd_T69 l0 x5_2).f2.f1) ((rd_T69 l0 x5_2).f2.f2.f0) ((rd_T69 l0 x5_2).f2.f2.f1) ((rd_T69 l0 x5_2).f2.f3) ((rd_T69 l0 x5_2).f3) ((rd_T69 l0 x5_2).f4)) else (spec_l4Form.j2 k2 l0 a1 x5_2 false ((rd_T69 l0 x5_2).f0) ((rd_T69 l0 x5_2).f1.f0) ((rd_T69 l0 x5_2).f1.f1) ((rd_T69 l0 x5_2).f2.f0) ((rd_T69 l0 x5_2).f2.f1) ((rd_T69 l0 x5_2).f2.f2.f0) ((rd_T69 l0 x5_2).f2.f2.f1) ((rd_T69 l0 x5_2).f2.f3) ((rd_T69 l0 x5_2).f3) ((rd_T69 l0 x5_2).f4)))) = some r := by rw [if_pos rfl] at H; exact H
           clear H
           have H := H1
           clear H1
           by_cases c14 : ((rd_T69 l0 x5_2).f1.f0) = 1
           ·rw [if_pos c14] at H
            have c14b0 : (((rd_T69 l0 x5_2).f1.f0) == 1) = true := beq_iff_eq.mpr c14
            have c14b1 : (((rd_T69 l0 x5_2).f1.f0) != 1) = false := bne_eq_false_iff_eq.mpr c14
            clear c14
            have H' := z0 H
            clear H
            obtain ⟨hcz15_0, hcz15_1, hcz15_2, hcz15_3, hcz15_4, hcz15_5, hcz15_6, hcz15_7, hcz15_8, hcz15_9, hfz15_0, hfz15_1, hfz15_2, hfz15_3, hfz15_4, hfz15_5, hfz15_6, hfz15_7, hfz15_8, hfz15_9⟩ := cel10 BK131.out
            go_wp2_with (first | ((with_reducible refine gate_callee (f := 78) rfl ?_); refine goesL_ (some 31) rfl rfl Try.func78 (by kernel_rfl) rfl #[.agg #[.int .i64 ((rd_T69 l0 x5_2).f1.f0), .int .i64 ((rd_T69 l0 x5_2).f1.f1)]] rfl argx ?_; (with_reducible refine (spec_AddrOk.calls ((rd_T69 l0 x5_2).f1.f0) ((rd_T69 l0 x5_2).f1.f1) true _ A12.out).mono ?_); rintro e w16 ⟨rfl, hb⟩; refine ⟨_, rfl, ?_⟩; have n_ := az (blk_below (g := gb131) (o := .cells #[.int .i64 ((rd_T69 l0 x5_2).f0), .int .i64 ((rd_T69 l0 x5_2).f1.f0), .int .i64 ((rd_T69 l0 x5_2).f1.f1), .int .i64 ((rd_T69 l0 x5_2).f2.f0), .int .i64 ((rd_T69 l0 x5_2).f2.f1), .int .i64 ((rd_T69 l0 x5_2).f2.f2.f0), .int .i64 ((rd_T69 l0 x5_2).f2.f2.f1), .slice A130_7 ((rd_T69 l0 x5_2).f2.f3).length c130_7, .slice A130_8 ((rd_T69 l0 x5_2).f3).length c130_8, .slice A130_9 ((rd_T69 l0 x5_2).f4).length c130_9] 69 (0, 0)) q45_1 hb) <| z0 (below_step (mB HB.out) hb); clear BK131 HB; obtain ⟨BK131, HB⟩ := n_; clear hb; obtain ⟨hcz17_0, hcz17_1, hcz17_2, hcz17_3, hcz17_4, hcz17_5, hcz17_6, hcz17_7, hcz17_8, hcz17_9, hfz17_0, hfz17_1, hfz17_2, hfz17_3, hfz17_4, hfz17_5, hfz17_6, hfz17_7, hfz17_8, hfz17_9⟩ := cel10 BK131.out))
            go_meet
            case rel => exact ⟨_, (false), rfy, H', ⟨by have := HJ2.out; have := HK2.out; first | omega | exact Nat.le_refl _⟩, ⟨mK BK131.out⟩, ⟨mB HB.out⟩⟩
           ·rw [if_neg c14] at H
            have c14b0 : (((rd_T69 l0 x5_2).f1.f0) == 1) = false := beq_eq_false_iff_ne.mpr c14
            have c14b1 : (((rd_T69 l0 x5_2).f1.f0) != 1) = true := bne_iff_ne.mpr c14
            by_cases c18 : (((rd_T69 l0 x5_2).f3).length : Int) = 0
            ·rw [if_pos c18] at H
             have c18b0 : ((((rd_T69 l0 x5_2).f3).length : Int) == 0) = true := beq_iff_eq.mpr c18
             have c18b1 : ((((rd_T69 l0 x5_2).f3).length : Int) != 0) = false := bne_eq_false_iff_eq.mpr c18
             clear c18
             have H' := z0 H
             clear H
             obtain ⟨hcz19_0, hcz19_1, hcz19_2, hcz19_3, hcz19_4, hcz19_5, hcz19_6, hcz19_7, hcz19_8, hcz19_9, hfz19_0, hfz19_1, hfz19_2, hfz19_3, hfz19_4, hfz19_5, hfz19_6, hfz19_7, hfz19_8, hfz19_9⟩ := cel10 BK131.out
             go_wp2_with (first | ((with_reducible refine gate_callee (f := 78) rfl ?_); refine goesL_ (some 31) rfl rfl Try.func78 (by kernel_rfl) rfl #[.agg #[.int .i64 ((rd_T69 l0 x5_2).f1.f0), .int .i64 ((rd_T69 l0 x5_2).f1.f1)]] rfl argx ?_; (with_reducible refine (spec_AddrOk.calls ((rd_T69 l0 x5_2).f1.f0) ((rd_T69 l0 x5_2).f1.f1) true _ A12.out).mono ?_); rintro e w20 ⟨rfl, hb⟩; refine ⟨_, rfl, ?_⟩; have n_ := az (blk_below (g := gb131) (o := .cells #[.int .i64 ((rd_T69 l0 x5_2).f0), .int .i64 ((rd_T69 l0 x5_2).f1.f0), .int .i64 ((rd_T69 l0 x5_2).f1.f1), .int .i64 ((rd_T69 l0 x5_2).f2.f0), .int .i64 ((rd_T69 l0 x5_2).f2.f1), .int .i64 ((rd_T69 l0 x5_2).f2.f2.f0), .int .i64 ((rd_T69 l0 x5_2).f2.f2.f1), .slice A130_7 ((rd_T69 l0 x5_2).f2.f3).length c130_7, .slice A130_8 ((rd_T69 l0 x5_2).f3).length c130_8, .slice A130_9 ((rd_T69 l0 x5_2).f4).length c130_9] 69 (0, 0)) q45_1 hb) <| z0 (below_step (mB HB.out) hb); clear BK131 HB; obtain ⟨BK131, HB⟩ := n_; clear hb; obtain ⟨hcz21_0, hcz21_1, hcz21_2, hcz21_3, hcz21_4, hcz21_5, hcz21_6, hcz21_7, hcz21_8, hcz21_9, hfz21_0, hfz21_1, hfz21_2, hfz21_3, hfz21_4, hfz21_5, hfz21_6, hfz21_7, hfz21_8, hfz21_9⟩ := cel10 BK131.out))
             go_meet
             case rel => exact ⟨_, (((((rd_T69 l0 x5_2).f4).length : Int) == 0)), rfy, H', ⟨by have := HJ2.out; have := HK2.out; first | omega | exact Nat.le_refl _⟩, ⟨mK BK131.out⟩, ⟨mB HB.out⟩⟩
            ·rw [if_neg c18] at H
             have c18b0 : ((((rd_T69 l0 x5_2).f3).length : Int) == 0) = false := beq_eq_false_iff_ne.mpr c18
             have c18b1 : ((((rd_T69 l0 x5_2).f3).length : Int) != 0) = true := bne_iff_ne.mpr c18
             have c18b2 : ¬ (((rd_T69 l0 x5_2).f3) = []) := fun h_ => c18 (by rw [h_]; rfl)
             have H' := z0 H
             clear H
             obtain ⟨hcz22_0, hcz22_1, hcz22_2, hcz22_3, hcz22_4, hcz22_5, hcz22_6, hcz22_7, hcz22_8, hcz22_9, hfz22_0, hfz22_1, hfz22_2, hfz22_3, hfz22_4, hfz22_5, hfz22_6, hfz22_7, hfz22_8, hfz22_9⟩ := cel10 BK131.out
             go_wp2_with (first | ((with_reducible refine gate_callee (f := 78) rfl ?_); refine goesL_ (some 31) rfl rfl Try.func78 (by kernel_rfl) rfl #[.agg #[.int .i64 ((rd_T69 l0 x5_2).f1.f0), .int .i64 ((rd_T69 l0 x5_2).f1.f1)]] rfl argx ?_; (with_reducible refine (spec_AddrOk.calls ((rd_T69 l0 x5_2).f1.f0) ((rd_T69 l0 x5_2).f1.f1) true _ A12.out).mono ?_); rintro e w23 ⟨rfl, hb⟩; refine ⟨_, rfl, ?_⟩; have n_ := az (blk_below (g := gb131) (o := .cells #[.int .i64 ((rd_T69 l0 x5_2).f0), .int .i64 ((rd_T69 l0 x5_2).f1.f0), .int .i64 ((rd_T69 l0 x5_2).f1.f1), .int .i64 ((rd_T69 l0 x5_2).f2.f0), .int .i64 ((rd_T69 l0 x5_2).f2.f1), .int .i64 ((rd_T69 l0 x5_2).f2.f2.f0), .int .i64 ((rd_T69 l0 x5_2).f2.f2.f1), .slice A130_7 ((rd_T69 l0 x5_2).f2.f3).length c130_7, .slice A130_8 ((rd_T69 l0 x5_2).f3).length c130_8, .slice A130_9 ((rd_T69 l0 x5_2).f4).length c130_9] 69 (0, 0)) q45_1 hb) <| z0 (below_step (mB HB.out) hb); clear BK131 HB; obtain ⟨BK131, HB⟩ := n_; clear hb; obtain ⟨hcz24_0, hcz24_1, hcz24_2, hcz24_3, hcz24_4, hcz24_5, hcz24_6, hcz24_7, hcz24_8, hcz24_9, hfz24_0, hfz24_1, hfz24_2, hfz24_3, hfz24_4, hfz24_5, hfz24_6, hfz24_7, hfz24_8, hfz24_9⟩ := cel10 BK131.out))
             go_meet
             case rel => exact ⟨_, (false), rfy, H', ⟨by have := HJ2.out; have := HK2.out; first | omega | exact Nat.le_refl _⟩, ⟨mK BK131.out⟩, ⟨mB HB.out⟩⟩
          ·replace c13 := Bool.eq_false_iff.mpr c13
           subst c13
           have H1 : (spec_l4Form.j2 k2 l0 a1 x5_2 false ((rd_T69 l0 x5_2).f0) ((rd_T69 l0 x5_2).f1.f0) ((rd_T69 l0 x5_2).f1.f1) ((rd_T69 l0 x5_2).f2.f0) ((rd_T69 l0 x5_2).f2.f1) ((rd_T69 l0 x5_2).f2.f2.f0) ((rd_T69 l0 x5_2).f2.f2.f1) ((rd_T69 l0 x5_2).f2.f3) ((rd_T69 l0 x5_2).f3) ((rd_T69 l0 x5_2).f4)) = some r := by rw [if_neg (show ¬ (false = true) by decide)] at H; exact H
           clear H
           have H := H1
           clear H1
           have H' := z0 H
           clear H
           obtain ⟨hcz25_0, hcz25_1, hcz25_2, hcz25_3, hcz25_4, hcz25_5, hcz25_6, hcz25_7, hcz25_8, hcz25_9, hfz25_0, hfz25_1, hfz25_2, hfz25_3, hfz25_4, hfz25_5, hfz25_6, hfz25_7, hfz25_8, hfz25_9⟩ := cel10 BK131.out
           go_wp2_with (first | ((with_reducible refine gate_callee (f := 78) rfl ?_); refine goesL_ (some 31) rfl rfl Try.func78 (by kernel_rfl) rfl #[.agg #[.int .i64 ((rd_T69 l0 x5_2).f1.f0), .int .i64 ((rd_T69 l0 x5_2).f1.f1)]] rfl argx ?_; (with_reducible refine (spec_AddrOk.calls ((rd_T69 l0 x5_2).f1.f0) ((rd_T69 l0 x5_2).f1.f1) false _ A12.out).mono ?_); rintro e w26 ⟨rfl, hb⟩; refine ⟨_, rfl, ?_⟩; have n_ := az (blk_below (g := gb131) (o := .cells #[.int .i64 ((rd_T69 l0 x5_2).f0), .int .i64 ((rd_T69 l0 x5_2).f1.f0), .int .i64 ((rd_T69 l0 x5_2).f1.f1), .int .i64 ((rd_T69 l0 x5_2).f2.f0), .int .i64 ((rd_T69 l0 x5_2).f2.f1), .int .i64 ((rd_T69 l0 x5_2).f2.f2.f0), .int .i64 ((rd_T69 l0 x5_2).f2.f2.f1), .slice A130_7 ((rd_T69 l0 x5_2).f2.f3).length c130_7, .slice A130_8 ((rd_T69 l0 x5_2).f3).length c130_8, .slice A130_9 ((rd_T69 l0 x5_2).f4).length c130_9] 69 (0, 0)) q45_1 hb) <| z0 (below_step (mB HB.out) hb); clear BK131 HB; obtain ⟨BK131, HB⟩ := n_; clear hb))
           go_meet
           case rel => exact ⟨_, (false), rfy, H', ⟨by have := HJ2.out; have := HK2.out; first | omega | exact Nat.le_refl _⟩, ⟨mK BK131.out⟩, ⟨mB HB.out⟩⟩
         ·rw [if_neg c11] at H
          have c11b0 : (((rd_T69 l0 x5_2).f0) == 1) = false := beq_eq_false_iff_ne.mpr c11
          have c11b1 : (((rd_T69 l0 x5_2).f0) != 1) = true := bne_iff_ne.mpr c11
          (first | rw [c11b0] | (simp only [i64_w, i32_w]; rw [c11b0]) | skip)
          by_cases c27 : ((rd_T69 l0 x5_2).f0) = 2
          ·rw [if_pos c27] at H
           have c27b0 : (((rd_T69 l0 x5_2).f0) == 2) = true := beq_iff_eq.mpr c27
           have c27b1 : (((rd_T69 l0 x5_2).f0) != 2) = false := bne_eq_false_iff_eq.mpr c27
           clear c27
           have H' := z0 H
           clear H
           obtain ⟨hcz28_0, hcz28_1, hcz28_2, hcz28_3, hcz28_4, hcz28_5, hcz28_6, hcz28_7, hcz28_8, hcz28_9, hfz28_0, hfz28_1, hfz28_2, hfz28_3, hfz28_4, hfz28_5, hfz28_6, hfz28_7, hfz28_8, hfz28_9⟩ := cel10 BK131.out
           go_wp2
           go_meet
           case rel => exact ⟨_, ((((rd_T69 l0 x5_2).f1.f0) == 0 && (((rd_T69 l0 x5_2).f1.f1) == 0))), rfy, H', ⟨by have := HJ2.out; have := HK2.out; first | omega | exact Nat.le_refl _⟩, ⟨by (with_reducible repeat (first | refine blk_drewN ?_ _ | refine blk_drew ?_ | refine blk_alloc ?_ _)); refine blk_put (cs := #[.int .i64 ((rd_T69 l0 x5_2).f0), .int .i64 ((rd_T69 l0 x5_2).f1.f0), .int .i64 ((rd_T69 l0 x5_2).f1.f1), .int .i64 ((rd_T69 l0 x5_2).f2.f0), .int .i64 ((rd_T69 l0 x5_2).f2.f1), .int .i64 ((rd_T69 l0 x5_2).f2.f2.f0), .int .i64 ((rd_T69 l0 x5_2).f2.f2.f1), .slice A130_7 ((rd_T69 l0 x5_2).f2.f3).length c130_7, .slice A130_8 ((rd_T69 l0 x5_2).f3).length c130_8, .slice none 0 0]) ?_ 9 _ rfl; (with_reducible repeat (first | refine blk_drewN ?_ _ | refine blk_drew ?_ | refine blk_alloc ?_ _)); refine blk_put (cs := #[.int .i64 ((rd_T69 l0 x5_2).f0), .int .i64 ((rd_T69 l0 x5_2).f1.f0), .int .i64 ((rd_T69 l0 x5_2).f1.f1), .int .i64 ((rd_T69 l0 x5_2).f2.f0), .int .i64 ((rd_T69 l0 x5_2).f2.f1), .int .i64 ((rd_T69 l0 x5_2).f2.f2.f0), .int .i64 ((rd_T69 l0 x5_2).f2.f2.f1), .slice A130_7 ((rd_T69 l0 x5_2).f2.f3).length c130_7, .slice none 0 0, .slice none 0 0]) ?_ 8 _ rfl; (with_reducible repeat (first | refine blk_drewN ?_ _ | refine blk_drew ?_ | refine blk_alloc ?_ _)); refine blk_put (cs := #[.int .i64 ((rd_T69 l0 x5_2).f0), .int .i64 ((rd_T69 l0 x5_2).f1.f0), .int .i64 ((rd_T69 l0 x5_2).f1.f1), .int .i64 ((rd_T69 l0 x5_2).f2.f0), .int .i64 ((rd_T69 l0 x5_2).f2.f1), .int .i64 ((rd_T69 l0 x5_2).f2.f2.f0), .int .i64 ((rd_T69 l0 x5_2).f2.f2.f1), .slice none 0 0, .slice none 0 0, .slice none 0 0]) ?_ 7 _ rfl; (with_reducible repeat (first | refine blk_drewN ?_ _ | refine blk_drew ?_ | refine blk_alloc ?_ _)); refine blk_put (cs := #[.int .i64 ((rd_T69 l0 x5_2).f0), .int .i64 ((rd_T69 l0 x5_2).f1.f0), .int .i64 ((rd_T69 l0 x5_2).f1.f1), .int .i64 ((rd_T69 l0 x5_2).f2.f0), .int .i64 ((rd_T69 l0 x5_2).f2.f1), .int .i64 ((rd_T69 l0 x5_2).f2.f2.f0), .int .i64 0, .slice none 0 0, .slice none 0 0, .slice none 0 0]) ?_ 6 _ rfl; (with_reducible repeat (first | refine blk_drewN ?_ _ | refine blk_drew ?_ | refine blk_alloc ?_ _)); refine blk_put (cs := #[.int .i64 ((rd_T69 l0 x5_2).f0), .int .i64 ((rd_T69 l0 x5_2).f1.f0), .int .i64 ((rd_T69 l0 x5_2).f1.f1), .int .i64 ((rd_T69 l0 x5_2).f2.f0), .int .i64 ((rd_T69 l0 x5_2).f2.f1), .int .i64 0, .int .i64 0, .slice none 0 0, .slice none 0 0, .slice none 0 0]) ?_ 5 _ rfl; (with_reducible repeat (first | refine blk_drewN ?_ _ | refine blk_drew ?_ | refine blk_alloc ?_ _)); refine blk_put (cs := #[.int .i64 ((rd_T69 l0 x5_2).f0), .int .i64 ((rd_T69 l0 x5_2).f1.f0), .int .i64 ((rd_T69 l0 x5_2).f1.f1), .int .i64 ((rd_T69 l0 x5_2).f2.f0), .int .i64 0, .int .i64 0, .int .i64 0, .slice none 0 0, .slice none 0 0, .slice none 0 0]) ?_ 4 _ rfl; (with_reducible repeat (first | refine blk_drewN ?_ _ | refine blk_drew ?_ | refine blk_alloc ?_ _)); refine blk_put (cs := #[.int .i64 ((rd_T69 l0 x5_2).f0), .int .i64 ((rd_T69 l0 x5_2).f1.f0), .int .i64 ((rd_T69 l0 x5_2).f1.f1), .int .i64 0, .int .i64 0, .int .i64 0, .int .i64 0, .slice none 0 0, .slice none 0 0, .slice none 0 0]) ?_ 3 _ rfl; (with_reducible repeat (first | refine blk_drewN ?_ _ | refine blk_drew ?_ | refine blk_alloc ?_ _)); refine blk_put (cs := #[.int .i64 ((rd_T69 l0 x5_2).f0), .int .i64 ((rd_T69 l0 x5_2).f1.f0), .int .i64 0, .int .i64 0, .int .i64 0, .int .i64 0, .int .i64 0, .slice none 0 0, .slice none 0 0, .slice none 0 0]) ?_ 2 _ rfl; (with_reducible repeat (first | refine blk_drewN ?_ _ | refine blk_drew ?_ | refine blk_alloc ?_ _)); refine blk_put (cs := #[.int .i64 ((rd_T69 l0 x5_2).f0), .int .i64 0, .int .i64 0, .int .i64 0, .int .i64 0, .int .i64 0, .int .i64 0, .slice none 0 0, .slice none 0 0, .slice none 0 0]) ?_ 1 _ rfl; (with_reducible repeat (first | refine blk_drewN ?_ _ | refine blk_drew ?_ | refine blk_alloc ?_ _)); refine blk_put (cs := #[.int .i64 0, .int .i64 0, .int .i64 0, .int .i64 0, .int .i64 0, .int .i64 0, .int .i64 0, .slice none 0 0, .slice none 0 0, .slice none 0 0]) ?_ 0 _ rfl; (with_reducible repeat (first | refine blk_drewN ?_ _ | refine blk_drew ?_ | refine blk_alloc ?_ _)); exact BK131.out⟩, ⟨mB HB.out⟩⟩
          ·rw [if_neg c27] at H
           have c27b0 : (((rd_T69 l0 x5_2).f0) == 2) = false := beq_eq_false_iff_ne.mpr c27
           have c27b1 : (((rd_T69 l0 x5_2).f0) != 2) = true := bne_iff_ne.mpr c27
           by_cases c29 : ((rd_T69 l0 x5_2).f0) = 3
           ·rw [if_pos c29] at H
            have c29b0 : (((rd_T69 l0 x5_2).f0) == 3) = true := beq_iff_eq.mpr c29
            have c29b1 : (((rd_T69 l0 x5_2).f0) != 3) = false := bne_eq_false_iff_eq.mpr c29
            clear c29
            by_cases c30 : (((rd_T69 l0 x5_2).f1.f0) == 0 && (((rd_T69 l0 x5_2).f1.f1) == 0)) = true
            ·rw [if_pos c30] at H
             have c30b0 : (((rd_T69 l0 x5_2).f1.f0) == 0 && (((rd_T69 l0 x5_2).f1.f1) == 0)) = true := c30
             (try (have c30b1 : decide (((rd_T69 l0 x5_2).f1.f0) = 0 && (((rd_T69 l0 x5_2).f1.f1) == 0)) = true := by simpa using c30))
             (try (have c30b2 : (((rd_T69 l0 x5_2).f1.f0) == 0 && (((rd_T69 l0 x5_2).f1.f1) == 0)) = true := by simpa using c30))
             clear c30
             have H' := z0 H
             clear H
             obtain ⟨hcz31_0, hcz31_1, hcz31_2, hcz31_3, hcz31_4, hcz31_5, hcz31_6, hcz31_7, hcz31_8, hcz31_9, hfz31_0, hfz31_1, hfz31_2, hfz31_3, hfz31_4, hfz31_5, hfz31_6, hfz31_7, hfz31_8, hfz31_9⟩ := cel10 BK131.out
             go_wp2
             go_meet
             case rel => exact ⟨_, (((((rd_T69 l0 x5_2).f4).length : Int) == 0)), rfy, H', ⟨by have := HJ2.out; have := HK2.out; first | omega | exact Nat.le_refl _⟩, ⟨by (with_reducible repeat (first | refine blk_drewN ?_ _ | refine blk_drew ?_ | refine blk_alloc ?_ _)); refine blk_put (cs := #[.int .i64 ((rd_T69 l0 x5_2).f0), .int .i64 ((rd_T69 l0 x5_2).f1.f0), .int .i64 ((rd_T69 l0 x5_2).f1.f1), .int .i64 ((rd_T69 l0 x5_2).f2.f0), .int .i64 ((rd_T69 l0 x5_2).f2.f1), .int .i64 ((rd_T69 l0 x5_2).f2.f2.f0), .int .i64 ((rd_T69 l0 x5_2).f2.f2.f1), .slice A130_7 ((rd_T69 l0 x5_2).f2.f3).length c130_7, .slice A130_8 ((rd_T69 l0 x5_2).f3).length c130_8, .slice none 0 0]) ?_ 9 _ rfl; (with_reducible repeat (first | refine blk_drewN ?_ _ | refine blk_drew ?_ | refine blk_alloc ?_ _)); refine blk_put (cs := #[.int .i64 ((rd_T69 l0 x5_2).f0), .int .i64 ((rd_T69 l0 x5_2).f1.f0), .int .i64 ((rd_T69 l0 x5_2).f1.f1), .int .i64 ((rd_T69 l0 x5_2).f2.f0), .int .i64 ((rd_T69 l0 x5_2).f2.f1), .int .i64 ((rd_T69 l0 x5_2).f2.f2.f0), .int .i64 ((rd_T69 l0 x5_2).f2.f2.f1), .slice A130_7 ((rd_T69 l0 x5_2).f2.f3).length c130_7, .slice none 0 0, .slice none 0 0]) ?_ 8 _ rfl; (with_reducible repeat (first | refine blk_drewN ?_ _ | refine blk_drew ?_ | refine blk_alloc ?_ _)); refine blk_put (cs := #[.int .i64 ((rd_T69 l0 x5_2).f0), .int .i64 ((rd_T69 l0 x5_2).f1.f0), .int .i64 ((rd_T69 l0 x5_2).f1.f1), .int .i64 ((rd_T69 l0 x5_2).f2.f0), .int .i64 ((rd_T69 l0 x5_2).f2.f1), .int .i64 ((rd_T69 l0 x5_2).f2.f2.f0), .int .i64 ((rd_T69 l0 x5_2).f2.f2.f1), .slice none 0 0, .slice none 0 0, .slice none 0 0]) ?_ 7 _ rfl; (with_reducible repeat (first | refine blk_drewN ?_ _ | refine blk_drew ?_ | refine blk_alloc ?_ _)); refine blk_put (cs := #[.int .i64 ((rd_T69 l0 x5_2).f0), .int .i64 ((rd_T69 l0 x5_2).f1.f0), .int .i64 ((rd_T69 l0 x5_2).f1.f1), .int .i64 ((rd_T69 l0 x5_2).f2.f0), .int .i64 ((rd_T69 l0 x5_2).f2.f1), .int .i64 ((rd_T69 l0 x5_2).f2.f2.f0), .int .i64 0, .slice none 0 0, .slice none 0 0, .slice none 0 0]) ?_ 6 _ rfl; (with_reducible repeat (first | refine blk_drewN ?_ _ | refine blk_drew ?_ | refine blk_alloc ?_ _)); refine blk_put (cs := #[.int .i64 ((rd_T69 l0 x5_2).f0), .int .i64 ((rd_T69 l0 x5_2).f1.f0), .int .i64 ((rd_T69 l0 x5_2).f1.f1), .int .i64 ((rd_T69 l0 x5_2).f2.f0), .int .i64 ((rd_T69 l0 x5_2).f2.f1), .int .i64 0, .int .i64 0, .slice none 0 0, .slice none 0 0, .slice none 0 0]) ?_ 5 _ rfl; (with_reducible repeat (first | refine blk_drewN ?_ _ | refine blk_drew ?_ | refine blk_alloc ?_ _)); refine blk_put (cs := #[.int .i64 ((rd_T69 l0 x5_2).f0), .int .i64 ((rd_T69 l0 x5_2).f1.f0), .int .i64 ((rd_T69 l0 x5_2).f1.f1), .int .i64 ((rd_T69 l0 x5_2).f2.f0), .int .i64 0, .int .i64 0, .int .i64 0, .slice none 0 0, .slice none 0 0, .slice none 0 0]) ?_ 4 _ rfl; (with_reducible repeat (first | refine blk_drewN ?_ _ | refine blk_drew ?_ | refine blk_alloc ?_ _)); refine blk_put (cs := #[.int .i64 ((rd_T69 l0 x5_2).f0), .int .i64 ((rd_T69 l0 x5_2).f1.f0), .int .i64 ((rd_T69 l0 x5_2).f1.f1), .int .i64 0, .int .i64 0, .int .i64 0, .int .i64 0, .slice none 0 0, .slice none 0 0, .slice none 0 0]) ?_ 3 _ rfl; (with_reducible repeat (first | refine blk_drewN ?_ _ | refine blk_drew ?_ | refine blk_alloc ?_ _)); refine blk_put (cs := #[.int .i64 ((rd_T69 l0 x5_2).f0), .int .i64 ((rd_T69 l0 x5_2).f1.f0), .int .i64 0, .int .i64 0, .int .i64 0, .int .i64 0, .int .i64 0, .slice none 0 0, .slice none 0 0, .slice none 0 0]) ?_ 2 _ rfl; (with_reducible repeat (first | refine blk_drewN ?_ _ | refine blk_drew ?_ | refine blk_alloc ?_ _)); refine blk_put (cs := #[.int .i64 ((rd_T69 l0 x5_2).f0), .int .i64 0, .int .i64 0, .int .i64 0, .int .i64 0, .int .i64 0, .int .i64 0, .slice none 0 0, .slice none 0 0, .slice none 0 0]) ?_ 1 _ rfl; (with_reducible repeat (first | refine blk_drewN ?_ _ | refine blk_drew ?_ | refine blk_alloc ?_ _)); refine blk_put (cs := #[.int .i64 0, .int .i64 0, .int .i64 0, .int .i64 0, .int .i64 0, .int .i64 0, .int .i64 0, .slice none 0 0, .slice none 0 0, .slice none 0 0]) ?_ 0 _ rfl; (with_reducible repeat (first | refine blk_drewN ?_ _ | refine blk_drew ?_ | refine blk_alloc ?_ _)); exact BK131.out⟩, ⟨mB HB.out⟩⟩
            ·rw [if_neg c30] at H
             have c30b0 : (((rd_T69 l0 x5_2).f1.f0) == 0 && (((rd_T69 l0 x5_2).f1.f1) == 0)) = false := by simpa using c30
             (try (have c30b1 : decide (((rd_T69 l0 x5_2).f1.f0) = 0 && (((rd_T69 l0 x5_2).f1.f1) == 0)) = false := by simpa using c30))
             (try (have c30b2 : (((rd_T69 l0 x5_2).f1.f0) == 0 && (((rd_T69 l0 x5_2).f1.f1) == 0)) = false := by simpa using c30))
             (try (have c30b3 : ¬ (((rd_T69 l0 x5_2).f1.f0) = 0 && (((rd_T69 l0 x5_2).f1.f1) == 0)) := by simpa using c30))
             clear c30
             have H' := z0 H
             clear H
             obtain ⟨hcz32_0, hcz32_1, hcz32_2, hcz32_3, hcz32_4, hcz32_5, hcz32_6, hcz32_7, hcz32_8, hcz32_9, hfz32_0, hfz32_1, hfz32_2, hfz32_3, hfz32_4, hfz32_5, hfz32_6, hfz32_7, hfz32_8, hfz32_9⟩ := cel10 BK131.out
             go_wp2
             go_meet
             case rel => exact ⟨_, (false), rfy, H', ⟨by have := HJ2.out; have := HK2.out; first | omega | exact Nat.le_refl _⟩, ⟨by (with_reducible repeat (first | refine blk_drewN ?_ _ | refine blk_drew ?_ | refine blk_alloc ?_ _)); refine blk_put (cs := #[.int .i64 ((rd_T69 l0 x5_2).f0), .int .i64 ((rd_T69 l0 x5_2).f1.f0), .int .i64 ((rd_T69 l0 x5_2).f1.f1), .int .i64 ((rd_T69 l0 x5_2).f2.f0), .int .i64 ((rd_T69 l0 x5_2).f2.f1), .int .i64 ((rd_T69 l0 x5_2).f2.f2.f0), .int .i64 ((rd_T69 l0 x5_2).f2.f2.f1), .slice A130_7 ((rd_T69 l0 x5_2).f2.f3).length c130_7, .slice A130_8 ((rd_T69 l0 x5_2).f3).length c130_8, .slice none 0 0]) ?_ 9 _ rfl; (with_reducible repeat (first | refine blk_drewN ?_ _ | refine blk_drew ?_ | refine blk_alloc ?_ _)); refine blk_put (cs := #[.int .i64 ((rd_T69 l0 x5_2).f0), .int .i64 ((rd_T69 l0 x5_2).f1.f0), .int .i64 ((rd_T69 l0 x5_2).f1.f1), .int .i64 ((rd_T69 l0 x5_2).f2.f0), .int .i64 ((rd_T69 l0 x5_2).f2.f1), .int .i64 ((rd_T69 l0 x5_2).f2.f2.f0), .int .i64 ((rd_T69 l0 x5_2).f2.f2.f1), .slice A130_7 ((rd_T69 l0 x5_2).f2.f3).length c130_7, .slice none 0 0, .slice none 0 0]) ?_ 8 _ rfl; (with_reducible repeat (first | refine blk_drewN ?_ _ | refine blk_drew ?_ | refine blk_alloc ?_ _)); refine blk_put (cs := #[.int .i64 ((rd_T69 l0 x5_2).f0), .int .i64 ((rd_T69 l0 x5_2).f1.f0), .int .i64 ((rd_T69 l0 x5_2).f1.f1), .int .i64 ((rd_T69 l0 x5_2).f2.f0), .int .i64 ((rd_T69 l0 x5_2).f2.f1), .int .i64 ((rd_T69 l0 x5_2).f2.f2.f0), .int .i64 ((rd_T69 l0 x5_2).f2.f2.f1), .slice none 0 0, .slice none 0 0, .slice none 0 0]) ?_ 7 _ rfl; (with_reducible repeat (first | refine blk_drewN ?_ _ | refine blk_drew ?_ | refine blk_alloc ?_ _)); refine blk_put (cs := #[.int .i64 ((rd_T69 l0 x5_2).f0), .int .i64 ((rd_T69 l0 x5_2).f1.f0), .int .i64 ((rd_T69 l0 x5_2).f1.f1), .int .i64 ((rd_T69 l0 x5_2).f2.f0), .int .i64 ((rd_T69 l0 x5_2).f2.f1), .int .i64 ((rd_T69 l0 x5_2).f2.f2.f0), .int .i64 0, .slice none 0 0, .slice none 0 0, .slice none 0 0]) ?_ 6 _ rfl; (with_reducible repeat (first | refine blk_drewN ?_ _ | refine blk_drew ?_ | refine blk_alloc ?_ _)); refine blk_put (cs := #[.int .i64 ((rd_T69 l0 x5_2).f0), .int .i64 ((rd_T69 l0 x5_2).f1.f0), .int .i64 ((rd_T69 l0 x5_2).f1.f1), .int .i64 ((rd_T69 l0 x5_2).f2.f0), .int .i64 ((rd_T69 l0 x5_2).f2.f1), .int .i64 0, .int .i64 0, .slice none 0 0, .slice none 0 0, .slice none 0 0]) ?_ 5 _ rfl; (with_reducible repeat (first | refine blk_drewN ?_ _ | refine blk_drew ?_ | refine blk_alloc ?_ _)); refine blk_put (cs := #[.int .i64 ((rd_T69 l0 x5_2).f0), .int .i64 ((rd_T69 l0 x5_2).f1.f0), .int .i64 ((rd_T69 l0 x5_2).f1.f1), .int .i64 ((rd_T69 l0 x5_2).f2.f0), .int .i64 0, .int .i64 0, .int .i64 0, .slice none 0 0, .slice none 0 0, .slice none 0 0]) ?_ 4 _ rfl; (with_reducible repeat (first | refine blk_drewN ?_ _ | refine blk_drew ?_ | refine blk_alloc ?_ _)); refine blk_put (cs := #[.int .i64 ((rd_T69 l0 x5_2).f0), .int .i64 ((rd_T69 l0 x5_2).f1.f0), .int .i64 ((rd_T69 l0 x5_2).f1.f1), .int .i64 0, .int .i64 0, .int .i64 0, .int .i64 0, .slice none 0 0, .slice none 0 0, .slice none 0 0]) ?_ 3 _ rfl; (with_reducible repeat (first | refine blk_drewN ?_ _ | refine blk_drew ?_ | refine blk_alloc ?_ _)); refine blk_put (cs := #[.int .i64 ((rd_T69 l0 x5_2).f0), .int .i64 ((rd_T69 l0 x5_2).f1.f0), .int .i64 0, .int .i64 0, .int .i64 0, .int .i64 0, .int .i64 0, .slice none 0 0, .slice none 0 0, .slice none 0 0]) ?_ 2 _ rfl; (with_reducible repeat (first | refine blk_drewN ?_ _ | refine blk_drew ?_ | refine blk_alloc ?_ _)); refine blk_put (cs := #[.int .i64 ((rd_T69 l0 x5_2).f0), .int .i64 0, .int .i64 0, .int .i64 0, .int .i64 0, .int .i64 0, .int .i64 0, .slice none 0 0, .slice none 0 0, .slice none 0 0]) ?_ 1 _ rfl; (with_reducible repeat (first | refine blk_drewN ?_ _ | refine blk_drew ?_ | refine blk_alloc ?_ _)); refine blk_put (cs := #[.int .i64 0, .int .i64 0, .int .i64 0, .int .i64 0, .int .i64 0, .int .i64 0, .int .i64 0, .slice none 0 0, .slice none 0 0, .slice none 0 0]) ?_ 0 _ rfl; (with_reducible repeat (first | refine blk_drewN ?_ _ | refine blk_drew ?_ | refine blk_alloc ?_ _)); exact BK131.out⟩, ⟨mB HB.out⟩⟩
           ·rw [if_neg c29] at H
            have c29b0 : (((rd_T69 l0 x5_2).f0) == 3) = false := beq_eq_false_iff_ne.mpr c29
            have c29b1 : (((rd_T69 l0 x5_2).f0) != 3) = true := bne_iff_ne.mpr c29
            have H' := z0 H
            clear H
            go_wp2
            go_meet
            case rel => exact ⟨_, (false), rfy, H', ⟨by have := HJ2.out; have := HK2.out; first | omega | exact Nat.le_refl _⟩, ⟨by (with_reducible repeat (first | refine blk_drewN ?_ _ | refine blk_drew ?_ | refine blk_alloc ?_ _)); refine blk_put (cs := #[.int .i64 ((rd_T69 l0 x5_2).f0), .int .i64 ((rd_T69 l0 x5_2).f1.f0), .int .i64 ((rd_T69 l0 x5_2).f1.f1), .int .i64 ((rd_T69 l0 x5_2).f2.f0), .int .i64 ((rd_T69 l0 x5_2).f2.f1), .int .i64 ((rd_T69 l0 x5_2).f2.f2.f0), .int .i64 ((rd_T69 l0 x5_2).f2.f2.f1), .slice A130_7 ((rd_T69 l0 x5_2).f2.f3).length c130_7, .slice A130_8 ((rd_T69 l0 x5_2).f3).length c130_8, .slice none 0 0]) ?_ 9 _ rfl; (with_reducible repeat (first | refine blk_drewN ?_ _ | refine blk_drew ?_ | refine blk_alloc ?_ _)); refine blk_put (cs := #[.int .i64 ((rd_T69 l0 x5_2).f0), .int .i64 ((rd_T69 l0 x5_2).f1.f0), .int .i64 ((rd_T69 l0 x5_2).f1.f1), .int .i64 ((rd_T69 l0 x5_2).f2.f0), .int .i64 ((rd_T69 l0 x5_2).f2.f1), .int .i64 ((rd_T69 l0 x5_2).f2.f2.f0), .int .i64 ((rd_T69 l0 x5_2).f2.f2.f1), .slice A130_7 ((rd_T69 l0 x5_2).f2.f3).length c130_7, .slice none 0 0, .slice none 0 0]) ?_ 8 _ rfl; (with_reducible repeat (first | refine blk_drewN ?_ _ | refine blk_drew ?_ | refine blk_alloc ?_ _)); refine blk_put (cs := #[.int .i64 ((rd_T69 l0 x5_2).f0), .int .i64 ((rd_T69 l0 x5_2).f1.f0), .int .i64 ((rd_T69 l0 x5_2).f1.f1), .int .i64 ((rd_T69 l0 x5_2).f2.f0), .int .i64 ((rd_T69 l0 x5_2).f2.f1), .int .i64 ((rd_T69 l0 x5_2).f2.f2.f0), .int .i64 ((rd_T69 l0 x5_2).f2.f2.f1), .slice none 0 0, .slice none 0 0, .slice none 0 0]) ?_ 7 _ rfl; (with_reducible repeat (first | refine blk_drewN ?_ _ | refine blk_drew ?_ | refine blk_alloc ?_ _)); refine blk_put (cs := #[.int .i64 ((rd_T69 l0 x5_2).f0), .int .i64 ((rd_T69 l0 x5_2).f1.f0), .int .i64 ((rd_T69 l0 x5_2).f1.f1), .int .i64 ((rd_T69 l0 x5_2).f2.f0), .int .i64 ((rd_T69 l0 x5_2).f2.f1), .int .i64 ((rd_T69 l0 x5_2).f2.f2.f0), .int .i64 0, .slice none 0 0, .slice none 0 0, .slice none 0 0]) ?_ 6 _ rfl; (with_reducible repeat (first | refine blk_drewN ?_ _ | refine blk_drew ?_ | refine blk_alloc ?_ _)); refine blk_put (cs := #[.int .i64 ((rd_T69 l0 x5_2).f0), .int .i64 ((rd_T69 l0 x5_2).f1.f0), .int .i64 ((rd_T69 l0 x5_2).f1.f1), .int .i64 ((rd_T69 l0 x5_2).f2.f0), .int .i64 ((rd_T69 l0 x5_2).f2.f1), .int .i64 0, .int .i64 0, .slice none 0 0, .slice none 0 0, .slice none 0 0]) ?_ 5 _ rfl; (with_reducible repeat (first | refine blk_drewN ?_ _ | refine blk_drew ?_ | refine blk_alloc ?_ _)); refine blk_put (cs := #[.int .i64 ((rd_T69 l0 x5_2).f0), .int .i64 ((rd_T69 l0 x5_2).f1.f0), .int .i64 ((rd_T69 l0 x5_2).f1.f1), .int .i64 ((rd_T69 l0 x5_2).f2.f0), .int .i64 0, .int .i64 0, .int .i64 0, .slice none 0 0, .slice none 0 0, .slice none 0 0]) ?_ 4 _ rfl; (with_reducible repeat (first | refine blk_drewN ?_ _ | refine blk_drew ?_ | refine blk_alloc ?_ _)); refine blk_put (cs := #[.int .i64 ((rd_T69 l0 x5_2).f0), .int .i64 ((rd_T69 l0 x5_2).f1.f0), .int .i64 ((rd_T69 l0 x5_2).f1.f1), .int .i64 0, .int .i64 0, .int .i64 0, .int .i64 0, .slice none 0 0, .slice none 0 0, .slice none 0 0]) ?_ 3 _ rfl; (with_reducible repeat (first | refine blk_drewN ?_ _ | refine blk_drew ?_ | refine blk_alloc ?_ _)); refine blk_put (cs := #[.int .i64 ((rd_T69 l0 x5_2).f0), .int .i64 ((rd_T69 l0 x5_2).f1.f0), .int .i64 0, .int .i64 0, .int .i64 0, .int .i64 0, .int .i64 0, .slice none 0 0, .slice none 0 0, .slice none 0 0]) ?_ 2 _ rfl; (with_reducible repeat (first | refine blk_drewN ?_ _ | refine blk_drew ?_ | refine blk_alloc ?_ _)); refine blk_put (cs := #[.int .i64 ((rd_T69 l0 x5_2).f0), .int .i64 0, .int .i64 0, .int .i64 0, .int .i64 0, .int .i64 0, .int .i64 0, .slice none 0 0, .slice none 0 0, .slice none 0 0]) ?_ 1 _ rfl; (with_reducible repeat (first | refine blk_drewN ?_ _ | refine blk_drew ?_ | refine blk_alloc ?_ _)); refine blk_put (cs := #[.int .i64 0, .int .i64 0, .int .i64 0, .int .i64 0, .int .i64 0, .int .i64 0, .int .i64 0, .slice none 0 0, .slice none 0 0, .slice none 0 0]) ?_ 0 _ rfl; (with_reducible repeat (first | refine blk_drewN ?_ _ | refine blk_drew ?_ | refine blk_alloc ?_ _)); exact BK131.out⟩, ⟨mB HB.out⟩⟩
        case rest =>
         clear HC8
         (try clear c5); (try clear c6); (try clear c6b0); (try clear c7); (try clear c7b0); (try clear hcz10_0); (try clear hcz10_1); (try clear hcz10_2); (try clear hcz10_3); (try clear hcz10_4); (try clear hcz10_5); (try clear hcz10_6); (try clear hcz10_7); (try clear hcz10_8); (try clear hcz10_9); (try clear hfz10_0); (try clear hfz10_1); (try clear hfz10_2); (try clear hfz10_3); (try clear hfz10_4); (try clear hfz10_5); (try clear hfz10_6); (try clear hfz10_7); (try clear hfz10_8); (try clear hfz10_9); (try clear hx130_0); (try clear hx130_1); (try clear hx130_2); (try clear hx130_3); (try clear hx130_4); (try clear hx130_5); (try clear hx130_6); (try clear hx130_7); (try clear hx130_8); (try clear hx130_9); (try clear p130); (try clear q130)
         obtain ⟨kq, x7_7, rfl, HA, HJ7, BK131, HB⟩ := hcut
         cases kq with
         | zero => exact absurd HA.out (by simp [spec_l4Form.j2])
         | succ kj7 =>
          have H := HA.out
          clear HA
          simp only [spec_l4Form.j2] at H
          by_cases c33 : x7_7 = true
          ·subst c33
           have H1 : ((spec_ExprOk.f kj7 ((rd_T69 l0 x5_2).f2.f0) ((rd_T69 l0 x5_2).f2.f1) ((rd_T69 l0 x5_2).f2.f2.f0) ((rd_T69 l0 x5_2).f2.f2.f1) ((rd_T69 l0 x5_2).f2.f3)).bind fun t133 => (if t133 = true then ((spec_l4Form.f kj7 ((rd_T69 l0 x5_2).f3) (wrap64 (a1 - 1))).bind fun t134 => (if t134 = true then ((spec_l4Form.f kj7 ((rd_T69 l0 x5_2).f4) (wrap64 (a1 - 1))).bind fun t135 => (if t135 = true then (spec_l4Form.l0 kj7 l0 a1 (wrap64 (x5_2 + 1))) else (some false))) else (some false))) else (some false))) = some r := by rw [if_pos rfl] at H; exact H
           clear H
           have H := H1
           clear H1
           replace H := Option.bind_eq_some_iff.mp H
           obtain ⟨t133, A340, H⟩ := H
           try dsimp only at H
           have A34 := z0 A340
           clear A340
           by_cases c35 : t133 = true
           ·subst c35
            have H1 : ((spec_l4Form.f kj7 ((rd_T69 l0 x5_2).f3) (wrap64 (a1 - 1))).bind fun t134 => (if t134 = true then ((spec_l4Form.f kj7 ((rd_T69 l0 x5_2).f4) (wrap64 (a1 - 1))).bind fun t135 => (if t135 = true then (spec_l4Form.l0 kj7 l0 a1 (wrap64 (x5_2 + 1))) else (some false))) else (some false))) = some r := by rw [if_pos rfl] at H; exact H
            clear H
            have H := H1
            clear H1
            replace H := Option.bind_eq_some_iff.mp H
            obtain ⟨t134, A360, H⟩ := H
            try dsimp only at H
            have A36 := z0 A360
            clear A360
            by_cases c37 : t134 = true
            ·subst c37
             have H1 : ((spec_l4Form.f kj7 ((rd_T69 l0 x5_2).f4) (wrap64 (a1 - 1))).bind fun t135 => (if t135 = true then (spec_l4Form.l0 kj7 l0 a1 (wrap64 (x5_2 + 1))) else (some false))) = some r := by rw [if_pos rfl] at H; exact H
             clear H
             have H := H1
             clear H1
             replace H := Option.bind_eq_some_iff.mp H
             obtain ⟨t135, A380, H⟩ := H
             try dsimp only at H
             have A38 := z0 A380
             clear A380
             have HF39 := z0 H
             clear H
             obtain ⟨hcz40_0, hcz40_1, hcz40_2, hcz40_3, hcz40_4, hcz40_5, hcz40_6, hcz40_7, hcz40_8, hcz40_9, hfz40_0, hfz40_1, hfz40_2, hfz40_3, hfz40_4, hfz40_5, hfz40_6, hfz40_7, hfz40_8, hfz40_9⟩ := cel10 BK131.out
             go_upto_if 91 with (first | (go_at_call 25; (with_reducible refine (spec_ExprOk.calls kj7 ((rd_T69 l0 x5_2).f2.f0) ((rd_T69 l0 x5_2).f2.f1) ((rd_T69 l0 x5_2).f2.f2.f0) ((rd_T69 l0 x5_2).f2.f2.f1) _ _ ((rd_T69 l0 x5_2).f2.f3) true _ ?side1 ?side2 A34.out).mono ?_); (case side1 => exact mC (Kd.C_below HR130_7.out HB.out)); (case side2 => exact HC130_7.out); rintro e w41 ⟨rfl, hb⟩; have n_ := az (bB BK131.out hb) <| z0 (below_step (mB HB.out) hb); clear BK131 HB; obtain ⟨BK131, HB⟩ := n_; clear hb; obtain ⟨hcz42_0, hcz42_1, hcz42_2, hcz42_3, hcz42_4, hcz42_5, hcz42_6, hcz42_7, hcz42_8, hcz42_9, hfz42_0, hfz42_1, hfz42_2, hfz42_3, hfz42_4, hfz42_5, hfz42_6, hfz42_7, hfz42_8, hfz42_9⟩ := cel10 BK131.out) | (go_at_call 45; (with_reducible refine (ih kj7 (by have := HJ2.out; have := HK2.out; have := HJ7.out; omega) _ _ ((rd_T69 l0 x5_2).f3) (wrap64 (a1 - 1)) true _ ?side1 ?side2 A36.out).mono ?_); (case side1 => exact mC (Kd.C_below HR130_8.out HB.out)); (case side2 => exact HC130_8.out); rintro e w43 ⟨rfl, hb⟩; have n_ := az (bB BK131.out hb) <| z0 (below_step (mB HB.out) hb); clear BK131 HB; obtain ⟨BK131, HB⟩ := n_; clear hb; obtain ⟨hcz44_0, hcz44_1, hcz44_2, hcz44_3, hcz44_4, hcz44_5, hcz44_6, hcz44_7, hcz44_8, hcz44_9, hfz44_0, hfz44_1, hfz44_2, hfz44_3, hfz44_4, hfz44_5, hfz44_6, hfz44_7, hfz44_8, hfz44_9⟩ := cel10 BK131.out) | (go_at_call 45; (with_reducible refine (ih kj7 (by have := HJ2.out; have := HK2.out; have := HJ7.out; omega) _ _ ((rd_T69 l0 x5_2).f4) (wrap64 (a1 - 1)) t135 _ ?side1 ?side2 A38.out).mono ?_); (case side1 => exact mC (Kd.C_below HR130_9.out HB.out)); (case side2 => exact HC130_9.out); rintro e w45 ⟨rfl, hb⟩; have n_ := az (bB BK131.out hb) <| z0 (below_step (mB HB.out) hb); clear BK131 HB; obtain ⟨BK131, HB⟩ := n_; clear hb))
             (try simp only [Act.put, List.setIfInBounds_toArray, List.set_cons_zero, List.set_cons_succ])
             have H := HF39.out
             clear HF39
             (try clear c5); (try clear c6); (try clear c6b0); (try clear c7); (try clear c7b0); (try clear c33); (try clear c35); (try clear c37); (try clear hcz10_0); (try clear hcz10_1); (try clear hcz10_2); (try clear hcz10_3); (try clear hcz10_4); (try clear hcz10_5); (try clear hcz10_6); (try clear hcz10_7); (try clear hcz10_8); (try clear hcz10_9); (try clear hcz40_0); (try clear hcz40_1); (try clear hcz40_2); (try clear hcz40_3); (try clear hcz40_4); (try clear hcz40_5); (try clear hcz40_6); (try clear hcz40_7); (try clear hcz40_8); (try clear hcz40_9); (try clear hcz42_0); (try clear hcz42_1); (try clear hcz42_2); (try clear hcz42_3); (try clear hcz42_4); (try clear hcz42_5); (try clear hcz42_6); (try clear hcz42_7); (try clear hcz42_8); (try clear hcz42_9); (try clear hcz44_0); (try clear hcz44_1); (try clear hcz44_2); (try clear hcz44_3); (try clear hcz44_4); (try clear hcz44_5); (try clear hcz44_6); (try clear hcz44_7); (try clear hcz44_8); (try clear hcz44_9); (try clear hfz10_0); (try clear hfz10_1); (try clear hfz10_2); (try clear hfz10_3); (try clear hfz10_4); (try clear hfz10_5); (try clear hfz10_6); (try clear hfz10_7); (try clear hfz10_8); (try clear hfz10_9); (try clear hfz40_0); (try clear hfz40_1); (try clear hfz40_2); (try clear hfz40_3); (try clear hfz40_4); (try clear hfz40_5); (try clear hfz40_6); (try clear hfz40_7); (try clear hfz40_8); (try clear hfz40_9); (try clear hfz42_0); (try clear hfz42_1); (try clear hfz42_2); (try clear hfz42_3); (try clear hfz42_4); (try clear hfz42_5); (try clear hfz42_6); (try clear hfz42_7); (try clear hfz42_8); (try clear hfz42_9); (try clear hfz44_0); (try clear hfz44_1); (try clear hfz44_2); (try clear hfz44_3); (try clear hfz44_4); (try clear hfz44_5); (try clear hfz44_6); (try clear hfz44_7); (try clear hfz44_8); (try clear hfz44_9); (try clear hx130_0); (try clear hx130_1); (try clear hx130_2); (try clear hx130_3); (try clear hx130_4); (try clear hx130_5); (try clear hx130_6); (try clear hx130_7); (try clear hx130_8); (try clear hx130_9); (try clear p130); (try clear q130)
             by_cases c46 : t135 = true
             ·subst c46
              have H1 : (spec_l4Form.l0 kj7 l0 a1 (wrap64 (x5_2 + 1))) = some r := by rw [if_pos rfl] at H; exact H
              clear H
              have H := H1
              clear H1
              have H' := z0 H
              clear H
              go_wp2
              go_roundg kj7
              case measure => have := HJ2.out; have := HK2.out; have := HJ7.out; omega
              case rel => exact ⟨(wrap64 (x5_2 + 1)), rfy, H', ⟨by have := HJ2.out; have := HK2.out; have := HJ7.out; omega⟩, ⟨mB HB.out⟩⟩
             ·replace c46 := Bool.eq_false_iff.mpr c46
              subst c46
              have H1 : (some false) = some r := by rw [if_neg (show ¬ (false = true) by decide)] at H; exact H
              clear H
              have H := H1
              clear H1
              obtain rfl := Option.some.inj H
              go_wp2
              go_ret
              exact ⟨rfx, mB HB.out⟩
            ·replace c37 := Bool.eq_false_iff.mpr c37
             subst c37
             have H1 : (some false) = some r := by rw [if_neg (show ¬ (false = true) by decide)] at H; exact H
             clear H
             have H := H1
             clear H1
             obtain rfl := Option.some.inj H
             obtain ⟨hcz47_0, hcz47_1, hcz47_2, hcz47_3, hcz47_4, hcz47_5, hcz47_6, hcz47_7, hcz47_8, hcz47_9, hfz47_0, hfz47_1, hfz47_2, hfz47_3, hfz47_4, hfz47_5, hfz47_6, hfz47_7, hfz47_8, hfz47_9⟩ := cel10 BK131.out
             go_wp2_with (first | (go_at_call 25; (with_reducible refine (spec_ExprOk.calls kj7 ((rd_T69 l0 x5_2).f2.f0) ((rd_T69 l0 x5_2).f2.f1) ((rd_T69 l0 x5_2).f2.f2.f0) ((rd_T69 l0 x5_2).f2.f2.f1) _ _ ((rd_T69 l0 x5_2).f2.f3) true _ ?side1 ?side2 A34.out).mono ?_); (case side1 => exact mC (Kd.C_below HR130_7.out HB.out)); (case side2 => exact HC130_7.out); rintro e w48 ⟨rfl, hb⟩; have n_ := az (bB BK131.out hb) <| z0 (below_step (mB HB.out) hb); clear BK131 HB; obtain ⟨BK131, HB⟩ := n_; clear hb; obtain ⟨hcz49_0, hcz49_1, hcz49_2, hcz49_3, hcz49_4, hcz49_5, hcz49_6, hcz49_7, hcz49_8, hcz49_9, hfz49_0, hfz49_1, hfz49_2, hfz49_3, hfz49_4, hfz49_5, hfz49_6, hfz49_7, hfz49_8, hfz49_9⟩ := cel10 BK131.out) | (go_at_call 45; (with_reducible refine (ih kj7 (by have := HJ2.out; have := HK2.out; have := HJ7.out; omega) _ _ ((rd_T69 l0 x5_2).f3) (wrap64 (a1 - 1)) false _ ?side1 ?side2 A36.out).mono ?_); (case side1 => exact mC (Kd.C_below HR130_8.out HB.out)); (case side2 => exact HC130_8.out); rintro e w50 ⟨rfl, hb⟩; have n_ := az (bB BK131.out hb) <| z0 (below_step (mB HB.out) hb); clear BK131 HB; obtain ⟨BK131, HB⟩ := n_; clear hb))
             go_ret
             exact ⟨rfx, mB HB.out⟩
           ·replace c35 := Bool.eq_false_iff.mpr c35
            subst c35
            have H1 : (some false) = some r := by rw [if_neg (show ¬ (false = true) by decide)] at H; exact H
            clear H
            have H := H1
            clear H1
            obtain rfl := Option.some.inj H
            obtain ⟨hcz51_0, hcz51_1, hcz51_2, hcz51_3, hcz51_4, hcz51_5, hcz51_6, hcz51_7, hcz51_8, hcz51_9, hfz51_0, hfz51_1, hfz51_2, hfz51_3, hfz51_4, hfz51_5, hfz51_6, hfz51_7, hfz51_8, hfz51_9⟩ := cel10 BK131.out
            go_wp2_with (first | (go_at_call 25; (with_reducible refine (spec_ExprOk.calls kj7 ((rd_T69 l0 x5_2).f2.f0) ((rd_T69 l0 x5_2).f2.f1) ((rd_T69 l0 x5_2).f2.f2.f0) ((rd_T69 l0 x5_2).f2.f2.f1) _ _ ((rd_T69 l0 x5_2).f2.f3) false _ ?side1 ?side2 A34.out).mono ?_); (case side1 => exact mC (Kd.C_below HR130_7.out HB.out)); (case side2 => exact HC130_7.out); rintro e w52 ⟨rfl, hb⟩; have n_ := az (bB BK131.out hb) <| z0 (below_step (mB HB.out) hb); clear BK131 HB; obtain ⟨BK131, HB⟩ := n_; clear hb))
            go_ret
            exact ⟨rfx, mB HB.out⟩
          ·replace c33 := Bool.eq_false_iff.mpr c33
           subst c33
           have H1 : (some false) = some r := by rw [if_neg (show ¬ (false = true) by decide)] at H; exact H
           clear H
           have H := H1
           clear H1
           obtain rfl := Option.some.inj H
           go_wp2
           go_ret
           exact ⟨rfx, mB HB.out⟩
       ·rw [if_neg c7] at H
        exact absurd H (by simp)
      ·rw [if_neg c6] at H
       have c6b0 : decide (x5_2 < (l0.length : Int)) = false := decide_eq_false c6
       clear c6
       obtain rfl := Option.some.inj H
       go_wp2
       go_ret
       exact ⟨rfx, mB HB.out⟩

end Go.Proofs.Ytddnijmgipffeaa.B
namespace Go.Proofs.Ytddnijmgipffeaa.B
open Go.RowKit Go.Proofs.YtddnijmgipffeaaW.PrintWords Go.Proofs.YtddnijmgipffeaaW.PrintLast Go.Proofs.YtddnijmgipffeaaW.PrintMore
attribute [local go_sem] max2_int min2_int max_two min_two max_three min_three max_four min_four   -- for this text's walks alone
set_option linter.unusedVariables false
set_option linter.unusedSimpArgs false

/-! ### spec_StmtsOk: function 19 -/
def spec_StmtsOk.f (k : Nat) (l0 : List (S69)) : Option (Bool) := (spec_l4Many.f k l0 4).bind fun t136 => (if t136 ≤ 16 then ((spec_l4Form.f k l0 4).bind fun t137 => (some t137)) else (some false))
set_option maxHeartbeats 8000000 in
set_option maxRecDepth 100000 in
theorem spec_StmtsOk.calls (k : Nat) (A0 : Option Addr) (c0 : Nat) (l0 : List (S69)) (r : Bool) (w : World) (hr0 : Kd.C k69 w A0 l0.length l0) (hc0 : l0.length ≤ c0) (h : spec_StmtsOk.f k l0 = some r) :
  Calls Try.prog 19 #[.slice A0 l0.length c0] w fun e w' => e = .returned (.bool r) ∧ Below w.heap.size w w' := by
 have HR0 := z0 hr0
 have HC0 := z0 hc0
 clear hr0 hc0
 have HB := z0 (Below.refl w.heap.size w)
 have H : ((spec_l4Many.f k l0 4).bind fun t136 => (if t136 ≤ 16 then ((spec_l4Form.f k l0 4).bind fun t137 => (some t137)) else (some false))) = some r := h
 clear h
 replace H := Option.bind_eq_some_iff.mp H
 obtain ⟨t136, A20, H⟩ := H
 try dsimp only at H
 have A2 := z0 A20
 clear A20
 by_cases c3 : t136 ≤ 16
 ·rw [if_pos c3] at H
  have c3b0 : decide (t136 ≤ 16) = true := decide_eq_true c3
  clear c3
  replace H := Option.bind_eq_some_iff.mp H
  obtain ⟨t137, A40, H⟩ := H
  try dsimp only at H
  have A4 := z0 A40
  clear A40
  obtain rfl := Option.some.inj H
  go_enter Try.func19, Try.ntmps19
  go_wp2_with (first | ((with_reducible refine gate_callee (f := 44) rfl ?_); refine goesL_ (some 4) rfl rfl Try.func44 (by kernel_rfl) rfl #[.slice A0 l0.length c0, .int .i64 4] rfl argx ?_; (with_reducible refine (spec_l4Many.calls k _ _ l0 4 t136 _ ?side1 ?side2 A2.out).mono ?_); (case side1 => exact mC HR0.out); (case side2 => exact HC0.out); rintro e w5 ⟨rfl, hb⟩; refine ⟨_, rfl, ?_⟩; have n0_ := z0 (below_step (mB HB.out) hb); clear HB; have HB := n0_; clear n0_; (try clear hb); (try clear hb2); (try clear hk); (try clear hi)) | (go_at_call 45; (with_reducible refine (spec_l4Form.calls k _ _ l0 4 t137 _ ?side1 ?side2 A4.out).mono ?_); (case side1 => exact mC (Kd.C_below HR0.out HB.out)); (case side2 => exact HC0.out); rintro e w6 ⟨rfl, hb⟩; have n0_ := z0 (below_step (mB HB.out) hb); clear HB; have HB := n0_; clear n0_; (try clear hb); (try clear hb2); (try clear hk); (try clear hi)))
  go_ret
  exact ⟨rfx, mB HB.out⟩
 ·rw [if_neg c3] at H
  have c3b0 : decide (t136 ≤ 16) = false := decide_eq_false c3
  clear c3
  obtain rfl := Option.some.inj H
  go_enter Try.func19, Try.ntmps19
  go_wp2_with (first | ((with_reducible refine gate_callee (f := 44) rfl ?_); refine goesL_ (some 4) rfl rfl Try.func44 (by kernel_rfl) rfl #[.slice A0 l0.length c0, .int .i64 4] rfl argx ?_; (with_reducible refine (spec_l4Many.calls k _ _ l0 4 t136 _ ?side1 ?side2 A2.out).mono ?_); (case side1 => exact mC HR0.out); (case side2 => exact HC0.out); rintro e w7 ⟨rfl, hb⟩; refine ⟨_, rfl, ?_⟩; have n0_ := z0 (below_step (mB HB.out) hb); clear HB; have HB := n0_; clear n0_; (try clear hb); (try clear hb2); (try clear hk); (try clear hi)))
  go_ret
  exact ⟨rfx, mB HB.out⟩

/-! ### spec_l5Expr: function 98 -/
def spec_l5Expr.f : Nat → Int → Int → Int → Int → List (S46) → Option ((List (S39)))
 | 0, _, _, _, _, _ => none
 | k + 1, a0_0, a0_1, a0_2, a0_3, l0_4 => if a0_0 = 1 then (some (([(⟨1, a0_1, (⟨0, 0⟩ : S37)⟩ : S39)] : List (S39)))) else (if a0_0 = 2 then (some (([(⟨2, 0, (⟨a0_2, a0_3⟩ : S37)⟩ : S39)] : List (S39)))) else (if a0_0 = 10 then (if 0 < (l0_4.length : Int) then ((spec_l5Expr.f k ((rd_T46 l0_4 0).f0) ((rd_T46 l0_4 0).f1) ((rd_T46 l0_4 0).f2.f0) ((rd_T46 l0_4 0).f2.f1) ((rd_T46 l0_4 0).f3)).bind fun t146 => ((some (([(⟨5, 0, (⟨0, 0⟩ : S37)⟩ : S39)] : List (S39)) : List (S39))).bind fun y149 => (if t146.length + y149.length < 4398046511104 then (some (t146 ++ y149)) else (none)))) else (none)) else (if 0 < (l0_4.length : Int) then ((spec_l5Expr.f k ((rd_T46 l0_4 0).f0) ((rd_T46 l0_4 0).f1) ((rd_T46 l0_4 0).f2.f0) ((rd_T46 l0_4 0).f2.f1) ((rd_T46 l0_4 0).f3)).bind fun t156 => (if 1 < (l0_4.length : Int) then ((spec_l5Expr.f k ((rd_T46 l0_4 1).f0) ((rd_T46 l0_4 1).f1) ((rd_T46 l0_4 1).f2.f0) ((rd_T46 l0_4 1).f2.f1) ((rd_T46 l0_4 1).f3)).bind fun t160 => (if t156.length + t160.length < 4398046511104 then ((some (t156 ++ t160 : List (S39))).bind fun y163 => ((some (([(⟨4, a0_0, (⟨0, 0⟩ : S37)⟩ : S39)] : List (S39)) : List (S39))).bind fun y166 => (if y163.length + y166.length < 4398046511104 then (some (y163 ++ y166)) else (none)))) else (none))) else (none))) else (none))))
def spec_l5Expr.T8 : Bool × List (List Nat × List Nat) := (true, [([], []), ([0], [0]), ([1], [1]), ([2], [2]), ([3], [3]), ([], []), ([5], [5]), ([6], [6]), ([7], [7]), ([8, 4], [8]), ([4, 9, 9], [4, 9]), ([], []), ([11], [11]), ([12], [12]), ([13], [13]), ([10, 14, 10], [10, 14]), ([15, 15, 0, 1, 2, 3, 4, 5, 6, 7, 8, 9, 10, 11, 12, 13, 14, 15], [15])])
def spec_l5Expr.B8 : List Nat := [0, 1, 3, 7, 15, 0, 32, 96, 224, 511, 1023, 0, 2048, 6144, 14336, 32767, 65535]
theorem spec_l5Expr.tab8 : rtab .any (opsOf Try.f98 8) = spec_l5Expr.T8 := by kernel_rfl
theorem spec_l5Expr.bits8 : waitsOk spec_l5Expr.T8.2 spec_l5Expr.B8 = true := by kernel_rfl
theorem q98_1 {p : Prop} (h : p := by exact ⟨(blk_cell BK138.out 0).trans rfl, (blk_cell BK138.out 1).trans rfl, (blk_cell BK138.out 2).trans rfl, (blk_cell BK138.out 3).trans rfl, (blk_cell BK138.out 4).trans rfl, ((HB.out.cell (World.block_lt_of_cell? w _ hw155_0)).trans hw155_0), ((HB.out.cell (World.block_lt_of_cell? w _ hw155_1)).trans hw155_1), ((HB.out.cell (World.block_lt_of_cell? w _ hw155_2)).trans hw155_2), ((HB.out.cell (World.block_lt_of_cell? w _ hw155_3)).trans hw155_3), ((HB.out.cell (World.block_lt_of_cell? w _ hw155_4)).trans hw155_4), ((HB.out.cell (World.block_lt_of_cell? w _ hw159_0)).trans hw159_0), ((HB.out.cell (World.block_lt_of_cell? w _ hw159_1)).trans hw159_1), ((HB.out.cell (World.block_lt_of_cell? w _ hw159_2)).trans hw159_2), ((HB.out.cell (World.block_lt_of_cell? w _ hw159_3)).trans hw159_3), ((HB.out.cell (World.block_lt_of_cell? w _ hw159_4)).trans hw159_4)⟩) : p := h
theorem q98_2 {p : Prop} (h : p := by (with_reducible repeat (first | apply Kd.R_alloc | apply Kd.R_drewN | apply Kd.R_drew)); exact Kd.R_mono HO162.out (fun _ hk => ⟨hk.2, hk.1⟩)) : p := h
set_option maxHeartbeats 8000000 in
set_option maxRecDepth 100000 in
theorem spec_l5Expr.calls (k : Nat) : ∀ (a0_0 : Int) (a0_1 : Int) (a0_2 : Int) (a0_3 : Int) (A0_4 : Option Addr) (c0_4 : Nat) (l0_4 : List (S46)) (r : List (S39)) (w : World) (hr0_4 : Kd.C k46 w A0_4 l0_4.length l0_4) (hc0_4 : l0_4.length ≤ c0_4) (h : spec_l5Expr.f k a0_0 a0_1 a0_2 a0_3 l0_4 = some r),
  Calls Try.prog 98 #[.agg #[.int .i64 a0_0, .int .i64 a0_1, .int .i64 a0_2, .int .i64 a0_3, .slice A0_4 l0_4.length c0_4]] w fun e w' => ∃ v0_ : Value, e = .returned (v0_) ∧ Kd.R k39 39 w' w.heap.size (fun _ => True) v0_ r ∧ Below w.heap.size w w' := by
 induction k using Nat.strongRecOn with
 | _ k ih =>
 intro a0_0 a0_1 a0_2 a0_3 A0_4 c0_4 l0_4 r w hr0_4 hc0_4 h
 cases k with
 | zero => exact absurd h (by simp [spec_l5Expr.f])
 | succ k =>
 simp only [spec_l5Expr.f] at h
 have hu46 := Try.underlying46
 have hu39 := Try.underlying39
 have hu37 := Try.underlying37
 have HR0_4 := z0 hr0_4
 have HC0_4 := z0 hc0_4
 clear hr0_4 hc0_4
 have HB := z0 (Below.refl w.heap.size w)
 have H : (if a0_0 = 1 then (some (([(⟨1, a0_1, (⟨0, 0⟩ : S37)⟩ : S39)] : List (S39)))) else (if a0_0 = 2 then (some (([(⟨2, 0, (⟨a0_2, a0_3⟩ : S37)⟩ : S39)] : List (S39)))) else (if a0_0 = 10 then (if 0 < (l0_4.length : Int) then ((spec_l5Expr.f k ((rd_T46 l0_4 0).f0) ((rd_T46 l0_4 0).f1) ((rd_T46 l0_4 0).f2.f0) ((rd_T46 l0_4 0).f2.f1) ((rd_T46 l0_4 0).f3)).bind fun t146 => ((some (([(⟨5, 0, (⟨0, 0⟩ : S37)⟩ : S39)] : List (S39)) : List (S39))).bind fun y149 => (if t146.length + y149.length < 4398046511104 then (some (t146 ++ y149)) else (none)))) else (none)) else (if 0 < (l0_4.length : Int) then ((spec_l5Expr.f k ((rd_T46 l0_4 0).f0) ((rd_T46 l0_4 0).f1) ((rd_T46 l0_4 0).f2.f0) ((rd_T46 l0_4 0).f2.f1) ((rd_T46 l0_4 0).f3)).bind fun t156 => (if 1 < (l0_4.length : Int) then ((spec_l5Expr.f k ((rd_T46 l0_4 1).f0) ((rd_T46 l0_4 1).f1) ((rd_T46 l0_4 1).f2.f0) ((rd_T46 l0_4 1).f2.f1) ((rd_T46 l0_4 1).f3)).bind fun t160 => (if t156.length + t160.length < 4398046511104 then ((some (t156 ++ t160 : List (S39))).bind fun y163 => ((some (([(⟨4, a0_0, (⟨0, 0⟩ : S37)⟩ : S39)] : List (S39)) : List (S39))).bind fun y166 => (if y163.length + y166.length < 4398046511104 then (some (y163 ++ y166)) else (none)))) else (none))) else (none))) else (none))))) = some r := h
 clear h
 have HF2 := z0 H
 clear H
 go_enter Try.func98, Try.ntmps98
 go_upto_if 5 with (first | ((with_reducible refine gate_dst (N := 1) rfl ?_); refine box_event ?hg (N := 1) ?hd (cs := #[.int .i64 a0_0, .int .i64 a0_1, .int .i64 a0_2, .int .i64 a0_3, .slice A0_4 l0_4.length c0_4]) (t := 46) ?hr ?_; (case hd => rfl); (case hg => rfl); (case hr => first | (go_simp; done) | (go_simp; rfl)); intro gb138 hg w3 hbox hb; have n_ := az (below_step (mB HB.out) hb) <| az (hbox) <| az ((by rw [hg]; exact (below_size (mB HB.out)) : w.heap.size ≤ gb138)) <| z0 ((by rw [hg]; exact (below_size (mB HB.out)) : w.heap.size ≤ gb138)); clear HB; obtain ⟨HB, BK138, GW138, GE138⟩ := n_; clear hb hbox hg; obtain ⟨hcz4_0, hcz4_1, hcz4_2, hcz4_3, hcz4_4, hfz4_0, hfz4_1, hfz4_2, hfz4_3, hfz4_4⟩ := cel5 BK138.out))
 (try simp only [Act.put, List.setIfInBounds_toArray, List.set_cons_zero, List.set_cons_succ])
 have H := HF2.out
 clear HF2
 (try clear hcz4_0); (try clear hcz4_1); (try clear hcz4_2); (try clear hcz4_3); (try clear hcz4_4); (try clear hfz4_0); (try clear hfz4_1); (try clear hfz4_2); (try clear hfz4_3); (try clear hfz4_4)
 by_cases c5 : a0_0 = 1
 ·rw [if_pos c5] at H
  have c5b0 : (a0_0 == 1) = true := beq_iff_eq.mpr c5
  have c5b1 : (a0_0 != 1) = false := bne_eq_false_iff_eq.mpr c5
  clear c5
  (first | rw [c5b0] | (simp only [i64_w, i32_w]; rw [c5b0]) | skip)
  obtain ⟨y139, hy139⟩ : ∃ y_ : List (S39), y_ = (([(⟨1, a0_1, (⟨0, 0⟩ : S37)⟩ : S39)] : List (S39))) := ⟨_, rfl⟩
  replace H : (some y139) = some r := by first | (rw [hy139]; with_reducible exact H) | (have H2_ := (Option.bind_some _ _).symm.trans H; rw [hy139]; with_reducible exact H2_) | (have H2_ := (Option.bind_some _ _).symm.trans H; with_reducible exact H2_) | with_reducible exact H | (rw [hy139]; exact H) | exact H
  have Ny139 := z0 hy139
  clear hy139
  obtain rfl := Option.some.inj H
  obtain ⟨hcz6_0, hcz6_1, hcz6_2, hcz6_3, hcz6_4, hfz6_0, hfz6_1, hfz6_2, hfz6_3, hfz6_4⟩ := cel5 BK138.out
  go_wp2_with (first | ((with_reducible refine gate_dst (N := 10) rfl ?_); refine Kd.R_lit k39 _ 39 ?hg (N := 10) ?hd (xs := ([(⟨1, a0_1, (⟨0, 0⟩ : S37)⟩ : S39)] : List (S39))) (inner := [.int .i64 1, .int .i64 a0_1, .int .i64 0, .int .i64 0]) (ok := fun _ => True) (okp := fun _ => True) ?hr ?hp (fun _ hk => hk) trivial (Below.refl _ _) (Nat.le_refl _) (by simp) ?_; (case hd => rfl); (case hg => rfl); (case hr => first | (go_simp; done) | (go_simp; rfl)); (case hp => exact (Reps.c4 (show Kd.M k39 _ _ _ (⟨1, a0_1, (⟨0, 0⟩ : S37)⟩ : S39) [.int .i64 1, .int .i64 a0_1, .int .i64 0, .int .i64 0] from (k39_mkM _ _ _ (⟨1, a0_1, (⟨0, 0⟩ : S37)⟩ : S39) )) (Reps.none _ _))); intro v140 w7 ho8 hb hg_ hnew_; clear hg_ hnew_; (first | rw [← Ny139.out] at ho8 | (simp only [Int.reduceToNat] at ho8; rw [← Ny139.out] at ho8)); have n_ := az (Kd.R_lower ho8 (below_size (mB HB.out))) <| az (bB BK138.out hb) <| z0 (below_step (mB HB.out) hb); clear BK138 HB; obtain ⟨HO141, BK138, HB⟩ := n_; clear hb ho8))
  go_ret
  exact ⟨_, rfx, mR HO141.out, mB HB.out⟩
 ·rw [if_neg c5] at H
  have c5b0 : (a0_0 == 1) = false := beq_eq_false_iff_ne.mpr c5
  have c5b1 : (a0_0 != 1) = true := bne_iff_ne.mpr c5
  (first | rw [c5b0] | (simp only [i64_w, i32_w]; rw [c5b0]) | skip)
  by_cases c9 : a0_0 = 2
  ·rw [if_pos c9] at H
   have c9b0 : (a0_0 == 2) = true := beq_iff_eq.mpr c9
   have c9b1 : (a0_0 != 2) = false := bne_eq_false_iff_eq.mpr c9
   clear c9
   obtain ⟨y142, hy142⟩ : ∃ y_ : List (S39), y_ = (([(⟨2, 0, (⟨a0_2, a0_3⟩ : S37)⟩ : S39)] : List (S39))) := ⟨_, rfl⟩
   replace H : (some y142) = some r := by first | (rw [hy142]; with_reducible exact H) | (have H2_ := (Option.bind_some _ _).symm.trans H; rw [hy142]; with_reducible exact H2_) | (have H2_ := (Option.bind_some _ _).symm.trans H; with_reducible exact H2_) | with_reducible exact H | (rw [hy142]; exact H) | exact H
   have Ny142 := z0 hy142
   clear hy142
   obtain rfl := Option.some.inj H
   obtain ⟨hcz10_0, hcz10_1, hcz10_2, hcz10_3, hcz10_4, hfz10_0, hfz10_1, hfz10_2, hfz10_3, hfz10_4⟩ := cel5 BK138.out
   go_wp2_with (first | ((with_reducible refine gate_dst (N := 16) rfl ?_); refine Kd.R_lit k39 _ 39 ?hg (N := 16) ?hd (xs := ([(⟨2, 0, (⟨a0_2, a0_3⟩ : S37)⟩ : S39)] : List (S39))) (inner := [.int .i64 2, .int .i64 0, .int .i64 a0_2, .int .i64 a0_3]) (ok := fun _ => True) (okp := fun _ => True) ?hr ?hp (fun _ hk => hk) trivial (Below.refl _ _) (Nat.le_refl _) (by simp) ?_; (case hd => rfl); (case hg => rfl); (case hr => first | (go_simp; done) | (go_simp; rfl)); (case hp => exact (Reps.c4 (show Kd.M k39 _ _ _ (⟨2, 0, (⟨a0_2, a0_3⟩ : S37)⟩ : S39) [.int .i64 2, .int .i64 0, .int .i64 a0_2, .int .i64 a0_3] from (k39_mkM _ _ _ (⟨2, 0, (⟨a0_2, a0_3⟩ : S37)⟩ : S39) )) (Reps.none _ _))); intro v143 w11 ho12 hb hg_ hnew_; clear hg_ hnew_; (first | rw [← Ny142.out] at ho12 | (simp only [Int.reduceToNat] at ho12; rw [← Ny142.out] at ho12)); have n_ := az (Kd.R_lower ho12 (below_size (mB HB.out))) <| az (bB BK138.out hb) <| z0 (below_step (mB HB.out) hb); clear BK138 HB; obtain ⟨HO144, BK138, HB⟩ := n_; clear hb ho12))
   go_ret
   exact ⟨_, rfx, mR HO144.out, mB HB.out⟩
  ·rw [if_neg c9] at H
   have c9b0 : (a0_0 == 2) = false := beq_eq_false_iff_ne.mpr c9
   have c9b1 : (a0_0 != 2) = true := bne_iff_ne.mpr c9
   by_cases c13 : a0_0 = 10
   ·rw [if_pos c13] at H
    have c13b0 : (a0_0 == 10) = true := beq_iff_eq.mpr c13
    have c13b1 : (a0_0 != 10) = false := bne_eq_false_iff_eq.mpr c13
    clear c13
    by_cases c14 : 0 < (l0_4.length : Int)
    ·rw [if_pos c14] at H
     have c14b0 : decide (0 < (l0_4.length : Int)) = true := decide_eq_true c14
     have c14b1 : decide (0 < l0_4.length) = true := decide_eq_true (by omega)
     clear c14
     replace H := Option.bind_eq_some_iff.mp H
     obtain ⟨t146, A150, H⟩ := H
     try dsimp only at H
     have A15 := z0 A150
     clear A150
     obtain ⟨y149, hy149⟩ : ∃ y_ : List (S39), y_ = (([(⟨5, 0, (⟨0, 0⟩ : S37)⟩ : S39)] : List (S39))) := ⟨_, rfl⟩
     replace H : (if t146.length + y149.length < 4398046511104 then (some (t146 ++ y149)) else (none)) = some r := by first | (rw [hy149]; with_reducible exact H) | (have H2_ := (Option.bind_some _ _).symm.trans H; rw [hy149]; with_reducible exact H2_) | (have H2_ := (Option.bind_some _ _).symm.trans H; with_reducible exact H2_) | with_reducible exact H | (rw [hy149]; exact H) | exact H
     have Ny149 := z0 hy149
     clear hy149
     by_cases c16 : t146.length + y149.length < 4398046511104
     ·rw [if_pos c16] at H
      have LMc16 := z0 c16
      clear c16
      obtain ⟨y152, hy152⟩ : ∃ y_ : List (S39), y_ = (t146 ++ y149) := ⟨_, rfl⟩
      replace H : (some y152) = some r := by first | (rw [hy152]; with_reducible exact H) | (have H2_ := (Option.bind_some _ _).symm.trans H; rw [hy152]; with_reducible exact H2_) | (have H2_ := (Option.bind_some _ _).symm.trans H; with_reducible exact H2_) | with_reducible exact H | (rw [hy152]; exact H) | exact H
      have Ny152 := z0 hy152
      clear hy152
      obtain rfl := Option.some.inj H
      obtain ⟨hcz17_0, hcz17_1, hcz17_2, hcz17_3, hcz17_4, hfz17_0, hfz17_1, hfz17_2, hfz17_3, hfz17_4⟩ := cel5 BK138.out
      have p145 : 0 ≤ (0 : Int) := (by omega)
      have q145 : 0 < (l0_4.length : Int) := of_decide_eq_true (by first | (with_reducible assumption) | assumption)
      obtain ⟨ad145, A145_4, c145_4, e145, hx145_0, hx145_1, hx145_2, hx145_3, hx145_4, hl145_4, hi145_4⟩ := at_T46 HR0_4.out 0 p145 q145
      cases e145
      have qi145 : (0 < l0_4.length) = True := eq_true (by omega)
      (try rw [show ((0 : Int)).toNat = 0 from rfl] at hx145_0)
      (try rw [show 0 * 5 = 0 from rfl] at hx145_0)
      (try rw [Addr.add_zero'] at hx145_0)
      (try rw [show ((0 : Int)).toNat = 0 from rfl] at hx145_1)
      (try rw [show 0 * 5 = 0 from rfl] at hx145_1)
      (try rw [Addr.add_zero'] at hx145_1)
      (try rw [show ((0 : Int)).toNat = 0 from rfl] at hx145_2)
      (try rw [show 0 * 5 = 0 from rfl] at hx145_2)
      (try rw [Addr.add_zero'] at hx145_2)
      (try rw [show ((0 : Int)).toNat = 0 from rfl] at hx145_3)
      (try rw [show 0 * 5 = 0 from rfl] at hx145_3)
      (try rw [Addr.add_zero'] at hx145_3)
      (try rw [show ((0 : Int)).toNat = 0 from rfl] at hx145_4)
      (try rw [show 0 * 5 = 0 from rfl] at hx145_4)
      (try rw [Addr.add_zero'] at hx145_4)
      replace hx145_0 := (HB.out.cell (World.block_lt_of_cell? w _ hx145_0)).trans hx145_0
      replace hx145_1 := (HB.out.cell (World.block_lt_of_cell? w _ hx145_1)).trans hx145_1
      replace hx145_2 := (HB.out.cell (World.block_lt_of_cell? w _ hx145_2)).trans hx145_2
      replace hx145_3 := (HB.out.cell (World.block_lt_of_cell? w _ hx145_3)).trans hx145_3
      replace hx145_4 := (HB.out.cell (World.block_lt_of_cell? w _ hx145_4)).trans hx145_4
      have HR145_4 := z0 hi145_4
      have HC145_4 := z0 hl145_4
      clear hi145_4 hl145_4
      replace p145 := eq_true p145
      replace q145 := eq_true q145
      go_wp2_with (first | ((with_reducible refine gate_callee (f := 98) rfl ?_); refine goesL_ (some 23) rfl rfl Try.func98 (by kernel_rfl) rfl #[.agg #[.int .i64 ((rd_T46 l0_4 0).f0), .int .i64 ((rd_T46 l0_4 0).f1), .int .i64 ((rd_T46 l0_4 0).f2.f0), .int .i64 ((rd_T46 l0_4 0).f2.f1), .slice A145_4 ((rd_T46 l0_4 0).f3).length c145_4]] rfl argx ?_; (with_reducible refine (ih k (by omega) ((rd_T46 l0_4 0).f0) ((rd_T46 l0_4 0).f1) ((rd_T46 l0_4 0).f2.f0) ((rd_T46 l0_4 0).f2.f1) _ _ ((rd_T46 l0_4 0).f3) t146 _ ?side1 ?side2 A15.out).mono ?_); (case side1 => exact mC (Kd.C_below HR145_4.out HB.out)); (case side2 => exact HC145_4.out); rintro e w18 ⟨v147, rfl, ho0, hb⟩; refine ⟨_, rfl, ?_⟩; have n_ := az (Kd.R_lower ho0 (below_size (mB HB.out))) <| az (bB BK138.out hb) <| z0 (below_step (mB HB.out) hb); clear BK138 HB; obtain ⟨HO148, BK138, HB⟩ := n_; clear hb ho0) | ((with_reducible refine gate_dst (N := 25) rfl ?_); refine Kd.R_lit k39 _ 39 ?hg (N := 25) ?hd (xs := ([(⟨5, 0, (⟨0, 0⟩ : S37)⟩ : S39)] : List (S39))) (inner := [.int .i64 5, .int .i64 0, .int .i64 0, .int .i64 0]) (ok := fun _ => True) (okp := fun _ => True) ?hr ?hp (fun _ hk => hk) trivial (Below.refl _ _) (Nat.le_refl _) (by simp) ?_; (case hd => rfl); (case hg => rfl); (case hr => first | (go_simp; done) | (go_simp; rfl)); (case hp => exact (Reps.c4 (show Kd.M k39 _ _ _ (⟨5, 0, (⟨0, 0⟩ : S37)⟩ : S39) [.int .i64 5, .int .i64 0, .int .i64 0, .int .i64 0] from (k39_mkM _ _ _ (⟨5, 0, (⟨0, 0⟩ : S37)⟩ : S39) )) (Reps.none _ _))); intro v150 w19 ho20 hb hg_ hnew_; clear hg_ hnew_; (first | rw [← Ny149.out] at ho20 | (simp only [Int.reduceToNat] at ho20; rw [← Ny149.out] at ho20)); have n_ := az (Kd.R_elder' (mR HO148.out) (by first | exact Kd.R_base ho20 | exact Kd.R_base ho20) hb) <| az (Kd.R_lower (Kd.R_new' ho20 (Kd.R_lt (mR HO148.out))) (below_size (mB HB.out))) <| az (bB BK138.out hb) <| z0 (below_step (mB HB.out) hb); clear HO148 BK138 HB; obtain ⟨HO148, HO151, BK138, HB⟩ := n_; clear hb ho20; obtain ⟨Ao22, co22, eo22⟩ := Kd.R_slice HO151.out; subst eo22) | ((with_reducible refine gate_builtin (b := .append) (xs := #[.tmp 23, .tmp 25]) rfl ?_); at_builtin; refine Kd.R_append_rows k39 (w0 := w) w.heap.size rfl (.tmp 23) (.tmp 25) 24 39 (.agg #[(.int .i64 0), (.int .i64 0), (.int .i64 0), (.int .i64 0)]) 32 rfl Try.underlying24 info39 rfl (by decide) (by omega) v147 t146 y149 _ _ _ (fun k_ => nB k_ (.slice Ao22 y149.length co22)) (fun _ => False) rfl rfl ?aO ?aR (fun _ _ h => h) (fun _ h => h.elim) ?aF ?aB ?aS ?aL ?_; (case aR => exact mC (Kd.R_reads' HO151.out).2.2); (case aB => exact (mB HB.out)); (case aF => exact (fun k_ hk => Kd.fresh' (Kd.R_lt (mR HO151.out)) k_ hk)); (case aO => exact (by (with_reducible repeat (first | apply Kd.R_alloc | apply Kd.R_drewN | apply Kd.R_drew)); exact Kd.R_mono HO148.out (fun _ hk => hk.2))); (case aS => exact (below_size (mB HB.out))); (case aL => have := LMc16.out; omega); intro v153 w21 ho hb hg hat; rw [← Ny152.out] at ho; have n_ := az (blk_grown (g := gb138) (o := .cells #[.int .i64 a0_0, .int .i64 a0_1, .int .i64 a0_2, .int .i64 a0_3, .slice (some ad145) l0_4.length c0_4] 46 (0, 0)) (mK BK138.out) hg (Kd.R_ne HO148.out BK138.out (by decide))) <| az (Kd.R_after (ok := (fun _ => True)) (mR HO151.out) hg hat) <| az (hb) <| z0 (ho); clear BK138 HO151 HB HO148; obtain ⟨BK138, HO151, HB, HO154⟩ := n_; clear ho hb hg hat))
      go_ret
      exact ⟨_, rfx, by (with_reducible repeat (first | apply Kd.R_alloc | apply Kd.R_drewN | apply Kd.R_drew)); exact Kd.R_mono HO154.out (fun _ hk => trivial), mB HB.out⟩
     ·rw [if_neg c16] at H
      exact absurd H (by simp)
    ·rw [if_neg c14] at H
     exact absurd H (by simp)
   ·rw [if_neg c13] at H
    have c13b0 : (a0_0 == 10) = false := beq_eq_false_iff_ne.mpr c13
    have c13b1 : (a0_0 != 10) = true := bne_iff_ne.mpr c13
    by_cases c23 : 0 < (l0_4.length : Int)
    ·rw [if_pos c23] at H
     have c23b0 : decide (0 < (l0_4.length : Int)) = true := decide_eq_true c23
     have c23b1 : decide (0 < l0_4.length) = true := decide_eq_true (by omega)
     clear c23
     replace H := Option.bind_eq_some_iff.mp H
     obtain ⟨t156, A240, H⟩ := H
     try dsimp only at H
     have A24 := z0 A240
     clear A240
     by_cases c25 : 1 < (l0_4.length : Int)
     ·rw [if_pos c25] at H
      have c25b0 : decide (1 < (l0_4.length : Int)) = true := decide_eq_true c25
      have c25b1 : decide (1 < l0_4.length) = true := decide_eq_true (by omega)
      clear c25
      replace H := Option.bind_eq_some_iff.mp H
      obtain ⟨t160, A260, H⟩ := H
      try dsimp only at H
      have A26 := z0 A260
      clear A260
      by_cases c27 : t156.length + t160.length < 4398046511104
      ·rw [if_pos c27] at H
       have LMc27 := z0 c27
       clear c27
       obtain ⟨y163, hy163⟩ : ∃ y_ : List (S39), y_ = (t156 ++ t160) := ⟨_, rfl⟩
       replace H : ((some (([(⟨4, a0_0, (⟨0, 0⟩ : S37)⟩ : S39)] : List (S39)) : List (S39))).bind fun y166 => (if y163.length + y166.length < 4398046511104 then (some (y163 ++ y166)) else (none))) = some r := by first | (rw [hy163]; with_reducible exact H) | (have H2_ := (Option.bind_some _ _).symm.trans H; rw [hy163]; with_reducible exact H2_) | (have H2_ := (Option.bind_some _ _).symm.trans H; with_reducible exact H2_) | with_reducible exact H | (rw [hy163]; exact H) | exact H
       have Ny163 := z0 hy163
       clear hy163
       obtain ⟨y166, hy166⟩ : ∃ y_ : List (S39), y_ = (([(⟨4, a0_0, (⟨0, 0⟩ : S37)⟩ : S39)] : List (S39))) := ⟨_, rfl⟩
       replace H : (if y163.length + y166.length < 4398046511104 then (some (y163 ++ y166)) else (none)) = some r := by first | (rw [hy166]; with_reducible exact H) | (have H2_ := (Option.bind_some _ _).symm.trans H; rw [hy166]; with_reducible exact H2_) | (have H2_ := (Option.bind_some _ _).symm.trans H; with_reducible exact H2_) | with_reducible exact H | (rw [hy166]; exact H) | exact H
       have Ny166 := z0 hy166
       clear hy166
       by_cases c28 : y163.length + y166.length < 4398046511104
       ·rw [if_pos c28] at H
        have LMc28 := z0 c28
        clear c28
        obtain ⟨y169, hy169⟩ : ∃ y_ : List (S39), y_ = (y163 ++ y166) := ⟨_, rfl⟩
        replace H : (some y169) = some r := by first | (rw [hy169]; with_reducible exact H) | (have H2_ := (Option.bind_some _ _).symm.trans H; rw [hy169]; with_reducible exact H2_) | (have H2_ := (Option.bind_some _ _).symm.trans H; with_reducible exact H2_) | with_reducible exact H | (rw [hy169]; exact H) | exact H
        have Ny169 := z0 hy169
        clear hy169
        obtain rfl := Option.some.inj H
        try go_wp2
        have n_ := az (blk_drew BK138.out) <| z0 (below_drew1 HB.out)
        clear BK138 HB
        obtain ⟨BK138, HB⟩ := n_
        have p155 : 0 ≤ (0 : Int) := (by omega)
        have q155 : 0 < (l0_4.length : Int) := of_decide_eq_true (by first | (with_reducible assumption) | assumption)
        obtain ⟨ad155, A155_4, c155_4, e155, hx155_0, hx155_1, hx155_2, hx155_3, hx155_4, hl155_4, hi155_4⟩ := at_T46 HR0_4.out 0 p155 q155
        have hw155_4 := hx155_4
        (try rw [show ((0 : Int)).toNat = 0 from rfl] at hw155_4)
        (try rw [show 0 * 5 = 0 from rfl] at hw155_4)
        (try rw [Addr.add_zero'] at hw155_4)
        have hw155_3 := hx155_3
        (try rw [show ((0 : Int)).toNat = 0 from rfl] at hw155_3)
        (try rw [show 0 * 5 = 0 from rfl] at hw155_3)
        (try rw [Addr.add_zero'] at hw155_3)
        have hw155_2 := hx155_2
        (try rw [show ((0 : Int)).toNat = 0 from rfl] at hw155_2)
        (try rw [show 0 * 5 = 0 from rfl] at hw155_2)
        (try rw [Addr.add_zero'] at hw155_2)
        have hw155_1 := hx155_1
        (try rw [show ((0 : Int)).toNat = 0 from rfl] at hw155_1)
        (try rw [show 0 * 5 = 0 from rfl] at hw155_1)
        (try rw [Addr.add_zero'] at hw155_1)
        have hw155_0 := hx155_0
        (try rw [show ((0 : Int)).toNat = 0 from rfl] at hw155_0)
        (try rw [show 0 * 5 = 0 from rfl] at hw155_0)
        (try rw [Addr.add_zero'] at hw155_0)
        cases e155
        have qi155 : (0 < l0_4.length) = True := eq_true (by omega)
        (try rw [show ((0 : Int)).toNat = 0 from rfl] at hx155_0)
        (try rw [show 0 * 5 = 0 from rfl] at hx155_0)
        (try rw [Addr.add_zero'] at hx155_0)
        (try rw [show ((0 : Int)).toNat = 0 from rfl] at hx155_1)
        (try rw [show 0 * 5 = 0 from rfl] at hx155_1)
        (try rw [Addr.add_zero'] at hx155_1)
        (try rw [show ((0 : Int)).toNat = 0 from rfl] at hx155_2)
        (try rw [show 0 * 5 = 0 from rfl] at hx155_2)
        (try rw [Addr.add_zero'] at hx155_2)
        (try rw [show ((0 : Int)).toNat = 0 from rfl] at hx155_3)
        (try rw [show 0 * 5 = 0 from rfl] at hx155_3)
        (try rw [Addr.add_zero'] at hx155_3)
        (try rw [show ((0 : Int)).toNat = 0 from rfl] at hx155_4)
        (try rw [show 0 * 5 = 0 from rfl] at hx155_4)
        (try rw [Addr.add_zero'] at hx155_4)
        replace hx155_0 := (HB.out.cell (World.block_lt_of_cell? w _ hx155_0)).trans hx155_0
        replace hx155_1 := (HB.out.cell (World.block_lt_of_cell? w _ hx155_1)).trans hx155_1
        replace hx155_2 := (HB.out.cell (World.block_lt_of_cell? w _ hx155_2)).trans hx155_2
        replace hx155_3 := (HB.out.cell (World.block_lt_of_cell? w _ hx155_3)).trans hx155_3
        replace hx155_4 := (HB.out.cell (World.block_lt_of_cell? w _ hx155_4)).trans hx155_4
        have HR155_4 := z0 hi155_4
        have HC155_4 := z0 hl155_4
        clear hi155_4 hl155_4
        replace p155 := eq_true p155
        replace q155 := eq_true q155
        have p159 : 0 ≤ (1 : Int) := (by omega)
        have q159 : 1 < (l0_4.length : Int) := of_decide_eq_true (by first | (with_reducible assumption) | assumption)
        obtain ⟨ad159, A159_4, c159_4, e159, hx159_0, hx159_1, hx159_2, hx159_3, hx159_4, hl159_4, hi159_4⟩ := at_T46 HR0_4.out 1 p159 q159
        have hw159_4 := hx159_4
        (try rw [show ((1 : Int)).toNat = 1 from rfl] at hw159_4)
        (try rw [show 1 * 5 = 5 from rfl] at hw159_4)
        (try simp only [Nat.reduceMul, Nat.reduceEqDiff, Go.Addr.add, ↓reduceIte] at hw159_4)
        have hw159_3 := hx159_3
        (try rw [show ((1 : Int)).toNat = 1 from rfl] at hw159_3)
        (try rw [show 1 * 5 = 5 from rfl] at hw159_3)
        (try simp only [Nat.reduceMul, Nat.reduceEqDiff, Go.Addr.add, ↓reduceIte] at hw159_3)
        have hw159_2 := hx159_2
        (try rw [show ((1 : Int)).toNat = 1 from rfl] at hw159_2)
        (try rw [show 1 * 5 = 5 from rfl] at hw159_2)
        (try simp only [Nat.reduceMul, Nat.reduceEqDiff, Go.Addr.add, ↓reduceIte] at hw159_2)
        have hw159_1 := hx159_1
        (try rw [show ((1 : Int)).toNat = 1 from rfl] at hw159_1)
        (try rw [show 1 * 5 = 5 from rfl] at hw159_1)
        (try simp only [Nat.reduceMul, Nat.reduceEqDiff, Go.Addr.add, ↓reduceIte] at hw159_1)
        have hw159_0 := hx159_0
        (try rw [show ((1 : Int)).toNat = 1 from rfl] at hw159_0)
        (try rw [show 1 * 5 = 5 from rfl] at hw159_0)
        (try simp only [Nat.reduceMul, Nat.reduceEqDiff, Go.Addr.add, ↓reduceIte] at hw159_0)
        obtain rfl : ad155 = ad159 := (by injection e159)
        (try simp only [show (1 : Int).toNat = 1 from rfl, Nat.reduceMul, Nat.reduceEqDiff, Go.Addr.add, ↓reduceIte] at hx159_0)
        (try simp only [show (1 : Int).toNat = 1 from rfl, Nat.reduceMul, Nat.reduceEqDiff, Go.Addr.add, ↓reduceIte] at hx159_1)
        (try simp only [show (1 : Int).toNat = 1 from rfl, Nat.reduceMul, Nat.reduceEqDiff, Go.Addr.add, ↓reduceIte] at hx159_2)
        (try simp only [show (1 : Int).toNat = 1 from rfl, Nat.reduceMul, Nat.reduceEqDiff, Go.Addr.add, ↓reduceIte] at hx159_3)
        (try simp only [show (1 : Int).toNat = 1 from rfl, Nat.reduceMul, Nat.reduceEqDiff, Go.Addr.add, ↓reduceIte] at hx159_4)
        have qi159 : (1 < l0_4.length) = True := eq_true (by omega)
        (try rw [show ((1 : Int)).toNat = 1 from rfl] at hx159_0)
        (try rw [show 1 * 5 = 5 from rfl] at hx159_0)
        (try rw [show ((1 : Int)).toNat = 1 from rfl] at hx159_1)
        (try rw [show 1 * 5 = 5 from rfl] at hx159_1)
        (try rw [show ((1 : Int)).toNat = 1 from rfl] at hx159_2)
        (try rw [show 1 * 5 = 5 from rfl] at hx159_2)
        (try rw [show ((1 : Int)).toNat = 1 from rfl] at hx159_3)
        (try rw [show 1 * 5 = 5 from rfl] at hx159_3)
        (try rw [show ((1 : Int)).toNat = 1 from rfl] at hx159_4)
        (try rw [show 1 * 5 = 5 from rfl] at hx159_4)
        replace hx159_0 := (HB.out.cell (World.block_lt_of_cell? w _ hx159_0)).trans hx159_0
        replace hx159_1 := (HB.out.cell (World.block_lt_of_cell? w _ hx159_1)).trans hx159_1
        replace hx159_2 := (HB.out.cell (World.block_lt_of_cell? w _ hx159_2)).trans hx159_2
        replace hx159_3 := (HB.out.cell (World.block_lt_of_cell? w _ hx159_3)).trans hx159_3
        replace hx159_4 := (HB.out.cell (World.block_lt_of_cell? w _ hx159_4)).trans hx159_4
        have HR159_4 := z0 hi159_4
        have HC159_4 := z0 hl159_4
        clear hi159_4 hl159_4
        replace p159 := eq_true p159
        replace q159 := eq_true q159
        refine start_ (n := 17) (S := fun w' => w'.cell? ⟨gb138, 0, none⟩ = some (.int .i64 a0_0) ∧ w'.cell? ⟨gb138, 1, none⟩ = some (.int .i64 a0_1) ∧ w'.cell? ⟨gb138, 2, none⟩ = some (.int .i64 a0_2) ∧ w'.cell? ⟨gb138, 3, none⟩ = some (.int .i64 a0_3) ∧ w'.cell? ⟨gb138, 4, none⟩ = some (.slice (some ad155) l0_4.length c0_4) ∧ w'.cell? ad155 = some (.int .i64 ((rd_T46 l0_4 0).f0)) ∧ w'.cell? ⟨ad155.block, ad155.off + 1, none⟩ = some (.int .i64 ((rd_T46 l0_4 0).f1)) ∧ w'.cell? ⟨ad155.block, ad155.off + 2, none⟩ = some (.int .i64 ((rd_T46 l0_4 0).f2.f0)) ∧ w'.cell? ⟨ad155.block, ad155.off + 3, none⟩ = some (.int .i64 ((rd_T46 l0_4 0).f2.f1)) ∧ w'.cell? ⟨ad155.block, ad155.off + 4, none⟩ = some (.slice A155_4 ((rd_T46 l0_4 0).f3).length c155_4) ∧ w'.cell? ⟨ad155.block, ad155.off + 5, none⟩ = some (.int .i64 ((rd_T46 l0_4 1).f0)) ∧ w'.cell? ⟨ad155.block, ad155.off + 5 + 1, none⟩ = some (.int .i64 ((rd_T46 l0_4 1).f1)) ∧ w'.cell? ⟨ad155.block, ad155.off + 5 + 2, none⟩ = some (.int .i64 ((rd_T46 l0_4 1).f2.f0)) ∧ w'.cell? ⟨ad155.block, ad155.off + 5 + 3, none⟩ = some (.int .i64 ((rd_T46 l0_4 1).f2.f1)) ∧ w'.cell? ⟨ad155.block, ad155.off + 5 + 4, none⟩ = some (.slice A159_4 ((rd_T46 l0_4 1).f3).length c159_4)) (ds := []) #[false, false, false, false, false, false, false, false, false, false, false, false, false, false, false, false, false] (by kernel_rfl) rfl rfl q98_1 (fun hHeld => ?_); refine with_tabW spec_l5Expr.tab8 spec_l5Expr.bits8 (fun HT_ HW_ => ?_)
        generalize w3.drew = w29 at BK138 HB HR155_4 HR159_4 hx155_0 hx155_1 hx155_2 hx155_3 hx155_4 hx159_0 hx159_1 hx159_2 hx159_3 hx159_4 hHeld ⊢
        refine pure_ (i := 0) (N := some 27) (v := ?_) (a' := ?_) #[true, false, false, false, false, false, false, false, false, false, false, false, false, false, false, false, false] rfl rfl (any_of HT_.out (by kernel_rfl)) (fun _ _ _ h => h) (Or.inl ⟨by rfl, ?_⟩) ?_ ?_
        rotate_left
        ·intro w'
         go_simp
         with_reducible rfl
        rotate_left
        ·simp only [Act.put, List.setIfInBounds_toArray, List.set_cons_zero, List.set_cons_succ, i64_w, i32_w]
         rfl
        refine pure_ (i := 5) (N := some 32) (v := ?_) (a' := ?_) #[true, false, false, false, false, true, false, false, false, false, false, false, false, false, false, false, false] rfl rfl (any_of HT_.out (by kernel_rfl)) (fun _ _ _ h => h) (Or.inl ⟨by rfl, ?_⟩) ?_ ?_
        rotate_left
        ·intro w'
         go_simp
         with_reducible rfl
        rotate_left
        ·simp only [Act.put, List.setIfInBounds_toArray, List.set_cons_zero, List.set_cons_succ, i64_w, i32_w]
         rfl
        refine pure_ (i := 11) (N := some 38) (v := ?_) (a' := ?_) #[true, false, false, false, false, true, false, false, false, false, false, true, false, false, false, false, false] rfl rfl (any_of HT_.out (by kernel_rfl)) (fun _ _ _ h => h) (Or.inl ⟨by rfl, ?_⟩) ?_ ?_
        rotate_left
        ·intro w'
         go_simp
         with_reducible rfl
        rotate_left
        ·simp only [Act.put, List.setIfInBounds_toArray, List.set_cons_zero, List.set_cons_succ, i64_w, i32_w]
         rfl
        refine take_ (i := 1) (N := some 28) (v := ?_) (a' := ?_) #[true, true, false, false, false, true, false, false, false, false, false, true, false, false, false, false, false] rfl rfl (take_ofW HT_.out HW_.out (by kernel_rfl)) (fun _ _ _ h => h) (Or.inl ⟨by rfl, ?_⟩) hHeld ?_ ?_
        rotate_left
        ·rintro w' ⟨s0, s1, s2, s3, s4, s5, s6, s7, s8, s9, s10, s11, s12, s13, s14⟩
         go_simp
         with_reducible rfl
        rotate_left
        ·simp only [Act.put, List.setIfInBounds_toArray, List.set_cons_zero, List.set_cons_succ, i64_w, i32_w]
         rfl
        refine pure_ (i := 2) (N := some 29) (v := ?_) (a' := ?_) #[true, true, true, false, false, true, false, false, false, false, false, true, false, false, false, false, false] rfl rfl (any_of HT_.out (by kernel_rfl)) (fun _ _ _ h => h) (Or.inl ⟨by rfl, ?_⟩) ?_ ?_
        rotate_left
        ·intro w'
         go_simp
         with_reducible rfl
        rotate_left
        ·simp only [Act.put, List.setIfInBounds_toArray, List.set_cons_zero, List.set_cons_succ, i64_w, i32_w]
         rfl
        refine take_ (i := 3) (N := some 30) (v := ?_) (a' := ?_) #[true, true, true, true, false, true, false, false, false, false, false, true, false, false, false, false, false] rfl rfl (take_ofW HT_.out HW_.out (by kernel_rfl)) (fun _ _ _ h => h) (Or.inl ⟨by rfl, ?_⟩) hHeld ?_ ?_
        rotate_left
        ·rintro w' ⟨s0, s1, s2, s3, s4, s5, s6, s7, s8, s9, s10, s11, s12, s13, s14⟩
         go_simp
         with_reducible rfl
        rotate_left
        ·simp only [Act.put, List.setIfInBounds_toArray, List.set_cons_zero, List.set_cons_succ, i64_w, i32_w]
         rfl
        refine take_ (i := 6) (N := some 33) (v := ?_) (a' := ?_) #[true, true, true, true, false, true, true, false, false, false, false, true, false, false, false, false, false] rfl rfl (take_ofW HT_.out HW_.out (by kernel_rfl)) (fun _ _ _ h => h) (Or.inl ⟨by rfl, ?_⟩) hHeld ?_ ?_
        rotate_left
        ·rintro w' ⟨s0, s1, s2, s3, s4, s5, s6, s7, s8, s9, s10, s11, s12, s13, s14⟩
         go_simp
         with_reducible rfl
        rotate_left
        ·simp only [Act.put, List.setIfInBounds_toArray, List.set_cons_zero, List.set_cons_succ, i64_w, i32_w]
         rfl
        refine pure_ (i := 7) (N := some 34) (v := ?_) (a' := ?_) #[true, true, true, true, false, true, true, true, false, false, false, true, false, false, false, false, false] rfl rfl (any_of HT_.out (by kernel_rfl)) (fun _ _ _ h => h) (Or.inl ⟨by rfl, ?_⟩) ?_ ?_
        rotate_left
        ·intro w'
         go_simp
         with_reducible rfl
        rotate_left
        ·simp only [Act.put, List.setIfInBounds_toArray, List.set_cons_zero, List.set_cons_succ, i64_w, i32_w]
         rfl
        refine take_ (i := 8) (N := some 35) (v := ?_) (a' := ?_) #[true, true, true, true, false, true, true, true, true, false, false, true, false, false, false, false, false] rfl rfl (take_ofW HT_.out HW_.out (by kernel_rfl)) (fun _ _ _ h => h) (Or.inl ⟨by rfl, ?_⟩) hHeld ?_ ?_
        rotate_left
        ·rintro w' ⟨s0, s1, s2, s3, s4, s5, s6, s7, s8, s9, s10, s11, s12, s13, s14⟩
         go_simp
         with_reducible rfl
        rotate_left
        ·simp only [Act.put, List.setIfInBounds_toArray, List.set_cons_zero, List.set_cons_succ, i64_w, i32_w]
         rfl
        refine take_ (i := 12) (N := some 39) (v := ?_) (a' := ?_) #[true, true, true, true, false, true, true, true, true, false, false, true, true, false, false, false, false] rfl rfl (take_ofW HT_.out HW_.out (by kernel_rfl)) (fun _ _ _ h => h) (Or.inl ⟨by rfl, ?_⟩) hHeld ?_ ?_
        rotate_left
        ·rintro w' ⟨s0, s1, s2, s3, s4, s5, s6, s7, s8, s9, s10, s11, s12, s13, s14⟩
         go_simp
         with_reducible rfl
        rotate_left
        ·simp only [Act.put, List.setIfInBounds_toArray, List.set_cons_zero, List.set_cons_succ, i64_w, i32_w]
         rfl
        refine pure_ (i := 13) (N := some 40) (v := ?_) (a' := ?_) #[true, true, true, true, false, true, true, true, true, false, false, true, true, true, false, false, false] rfl rfl (any_of HT_.out (by kernel_rfl)) (fun _ _ _ h => h) (Or.inl ⟨by rfl, ?_⟩) ?_ ?_
        rotate_left
        ·intro w'
         go_simp
         with_reducible rfl
        rotate_left
        ·simp only [Act.put, List.setIfInBounds_toArray, List.set_cons_zero, List.set_cons_succ, i64_w, i32_w]
         rfl
        refine join_ (σ := Value × Value × Value × Value) 2 #[true, true, true, true, true, true, true, true, true, true, true, true, true, true, true, false, false] (fun s_ => [(31, s_.1), (36, s_.2.1), (37, s_.2.2.1), (41, s_.2.2.2)]) (fun s_ w' => (w'.cell? ⟨gb138, 0, none⟩ = some (.int .i64 a0_0) ∧ w'.cell? ⟨gb138, 1, none⟩ = some (.int .i64 a0_1) ∧ w'.cell? ⟨gb138, 2, none⟩ = some (.int .i64 a0_2) ∧ w'.cell? ⟨gb138, 3, none⟩ = some (.int .i64 a0_3) ∧ w'.cell? ⟨gb138, 4, none⟩ = some (.slice (some ad155) l0_4.length c0_4) ∧ w'.cell? ad155 = some (.int .i64 ((rd_T46 l0_4 0).f0)) ∧ w'.cell? ⟨ad155.block, ad155.off + 1, none⟩ = some (.int .i64 ((rd_T46 l0_4 0).f1)) ∧ w'.cell? ⟨ad155.block, ad155.off + 2, none⟩ = some (.int .i64 ((rd_T46 l0_4 0).f2.f0)) ∧ w'.cell? ⟨ad155.block, ad155.off + 3, none⟩ = some (.int .i64 ((rd_T46 l0_4 0).f2.f1)) ∧ w'.cell? ⟨ad155.block, ad155.off + 4, none⟩ = some (.slice A155_4 ((rd_T46 l0_4 0).f3).length c155_4) ∧ w'.cell? ⟨ad155.block, ad155.off + 5, none⟩ = some (.int .i64 ((rd_T46 l0_4 1).f0)) ∧ w'.cell? ⟨ad155.block, ad155.off + 5 + 1, none⟩ = some (.int .i64 ((rd_T46 l0_4 1).f1)) ∧ w'.cell? ⟨ad155.block, ad155.off + 5 + 2, none⟩ = some (.int .i64 ((rd_T46 l0_4 1).f2.f0)) ∧ w'.cell? ⟨ad155.block, ad155.off + 5 + 3, none⟩ = some (.int .i64 ((rd_T46 l0_4 1).f2.f1)) ∧ w'.cell? ⟨ad155.block, ad155.off + 5 + 4, none⟩ = some (.slice A159_4 ((rd_T46 l0_4 1).f3).length c159_4)) ∧ (Kd.R k39 39 w' w.heap.size (fun k_ => some k_ ≠ (s_.2.2.1 : Value).ownBlock ∧ some k_ ≠ (s_.2.2.2 : Value).ownBlock) s_.2.1 t160) ∧ (Kd.R k39 39 w' w.heap.size (fun k_ => some k_ ≠ (s_.2.1 : Value).ownBlock ∧ some k_ ≠ (s_.2.2.2 : Value).ownBlock) s_.2.2.1 y163) ∧ (Kd.R k39 39 w' w.heap.size (fun k_ => some k_ ≠ (s_.2.1 : Value).ownBlock ∧ some k_ ≠ (s_.2.2.1 : Value).ownBlock) s_.2.2.2 y166) ∧ (w'.heap[gb138]? = some (.cells #[.int .i64 a0_0, .int .i64 a0_1, .int .i64 a0_2, .int .i64 a0_3, .slice (some ad155) l0_4.length c0_4] 46 (0, 0))) ∧ (Below w.heap.size w w')) ?_ ?_
        rotate_left
        ·intro hCont
         refine two_ (i := 4) (j := 14) (Ni := some 31) (Nj := some 41) #[true, true, true, true, true, true, true, true, true, false, false, true, true, true, false, false, false] #[true, true, true, true, false, true, true, true, true, false, false, true, true, true, true, false, false] rfl rfl rfl rfl (two_of HT_.out (by kernel_rfl)) (by decide) (by decide) (fun K hK => ?_) (fun K hK => ?_)
         ·skip
          refine goes_ Try.func98 (by kernel_rfl) rfl #[.agg #[.int .i64 ((rd_T46 l0_4 0).f0), .int .i64 ((rd_T46 l0_4 0).f1), .int .i64 ((rd_T46 l0_4 0).f2.f0), .int .i64 ((rd_T46 l0_4 0).f2.f1), .slice A155_4 ((rd_T46 l0_4 0).f3).length c155_4]] (by rfl) rfl rfl argx ?_
          with_reducible refine (ih k (by omega) ((rd_T46 l0_4 0).f0) ((rd_T46 l0_4 0).f1) ((rd_T46 l0_4 0).f2.f0) ((rd_T46 l0_4 0).f2.f1) _ _ ((rd_T46 l0_4 0).f3) t156 _ ?side1 ?side2 A24.out).mono ?_
          (case side1 => exact mC (Kd.C_below HR155_4.out HB.out))
          (case side2 => exact HC155_4.out)
          rintro e w30 ⟨v157, rfl, ho0, hb⟩
          refine ⟨_, rfl, ?_⟩
          have n_ := az (Kd.R_lower ho0 (below_size (mB HB.out))) <| az (bB BK138.out hb) <| z0 (below_step (mB HB.out) hb)
          clear BK138 HB
          obtain ⟨HO158, BK138, HB⟩ := n_
          (try clear hb)
          (try clear hb2)
          (try clear hk)
          (try clear hi)
          (try clear ho0)
          refine hK.out _ _ q98_1 (fun hHeld => ?_)
          clear hK K
          refine norm_ (a' := ?_) ?_ ?_
          rotate_left
          ·show Act.put _ (some 31) _ = _
           simp only [Act.put, List.setIfInBounds_toArray, List.set_cons_zero, List.set_cons_succ, i64_w, i32_w]
           rfl
          refine two_ (i := 9) (j := 14) (Ni := some 36) (Nj := some 41) #[true, true, true, true, true, true, true, true, true, true, false, true, true, true, false, false, false] #[true, true, true, true, true, true, true, true, true, false, false, true, true, true, true, false, false] rfl rfl rfl rfl (two_of HT_.out (by kernel_rfl)) (by decide) (by decide) (fun K hK => ?_) (fun K hK => ?_)
          ·skip
           refine goes_ Try.func98 (by kernel_rfl) rfl #[.agg #[.int .i64 ((rd_T46 l0_4 1).f0), .int .i64 ((rd_T46 l0_4 1).f1), .int .i64 ((rd_T46 l0_4 1).f2.f0), .int .i64 ((rd_T46 l0_4 1).f2.f1), .slice A159_4 ((rd_T46 l0_4 1).f3).length c159_4]] (by rfl) rfl rfl argx ?_
           with_reducible refine (ih k (by omega) ((rd_T46 l0_4 1).f0) ((rd_T46 l0_4 1).f1) ((rd_T46 l0_4 1).f2.f0) ((rd_T46 l0_4 1).f2.f1) _ _ ((rd_T46 l0_4 1).f3) t160 _ ?side1 ?side2 A26.out).mono ?_
           (case side1 => exact mC (Kd.C_below HR159_4.out HB.out))
           (case side2 => exact HC159_4.out)
           rintro e w31 ⟨v161, rfl, ho0, hb⟩
           refine ⟨_, rfl, ?_⟩
           have n_ := az (Kd.R_elder' (mR HO158.out) (by first | exact Kd.R_base ho0 | exact Kd.R_base ho0) hb) <| And.intro (z0 (Kd.R_lower (Kd.R_new' ho0 (Kd.R_lt (mR HO158.out))) (below_size (mB HB.out)))) <| az (bB BK138.out hb) <| z0 (below_step (mB HB.out) hb)
           clear HO158 BK138 HB
           obtain ⟨HO158, HO162, BK138, HB⟩ := n_
           (try clear hb)
           (try clear hb2)
           (try clear hk)
           (try clear hi)
           (try clear ho0)
           obtain ⟨Ao33, co33, eo33⟩ := Kd.R_slice HO162.out
           (first | subst eo33 | (injection eo33 with f1_ f2_ f3_; have f4_ := f1_.symm; have f5_ := f3_.symm; clear f1_ f2_ f3_; subst f4_; subst f5_))
           refine hK.out _ _ q98_1 (fun hHeld => ?_)
           clear hK K
           refine norm_ (a' := ?_) ?_ ?_
           rotate_left
           ·show Act.put _ (some 36) _ = _
            simp only [Act.put, List.setIfInBounds_toArray, List.set_cons_zero, List.set_cons_succ, i64_w, i32_w]
            rfl
           refine two_ (i := 10) (j := 14) (Ni := some 37) (Nj := some 41) #[true, true, true, true, true, true, true, true, true, true, true, true, true, true, false, false, false] #[true, true, true, true, true, true, true, true, true, true, false, true, true, true, true, false, false] rfl rfl rfl rfl (two_of HT_.out (by kernel_rfl)) (by decide) (by decide) (fun K hK => ?_) (fun K hK => ?_)
           ·skip
            refine Kd.R_append_rows_step k39 (w0 := w) w.heap.size (by rfl) (.tmp 31) (.tmp 36) 24 39 (.agg #[(.int .i64 0), (.int .i64 0), (.int .i64 0), (.int .i64 0)]) 32 rfl Try.underlying24 info39 rfl (by decide) (by omega) v157 t156 t160 _ _ _ (fun k_ => nB k_ (.slice Ao33 t160.length co33)) (fun _ => False) rfl rfl ?aO ?aR (fun _ _ h => h) (fun _ h => h.elim) ?aF ?aB ?aS ?aL ?_
            (case aR => exact mC (Kd.R_reads' HO162.out).2.2)
            (case aB => exact (mB HB.out))
            (case aF => exact (fun k_ hk => Kd.fresh' (Kd.R_lt (mR HO162.out)) k_ hk))
            (case aO => exact (by (with_reducible repeat (first | apply Kd.R_alloc | apply Kd.R_drewN | apply Kd.R_drew)); exact Kd.R_mono HO158.out (fun _ hk => hk.2)))
            (case aS => exact (below_size (mB HB.out)))
            (case aL => have := LMc27.out; omega)
            intro v164 w32 ho hb hg hat
            rw [← Ny163.out] at ho
            have n_ := az (blk_grown (g := gb138) (o := .cells #[.int .i64 a0_0, .int .i64 a0_1, .int .i64 a0_2, .int .i64 a0_3, .slice (some ad155) l0_4.length c0_4] 46 (0, 0)) (mK BK138.out) hg (Kd.R_ne HO158.out BK138.out (by decide))) <| az (Kd.R_after (ok := (fun _ => True)) (mR HO162.out) hg hat) <| az (hb) <| z0 (ho)
            clear BK138 HO162 HB HO158
            obtain ⟨BK138, HO162, HB, HO165⟩ := n_
            clear ho hb hg hat
            refine hK.out _ _ q98_1 (fun hHeld => ?_)
            clear hK K
            refine norm_ (a' := ?_) ?_ ?_
            rotate_left
            ·show Act.put _ (some 37) _ = _
             simp only [Act.put, List.setIfInBounds_toArray, List.set_cons_zero, List.set_cons_succ, i64_w, i32_w]
             rfl
            refine one_ (i := 14) (N := some 41) #[true, true, true, true, true, true, true, true, true, true, true, true, true, true, true, false, false] rfl rfl (one_of HT_.out (by kernel_rfl)) (by decide) (fun K hK => ?_)
            refine Kd.R_lit_step k39 _ 39 ?hg (N := 41) ?hd (xs := ([(⟨4, a0_0, (⟨0, 0⟩ : S37)⟩ : S39)] : List (S39))) (inner := [.int .i64 4, .int .i64 a0_0, .int .i64 0, .int .i64 0]) (ok := fun _ => True) (okp := fun _ => True) ?hr ?hp (fun _ hk => hk) trivial (Below.refl _ _) (Nat.le_refl _) (by simp) ?_; (case hd => rfl); (case hg => rfl); (case hr => first | (go_simp; done) | (go_simp; rfl)); (case hp => exact (Reps.c4 (show Kd.M k39 _ _ _ (⟨4, a0_0, (⟨0, 0⟩ : S37)⟩ : S39) [.int .i64 4, .int .i64 a0_0, .int .i64 0, .int .i64 0] from (k39_mkM _ _ _ (⟨4, a0_0, (⟨0, 0⟩ : S37)⟩ : S39) )) (Reps.none _ _)))
            intro v167 w34 ho35 hb hg_ hnew_
            clear hg_ hnew_
            (first | rw [← Ny166.out] at ho35 | (simp only [Int.reduceToNat] at ho35; rw [← Ny166.out] at ho35))
            have n_ := az (Kd.R_elder' (mR HO162.out) (by first | exact Kd.R_base ho35 | exact Kd.R_base ho35) hb) <| az (Kd.R_elder' (mR HO165.out) (by first | exact Kd.R_base ho35 | exact Kd.R_base ho35) hb) <| And.intro (z0 (Kd.R_lower (Kd.R_new' (Kd.R_new' ho35 (Kd.R_lt (mR HO162.out))) (Kd.R_lt (mR HO165.out))) (below_size (mB HB.out)))) <| az (bB BK138.out hb) <| z0 (below_step (mB HB.out) hb)
            clear HO162 HO165 BK138 HB
            obtain ⟨HO162, HO165, HO168, BK138, HB⟩ := n_
            clear hb ho35
            refine hK.out _ _ q98_1 (fun hHeld => ?_)
            clear hK K
            refine norm_ (a' := ?_) ?_ ?_
            rotate_left
            ·show Act.put _ (some 41) _ = _
             simp only [Act.put, List.setIfInBounds_toArray, List.set_cons_zero, List.set_cons_succ, i64_w, i32_w]
             rfl
            exact norm_ (by simp only [putAll, Act.put, List.setIfInBounds_toArray, List.set_cons_zero, List.set_cons_succ]) (hCont (v157, .slice Ao33 t160.length co33, v164, v167) _ ⟨hHeld, (by (with_reducible repeat (first | apply Kd.R_alloc | apply Kd.R_drewN | apply Kd.R_drew)); exact Kd.R_mono HO162.out (fun _ hk => ⟨hk.1.2, hk.2⟩)), (mR HO165.out), (by (with_reducible repeat (first | apply Kd.R_alloc | apply Kd.R_drewN | apply Kd.R_drew)); exact Kd.R_mono HO168.out (fun _ hk => ⟨hk.1.2, hk.2⟩)), (mK BK138.out), (mB HB.out)⟩)
           ·skip
            refine Kd.R_lit_step k39 _ 39 ?hg (N := 41) ?hd (xs := ([(⟨4, a0_0, (⟨0, 0⟩ : S37)⟩ : S39)] : List (S39))) (inner := [.int .i64 4, .int .i64 a0_0, .int .i64 0, .int .i64 0]) (ok := fun _ => True) (okp := fun _ => True) ?hr ?hp (fun _ hk => hk) trivial (Below.refl _ _) (Nat.le_refl _) (by simp) ?_; (case hd => rfl); (case hg => rfl); (case hr => first | (go_simp; done) | (go_simp; rfl)); (case hp => exact (Reps.c4 (show Kd.M k39 _ _ _ (⟨4, a0_0, (⟨0, 0⟩ : S37)⟩ : S39) [.int .i64 4, .int .i64 a0_0, .int .i64 0, .int .i64 0] from (k39_mkM _ _ _ (⟨4, a0_0, (⟨0, 0⟩ : S37)⟩ : S39) )) (Reps.none _ _)))
            intro v167 w32 ho33 hb hg_ hnew_
            clear hg_ hnew_
            (first | rw [← Ny166.out] at ho33 | (simp only [Int.reduceToNat] at ho33; rw [← Ny166.out] at ho33))
            have n_ := az (Kd.R_elder' (mR HO158.out) (by first | exact Kd.R_base ho33 | exact Kd.R_base ho33) hb) <| az (Kd.R_elder' (mR HO162.out) (by first | exact Kd.R_base ho33 | exact Kd.R_base ho33) hb) <| And.intro (z0 (Kd.R_lower (Kd.R_new' (Kd.R_new' ho33 (Kd.R_lt (mR HO158.out))) (Kd.R_lt (mR HO162.out))) (below_size (mB HB.out)))) <| az (bB BK138.out hb) <| z0 (below_step (mB HB.out) hb)
            clear HO158 HO162 BK138 HB
            obtain ⟨HO158, HO162, HO168, BK138, HB⟩ := n_
            clear hb ho33
            obtain ⟨Ao35, co35, eo35⟩ := Kd.R_slice HO162.out
            (first | subst eo35 | (injection eo35 with f1_ f2_ f3_; have f4_ := f1_.symm; have f5_ := f3_.symm; clear f1_ f2_ f3_; subst f4_; subst f5_))
            refine hK.out _ _ q98_1 (fun hHeld => ?_)
            clear hK K
            refine norm_ (a' := ?_) ?_ ?_
            rotate_left
            ·show Act.put _ (some 41) _ = _
             simp only [Act.put, List.setIfInBounds_toArray, List.set_cons_zero, List.set_cons_succ, i64_w, i32_w]
             rfl
            refine one_ (i := 10) (N := some 37) #[true, true, true, true, true, true, true, true, true, true, true, true, true, true, true, false, false] rfl rfl (one_of HT_.out (by kernel_rfl)) (by decide) (fun K hK => ?_)
            refine Kd.R_append_rows_step k39 (w0 := w) w.heap.size (by rfl) (.tmp 31) (.tmp 36) 24 39 (.agg #[(.int .i64 0), (.int .i64 0), (.int .i64 0), (.int .i64 0)]) 32 rfl Try.underlying24 info39 rfl (by decide) (by omega) v157 t156 t160 _ _ _ (fun k_ => nB k_ (.slice Ao35 t160.length co35) ∧ nB k_ v167) (fun _ => False) rfl rfl ?aO ?aR (fun _ _ h => h) (fun _ h => h.elim) ?aF ?aB ?aS ?aL ?_
            (case aR => exact mC (Kd.R_reads' HO162.out).2.2)
            (case aB => exact (mB HB.out))
            (case aF => exact (fun k_ hk => ⟨Kd.fresh' (Kd.R_lt (mR HO162.out)) k_ hk, Kd.fresh' (Kd.R_lt (mR HO168.out)) k_ hk⟩))
            (case aO => exact (by (with_reducible repeat (first | apply Kd.R_alloc | apply Kd.R_drewN | apply Kd.R_drew)); exact Kd.R_mono HO158.out (fun _ hk => ⟨hk.1.2, hk.2⟩)))
            (case aS => exact (below_size (mB HB.out)))
            (case aL => have := LMc27.out; omega)
            intro v164 w34 ho hb hg hat
            rw [← Ny163.out] at ho
            have n_ := az (blk_grown (g := gb138) (o := .cells #[.int .i64 a0_0, .int .i64 a0_1, .int .i64 a0_2, .int .i64 a0_3, .slice (some ad155) l0_4.length c0_4] 46 (0, 0)) (mK BK138.out) hg (Kd.R_ne HO158.out BK138.out (by decide))) <| And.intro (z0 (Kd.R_after (ok := (fun k_ => nB k_ v167)) (by (with_reducible repeat (first | apply Kd.R_alloc | apply Kd.R_drewN | apply Kd.R_drew)); exact Kd.R_mono HO162.out (fun _ hk => ⟨hk.2, hk.1.2⟩)) hg hat)) <| And.intro (z0 (Kd.R_after (ok := (fun k_ => nB k_ (.slice Ao35 t160.length co35))) (by (with_reducible repeat (first | apply Kd.R_alloc | apply Kd.R_drewN | apply Kd.R_drew)); exact Kd.R_mono HO168.out (fun _ hk => ⟨hk.2, hk.1.2⟩)) hg hat)) <| az (hb) <| z0 (ho)
            clear BK138 HO162 HO168 HB HO158
            obtain ⟨BK138, HO162, HO168, HB, HO165⟩ := n_
            clear ho hb hg hat
            refine hK.out _ _ q98_1 (fun hHeld => ?_)
            clear hK K
            refine norm_ (a' := ?_) ?_ ?_
            rotate_left
            ·show Act.put _ (some 37) _ = _
             simp only [Act.put, List.setIfInBounds_toArray, List.set_cons_zero, List.set_cons_succ, i64_w, i32_w]
             rfl
            exact norm_ (by simp only [putAll, Act.put, List.setIfInBounds_toArray, List.set_cons_zero, List.set_cons_succ]) (hCont (v157, .slice Ao35 t160.length co35, v164, v167) _ ⟨hHeld, q98_2, (mR HO165.out), (mR HO168.out), (mK BK138.out), (mB HB.out)⟩)
          ·skip
           refine Kd.R_lit_step k39 _ 39 ?hg (N := 41) ?hd (xs := ([(⟨4, a0_0, (⟨0, 0⟩ : S37)⟩ : S39)] : List (S39))) (inner := [.int .i64 4, .int .i64 a0_0, .int .i64 0, .int .i64 0]) (ok := fun _ => True) (okp := fun _ => True) ?hr ?hp (fun _ hk => hk) trivial (Below.refl _ _) (Nat.le_refl _) (by simp) ?_; (case hd => rfl); (case hg => rfl); (case hr => first | (go_simp; done) | (go_simp; rfl)); (case hp => exact (Reps.c4 (show Kd.M k39 _ _ _ (⟨4, a0_0, (⟨0, 0⟩ : S37)⟩ : S39) [.int .i64 4, .int .i64 a0_0, .int .i64 0, .int .i64 0] from (k39_mkM _ _ _ (⟨4, a0_0, (⟨0, 0⟩ : S37)⟩ : S39) )) (Reps.none _ _)))
           intro v167 w31 ho32 hb hg_ hnew_
           clear hg_ hnew_
           (first | rw [← Ny166.out] at ho32 | (simp only [Int.reduceToNat] at ho32; rw [← Ny166.out] at ho32))
           have n_ := az (Kd.R_elder' (mR HO158.out) (by first | exact Kd.R_base ho32 | exact Kd.R_base ho32) hb) <| And.intro (z0 (Kd.R_lower (Kd.R_new' ho32 (Kd.R_lt (mR HO158.out))) (below_size (mB HB.out)))) <| az (bB BK138.out hb) <| z0 (below_step (mB HB.out) hb)
           clear HO158 BK138 HB
           obtain ⟨HO158, HO168, BK138, HB⟩ := n_
           clear hb ho32
           refine hK.out _ _ q98_1 (fun hHeld => ?_)
           clear hK K
           refine norm_ (a' := ?_) ?_ ?_
           rotate_left
           ·show Act.put _ (some 41) _ = _
            simp only [Act.put, List.setIfInBounds_toArray, List.set_cons_zero, List.set_cons_succ, i64_w, i32_w]
            rfl
           refine one_ (i := 9) (N := some 36) #[true, true, true, true, true, true, true, true, true, true, false, true, true, true, true, false, false] rfl rfl (one_of HT_.out (by kernel_rfl)) (by decide) (fun K hK => ?_)
           refine goes_ Try.func98 (by kernel_rfl) rfl #[.agg #[.int .i64 ((rd_T46 l0_4 1).f0), .int .i64 ((rd_T46 l0_4 1).f1), .int .i64 ((rd_T46 l0_4 1).f2.f0), .int .i64 ((rd_T46 l0_4 1).f2.f1), .slice A159_4 ((rd_T46 l0_4 1).f3).length c159_4]] (by rfl) rfl rfl argx ?_
           with_reducible refine (ih k (by omega) ((rd_T46 l0_4 1).f0) ((rd_T46 l0_4 1).f1) ((rd_T46 l0_4 1).f2.f0) ((rd_T46 l0_4 1).f2.f1) _ _ ((rd_T46 l0_4 1).f3) t160 _ ?side1 ?side2 A26.out).mono ?_
           (case side1 => exact mC (Kd.C_below HR159_4.out HB.out))
           (case side2 => exact HC159_4.out)
           rintro e w33 ⟨v161, rfl, ho0, hb⟩
           refine ⟨_, rfl, ?_⟩
           have n_ := az (Kd.R_elder' (mR HO158.out) (by first | exact Kd.R_base ho0 | exact Kd.R_base ho0) hb) <| az (Kd.R_elder' (mR HO168.out) (by first | exact Kd.R_base ho0 | exact Kd.R_base ho0) hb) <| And.intro (z0 (Kd.R_lower (Kd.R_new' (Kd.R_new' ho0 (Kd.R_lt (mR HO158.out))) (Kd.R_lt (mR HO168.out))) (below_size (mB HB.out)))) <| az (bB BK138.out hb) <| z0 (below_step (mB HB.out) hb)
           clear HO158 HO168 BK138 HB
           obtain ⟨HO158, HO168, HO162, BK138, HB⟩ := n_
           (try clear hb)
           (try clear hb2)
           (try clear hk)
           (try clear hi)
           (try clear ho0)
           obtain ⟨Ao35, co35, eo35⟩ := Kd.R_slice HO162.out
           (first | subst eo35 | (injection eo35 with f1_ f2_ f3_; have f4_ := f1_.symm; have f5_ := f3_.symm; clear f1_ f2_ f3_; subst f4_; subst f5_))
           refine hK.out _ _ q98_1 (fun hHeld => ?_)
           clear hK K
           refine norm_ (a' := ?_) ?_ ?_
           rotate_left
           ·show Act.put _ (some 36) _ = _
            simp only [Act.put, List.setIfInBounds_toArray, List.set_cons_zero, List.set_cons_succ, i64_w, i32_w]
            rfl
           refine one_ (i := 10) (N := some 37) #[true, true, true, true, true, true, true, true, true, true, true, true, true, true, true, false, false] rfl rfl (one_of HT_.out (by kernel_rfl)) (by decide) (fun K hK => ?_)
           refine Kd.R_append_rows_step k39 (w0 := w) w.heap.size (by rfl) (.tmp 31) (.tmp 36) 24 39 (.agg #[(.int .i64 0), (.int .i64 0), (.int .i64 0), (.int .i64 0)]) 32 rfl Try.underlying24 info39 rfl (by decide) (by omega) v157 t156 t160 _ _ _ (fun k_ => nB k_ v167 ∧ nB k_ (.slice Ao35 t160.length co35)) (fun _ => False) rfl rfl ?aO ?aR (fun _ _ h => h) (fun _ h => h.elim) ?aF ?aB ?aS ?aL ?_
           (case aR => exact mC (Kd.R_reads' HO162.out).2.2)
           (case aB => exact (mB HB.out))
           (case aF => exact (fun k_ hk => ⟨Kd.fresh' (Kd.R_lt (mR HO168.out)) k_ hk, Kd.fresh' (Kd.R_lt (mR HO162.out)) k_ hk⟩))
           (case aO => exact (by (with_reducible repeat (first | apply Kd.R_alloc | apply Kd.R_drewN | apply Kd.R_drew)); exact Kd.R_mono HO158.out (fun _ hk => ⟨hk.1.2, hk.2⟩)))
           (case aS => exact (below_size (mB HB.out)))
           (case aL => have := LMc27.out; omega)
           intro v164 w34 ho hb hg hat
           rw [← Ny163.out] at ho
           have n_ := az (blk_grown (g := gb138) (o := .cells #[.int .i64 a0_0, .int .i64 a0_1, .int .i64 a0_2, .int .i64 a0_3, .slice (some ad155) l0_4.length c0_4] 46 (0, 0)) (mK BK138.out) hg (Kd.R_ne HO158.out BK138.out (by decide))) <| And.intro (z0 (Kd.R_after (ok := (fun k_ => nB k_ (.slice Ao35 t160.length co35))) (by (with_reducible repeat (first | apply Kd.R_alloc | apply Kd.R_drewN | apply Kd.R_drew)); exact Kd.R_mono HO168.out (fun _ hk => ⟨hk.2, hk.1.2⟩)) hg hat)) <| And.intro (z0 (Kd.R_after (ok := (fun k_ => nB k_ v167)) (by (with_reducible repeat (first | apply Kd.R_alloc | apply Kd.R_drewN | apply Kd.R_drew)); exact Kd.R_mono HO162.out (fun _ hk => ⟨hk.2, hk.1.2⟩)) hg hat)) <| az (hb) <| z0 (ho)
           clear BK138 HO168 HO162 HB HO158
           obtain ⟨BK138, HO168, HO162, HB, HO165⟩ := n_
           clear ho hb hg hat
           refine hK.out _ _ q98_1 (fun hHeld => ?_)
           clear hK K
           refine norm_ (a' := ?_) ?_ ?_
           rotate_left
           ·show Act.put _ (some 37) _ = _
            simp only [Act.put, List.setIfInBounds_toArray, List.set_cons_zero, List.set_cons_succ, i64_w, i32_w]
            rfl
           exact norm_ (by simp only [putAll, Act.put, List.setIfInBounds_toArray, List.set_cons_zero, List.set_cons_succ]) (hCont (v157, .slice Ao35 t160.length co35, v164, v167) _ ⟨hHeld, q98_2, (by (with_reducible repeat (first | apply Kd.R_alloc | apply Kd.R_drewN | apply Kd.R_drew)); exact Kd.R_mono HO165.out (fun _ hk => ⟨hk.2, hk.1⟩)), (mR HO168.out), (mK BK138.out), (mB HB.out)⟩)
         ·skip
          refine Kd.R_lit_step k39 _ 39 ?hg (N := 41) ?hd (xs := ([(⟨4, a0_0, (⟨0, 0⟩ : S37)⟩ : S39)] : List (S39))) (inner := [.int .i64 4, .int .i64 a0_0, .int .i64 0, .int .i64 0]) (ok := fun _ => True) (okp := fun _ => True) ?hr ?hp (fun _ hk => hk) trivial (Below.refl _ _) (Nat.le_refl _) (by simp) ?_; (case hd => rfl); (case hg => rfl); (case hr => first | (go_simp; done) | (go_simp; rfl)); (case hp => exact (Reps.c4 (show Kd.M k39 _ _ _ (⟨4, a0_0, (⟨0, 0⟩ : S37)⟩ : S39) [.int .i64 4, .int .i64 a0_0, .int .i64 0, .int .i64 0] from (k39_mkM _ _ _ (⟨4, a0_0, (⟨0, 0⟩ : S37)⟩ : S39) )) (Reps.none _ _)))
          intro v167 w30 ho31 hb hg_ hnew_
          clear hg_ hnew_
          (first | rw [← Ny166.out] at ho31 | (simp only [Int.reduceToNat] at ho31; rw [← Ny166.out] at ho31))
          have n_ := az (Kd.R_lower ho31 (below_size (mB HB.out))) <| az (bB BK138.out hb) <| z0 (below_step (mB HB.out) hb)
          clear BK138 HB
          obtain ⟨HO168, BK138, HB⟩ := n_
          clear hb ho31
          refine hK.out _ _ q98_1 (fun hHeld => ?_)
          clear hK K
          refine norm_ (a' := ?_) ?_ ?_
          rotate_left
          ·show Act.put _ (some 41) _ = _
           simp only [Act.put, List.setIfInBounds_toArray, List.set_cons_zero, List.set_cons_succ, i64_w, i32_w]
           rfl
          refine one_ (i := 4) (N := some 31) #[true, true, true, true, true, true, true, true, true, false, false, true, true, true, true, false, false] rfl rfl (one_of HT_.out (by kernel_rfl)) (by decide) (fun K hK => ?_)
          refine goes_ Try.func98 (by kernel_rfl) rfl #[.agg #[.int .i64 ((rd_T46 l0_4 0).f0), .int .i64 ((rd_T46 l0_4 0).f1), .int .i64 ((rd_T46 l0_4 0).f2.f0), .int .i64 ((rd_T46 l0_4 0).f2.f1), .slice A155_4 ((rd_T46 l0_4 0).f3).length c155_4]] (by rfl) rfl rfl argx ?_
          with_reducible refine (ih k (by omega) ((rd_T46 l0_4 0).f0) ((rd_T46 l0_4 0).f1) ((rd_T46 l0_4 0).f2.f0) ((rd_T46 l0_4 0).f2.f1) _ _ ((rd_T46 l0_4 0).f3) t156 _ ?side1 ?side2 A24.out).mono ?_
          (case side1 => exact mC (Kd.C_below HR155_4.out HB.out))
          (case side2 => exact HC155_4.out)
          rintro e w32 ⟨v157, rfl, ho0, hb⟩
          refine ⟨_, rfl, ?_⟩
          have n_ := az (Kd.R_elder' (mR HO168.out) (by first | exact Kd.R_base ho0 | exact Kd.R_base ho0) hb) <| And.intro (z0 (Kd.R_lower (Kd.R_new' ho0 (Kd.R_lt (mR HO168.out))) (below_size (mB HB.out)))) <| az (bB BK138.out hb) <| z0 (below_step (mB HB.out) hb)
          clear HO168 BK138 HB
          obtain ⟨HO168, HO158, BK138, HB⟩ := n_
          (try clear hb)
          (try clear hb2)
          (try clear hk)
          (try clear hi)
          (try clear ho0)
          refine hK.out _ _ q98_1 (fun hHeld => ?_)
          clear hK K
          refine norm_ (a' := ?_) ?_ ?_
          rotate_left
          ·show Act.put _ (some 31) _ = _
           simp only [Act.put, List.setIfInBounds_toArray, List.set_cons_zero, List.set_cons_succ, i64_w, i32_w]
           rfl
          refine one_ (i := 9) (N := some 36) #[true, true, true, true, true, true, true, true, true, true, false, true, true, true, true, false, false] rfl rfl (one_of HT_.out (by kernel_rfl)) (by decide) (fun K hK => ?_)
          refine goes_ Try.func98 (by kernel_rfl) rfl #[.agg #[.int .i64 ((rd_T46 l0_4 1).f0), .int .i64 ((rd_T46 l0_4 1).f1), .int .i64 ((rd_T46 l0_4 1).f2.f0), .int .i64 ((rd_T46 l0_4 1).f2.f1), .slice A159_4 ((rd_T46 l0_4 1).f3).length c159_4]] (by rfl) rfl rfl argx ?_
          with_reducible refine (ih k (by omega) ((rd_T46 l0_4 1).f0) ((rd_T46 l0_4 1).f1) ((rd_T46 l0_4 1).f2.f0) ((rd_T46 l0_4 1).f2.f1) _ _ ((rd_T46 l0_4 1).f3) t160 _ ?side1 ?side2 A26.out).mono ?_
          (case side1 => exact mC (Kd.C_below HR159_4.out HB.out))
          (case side2 => exact HC159_4.out)
          rintro e w33 ⟨v161, rfl, ho0, hb⟩
          refine ⟨_, rfl, ?_⟩
          have n_ := az (Kd.R_elder' (mR HO168.out) (by first | exact Kd.R_base ho0 | exact Kd.R_base ho0) hb) <| az (Kd.R_elder' (mR HO158.out) (by first | exact Kd.R_base ho0 | exact Kd.R_base ho0) hb) <| And.intro (z0 (Kd.R_lower (Kd.R_new' (Kd.R_new' ho0 (Kd.R_lt (mR HO168.out))) (Kd.R_lt (mR HO158.out))) (below_size (mB HB.out)))) <| az (bB BK138.out hb) <| z0 (below_step (mB HB.out) hb)
          clear HO168 HO158 BK138 HB
          obtain ⟨HO168, HO158, HO162, BK138, HB⟩ := n_
          (try clear hb)
          (try clear hb2)
          (try clear hk)
          (try clear hi)
          (try clear ho0)
          obtain ⟨Ao35, co35, eo35⟩ := Kd.R_slice HO162.out
          (first | subst eo35 | (injection eo35 with f1_ f2_ f3_; have f4_ := f1_.symm; have f5_ := f3_.symm; clear f1_ f2_ f3_; subst f4_; subst f5_))
          refine hK.out _ _ q98_1 (fun hHeld => ?_)
          clear hK K
          refine norm_ (a' := ?_) ?_ ?_
          rotate_left
          ·show Act.put _ (some 36) _ = _
           simp only [Act.put, List.setIfInBounds_toArray, List.set_cons_zero, List.set_cons_succ, i64_w, i32_w]
           rfl
          refine one_ (i := 10) (N := some 37) #[true, true, true, true, true, true, true, true, true, true, true, true, true, true, true, false, false] rfl rfl (one_of HT_.out (by kernel_rfl)) (by decide) (fun K hK => ?_)
          refine Kd.R_append_rows_step k39 (w0 := w) w.heap.size (by rfl) (.tmp 31) (.tmp 36) 24 39 (.agg #[(.int .i64 0), (.int .i64 0), (.int .i64 0), (.int .i64 0)]) 32 rfl Try.underlying24 info39 rfl (by decide) (by omega) v157 t156 t160 _ _ _ (fun k_ => nB k_ v167 ∧ nB k_ (.slice Ao35 t160.length co35)) (fun _ => False) rfl rfl ?aO ?aR (fun _ _ h => h) (fun _ h => h.elim) ?aF ?aB ?aS ?aL ?_
          (case aR => exact mC (Kd.R_reads' HO162.out).2.2)
          (case aB => exact (mB HB.out))
          (case aF => exact (fun k_ hk => ⟨Kd.fresh' (Kd.R_lt (mR HO168.out)) k_ hk, Kd.fresh' (Kd.R_lt (mR HO162.out)) k_ hk⟩))
          (case aO => exact (by (with_reducible repeat (first | apply Kd.R_alloc | apply Kd.R_drewN | apply Kd.R_drew)); exact Kd.R_mono HO158.out (fun _ hk => ⟨hk.1.2, hk.2⟩)))
          (case aS => exact (below_size (mB HB.out)))
          (case aL => have := LMc27.out; omega)
          intro v164 w34 ho hb hg hat
          rw [← Ny163.out] at ho
          have n_ := az (blk_grown (g := gb138) (o := .cells #[.int .i64 a0_0, .int .i64 a0_1, .int .i64 a0_2, .int .i64 a0_3, .slice (some ad155) l0_4.length c0_4] 46 (0, 0)) (mK BK138.out) hg (Kd.R_ne HO158.out BK138.out (by decide))) <| And.intro (z0 (Kd.R_after (ok := (fun k_ => nB k_ (.slice Ao35 t160.length co35))) (by (with_reducible repeat (first | apply Kd.R_alloc | apply Kd.R_drewN | apply Kd.R_drew)); exact Kd.R_mono HO168.out (fun _ hk => ⟨hk.2, hk.1.2⟩)) hg hat)) <| And.intro (z0 (Kd.R_after (ok := (fun k_ => nB k_ v167)) (by (with_reducible repeat (first | apply Kd.R_alloc | apply Kd.R_drewN | apply Kd.R_drew)); exact Kd.R_mono HO162.out (fun _ hk => ⟨hk.1.2, hk.2⟩)) hg hat)) <| az (hb) <| z0 (ho)
          clear BK138 HO168 HO162 HB HO158
          obtain ⟨BK138, HO168, HO162, HB, HO165⟩ := n_
          clear ho hb hg hat
          refine hK.out _ _ q98_1 (fun hHeld => ?_)
          clear hK K
          refine norm_ (a' := ?_) ?_ ?_
          rotate_left
          ·show Act.put _ (some 37) _ = _
           simp only [Act.put, List.setIfInBounds_toArray, List.set_cons_zero, List.set_cons_succ, i64_w, i32_w]
           rfl
          exact norm_ (by simp only [putAll, Act.put, List.setIfInBounds_toArray, List.set_cons_zero, List.set_cons_succ]) (hCont (v157, .slice Ao35 t160.length co35, v164, v167) _ ⟨hHeld, q98_2, (by (with_reducible repeat (first | apply Kd.R_alloc | apply Kd.R_drewN | apply Kd.R_drew)); exact Kd.R_mono HO165.out (fun _ hk => ⟨hk.2, hk.1⟩)), (mR HO168.out), (mK BK138.out), (mB HB.out)⟩)
        rintro ⟨v157, v161, v164, v167⟩ w36 ⟨hS_, h0_, h1_, h2_, h3_, h4_⟩
        have n0_ : Aside0 (Kd.R k39 39 w36 w.heap.size (fun k_ => nB k_ v164 ∧ nB k_ v167) v161 t160) := ⟨h0_⟩
        have n1_ : Aside0 (Kd.R k39 39 w36 w.heap.size (fun k_ => nB k_ v161 ∧ nB k_ v167) v164 y163) := ⟨h1_⟩
        have n2_ : Aside0 (Kd.R k39 39 w36 w.heap.size (fun k_ => nB k_ v161 ∧ nB k_ v164) v167 y166) := ⟨h2_⟩
        have n3_ : Aside0 (w36.heap[gb138]? = some (.cells #[.int .i64 a0_0, .int .i64 a0_1, .int .i64 a0_2, .int .i64 a0_3, .slice (some ad155) l0_4.length c0_4] 46 (0, 0))) := ⟨h3_⟩
        have n4_ : Aside0 (Below w.heap.size w w36) := ⟨h4_⟩
        clear BK138 HB h0_ h1_ h2_ h3_ h4_
        have HO162 := n0_
        have HO165 := n1_
        have HO168 := n2_
        have BK138 := n3_
        have HB := n4_
        clear n0_ n1_ n2_ n3_ n4_
        have hHeld : w36.cell? ⟨gb138, 0, none⟩ = some (.int .i64 a0_0) ∧ w36.cell? ⟨gb138, 1, none⟩ = some (.int .i64 a0_1) ∧ w36.cell? ⟨gb138, 2, none⟩ = some (.int .i64 a0_2) ∧ w36.cell? ⟨gb138, 3, none⟩ = some (.int .i64 a0_3) ∧ w36.cell? ⟨gb138, 4, none⟩ = some (.slice (some ad155) l0_4.length c0_4) ∧ w36.cell? ad155 = some (.int .i64 ((rd_T46 l0_4 0).f0)) ∧ w36.cell? ⟨ad155.block, ad155.off + 1, none⟩ = some (.int .i64 ((rd_T46 l0_4 0).f1)) ∧ w36.cell? ⟨ad155.block, ad155.off + 2, none⟩ = some (.int .i64 ((rd_T46 l0_4 0).f2.f0)) ∧ w36.cell? ⟨ad155.block, ad155.off + 3, none⟩ = some (.int .i64 ((rd_T46 l0_4 0).f2.f1)) ∧ w36.cell? ⟨ad155.block, ad155.off + 4, none⟩ = some (.slice A155_4 ((rd_T46 l0_4 0).f3).length c155_4) ∧ w36.cell? ⟨ad155.block, ad155.off + 5, none⟩ = some (.int .i64 ((rd_T46 l0_4 1).f0)) ∧ w36.cell? ⟨ad155.block, ad155.off + 5 + 1, none⟩ = some (.int .i64 ((rd_T46 l0_4 1).f1)) ∧ w36.cell? ⟨ad155.block, ad155.off + 5 + 2, none⟩ = some (.int .i64 ((rd_T46 l0_4 1).f2.f0)) ∧ w36.cell? ⟨ad155.block, ad155.off + 5 + 3, none⟩ = some (.int .i64 ((rd_T46 l0_4 1).f2.f1)) ∧ w36.cell? ⟨ad155.block, ad155.off + 5 + 4, none⟩ = some (.slice A159_4 ((rd_T46 l0_4 1).f3).length c159_4) := hS_
        obtain ⟨Ao38, co38, eo38⟩ := Kd.R_slice HO168.out
        (first | subst eo38 | (injection eo38 with f1_ f2_ f3_; have f4_ := f1_.symm; have f5_ := f3_.symm; clear f1_ f2_ f3_; subst f4_; subst f5_))
        refine norm_ (a' := ?_) ?_ ?_
        rotate_left
        ·simp only [putAll, Act.put, List.setIfInBounds_toArray, List.set_cons_zero, List.set_cons_succ]
         rfl
        refine one_ (i := 15) (N := some 42) #[true, true, true, true, true, true, true, true, true, true, true, true, true, true, true, true, false] rfl rfl (one_of HT_.out (by kernel_rfl)) (by decide) (fun K hK => ?_)
        refine Kd.R_append_rows_step k39 (w0 := w) w.heap.size (by rfl) (.tmp 37) (.tmp 41) 24 39 (.agg #[(.int .i64 0), (.int .i64 0), (.int .i64 0), (.int .i64 0)]) 32 rfl Try.underlying24 info39 rfl (by decide) (by omega) v164 y163 y166 _ _ _ (fun k_ => nB k_ v161 ∧ nB k_ (.slice Ao38 y166.length co38)) (fun _ => False) rfl rfl ?aO ?aR (fun _ _ h => h) (fun _ h => h.elim) ?aF ?aB ?aS ?aL ?_
        (case aR => exact mC (Kd.R_reads' HO168.out).2.2)
        (case aB => exact (mB HB.out))
        (case aF => exact (fun k_ hk => ⟨Kd.fresh' (Kd.R_lt (mR HO162.out)) k_ hk, Kd.fresh' (Kd.R_lt (mR HO168.out)) k_ hk⟩))
        (case aO => exact (mR HO165.out))
        (case aS => exact (below_size (mB HB.out)))
        (case aL => have := LMc28.out; omega)
        intro v170 w37 ho hb hg hat
        rw [← Ny169.out] at ho
        have n_ := az (blk_grown (g := gb138) (o := .cells #[.int .i64 a0_0, .int .i64 a0_1, .int .i64 a0_2, .int .i64 a0_3, .slice (some ad155) l0_4.length c0_4] 46 (0, 0)) (mK BK138.out) hg (Kd.R_ne HO165.out BK138.out (by decide))) <| And.intro (z0 (Kd.R_after (ok := (fun k_ => nB k_ (.slice Ao38 y166.length co38))) q98_2 hg hat)) <| az (Kd.R_after (ok := (fun k_ => nB k_ v161)) (mR HO168.out) hg hat) <| az (hb) <| z0 (ho)
        clear BK138 HO162 HO168 HB HO165
        obtain ⟨BK138, HO162, HO168, HB, HO171⟩ := n_
        clear ho hb hg hat
        refine hK.out _ _ q98_1 (fun hHeld => ?_)
        clear hK K
        refine norm_ (a' := ?_) ?_ ?_
        rotate_left
        ·show Act.put _ (some 42) _ = _
         simp only [Act.put, List.setIfInBounds_toArray, List.set_cons_zero, List.set_cons_succ, i64_w, i32_w]
         rfl
        refine pure_ (i := 16) (N := some 2) (v := ?_) (a' := ?_) #[true, true, true, true, true, true, true, true, true, true, true, true, true, true, true, true, true] rfl rfl (any_of HT_.out (by kernel_rfl)) (fun _ _ _ h => h) (Or.inl ⟨by rfl, ?_⟩) ?_ ?_
        rotate_left
        ·intro w'
         go_simp
         with_reducible rfl
        rotate_left
        ·simp only [Act.put, List.setIfInBounds_toArray, List.set_cons_zero, List.set_cons_succ, i64_w, i32_w]
         rfl
        refine done_ (done_of HT_.out (by kernel_rfl)) ?_
        try go_wp2
        go_ret
        exact ⟨_, rfx, by (with_reducible repeat (first | apply Kd.R_alloc | apply Kd.R_drewN | apply Kd.R_drew)); exact Kd.R_mono HO171.out (fun _ hk => trivial), mB HB.out⟩
       ·rw [if_neg c28] at H
        exact absurd H (by simp)
      ·rw [if_neg c27] at H
       exact absurd H (by simp)
     ·rw [if_neg c25] at H
      exact absurd H (by simp)
    ·rw [if_neg c23] at H
     exact absurd H (by simp)

end Go.Proofs.Ytddnijmgipffeaa.B
