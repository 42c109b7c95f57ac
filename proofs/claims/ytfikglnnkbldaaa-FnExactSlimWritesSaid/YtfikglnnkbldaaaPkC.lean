/- Printed functions of this seat, in one text. -/
import Derived.Test.YtfikglnnkbldaaaB0
import Derived.Test.YtfikglnnkbldaaaSq
import Derived.Test.YtfikglnnkbldaaaPkB
namespace Go.Proofs.Ytfikglnnkbldaaa.B
open Go.RowKit Go.Proofs.YtfikglnnkbldaaaW.PrintWords Go.Proofs.YtfikglnnkbldaaaW.PrintLast Go.Proofs.YtfikglnnkbldaaaW.PrintMore
attribute [local go_sem] max2_int min2_int max_two min_two max_three min_three max_four min_four   -- for this text's walks alone
set_option linter.unusedVariables false
set_option linter.unusedSimpArgs false

attribute [local go_sem high] eqA33
/-! ### spec_l4Form: function 30 -/
mutual
def spec_l4Form.j0 : Nat → List (S64) → Int → Bool → Option (Bool)
 | 0, _, _, _ => none
 | k + 1, x0, x1, x14 => if x14 = true then (some false) else (spec_l4Form.l0 k x0 x1 0)
def spec_l4Form.l0 : Nat → List (S64) → Int → Int → Option (Bool)
 | 0, _, _, _ => none
 | k + 1, x0, x1, x5 => if x5 < (x0.length : Int) then (if 0 ≤ x5 then (if ((rd_T64 x0 x5).f0) = 1 then ((spec_AddrOk.f ((rd_T64 x0 x5).f1.f0) ((rd_T64 x0 x5).f1.f1)).bind fun t132 => (if t132 = true then (if ((rd_T64 x0 x5).f1.f0) = 1 then (spec_l4Form.j2 k x0 x1 x5 false ((rd_T64 x0 x5).f0) ((rd_T64 x0 x5).f1.f0) ((rd_T64 x0 x5).f1.f1) ((rd_T64 x0 x5).f2.f0) ((rd_T64 x0 x5).f2.f1) ((rd_T64 x0 x5).f2.f2.f0) ((rd_T64 x0 x5).f2.f2.f1) ((rd_T64 x0 x5).f2.f3) ((rd_T64 x0 x5).f3) ((rd_T64 x0 x5).f4)) else (if (((rd_T64 x0 x5).f3).length : Int) = 0 then (spec_l4Form.j2 k x0 x1 x5 ((((rd_T64 x0 x5).f4).length : Int) == 0) ((rd_T64 x0 x5).f0) ((rd_T64 x0 x5).f1.f0) ((rd_T64 x0 x5).f1.f1) ((rd_T64 x0 x5).f2.f0) ((rd_T64 x0 x5).f2.f1) ((rd_T64 x0 x5).f2.f2.f0) ((rd_T64 x0 x5).f2.f2.f1) ((rd_T64 x0 x5).f2.f3) ((rd_T64 x0 x5).f3) ((rd_T64 x0 x5).f4)) else (spec_l4Form.j2 k x0 x1 x5 false ((rd_T64 x0 x5).f0) ((rd_T64 x0 x5).f1.f0) ((rd_T64 x0 x5).f1.f1) ((rd_T64 x0 x5).f2.f0) ((rd_T64 x0 x5).f2.f1) ((rd_T64 x0 x5).f2.f2.f0) ((rd_T64 x0 x5).f2.f2.f1) ((rd_T64 x0 x5).f2.f3) ((rd_T64 x0 x5).f3) ((rd_T64 x0 x5).f4)))) else (spec_l4Form.j2 k x0 x1 x5 false ((rd_T64 x0 x5).f0) ((rd_T64 x0 x5).f1.f0) ((rd_T64 x0 x5).f1.f1) ((rd_T64 x0 x5).f2.f0) ((rd_T64 x0 x5).f2.f1) ((rd_T64 x0 x5).f2.f2.f0) ((rd_T64 x0 x5).f2.f2.f1) ((rd_T64 x0 x5).f2.f3) ((rd_T64 x0 x5).f3) ((rd_T64 x0 x5).f4)))) else (if ((rd_T64 x0 x5).f0) = 2 then (spec_l4Form.j2 k x0 x1 x5 (((rd_T64 x0 x5).f1.f0) == 0 && (((rd_T64 x0 x5).f1.f1) == 0)) ((rd_T64 x0 x5).f0) ((rd_T64 x0 x5).f1.f0) ((rd_T64 x0 x5).f1.f1) ((rd_T64 x0 x5).f2.f0) ((rd_T64 x0 x5).f2.f1) ((rd_T64 x0 x5).f2.f2.f0) ((rd_T64 x0 x5).f2.f2.f1) ((rd_T64 x0 x5).f2.f3) ((rd_T64 x0 x5).f3) ((rd_T64 x0 x5).f4)) else (if ((rd_T64 x0 x5).f0) = 3 then (if (((rd_T64 x0 x5).f1.f0) == 0 && (((rd_T64 x0 x5).f1.f1) == 0)) = true then (spec_l4Form.j2 k x0 x1 x5 ((((rd_T64 x0 x5).f4).length : Int) == 0) ((rd_T64 x0 x5).f0) ((rd_T64 x0 x5).f1.f0) ((rd_T64 x0 x5).f1.f1) ((rd_T64 x0 x5).f2.f0) ((rd_T64 x0 x5).f2.f1) ((rd_T64 x0 x5).f2.f2.f0) ((rd_T64 x0 x5).f2.f2.f1) ((rd_T64 x0 x5).f2.f3) ((rd_T64 x0 x5).f3) ((rd_T64 x0 x5).f4)) else (spec_l4Form.j2 k x0 x1 x5 false ((rd_T64 x0 x5).f0) ((rd_T64 x0 x5).f1.f0) ((rd_T64 x0 x5).f1.f1) ((rd_T64 x0 x5).f2.f0) ((rd_T64 x0 x5).f2.f1) ((rd_T64 x0 x5).f2.f2.f0) ((rd_T64 x0 x5).f2.f2.f1) ((rd_T64 x0 x5).f2.f3) ((rd_T64 x0 x5).f3) ((rd_T64 x0 x5).f4))) else (spec_l4Form.j2 k x0 x1 x5 false ((rd_T64 x0 x5).f0) ((rd_T64 x0 x5).f1.f0) ((rd_T64 x0 x5).f1.f1) ((rd_T64 x0 x5).f2.f0) ((rd_T64 x0 x5).f2.f1) ((rd_T64 x0 x5).f2.f2.f0) ((rd_T64 x0 x5).f2.f2.f1) ((rd_T64 x0 x5).f2.f3) ((rd_T64 x0 x5).f3) ((rd_T64 x0 x5).f4))))) else (none)) else (some true)
def spec_l4Form.j2 : Nat → List (S64) → Int → Int → Bool → Int → Int → Int → Int → Int → Int → Int → List (S39) → List (S64) → List (S64) → Option (Bool)
 | 0, _, _, _, _, _, _, _, _, _, _, _, _, _, _ => none
 | k + 1, x0, x1, x5, x7, x132000, x132001, x132002, x132003, x132004, x132005, x132006, x132007, x132008, x132009 => if x7 = true then ((spec_ExprOk.f k x132003 x132004 x132005 x132006 x132007).bind fun t133 => (if t133 = true then ((spec_l4Form.f k x132008 (wrap64 (x1 - 1))).bind fun t134 => (if t134 = true then ((spec_l4Form.f k x132009 (wrap64 (x1 - 1))).bind fun t135 => (if t135 = true then (spec_l4Form.l0 k x0 x1 (wrap64 (x5 + 1))) else (some false))) else (some false))) else (some false))) else (some false)
def spec_l4Form.f : Nat → List (S64) → Int → Option (Bool)
 | 0, _, _ => none
 | k + 1, l0, a1 => if (l0.length : Int) > 0 then (spec_l4Form.j0 k l0 a1 (decide (a1 < 1))) else (spec_l4Form.j0 k l0 a1 false)
end
theorem spec_l4Form.mono_l : ∀ k, (∀ y0 y1, LeO (spec_l4Form.f k y0 y1) (spec_l4Form.f (k + 1) y0 y1)) ∧ (∀ y0 y1 y2, LeO (spec_l4Form.j0 k y0 y1 y2) (spec_l4Form.j0 (k + 1) y0 y1 y2)) ∧ (∀ y0 y1 y2, LeO (spec_l4Form.l0 k y0 y1 y2) (spec_l4Form.l0 (k + 1) y0 y1 y2)) ∧ (∀ y0 y1 y2 y3 y4 y5 y6 y7 y8 y9 y10 y11 y12 y13, LeO (spec_l4Form.j2 k y0 y1 y2 y3 y4 y5 y6 y7 y8 y9 y10 y11 y12 y13) (spec_l4Form.j2 (k + 1) y0 y1 y2 y3 y4 y5 y6 y7 y8 y9 y10 y11 y12 y13))
 | 0 => ⟨fun _ _ r h => by simp [spec_l4Form.f] at h, fun _ _ _ r h => by simp [spec_l4Form.j0] at h, fun _ _ _ r h => by simp [spec_l4Form.l0] at h, fun _ _ _ _ _ _ _ _ _ _ _ _ _ _ r h => by simp [spec_l4Form.j2] at h⟩
 | k + 1 => by
  obtain ⟨ih0, ih1, ih2, ih3⟩ := spec_l4Form.mono_l k
  refine ⟨?_, ?_, ?_, ?_⟩
  ·intro y0 y1
   unfold spec_l4Form.f
   repeat' first
   | (with_reducible exact ih0 _ _)
   | (with_reducible exact ih1 _ _ _)
   | (with_reducible exact ih2 _ _ _)
   | (with_reducible exact ih3 _ _ _ _ _ _ _ _ _ _ _ _ _ _)
   | (with_reducible exact spec_ExprOk.mono _ _ _ _ _ _)
   | (with_reducible exact LeO.refl _)
   | (with_reducible exact LeO.none _)
   | (with_reducible refine LeO.ite ?_ ?_)
   | (with_reducible refine LeO.bind ?_ (fun _ => ?_))
   | exact ih0 _ _
   | exact ih1 _ _ _
   | exact ih2 _ _ _
   | exact ih3 _ _ _ _ _ _ _ _ _ _ _ _ _ _
   | exact spec_ExprOk.mono _ _ _ _ _ _
   | exact LeO.none _
   | refine LeO.ite ?_ ?_
   | refine LeO.bind ?_ (fun _ => ?_)
  ·intro y0 y1 y2
   unfold spec_l4Form.j0
   repeat' first
   | (with_reducible exact ih0 _ _)
   | (with_reducible exact ih1 _ _ _)
   | (with_reducible exact ih2 _ _ _)
   | (with_reducible exact ih3 _ _ _ _ _ _ _ _ _ _ _ _ _ _)
   | (with_reducible exact spec_ExprOk.mono _ _ _ _ _ _)
   | (with_reducible exact LeO.refl _)
   | (with_reducible exact LeO.none _)
   | (with_reducible refine LeO.ite ?_ ?_)
   | (with_reducible refine LeO.bind ?_ (fun _ => ?_))
   | exact ih0 _ _
   | exact ih1 _ _ _
   | exact ih2 _ _ _
   | exact ih3 _ _ _ _ _ _ _ _ _ _ _ _ _ _
   | exact spec_ExprOk.mono _ _ _ _ _ _
   | exact LeO.none _
   | refine LeO.ite ?_ ?_
   | refine LeO.bind ?_ (fun _ => ?_)
  ·intro y0 y1 y2
   unfold spec_l4Form.l0
   repeat' first
   | (with_reducible exact ih0 _ _)
   | (with_reducible exact ih1 _ _ _)
   | (with_reducible exact ih2 _ _ _)
   | (with_reducible exact ih3 _ _ _ _ _ _ _ _ _ _ _ _ _ _)
   | (with_reducible exact spec_ExprOk.mono _ _ _ _ _ _)
   | (with_reducible exact LeO.refl _)
   | (with_reducible exact LeO.none _)
   | (with_reducible refine LeO.ite ?_ ?_)
   | (with_reducible refine LeO.bind ?_ (fun _ => ?_))
   | exact ih0 _ _
   | exact ih1 _ _ _
   | exact ih2 _ _ _
   | exact ih3 _ _ _ _ _ _ _ _ _ _ _ _ _ _
   | exact spec_ExprOk.mono _ _ _ _ _ _
   | exact LeO.none _
   | refine LeO.ite ?_ ?_
   | refine LeO.bind ?_ (fun _ => ?_)
  ·intro y0 y1 y2 y3 y4 y5 y6 y7 y8 y9 y10 y11 y12 y13
   unfold spec_l4Form.j2
   repeat' first
   | (with_reducible exact ih0 _ _)
   | (with_reducible exact ih1 _ _ _)
   | (with_reducible exact ih2 _ _ _)
   | (with_reducible exact ih3 _ _ _ _ _ _ _ _ _ _ _ _ _ _)
   | (with_reducible exact spec_ExprOk.mono _ _ _ _ _ _)
   | (with_reducible exact LeO.refl _)
   | (with_reducible exact LeO.none _)
   | (with_reducible refine LeO.ite ?_ ?_)
   | (with_reducible refine LeO.bind ?_ (fun _ => ?_))
   | exact ih0 _ _
   | exact ih1 _ _ _
   | exact ih2 _ _ _
   | exact ih3 _ _ _ _ _ _ _ _ _ _ _ _ _ _
   | exact spec_ExprOk.mono _ _ _ _ _ _
   | exact LeO.none _
   | refine LeO.ite ?_ ?_
   | refine LeO.bind ?_ (fun _ => ?_)
theorem spec_l4Form.mono : ∀ a0 a1 k, LeO (spec_l4Form.f k a0 a1) (spec_l4Form.f (k + 1) a0 a1) := by
 intro a0 a1 k
 obtain ⟨ih0, ih1, ih2, ih3⟩ := spec_l4Form.mono_l k
 exact ih0 a0 a1
set_option maxHeartbeats 8000000 in
set_option maxRecDepth 100000 in
theorem spec_l4Form.calls (k : Nat) : ∀ (A0 : Option Addr) (c0 : Nat) (l0 : List (S64)) (a1 : Int) (r : Bool) (w : World) (hr0 : Kd.C k64 w A0 l0.length l0) (hc0 : l0.length ≤ c0) (h : spec_l4Form.f k l0 a1 = some r),
  Calls Try.prog 30 #[.slice A0 l0.length c0, .int .i64 a1] w fun e w' => e = .returned (.bool r) ∧ Below w.heap.size w w' := by
 induction k using Nat.strongRecOn with
 | _ k ih =>
 intro A0 c0 l0 a1 r w hr0 hc0 h
 cases k with
 | zero => exact absurd h (by simp [spec_l4Form.f])
 | succ k =>
 simp only [spec_l4Form.f] at h
 have hu64 := Try.underlying64
 have hu33 := Try.underlying33
 have hu39 := Try.underlying39
 have HR0 := z0 hr0
 have HC0 := z0 hc0
 clear hr0 hc0
 have HB := z0 (Below.refl w.heap.size w)
 have H : (if (l0.length : Int) > 0 then (spec_l4Form.j0 k l0 a1 (decide (a1 < 1))) else (spec_l4Form.j0 k l0 a1 false)) = some r := h
 clear h
 have HC3 := z0 H
 clear H
 go_enter Try.func30, Try.ntmps30
 go_upto_region 1 with (fail)
 go_cut [14] (fun v14 wc => ∃ (kq : Nat) (x14_2 : Bool), v14 = .bool x14_2 ∧ Aside0 (spec_l4Form.j0 kq l0 a1 x14_2 = some r) ∧ Aside0 (kq ≤ k) ∧ Aside0 (Below w.heap.size w wc))
 case first =>
  have H := HC3.out
  clear HC3
  by_cases c4 : (l0.length : Int) > 0
  ·rw [if_pos c4] at H
   have c4b0 : decide (0 < (l0.length : Int)) = true := decide_eq_true c4
   have c4b1 : decide (0 < l0.length) = true := decide_eq_true (by omega)
   clear c4
   (first | rw [c4b0] | (simp only [i64_w, i32_w]; rw [c4b0]) | skip)
   have H' := z0 H
   clear H
   go_wp2
   go_meet
   case rel => exact ⟨_, (decide (a1 < 1)), rfy, H', ⟨by first | omega | exact Nat.le_refl _⟩, ⟨mB HB.out⟩⟩
  ·rw [if_neg c4] at H
   have c4b0 : decide (0 < (l0.length : Int)) = false := decide_eq_false c4
   have c4b1 : decide (0 < l0.length) = false := decide_eq_false (by omega)
   clear c4
   (first | rw [c4b0] | (simp only [i64_w, i32_w]; rw [c4b0]) | skip)
   have H' := z0 H
   clear H
   go_wp2
   go_meet
   case rel => exact ⟨_, (false), rfy, H', ⟨by first | omega | exact Nat.le_refl _⟩, ⟨mB HB.out⟩⟩
 case rest =>
  clear HC3
  (try clear p2); (try clear c3); (try clear c4); (try clear c4b0); (try clear c4b1)
  obtain ⟨kq, x14_2, rfl, HA, HJ2, HB⟩ := hcut
  cases kq with
  | zero => exact absurd HA.out (by simp [spec_l4Form.j0])
  | succ kj2 =>
   have H := HA.out
   clear HA
   simp only [spec_l4Form.j0] at H
   by_cases c5 : x14_2 = true
   ·subst c5
    have H1 : (some false) = some r := by rw [if_pos rfl] at H; exact H
    clear H
    have H := H1
    clear H1
    obtain rfl := Option.some.inj H
    go_wp2
    go_ret
    exact ⟨rfx, mB HB.out⟩
   ·replace c5 := Bool.eq_false_iff.mpr c5
    subst c5
    have H1 : (spec_l4Form.l0 kj2 l0 a1 0) = some r := by rw [if_neg (show ¬ (false = true) by decide)] at H; exact H
    clear H
    have H := H1
    clear H1
    have H' := z0 H
    clear H
    go_wp2
    go_loopg [5] kj2 (fun kq v5 w' => ∃ (x5_2 : Int), v5 = .int .i64 x5_2 ∧ Aside0 (spec_l4Form.l0 kq l0 a1 x5_2 = some r) ∧ Aside0 (kq ≤ kj2) ∧ Aside0 (Below w.heap.size w w'))
    case atStart => exact ⟨(0), rfy, H', ⟨Nat.le_refl _⟩, ⟨mB HB.out⟩⟩
    case round =>
     clear H'
     (try clear p2); (try clear c3); (try clear c4); (try clear c4b0); (try clear c4b1); (try clear c5); (try clear p2)
     obtain ⟨x5_2, rfl, HA, HK2, HB⟩ := hrel
     cases gk with
     | zero => exact absurd HA.out (by simp [spec_l4Form.l0])
     | succ k2 =>
      have H := HA.out
      clear HA
      simp only [spec_l4Form.l0] at H
      by_cases c6 : x5_2 < (l0.length : Int)
      ·rw [if_pos c6] at H
       have c6b0 : decide (x5_2 < (l0.length : Int)) = true := decide_eq_true c6
       clear c6
       by_cases c7 : 0 ≤ x5_2
       ·rw [if_pos c7] at H
        have c7b0 : decide (0 ≤ x5_2) = true := decide_eq_true c7
        clear c7
        have HC8 := z0 H
        clear H
        have p130 : 0 ≤ (x5_2 : Int) := of_decide_eq_true (by first | (with_reducible assumption) | assumption)
        have q130 : x5_2 < (l0.length : Int) := of_decide_eq_true (by first | (with_reducible assumption) | assumption)
        obtain ⟨ad130, A130_7, c130_7, A130_8, c130_8, A130_9, c130_9, e130, hx130_0, hx130_1, hx130_2, hx130_3, hx130_4, hx130_5, hx130_6, hx130_7, hx130_8, hx130_9, hl130_7, hi130_7, hl130_8, hi130_8, hl130_9, hi130_9⟩ := at_T64 HR0.out x5_2 p130 q130
        cases e130
        replace hx130_0 := (HB.out.cell (World.block_lt_of_cell? w _ hx130_0)).trans hx130_0
        replace hx130_1 := (HB.out.cell (World.block_lt_of_cell? w _ hx130_1)).trans hx130_1
        replace hx130_2 := (HB.out.cell (World.block_lt_of_cell? w _ hx130_2)).trans hx130_2
        replace hx130_3 := (HB.out.cell (World.block_lt_of_cell? w _ hx130_3)).trans hx130_3
        replace hx130_4 := (HB.out.cell (World.block_lt_of_cell? w _ hx130_4)).trans hx130_4
        replace hx130_5 := (HB.out.cell (World.block_lt_of_cell? w _ hx130_5)).trans hx130_5
        replace hx130_6 := (HB.out.cell (World.block_lt_of_cell? w _ hx130_6)).trans hx130_6
        replace hx130_7 := (HB.out.cell (World.block_lt_of_cell? w _ hx130_7)).trans hx130_7
        replace hx130_8 := (HB.out.cell (World.block_lt_of_cell? w _ hx130_8)).trans hx130_8
        replace hx130_9 := (HB.out.cell (World.block_lt_of_cell? w _ hx130_9)).trans hx130_9
        have HR130_7 := z0 hi130_7
        have HC130_7 := z0 hl130_7
        clear hi130_7 hl130_7
        have HR130_8 := z0 hi130_8
        have HC130_8 := z0 hl130_8
        clear hi130_8 hl130_8
        have HR130_9 := z0 hi130_9
        have HC130_9 := z0 hl130_9
        clear hi130_9 hl130_9
        replace p130 := eq_true p130
        replace q130 := eq_true q130
        go_upto_block 2 with (first | ((with_reducible refine gate_dst (N := 6) rfl ?_); (try (refine gate_guard (by rfl) ?_; dsimp only)); refine box_event ?hg (N := 6) ?hd (cs := #[.int .i64 0, .int .i64 0, .int .i64 0, .int .i64 0, .int .i64 0, .int .i64 0, .int .i64 0, .slice none 0 0, .slice none 0 0, .slice none 0 0]) (t := 64) ?hr ?_; (case hd => rfl); (case hg => rfl); (case hr => first | (go_simp; done) | (go_simp; rfl)); intro gb131 hg w9 hbox hb; have n0_ := z0 (below_step (mB HB.out) hb); have n1_ := z0 (hbox); have n2_ := z0 ((by rw [hg]; exact (below_size (mB HB.out)) : w.heap.size ≤ gb131)); have n3_ := z0 ((by rw [hg]; exact (below_size (mB HB.out)) : w.heap.size ≤ gb131)); clear HB; have HB := n0_; have BK131 := n1_; have GW131 := n2_; have GE131 := n3_; clear n0_ n1_ n2_ n3_; clear hb hbox hg; obtain ⟨hcz10_0, hcz10_1, hcz10_2, hcz10_3, hcz10_4, hcz10_5, hcz10_6, hcz10_7, hcz10_8, hcz10_9, hfz10_0, hfz10_1, hfz10_2, hfz10_3, hfz10_4, hfz10_5, hfz10_6, hfz10_7, hfz10_8, hfz10_9⟩ := cel10 BK131.out))
        (try simp only [Act.put, List.setIfInBounds_toArray, List.set_cons_zero, List.set_cons_succ])
        go_cut [7] (fun v7 wc => ∃ (kq : Nat) (x7_7 : Bool), v7 = .bool x7_7 ∧ Aside0 (spec_l4Form.j2 kq l0 a1 x5_2 x7_7 ((rd_T64 l0 x5_2).f0) ((rd_T64 l0 x5_2).f1.f0) ((rd_T64 l0 x5_2).f1.f1) ((rd_T64 l0 x5_2).f2.f0) ((rd_T64 l0 x5_2).f2.f1) ((rd_T64 l0 x5_2).f2.f2.f0) ((rd_T64 l0 x5_2).f2.f2.f1) ((rd_T64 l0 x5_2).f2.f3) ((rd_T64 l0 x5_2).f3) ((rd_T64 l0 x5_2).f4) = some r) ∧ Aside0 (kq ≤ k2) ∧ Aside0 (wc.heap[gb131]? = some (.cells #[.int .i64 ((rd_T64 l0 x5_2).f0), .int .i64 ((rd_T64 l0 x5_2).f1.f0), .int .i64 ((rd_T64 l0 x5_2).f1.f1), .int .i64 ((rd_T64 l0 x5_2).f2.f0), .int .i64 ((rd_T64 l0 x5_2).f2.f1), .int .i64 ((rd_T64 l0 x5_2).f2.f2.f0), .int .i64 ((rd_T64 l0 x5_2).f2.f2.f1), (.slice A130_7 ((rd_T64 l0 x5_2).f2.f3).length c130_7), (.slice A130_8 ((rd_T64 l0 x5_2).f3).length c130_8), (.slice A130_9 ((rd_T64 l0 x5_2).f4).length c130_9)] 64 (0, 0))) ∧ Aside0 (Below w.heap.size w wc))
        case first =>
         have H := HC8.out
         clear HC8
         by_cases c11 : ((rd_T64 l0 x5_2).f0) = 1
         ·rw [if_pos c11] at H
          have c11b0 : (((rd_T64 l0 x5_2).f0) == 1) = true := beq_iff_eq.mpr c11
          have c11b1 : (((rd_T64 l0 x5_2).f0) != 1) = false := bne_eq_false_iff_eq.mpr c11
          clear c11
          (first | rw [c11b0] | (simp only [i64_w, i32_w]; rw [c11b0]) | skip)
          replace H := Option.bind_eq_some_iff.mp H
          obtain ⟨t132, A120, H⟩ := H
          replace H : (if t132 = true then (if ((rd_T64 l0 x5_2).f1.f0) = 1 then (spec_l4Form.j2 k2 l0 a1 x5_2 false ((rd_T64 l0 x5_2).f0) ((rd_T64 l0 x5_2).f1.f0) ((rd_T64 l0 x5_2).f1.f1) ((rd_T64 l0 x5_2).f2.f0) ((rd_T64 l0 x5_2).f2.f1) ((rd_T64 l0 x5_2).f2.f2.f0) ((rd_T64 l0 x5_2).f2.f2.f1) ((rd_T64 l0 x5_2).f2.f3) ((rd_T64 l0 x5_2).f3) ((rd_T64 l0 x5_2).f4)) else (if (((rd_T64 l0 x5_2).f3).length : Int) = 0 then (spec_l4Form.j2 k2 l0 a1 x5_2 ((((rd_T64 l0 x5_2).f4).length : Int) == 0) ((rd_T64 l0 x5_2).f0) ((rd_T64 l0 x5_2).f1.f0) ((rd_T64 l0 x5_2).f1.f1) ((rd_T64 l0 x5_2).f2.f0) ((rd_T64 l0 x5_2).f2.f1) ((rd_T64 l0 x5_2).f2.f2.f0) ((rd_T64 l0 x5_2).f2.f2.f1) ((rd_T64 l0 x5_2).f2.f3) ((rd_T64 l0 x5_2).f3) ((rd_T64 l0 x5_2).f4)) else (spec_l4Form.j2 k2 l0 a1 x5_2 false ((rd_T64 l0 x5_2).f0) ((rd_T64 l0 x5_2).f1.f0) ((rd_T64 l0 x5_2).f1.f1) ((rd_T64 l0 x5_2).f2.f0) ((rd_T64 l0 x5_2).f2.f1) ((rd_T64 l0 x5_2).f2.f2.f0) ((rd_T64 l0 x5_2).f2.f2.f1) ((rd_T64 l0 x5_2).f2.f3) ((rd_T64 l0 x5_2).f3) ((rd_T64 l0 x5_2).f4)))) else (spec_l4Form.j2 k2 l0 a1 x5_2 false ((rd_T64 l0 x5_2).f0) ((rd_T64 l0 x5_2).f1.f0) ((rd_T64 l0 x5_2).f1.f1) ((rd_T64 l0 x5_2).f2.f0) ((rd_T64 l0 x5_2).f2.f1) ((rd_T64 l0 x5_2).f2.f2.f0) ((rd_T64 l0 x5_2).f2.f2.f1) ((rd_T64 l0 x5_2).f2.f3) ((rd_T64 l0 x5_2).f3) ((rd_T64 l0 x5_2).f4))) = some r := H
          have A12 := z0 A120
          clear A120
          by_cases c13 : t132 = true
          ·subst c13
           have H1 : (if ((rd_T64 l0 x5_2).f1.f0) = 1 then (spec_l4Form.j2 k2 l0 a1 x5_2 false ((rd_T64 l0 x5_2).f0) ((rd_T64 l0 x5_2).f1.f0) ((rd_T64 l0 x5_2).f1.f1) ((rd_T64 l0 x5_2).f2.f0) ((rd_T64 l0 x5_2).f2.f1) ((rd_T64 l0 x5_2).f2.f2.f0) ((rd_T64 l0 x5_2).f2.f2.f1) ((rd_T64 l0 x5_2).f2.f3) ((rd_T64 l0 x5_2).f3) ((rd_T64 l0 x5_2).f4)) else (if (((rd_T64 l0 x5_2).f3).length : Int) = 0 then (spec_l4Form.j2 k2 l0 a1 x5_2 ((((rd_T64 l0 x5_2).f4).length : Int) == 0) ((rd_T64 l0 x5_2).f0) ((rd_T64 l0 x5_2).f1.f0) ((rd_T64 l0 x5_2).f1.f1) ((rd_T64 l0 x5_2).f2.f0) ((rd_T64 l0 x5_2).f2.f1) ((rd_T64 l0 x5_2).f2.f2.f0) ((rd_T64 l0 x5_2).f2.f2.f1) ((rd_T64 l0 x5_2).f2.f3) ((rd_T64 l0 x5_2).f3) ((rd_T64 l0 x5_2).f4)) else (spec_l4Form.j2 k2 l0 a1 x5_2 false ((rd_T64 l0 x5_2).f0) ((rd_T64 l0 x5_2).f1.f0) ((rd_T64 l0 x5_2).f1.f1) ((rd_T64 l0 x5_2).f2.f0) ((rd_T64 l0 x5_2).f2.f1) ((rd_T64 l0 x5_2).f2.f2.f0) ((rd_T64 l0 x5_2).f2.f2.f1) ((rd_T64 l0 x5_2).f2.f3) ((rd_T64 l0 x5_2).f3) ((rd_T64 l0 x5_2).f4)))) = some r := by rw [if_pos rfl] at H; exact H
           clear H
           have H := H1
           clear H1
           by_cases c14 : ((rd_T64 l0 x5_2).f1.f0) = 1
           ·rw [if_pos c14] at H
            have c14b0 : (((rd_T64 l0 x5_2).f1.f0) == 1) = true := beq_iff_eq.mpr c14
            have c14b1 : (((rd_T64 l0 x5_2).f1.f0) != 1) = false := bne_eq_false_iff_eq.mpr c14
            clear c14
            have H' := z0 H
            clear H
            obtain ⟨hcz15_0, hcz15_1, hcz15_2, hcz15_3, hcz15_4, hcz15_5, hcz15_6, hcz15_7, hcz15_8, hcz15_9, hfz15_0, hfz15_1, hfz15_2, hfz15_3, hfz15_4, hfz15_5, hfz15_6, hfz15_7, hfz15_8, hfz15_9⟩ := cel10 BK131.out
            go_wp2_with (first | ((with_reducible refine gate_callee (f := 23) rfl ?_); refine goesL_ (some 31) rfl rfl Try.func23 (by kernel_rfl) rfl #[.agg #[.int .i64 ((rd_T64 l0 x5_2).f1.f0), .int .i64 ((rd_T64 l0 x5_2).f1.f1)]] rfl argx ?_; (with_reducible refine (spec_AddrOk.calls ((rd_T64 l0 x5_2).f1.f0) ((rd_T64 l0 x5_2).f1.f1) true _ A12.out).mono ?_); rintro e w16 ⟨rfl, hb⟩; refine ⟨_, rfl, ?_⟩; have n0_ := z0 (blk_below (g := gb131) (o := .cells #[.int .i64 ((rd_T64 l0 x5_2).f0), .int .i64 ((rd_T64 l0 x5_2).f1.f0), .int .i64 ((rd_T64 l0 x5_2).f1.f1), .int .i64 ((rd_T64 l0 x5_2).f2.f0), .int .i64 ((rd_T64 l0 x5_2).f2.f1), .int .i64 ((rd_T64 l0 x5_2).f2.f2.f0), .int .i64 ((rd_T64 l0 x5_2).f2.f2.f1), .slice A130_7 ((rd_T64 l0 x5_2).f2.f3).length c130_7, .slice A130_8 ((rd_T64 l0 x5_2).f3).length c130_8, .slice A130_9 ((rd_T64 l0 x5_2).f4).length c130_9] 64 (0, 0)) (by (with_reducible repeat (first | refine blk_drewN ?_ _ | refine blk_drew ?_ | refine blk_alloc ?_ _)); refine blk_put (cs := #[.int .i64 ((rd_T64 l0 x5_2).f0), .int .i64 ((rd_T64 l0 x5_2).f1.f0), .int .i64 ((rd_T64 l0 x5_2).f1.f1), .int .i64 ((rd_T64 l0 x5_2).f2.f0), .int .i64 ((rd_T64 l0 x5_2).f2.f1), .int .i64 ((rd_T64 l0 x5_2).f2.f2.f0), .int .i64 ((rd_T64 l0 x5_2).f2.f2.f1), .slice A130_7 ((rd_T64 l0 x5_2).f2.f3).length c130_7, .slice A130_8 ((rd_T64 l0 x5_2).f3).length c130_8, .slice none 0 0]) ?_ 9 _ rfl; (with_reducible repeat (first | refine blk_drewN ?_ _ | refine blk_drew ?_ | refine blk_alloc ?_ _)); refine blk_put (cs := #[.int .i64 ((rd_T64 l0 x5_2).f0), .int .i64 ((rd_T64 l0 x5_2).f1.f0), .int .i64 ((rd_T64 l0 x5_2).f1.f1), .int .i64 ((rd_T64 l0 x5_2).f2.f0), .int .i64 ((rd_T64 l0 x5_2).f2.f1), .int .i64 ((rd_T64 l0 x5_2).f2.f2.f0), .int .i64 ((rd_T64 l0 x5_2).f2.f2.f1), .slice A130_7 ((rd_T64 l0 x5_2).f2.f3).length c130_7, .slice none 0 0, .slice none 0 0]) ?_ 8 _ rfl; (with_reducible repeat (first | refine blk_drewN ?_ _ | refine blk_drew ?_ | refine blk_alloc ?_ _)); refine blk_put (cs := #[.int .i64 ((rd_T64 l0 x5_2).f0), .int .i64 ((rd_T64 l0 x5_2).f1.f0), .int .i64 ((rd_T64 l0 x5_2).f1.f1), .int .i64 ((rd_T64 l0 x5_2).f2.f0), .int .i64 ((rd_T64 l0 x5_2).f2.f1), .int .i64 ((rd_T64 l0 x5_2).f2.f2.f0), .int .i64 ((rd_T64 l0 x5_2).f2.f2.f1), .slice none 0 0, .slice none 0 0, .slice none 0 0]) ?_ 7 _ rfl; (with_reducible repeat (first | refine blk_drewN ?_ _ | refine blk_drew ?_ | refine blk_alloc ?_ _)); refine blk_put (cs := #[.int .i64 ((rd_T64 l0 x5_2).f0), .int .i64 ((rd_T64 l0 x5_2).f1.f0), .int .i64 ((rd_T64 l0 x5_2).f1.f1), .int .i64 ((rd_T64 l0 x5_2).f2.f0), .int .i64 ((rd_T64 l0 x5_2).f2.f1), .int .i64 ((rd_T64 l0 x5_2).f2.f2.f0), .int .i64 0, .slice none 0 0, .slice none 0 0, .slice none 0 0]) ?_ 6 _ rfl; (with_reducible repeat (first | refine blk_drewN ?_ _ | refine blk_drew ?_ | refine blk_alloc ?_ _)); refine blk_put (cs := #[.int .i64 ((rd_T64 l0 x5_2).f0), .int .i64 ((rd_T64 l0 x5_2).f1.f0), .int .i64 ((rd_T64 l0 x5_2).f1.f1), .int .i64 ((rd_T64 l0 x5_2).f2.f0), .int .i64 ((rd_T64 l0 x5_2).f2.f1), .int .i64 0, .int .i64 0, .slice none 0 0, .slice none 0 0, .slice none 0 0]) ?_ 5 _ rfl; (with_reducible repeat (first | refine blk_drewN ?_ _ | refine blk_drew ?_ | refine blk_alloc ?_ _)); refine blk_put (cs := #[.int .i64 ((rd_T64 l0 x5_2).f0), .int .i64 ((rd_T64 l0 x5_2).f1.f0), .int .i64 ((rd_T64 l0 x5_2).f1.f1), .int .i64 ((rd_T64 l0 x5_2).f2.f0), .int .i64 0, .int .i64 0, .int .i64 0, .slice none 0 0, .slice none 0 0, .slice none 0 0]) ?_ 4 _ rfl; (with_reducible repeat (first | refine blk_drewN ?_ _ | refine blk_drew ?_ | refine blk_alloc ?_ _)); refine blk_put (cs := #[.int .i64 ((rd_T64 l0 x5_2).f0), .int .i64 ((rd_T64 l0 x5_2).f1.f0), .int .i64 ((rd_T64 l0 x5_2).f1.f1), .int .i64 0, .int .i64 0, .int .i64 0, .int .i64 0, .slice none 0 0, .slice none 0 0, .slice none 0 0]) ?_ 3 _ rfl; (with_reducible repeat (first | refine blk_drewN ?_ _ | refine blk_drew ?_ | refine blk_alloc ?_ _)); refine blk_put (cs := #[.int .i64 ((rd_T64 l0 x5_2).f0), .int .i64 ((rd_T64 l0 x5_2).f1.f0), .int .i64 0, .int .i64 0, .int .i64 0, .int .i64 0, .int .i64 0, .slice none 0 0, .slice none 0 0, .slice none 0 0]) ?_ 2 _ rfl; (with_reducible repeat (first | refine blk_drewN ?_ _ | refine blk_drew ?_ | refine blk_alloc ?_ _)); refine blk_put (cs := #[.int .i64 ((rd_T64 l0 x5_2).f0), .int .i64 0, .int .i64 0, .int .i64 0, .int .i64 0, .int .i64 0, .int .i64 0, .slice none 0 0, .slice none 0 0, .slice none 0 0]) ?_ 1 _ rfl; (with_reducible repeat (first | refine blk_drewN ?_ _ | refine blk_drew ?_ | refine blk_alloc ?_ _)); refine blk_put (cs := #[.int .i64 0, .int .i64 0, .int .i64 0, .int .i64 0, .int .i64 0, .int .i64 0, .int .i64 0, .slice none 0 0, .slice none 0 0, .slice none 0 0]) ?_ 0 _ rfl; (with_reducible repeat (first | refine blk_drewN ?_ _ | refine blk_drew ?_ | refine blk_alloc ?_ _)); exact BK131.out) hb); have n1_ := z0 (below_step (mB HB.out) hb); clear BK131; clear HB; have BK131 := n0_; have HB := n1_; clear n0_ n1_; (try clear hb); (try clear hb2); (try clear hk); (try clear hi); obtain ⟨hcz17_0, hcz17_1, hcz17_2, hcz17_3, hcz17_4, hcz17_5, hcz17_6, hcz17_7, hcz17_8, hcz17_9, hfz17_0, hfz17_1, hfz17_2, hfz17_3, hfz17_4, hfz17_5, hfz17_6, hfz17_7, hfz17_8, hfz17_9⟩ := cel10 BK131.out))
            go_meet
            case rel => exact ⟨_, (false), rfy, H', ⟨by have := HJ2.out; have := HK2.out; first | omega | exact Nat.le_refl _⟩, ⟨mK BK131.out⟩, ⟨mB HB.out⟩⟩
           ·rw [if_neg c14] at H
            have c14b0 : (((rd_T64 l0 x5_2).f1.f0) == 1) = false := beq_eq_false_iff_ne.mpr c14
            have c14b1 : (((rd_T64 l0 x5_2).f1.f0) != 1) = true := bne_iff_ne.mpr c14
            by_cases c18 : (((rd_T64 l0 x5_2).f3).length : Int) = 0
            ·rw [if_pos c18] at H
             have c18b0 : ((((rd_T64 l0 x5_2).f3).length : Int) == 0) = true := beq_iff_eq.mpr c18
             have c18b1 : ((((rd_T64 l0 x5_2).f3).length : Int) != 0) = false := bne_eq_false_iff_eq.mpr c18
             clear c18
             have H' := z0 H
             clear H
             obtain ⟨hcz19_0, hcz19_1, hcz19_2, hcz19_3, hcz19_4, hcz19_5, hcz19_6, hcz19_7, hcz19_8, hcz19_9, hfz19_0, hfz19_1, hfz19_2, hfz19_3, hfz19_4, hfz19_5, hfz19_6, hfz19_7, hfz19_8, hfz19_9⟩ := cel10 BK131.out
             go_wp2_with (first | ((with_reducible refine gate_callee (f := 23) rfl ?_); refine goesL_ (some 31) rfl rfl Try.func23 (by kernel_rfl) rfl #[.agg #[.int .i64 ((rd_T64 l0 x5_2).f1.f0), .int .i64 ((rd_T64 l0 x5_2).f1.f1)]] rfl argx ?_; (with_reducible refine (spec_AddrOk.calls ((rd_T64 l0 x5_2).f1.f0) ((rd_T64 l0 x5_2).f1.f1) true _ A12.out).mono ?_); rintro e w20 ⟨rfl, hb⟩; refine ⟨_, rfl, ?_⟩; have n0_ := z0 (blk_below (g := gb131) (o := .cells #[.int .i64 ((rd_T64 l0 x5_2).f0), .int .i64 ((rd_T64 l0 x5_2).f1.f0), .int .i64 ((rd_T64 l0 x5_2).f1.f1), .int .i64 ((rd_T64 l0 x5_2).f2.f0), .int .i64 ((rd_T64 l0 x5_2).f2.f1), .int .i64 ((rd_T64 l0 x5_2).f2.f2.f0), .int .i64 ((rd_T64 l0 x5_2).f2.f2.f1), .slice A130_7 ((rd_T64 l0 x5_2).f2.f3).length c130_7, .slice A130_8 ((rd_T64 l0 x5_2).f3).length c130_8, .slice A130_9 ((rd_T64 l0 x5_2).f4).length c130_9] 64 (0, 0)) (by (with_reducible repeat (first | refine blk_drewN ?_ _ | refine blk_drew ?_ | refine blk_alloc ?_ _)); refine blk_put (cs := #[.int .i64 ((rd_T64 l0 x5_2).f0), .int .i64 ((rd_T64 l0 x5_2).f1.f0), .int .i64 ((rd_T64 l0 x5_2).f1.f1), .int .i64 ((rd_T64 l0 x5_2).f2.f0), .int .i64 ((rd_T64 l0 x5_2).f2.f1), .int .i64 ((rd_T64 l0 x5_2).f2.f2.f0), .int .i64 ((rd_T64 l0 x5_2).f2.f2.f1), .slice A130_7 ((rd_T64 l0 x5_2).f2.f3).length c130_7, .slice A130_8 ((rd_T64 l0 x5_2).f3).length c130_8, .slice none 0 0]) ?_ 9 _ rfl; (with_reducible repeat (first | refine blk_drewN ?_ _ | refine blk_drew ?_ | refine blk_alloc ?_ _)); refine blk_put (cs := #[.int .i64 ((rd_T64 l0 x5_2).f0), .int .i64 ((rd_T64 l0 x5_2).f1.f0), .int .i64 ((rd_T64 l0 x5_2).f1.f1), .int .i64 ((rd_T64 l0 x5_2).f2.f0), .int .i64 ((rd_T64 l0 x5_2).f2.f1), .int .i64 ((rd_T64 l0 x5_2).f2.f2.f0), .int .i64 ((rd_T64 l0 x5_2).f2.f2.f1), .slice A130_7 ((rd_T64 l0 x5_2).f2.f3).length c130_7, .slice none 0 0, .slice none 0 0]) ?_ 8 _ rfl; (with_reducible repeat (first | refine blk_drewN ?_ _ | refine blk_drew ?_ | refine blk_alloc ?_ _)); refine blk_put (cs := #[.int .i64 ((rd_T64 l0 x5_2).f0), .int .i64 ((rd_T64 l0 x5_2).f1.f0), .int .i64 ((rd_T64 l0 x5_2).f1.f1), .int .i64 ((rd_T64 l0 x5_2).f2.f0), .int .i64 ((rd_T64 l0 x5_2).f2.f1), .int .i64 ((rd_T64 l0 x5_2).f2.f2.f0), .int .i64 ((rd_T64 l0 x5_2).f2.f2.f1), .slice none 0 0, .slice none 0 0, .slice none 0 0]) ?_ 7 _ rfl; (with_reducible repeat (first | refine blk_drewN ?_ _ | refine blk_drew ?_ | refine blk_alloc ?_ _)); refine blk_put (cs := #[.int .i64 ((rd_T64 l0 x5_2).f0), .int .i64 ((rd_T64 l0 x5_2).f1.f0), .int .i64 ((rd_T64 l0 x5_2).f1.f1), .int .i64 ((rd_T64 l0 x5_2).f2.f0), .int .i64 ((rd_T64 l0 x5_2).f2.f1), .int .i64 ((rd_T64 l0 x5_2).f2.f2.f0), .int .i64 0, .slice none 0 0, .slice none 0 0, .slice none 0 0]) ?_ 6 _ rfl; (with_reducible repeat (first | refine blk_drewN ?_ _ | refine blk_drew ?_ | refine blk_alloc ?_ _)); refine blk_put (cs := #[.int .i64 ((rd_T64 l0 x5_2).f0), .int .i64 ((rd_T64 l0 x5_2).f1.f0), .int .i64 ((rd_T64 l0 x5_2).f1.f1), .int .i64 ((rd_T64 l0 x5_2).f2.f0), .int .i64 ((rd_T64 l0 x5_2).f2.f1), .int .i64 0, .int .i64 0, .slice none 0 0, .slice none 0 0, .slice none 0 0]) ?_ 5 _ rfl; (with_reducible repeat (first | refine blk_drewN ?_ _ | refine blk_drew ?_ | refine blk_alloc ?_ _)); refine blk_put (cs := #[.int .i64 ((rd_T64 l0 x5_2).f0), .int .i64 ((rd_T64 l0 x5_2).f1.f0), .int .i64 ((rd_T64 l0 x5_2).f1.f1), .int .i64 ((rd_T64 l0 x5_2).f2.f0), .int .i64 0, .int .i64 0, .int .i64 0, .slice none 0 0, .slice none 0 0, .slice none 0 0]) ?_ 4 _ rfl; (with_reducible repeat (first | refine blk_drewN ?_ _ | refine blk_drew ?_ | refine blk_alloc ?_ _)); refine blk_put (cs := #[.int .i64 ((rd_T64 l0 x5_2).f0), .int .i64 ((rd_T64 l0 x5_2).f1.f0), .int .i64 ((rd_T64 l0 x5_2).f1.f1), .int .i64 0, .int .i64 0, .int .i64 0, .int .i64 0, .slice none 0 0, .slice none 0 0, .slice none 0 0]) ?_ 3 _ rfl; (with_reducible repeat (first | refine blk_drewN ?_ _ | refine blk_drew ?_ | refine blk_alloc ?_ _)); refine blk_put (cs := #[.int .i64 ((rd_T64 l0 x5_2).f0), .int .i64 ((rd_T64 l0 x5_2).f1.f0), .int .i64 0, .int .i64 0, .int .i64 0, .int .i64 0, .int .i64 0, .slice none 0 0, .slice none 0 0, .slice none 0 0]) ?_ 2 _ rfl; (with_reducible repeat (first | refine blk_drewN ?_ _ | refine blk_drew ?_ | refine blk_alloc ?_ _)); refine blk_put (cs := #[.int .i64 ((rd_T64 l0 x5_2).f0), .int .i64 0, .int .i64 0, .int .i64 0, .int .i64 0, .int .i64 0, .int .i64 0, .slice none 0 0, .slice none 0 0, .slice none 0 0]) ?_ 1 _ rfl; (with_reducible repeat (first | refine blk_drewN ?_ _ | refine blk_drew ?_ | refine blk_alloc ?_ _)); refine blk_put (cs := #[.int .i64 0, .int .i64 0, .int .i64 0, .int .i64 0, .int .i64 0, .int .i64 0, .int .i64 0, .slice none 0 0, .slice none 0 0, .slice none 0 0]) ?_ 0 _ rfl; (with_reducible repeat (first | refine blk_drewN ?_ _ | refine blk_drew ?_ | refine blk_alloc ?_ _)); exact BK131.out) hb); have n1_ := z0 (below_step (mB HB.out) hb); clear BK131; clear HB; have BK131 := n0_; have HB := n1_; clear n0_ n1_; (try clear hb); (try clear hb2); (try clear hk); (try clear hi); obtain ⟨hcz21_0, hcz21_1, hcz21_2, hcz21_3, hcz21_4, hcz21_5, hcz21_6, hcz21_7, hcz21_8, hcz21_9, hfz21_0, hfz21_1, hfz21_2, hfz21_3, hfz21_4, hfz21_5, hfz21_6, hfz21_7, hfz21_8, hfz21_9⟩ := cel10 BK131.out))
             go_meet
             case rel => exact ⟨_, (((((rd_T64 l0 x5_2).f4).length : Int) == 0)), rfy, H', ⟨by have := HJ2.out; have := HK2.out; first | omega | exact Nat.le_refl _⟩, ⟨mK BK131.out⟩, ⟨mB HB.out⟩⟩
            ·rw [if_neg c18] at H
             have c18b0 : ((((rd_T64 l0 x5_2).f3).length : Int) == 0) = false := beq_eq_false_iff_ne.mpr c18
             have c18b1 : ((((rd_T64 l0 x5_2).f3).length : Int) != 0) = true := bne_iff_ne.mpr c18
             have c18b2 : ¬ (((rd_T64 l0 x5_2).f3) = []) := fun h_ => c18 (by rw [h_]; rfl)
             have H' := z0 H
             clear H
             obtain ⟨hcz22_0, hcz22_1, hcz22_2, hcz22_3, hcz22_4, hcz22_5, hcz22_6, hcz22_7, hcz22_8, hcz22_9, hfz22_0, hfz22_1, hfz22_2, hfz22_3, hfz22_4, hfz22_5, hfz22_6, hfz22_7, hfz22_8, hfz22_9⟩ := cel10 BK131.out
             go_wp2_with (first | ((with_reducible refine gate_callee (f := 23) rfl ?_); refine goesL_ (some 31) rfl rfl Try.func23 (by kernel_rfl) rfl #[.agg #[.int .i64 ((rd_T64 l0 x5_2).f1.f0), .int .i64 ((rd_T64 l0 x5_2).f1.f1)]] rfl argx ?_; (with_reducible refine (spec_AddrOk.calls ((rd_T64 l0 x5_2).f1.f0) ((rd_T64 l0 x5_2).f1.f1) true _ A12.out).mono ?_); rintro e w23 ⟨rfl, hb⟩; refine ⟨_, rfl, ?_⟩; have n0_ := z0 (blk_below (g := gb131) (o := .cells #[.int .i64 ((rd_T64 l0 x5_2).f0), .int .i64 ((rd_T64 l0 x5_2).f1.f0), .int .i64 ((rd_T64 l0 x5_2).f1.f1), .int .i64 ((rd_T64 l0 x5_2).f2.f0), .int .i64 ((rd_T64 l0 x5_2).f2.f1), .int .i64 ((rd_T64 l0 x5_2).f2.f2.f0), .int .i64 ((rd_T64 l0 x5_2).f2.f2.f1), .slice A130_7 ((rd_T64 l0 x5_2).f2.f3).length c130_7, .slice A130_8 ((rd_T64 l0 x5_2).f3).length c130_8, .slice A130_9 ((rd_T64 l0 x5_2).f4).length c130_9] 64 (0, 0)) (by (with_reducible repeat (first | refine blk_drewN ?_ _ | refine blk_drew ?_ | refine blk_alloc ?_ _)); refine blk_put (cs := #[.int .i64 ((rd_T64 l0 x5_2).f0), .int .i64 ((rd_T64 l0 x5_2).f1.f0), .int .i64 ((rd_T64 l0 x5_2).f1.f1), .int .i64 ((rd_T64 l0 x5_2).f2.f0), .int .i64 ((rd_T64 l0 x5_2).f2.f1), .int .i64 ((rd_T64 l0 x5_2).f2.f2.f0), .int .i64 ((rd_T64 l0 x5_2).f2.f2.f1), .slice A130_7 ((rd_T64 l0 x5_2).f2.f3).length c130_7, .slice A130_8 ((rd_T64 l0 x5_2).f3).length c130_8, .slice none 0 0]) ?_ 9 _ rfl; (with_reducible repeat (first | refine blk_drewN ?_ _ | refine blk_drew ?_ | refine blk_alloc ?_ _)); refine blk_put (cs := #[.int .i64 ((rd_T64 l0 x5_2).f0), .int .i64 ((rd_T64 l0 x5_2).f1.f0), .int .i64 ((rd_T64 l0 x5_2).f1.f1), .int .i64 ((rd_T64 l0 x5_2).f2.f0), .int .i64 ((rd_T64 l0 x5_2).f2.f1), .int .i64 ((rd_T64 l0 x5_2).f2.f2.f0), .int .i64 ((rd_T64 l0 x5_2).f2.f2.f1), .slice A130_7 ((rd_T64 l0 x5_2).f2.f3).length c130_7, .slice none 0 0, .slice none 0 0]) ?_ 8 _ rfl; (with_reducible repeat (first | refine blk_drewN ?_ _ | refine blk_drew ?_ | refine blk_alloc ?_ _)); refine blk_put (cs := #[.int .i64 ((rd_T64 l0 x5_2).f0), .int .i64 ((rd_T64 l0 x5_2).f1.f0), .int .i64 ((rd_T64 l0 x5_2).f1.f1), .int .i64 ((rd_T64 l0 x5_2).f2.f0), .int .i64 ((rd_T64 l0 x5_2).f2.f1), .int .i64 ((rd_T64 l0 x5_2).f2.f2.f0), .int .i64 ((rd_T64 l0 x5_2).f2.f2.f1), .slice none 0 0, .slice none 0 0, .slice none 0 0]) ?_ 7 _ rfl; (with_reducible repeat (first | refine blk_drewN ?_ _ | refine blk_drew ?_ | refine blk_alloc ?_ _)); refine blk_put (cs := #[.int .i64 ((rd_T64 l0 x5_2).f0), .int .i64 ((rd_T64 l0 x5_2).f1.f0), .int .i64 ((rd_T64 l0 x5_2).f1.f1), .int .i64 ((rd_T64 l0 x5_2).f2.f0), .int .i64 ((rd_T64 l0 x5_2).f2.f1), .int .i64 ((rd_T64 l0 x5_2).f2.f2.f0), .int .i64 0, .slice none 0 0, .slice none 0 0, .slice none 0 0]) ?_ 6 _ rfl; (with_reducible repeat (first | refine blk_drewN ?_ _ | refine blk_drew ?_ | refine blk_alloc ?_ _)); refine blk_put (cs := #[.int .i64 ((rd_T64 l0 x5_2).f0), .int .i64 ((rd_T64 l0 x5_2).f1.f0), .int .i64 ((rd_T64 l0 x5_2).f1.f1), .int .i64 ((rd_T64 l0 x5_2).f2.f0), .int .i64 ((rd_T64 l0 x5_2).f2.f1), .int .i64 0, .int .i64 0, .slice none 0 0, .slice none 0 0, .slice none 0 0]) ?_ 5 _ rfl; (with_reducible repeat (first | refine blk_drewN ?_ _ | refine blk_drew ?_ | refine blk_alloc ?_ _)); refine blk_put (cs := #[.int .i64 ((rd_T64 l0 x5_2).f0), .int .i64 ((rd_T64 l0 x5_2).f1.f0), .int .i64 ((rd_T64 l0 x5_2).f1.f1), .int .i64 ((rd_T64 l0 x5_2).f2.f0), .int .i64 0, .int .i64 0, .int .i64 0, .slice none 0 0, .slice none 0 0, .slice none 0 0]) ?_ 4 _ rfl; (with_reducible repeat (first | refine blk_drewN ?_ _ | refine blk_drew ?_ | refine blk_alloc ?_ _)); refine blk_put (cs := #[.int .i64 ((rd_T64 l0 x5_2).f0), .int .i64 ((rd_T64 l0 x5_2).f1.f0), .int .i64 ((rd_T64 l0 x5_2).f1.f1), .int .i64 0, .int .i64 0, .int .i64 0, .int .i64 0, .slice none 0 0, .slice none 0 0, .slice none 0 0]) ?_ 3 _ rfl; (with_reducible repeat (first | refine blk_drewN ?_ _ | refine blk_drew ?_ | refine blk_alloc ?_ _)); refine blk_put (cs := #[.int .i64 ((rd_T64 l0 x5_2).f0), .int .i64 ((rd_T64 l0 x5_2).f1.f0), .int .i64 0, .int .i64 0, .int .i64 0, .int .i64 0, .int .i64 0, .slice none 0 0, .slice none 0 0, .slice none 0 0]) ?_ 2 _ rfl; (with_reducible repeat (first | refine blk_drewN ?_ _ | refine blk_drew ?_ | refine blk_alloc ?_ _)); refine blk_put (cs := #[.int .i64 ((rd_T64 l0 x5_2).f0), .int .i64 0, .int .i64 0, .int .i64 0, .int .i64 0, .int .i64 0, .int .i64 0, .slice none 0 0, .slice none 0 0, .slice none 0 0]) ?_ 1 _ rfl; (with_reducible repeat (first | refine blk_drewN ?_ _ | refine blk_drew ?_ | refine blk_alloc ?_ _)); refine blk_put (cs := #[.int .i64 0, .int .i64 0, .int .i64 0, .int .i64 0, .int .i64 0, .int .i64 0, .int .i64 0, .slice none 0 0, .slice none 0 0, .slice none 0 0]) ?_ 0 _ rfl; (with_reducible repeat (first | refine blk_drewN ?_ _ | refine blk_drew ?_ | refine blk_alloc ?_ _)); exact BK131.out) hb); have n1_ := z0 (below_step (mB HB.out) hb); clear BK131; clear HB; have BK131 := n0_; have HB := n1_; clear n0_ n1_; (try clear hb); (try clear hb2); (try clear hk); (try clear hi); obtain ⟨hcz24_0, hcz24_1, hcz24_2, hcz24_3, hcz24_4, hcz24_5, hcz24_6, hcz24_7, hcz24_8, hcz24_9, hfz24_0, hfz24_1, hfz24_2, hfz24_3, hfz24_4, hfz24_5, hfz24_6, hfz24_7, hfz24_8, hfz24_9⟩ := cel10 BK131.out))
             go_meet
             case rel => exact ⟨_, (false), rfy, H', ⟨by have := HJ2.out; have := HK2.out; first | omega | exact Nat.le_refl _⟩, ⟨mK BK131.out⟩, ⟨mB HB.out⟩⟩
          ·replace c13 := Bool.eq_false_iff.mpr c13
           subst c13
           have H1 : (spec_l4Form.j2 k2 l0 a1 x5_2 false ((rd_T64 l0 x5_2).f0) ((rd_T64 l0 x5_2).f1.f0) ((rd_T64 l0 x5_2).f1.f1) ((rd_T64 l0 x5_2).f2.f0) ((rd_T64 l0 x5_2).f2.f1) ((rd_T64 l0 x5_2).f2.f2.f0) ((rd_T64 l0 x5_2).f2.f2.f1) ((rd_T64 l0 x5_2).f2.f3) ((rd_T64 l0 x5_2).f3) ((rd_T64 l0 x5_2).f4)) = some r := by rw [if_neg (show ¬ (false = true) by decide)] at H; exact H
           clear H
           have H := H1
           clear H1
           have H' := z0 H
           clear H
           obtain ⟨hcz25_0, hcz25_1, hcz25_2, hcz25_3, hcz25_4, hcz25_5, hcz25_6, hcz25_7, hcz25_8, hcz25_9, hfz25_0, hfz25_1, hfz25_2, hfz25_3, hfz25_4, hfz25_5, hfz25_6, hfz25_7, hfz25_8, hfz25_9⟩ := cel10 BK131.out
           go_wp2_with (first | ((with_reducible refine gate_callee (f := 23) rfl ?_); refine goesL_ (some 31) rfl rfl Try.func23 (by kernel_rfl) rfl #[.agg #[.int .i64 ((rd_T64 l0 x5_2).f1.f0), .int .i64 ((rd_T64 l0 x5_2).f1.f1)]] rfl argx ?_; (with_reducible refine (spec_AddrOk.calls ((rd_T64 l0 x5_2).f1.f0) ((rd_T64 l0 x5_2).f1.f1) false _ A12.out).mono ?_); rintro e w26 ⟨rfl, hb⟩; refine ⟨_, rfl, ?_⟩; have n0_ := z0 (blk_below (g := gb131) (o := .cells #[.int .i64 ((rd_T64 l0 x5_2).f0), .int .i64 ((rd_T64 l0 x5_2).f1.f0), .int .i64 ((rd_T64 l0 x5_2).f1.f1), .int .i64 ((rd_T64 l0 x5_2).f2.f0), .int .i64 ((rd_T64 l0 x5_2).f2.f1), .int .i64 ((rd_T64 l0 x5_2).f2.f2.f0), .int .i64 ((rd_T64 l0 x5_2).f2.f2.f1), .slice A130_7 ((rd_T64 l0 x5_2).f2.f3).length c130_7, .slice A130_8 ((rd_T64 l0 x5_2).f3).length c130_8, .slice A130_9 ((rd_T64 l0 x5_2).f4).length c130_9] 64 (0, 0)) (by (with_reducible repeat (first | refine blk_drewN ?_ _ | refine blk_drew ?_ | refine blk_alloc ?_ _)); refine blk_put (cs := #[.int .i64 ((rd_T64 l0 x5_2).f0), .int .i64 ((rd_T64 l0 x5_2).f1.f0), .int .i64 ((rd_T64 l0 x5_2).f1.f1), .int .i64 ((rd_T64 l0 x5_2).f2.f0), .int .i64 ((rd_T64 l0 x5_2).f2.f1), .int .i64 ((rd_T64 l0 x5_2).f2.f2.f0), .int .i64 ((rd_T64 l0 x5_2).f2.f2.f1), .slice A130_7 ((rd_T64 l0 x5_2).f2.f3).length c130_7, .slice A130_8 ((rd_T64 l0 x5_2).f3).length c130_8, .slice none 0 0]) ?_ 9 _ rfl; (with_reducible repeat (first | refine blk_drewN ?_ _ | refine blk_drew ?_ | refine blk_alloc ?_ _)); refine blk_put (cs := #[.int .i64 ((rd_T64 l0 x5_2).f0), .int .i64 ((rd_T64 l0 x5_2).f1.f0), .int .i64 ((rd_T64 l0 x5_2).f1.f1), .int .i64 ((rd_T64 l0 x5_2).f2.f0), .int .i64 ((rd_T64 l0 x5_2).f2.f1), .int .i64 ((rd_T64 l0 x5_2).f2.f2.f0), .int .i64 ((rd_T64 l0 x5_2).f2.f2.f1), .slice A130_7 ((rd_T64 l0 x5_2).f2.f3).length c130_7, .slice none 0 0, .slice none 0 0]) ?_ 8 _ rfl; (with_reducible repeat (first | refine blk_drewN ?_ _ | refine blk_drew ?_ | refine blk_alloc ?_ _)); refine blk_put (cs := #[.int .i64 ((rd_T64 l0 x5_2).f0), .int .i64 ((rd_T64 l0 x5_2).f1.f0), .int .i64 ((rd_T64 l0 x5_2).f1.f1), .int .i64 ((rd_T64 l0 x5_2).f2.f0), .int .i64 ((rd_T64 l0 x5_2).f2.f1), .int .i64 ((rd_T64 l0 x5_2).f2.f2.f0), .int .i64 ((rd_T64 l0 x5_2).f2.f2.f1), .slice none 0 0, .slice none 0 0, .slice none 0 0]) ?_ 7 _ rfl; (with_reducible repeat (first | refine blk_drewN ?_ _ | refine blk_drew ?_ | refine blk_alloc ?_ _)); refine blk_put (cs := #[.int .i64 ((rd_T64 l0 x5_2).f0), .int .i64 ((rd_T64 l0 x5_2).f1.f0), .int .i64 ((rd_T64 l0 x5_2).f1.f1), .int .i64 ((rd_T64 l0 x5_2).f2.f0), .int .i64 ((rd_T64 l0 x5_2).f2.f1), .int .i64 ((rd_T64 l0 x5_2).f2.f2.f0), .int .i64 0, .slice none 0 0, .slice none 0 0, .slice none 0 0]) ?_ 6 _ rfl; (with_reducible repeat (first | refine blk_drewN ?_ _ | refine blk_drew ?_ | refine blk_alloc ?_ _)); refine blk_put (cs := #[.int .i64 ((rd_T64 l0 x5_2).f0), .int .i64 ((rd_T64 l0 x5_2).f1.f0), .int .i64 ((rd_T64 l0 x5_2).f1.f1), .int .i64 ((rd_T64 l0 x5_2).f2.f0), .int .i64 ((rd_T64 l0 x5_2).f2.f1), .int .i64 0, .int .i64 0, .slice none 0 0, .slice none 0 0, .slice none 0 0]) ?_ 5 _ rfl; (with_reducible repeat (first | refine blk_drewN ?_ _ | refine blk_drew ?_ | refine blk_alloc ?_ _)); refine blk_put (cs := #[.int .i64 ((rd_T64 l0 x5_2).f0), .int .i64 ((rd_T64 l0 x5_2).f1.f0), .int .i64 ((rd_T64 l0 x5_2).f1.f1), .int .i64 ((rd_T64 l0 x5_2).f2.f0), .int .i64 0, .int .i64 0, .int .i64 0, .slice none 0 0, .slice none 0 0, .slice none 0 0]) ?_ 4 _ rfl; (with_reducible repeat (first | refine blk_drewN ?_ _ | refine blk_drew ?_ | refine blk_alloc ?_ _)); refine blk_put (cs := #[.int .i64 ((rd_T64 l0 x5_2).f0), .int .i64 ((rd_T64 l0 x5_2).f1.f0), .int .i64 ((rd_T64 l0 x5_2).f1.f1), .int .i64 0, .int .i64 0, .int .i64 0, .int .i64 0, .slice none 0 0, .slice none 0 0, .slice none 0 0]) ?_ 3 _ rfl; (with_reducible repeat (first | refine blk_drewN ?_ _ | refine blk_drew ?_ | refine blk_alloc ?_ _)); refine blk_put (cs := #[.int .i64 ((rd_T64 l0 x5_2).f0), .int .i64 ((rd_T64 l0 x5_2).f1.f0), .int .i64 0, .int .i64 0, .int .i64 0, .int .i64 0, .int .i64 0, .slice none 0 0, .slice none 0 0, .slice none 0 0]) ?_ 2 _ rfl; (with_reducible repeat (first | refine blk_drewN ?_ _ | refine blk_drew ?_ | refine blk_alloc ?_ _)); refine blk_put (cs := #[.int .i64 ((rd_T64 l0 x5_2).f0), .int .i64 0, .int .i64 0, .int .i64 0, .int .i64 0, .int .i64 0, .int .i64 0, .slice none 0 0, .slice none 0 0, .slice none 0 0]) ?_ 1 _ rfl; (with_reducible repeat (first | refine blk_drewN ?_ _ | refine blk_drew ?_ | refine blk_alloc ?_ _)); refine blk_put (cs := #[.int .i64 0, .int .i64 0, .int .i64 0, .int .i64 0, .int .i64 0, .int .i64 0, .int .i64 0, .slice none 0 0, .slice none 0 0, .slice none 0 0]) ?_ 0 _ rfl; (with_reducible repeat (first | refine blk_drewN ?_ _ | refine blk_drew ?_ | refine blk_alloc ?_ _)); exact BK131.out) hb); have n1_ := z0 (below_step (mB HB.out) hb); clear BK131; clear HB; have BK131 := n0_; have HB := n1_; clear n0_ n1_; (try clear hb); (try clear hb2); (try clear hk); (try clear hi)))
           go_meet
           case rel => exact ⟨_, (false), rfy, H', ⟨by have := HJ2.out; have := HK2.out; first | omega | exact Nat.le_refl _⟩, ⟨mK BK131.out⟩, ⟨mB HB.out⟩⟩
         ·rw [if_neg c11] at H
          have c11b0 : (((rd_T64 l0 x5_2).f0) == 1) = false := beq_eq_false_iff_ne.mpr c11
          have c11b1 : (((rd_T64 l0 x5_2).f0) != 1) = true := bne_iff_ne.mpr c11
          (first | rw [c11b0] | (simp only [i64_w, i32_w]; rw [c11b0]) | skip)
          by_cases c27 : ((rd_T64 l0 x5_2).f0) = 2
          ·rw [if_pos c27] at H
           have c27b0 : (((rd_T64 l0 x5_2).f0) == 2) = true := beq_iff_eq.mpr c27
           have c27b1 : (((rd_T64 l0 x5_2).f0) != 2) = false := bne_eq_false_iff_eq.mpr c27
           clear c27
           have H' := z0 H
           clear H
           obtain ⟨hcz28_0, hcz28_1, hcz28_2, hcz28_3, hcz28_4, hcz28_5, hcz28_6, hcz28_7, hcz28_8, hcz28_9, hfz28_0, hfz28_1, hfz28_2, hfz28_3, hfz28_4, hfz28_5, hfz28_6, hfz28_7, hfz28_8, hfz28_9⟩ := cel10 BK131.out
           go_wp2
           go_meet
           case rel => exact ⟨_, ((((rd_T64 l0 x5_2).f1.f0) == 0 && (((rd_T64 l0 x5_2).f1.f1) == 0))), rfy, H', ⟨by have := HJ2.out; have := HK2.out; first | omega | exact Nat.le_refl _⟩, ⟨by (with_reducible repeat (first | refine blk_drewN ?_ _ | refine blk_drew ?_ | refine blk_alloc ?_ _)); refine blk_put (cs := #[.int .i64 ((rd_T64 l0 x5_2).f0), .int .i64 ((rd_T64 l0 x5_2).f1.f0), .int .i64 ((rd_T64 l0 x5_2).f1.f1), .int .i64 ((rd_T64 l0 x5_2).f2.f0), .int .i64 ((rd_T64 l0 x5_2).f2.f1), .int .i64 ((rd_T64 l0 x5_2).f2.f2.f0), .int .i64 ((rd_T64 l0 x5_2).f2.f2.f1), .slice A130_7 ((rd_T64 l0 x5_2).f2.f3).length c130_7, .slice A130_8 ((rd_T64 l0 x5_2).f3).length c130_8, .slice none 0 0]) ?_ 9 _ rfl; (with_reducible repeat (first | refine blk_drewN ?_ _ | refine blk_drew ?_ | refine blk_alloc ?_ _)); refine blk_put (cs := #[.int .i64 ((rd_T64 l0 x5_2).f0), .int .i64 ((rd_T64 l0 x5_2).f1.f0), .int .i64 ((rd_T64 l0 x5_2).f1.f1), .int .i64 ((rd_T64 l0 x5_2).f2.f0), .int .i64 ((rd_T64 l0 x5_2).f2.f1), .int .i64 ((rd_T64 l0 x5_2).f2.f2.f0), .int .i64 ((rd_T64 l0 x5_2).f2.f2.f1), .slice A130_7 ((rd_T64 l0 x5_2).f2.f3).length c130_7, .slice none 0 0, .slice none 0 0]) ?_ 8 _ rfl; (with_reducible repeat (first | refine blk_drewN ?_ _ | refine blk_drew ?_ | refine blk_alloc ?_ _)); refine blk_put (cs := #[.int .i64 ((rd_T64 l0 x5_2).f0), .int .i64 ((rd_T64 l0 x5_2).f1.f0), .int .i64 ((rd_T64 l0 x5_2).f1.f1), .int .i64 ((rd_T64 l0 x5_2).f2.f0), .int .i64 ((rd_T64 l0 x5_2).f2.f1), .int .i64 ((rd_T64 l0 x5_2).f2.f2.f0), .int .i64 ((rd_T64 l0 x5_2).f2.f2.f1), .slice none 0 0, .slice none 0 0, .slice none 0 0]) ?_ 7 _ rfl; (with_reducible repeat (first | refine blk_drewN ?_ _ | refine blk_drew ?_ | refine blk_alloc ?_ _)); refine blk_put (cs := #[.int .i64 ((rd_T64 l0 x5_2).f0), .int .i64 ((rd_T64 l0 x5_2).f1.f0), .int .i64 ((rd_T64 l0 x5_2).f1.f1), .int .i64 ((rd_T64 l0 x5_2).f2.f0), .int .i64 ((rd_T64 l0 x5_2).f2.f1), .int .i64 ((rd_T64 l0 x5_2).f2.f2.f0), .int .i64 0, .slice none 0 0, .slice none 0 0, .slice none 0 0]) ?_ 6 _ rfl; (with_reducible repeat (first | refine blk_drewN ?_ _ | refine blk_drew ?_ | refine blk_alloc ?_ _)); refine blk_put (cs := #[.int .i64 ((rd_T64 l0 x5_2).f0), .int .i64 ((rd_T64 l0 x5_2).f1.f0), .int .i64 ((rd_T64 l0 x5_2).f1.f1), .int .i64 ((rd_T64 l0 x5_2).f2.f0), .int .i64 ((rd_T64 l0 x5_2).f2.f1), .int .i64 0, .int .i64 0, .slice none 0 0, .slice none 0 0, .slice none 0 0]) ?_ 5 _ rfl; (with_reducible repeat (first | refine blk_drewN ?_ _ | refine blk_drew ?_ | refine blk_alloc ?_ _)); refine blk_put (cs := #[.int .i64 ((rd_T64 l0 x5_2).f0), .int .i64 ((rd_T64 l0 x5_2).f1.f0), .int .i64 ((rd_T64 l0 x5_2).f1.f1), .int .i64 ((rd_T64 l0 x5_2).f2.f0), .int .i64 0, .int .i64 0, .int .i64 0, .slice none 0 0, .slice none 0 0, .slice none 0 0]) ?_ 4 _ rfl; (with_reducible repeat (first | refine blk_drewN ?_ _ | refine blk_drew ?_ | refine blk_alloc ?_ _)); refine blk_put (cs := #[.int .i64 ((rd_T64 l0 x5_2).f0), .int .i64 ((rd_T64 l0 x5_2).f1.f0), .int .i64 ((rd_T64 l0 x5_2).f1.f1), .int .i64 0, .int .i64 0, .int .i64 0, .int .i64 0, .slice none 0 0, .slice none 0 0, .slice none 0 0]) ?_ 3 _ rfl; (with_reducible repeat (first | refine blk_drewN ?_ _ | refine blk_drew ?_ | refine blk_alloc ?_ _)); refine blk_put (cs := #[.int .i64 ((rd_T64 l0 x5_2).f0), .int .i64 ((rd_T64 l0 x5_2).f1.f0), .int .i64 0, .int .i64 0, .int .i64 0, .int .i64 0, .int .i64 0, .slice none 0 0, .slice none 0 0, .slice none 0 0]) ?_ 2 _ rfl; (with_reducible repeat (first | refine blk_drewN ?_ _ | refine blk_drew ?_ | refine blk_alloc ?_ _)); refine blk_put (cs := #[.int .i64 ((rd_T64 l0 x5_2).f0), .int .i64 0, .int .i64 0, .int .i64 0, .int .i64 0, .int .i64 0, .int .i64 0, .slice none 0 0, .slice none 0 0, .slice none 0 0]) ?_ 1 _ rfl; (with_reducible repeat (first | refine blk_drewN ?_ _ | refine blk_drew ?_ | refine blk_alloc ?_ _)); refine blk_put (cs := #[.int .i64 0, .int .i64 0, .int .i64 0, .int .i64 0, .int .i64 0, .int .i64 0, .int .i64 0, .slice none 0 0, .slice none 0 0, .slice none 0 0]) ?_ 0 _ rfl; (with_reducible repeat (first | refine blk_drewN ?_ _ | refine blk_drew ?_ | refine blk_alloc ?_ _)); exact BK131.out⟩, ⟨mB HB.out⟩⟩
          ·rw [if_neg c27] at H
           have c27b0 : (((rd_T64 l0 x5_2).f0) == 2) = false := beq_eq_false_iff_ne.mpr c27
           have c27b1 : (((rd_T64 l0 x5_2).f0) != 2) = true := bne_iff_ne.mpr c27
           by_cases c29 : ((rd_T64 l0 x5_2).f0) = 3
           ·rw [if_pos c29] at H
            have c29b0 : (((rd_T64 l0 x5_2).f0) == 3) = true := beq_iff_eq.mpr c29
            have c29b1 : (((rd_T64 l0 x5_2).f0) != 3) = false := bne_eq_false_iff_eq.mpr c29
            clear c29
            by_cases c30 : (((rd_T64 l0 x5_2).f1.f0) == 0 && (((rd_T64 l0 x5_2).f1.f1) == 0)) = true
            ·rw [if_pos c30] at H
             have c30b0 : (((rd_T64 l0 x5_2).f1.f0) == 0 && (((rd_T64 l0 x5_2).f1.f1) == 0)) = true := c30
             (try (have c30b1 : decide (((rd_T64 l0 x5_2).f1.f0) = 0 && (((rd_T64 l0 x5_2).f1.f1) == 0)) = true := by simpa using c30))
             (try (have c30b2 : (((rd_T64 l0 x5_2).f1.f0) == 0 && (((rd_T64 l0 x5_2).f1.f1) == 0)) = true := by simpa using c30))
             clear c30
             have H' := z0 H
             clear H
             obtain ⟨hcz31_0, hcz31_1, hcz31_2, hcz31_3, hcz31_4, hcz31_5, hcz31_6, hcz31_7, hcz31_8, hcz31_9, hfz31_0, hfz31_1, hfz31_2, hfz31_3, hfz31_4, hfz31_5, hfz31_6, hfz31_7, hfz31_8, hfz31_9⟩ := cel10 BK131.out
             go_wp2
             go_meet
             case rel => exact ⟨_, (((((rd_T64 l0 x5_2).f4).length : Int) == 0)), rfy, H', ⟨by have := HJ2.out; have := HK2.out; first | omega | exact Nat.le_refl _⟩, ⟨by (with_reducible repeat (first | refine blk_drewN ?_ _ | refine blk_drew ?_ | refine blk_alloc ?_ _)); refine blk_put (cs := #[.int .i64 ((rd_T64 l0 x5_2).f0), .int .i64 ((rd_T64 l0 x5_2).f1.f0), .int .i64 ((rd_T64 l0 x5_2).f1.f1), .int .i64 ((rd_T64 l0 x5_2).f2.f0), .int .i64 ((rd_T64 l0 x5_2).f2.f1), .int .i64 ((rd_T64 l0 x5_2).f2.f2.f0), .int .i64 ((rd_T64 l0 x5_2).f2.f2.f1), .slice A130_7 ((rd_T64 l0 x5_2).f2.f3).length c130_7, .slice A130_8 ((rd_T64 l0 x5_2).f3).length c130_8, .slice none 0 0]) ?_ 9 _ rfl; (with_reducible repeat (first | refine blk_drewN ?_ _ | refine blk_drew ?_ | refine blk_alloc ?_ _)); refine blk_put (cs := #[.int .i64 ((rd_T64 l0 x5_2).f0), .int .i64 ((rd_T64 l0 x5_2).f1.f0), .int .i64 ((rd_T64 l0 x5_2).f1.f1), .int .i64 ((rd_T64 l0 x5_2).f2.f0), .int .i64 ((rd_T64 l0 x5_2).f2.f1), .int .i64 ((rd_T64 l0 x5_2).f2.f2.f0), .int .i64 ((rd_T64 l0 x5_2).f2.f2.f1), .slice A130_7 ((rd_T64 l0 x5_2).f2.f3).length c130_7, .slice none 0 0, .slice none 0 0]) ?_ 8 _ rfl; (with_reducible repeat (first | refine blk_drewN ?_ _ | refine blk_drew ?_ | refine blk_alloc ?_ _)); refine blk_put (cs := #[.int .i64 ((rd_T64 l0 x5_2).f0), .int .i64 ((rd_T64 l0 x5_2).f1.f0), .int .i64 ((rd_T64 l0 x5_2).f1.f1), .int .i64 ((rd_T64 l0 x5_2).f2.f0), .int .i64 ((rd_T64 l0 x5_2).f2.f1), .int .i64 ((rd_T64 l0 x5_2).f2.f2.f0), .int .i64 ((rd_T64 l0 x5_2).f2.f2.f1), .slice none 0 0, .slice none 0 0, .slice none 0 0]) ?_ 7 _ rfl; (with_reducible repeat (first | refine blk_drewN ?_ _ | refine blk_drew ?_ | refine blk_alloc ?_ _)); refine blk_put (cs := #[.int .i64 ((rd_T64 l0 x5_2).f0), .int .i64 ((rd_T64 l0 x5_2).f1.f0), .int .i64 ((rd_T64 l0 x5_2).f1.f1), .int .i64 ((rd_T64 l0 x5_2).f2.f0), .int .i64 ((rd_T64 l0 x5_2).f2.f1), .int .i64 ((rd_T64 l0 x5_2).f2.f2.f0), .int .i64 0, .slice none 0 0, .slice none 0 0, .slice none 0 0]) ?_ 6 _ rfl; (with_reducible repeat (first | refine blk_drewN ?_ _ | refine blk_drew ?_ | refine blk_alloc ?_ _)); refine blk_put (cs := #[.int .i64 ((rd_T64 l0 x5_2).f0), .int .i64 ((rd_T64 l0 x5_2).f1.f0), .int .i64 ((rd_T64 l0 x5_2).f1.f1), .int .i64 ((rd_T64 l0 x5_2).f2.f0), .int .i64 ((rd_T64 l0 x5_2).f2.f1), .int .i64 0, .int .i64 0, .slice none 0 0, .slice none 0 0, .slice none 0 0]) ?_ 5 _ rfl; (with_reducible repeat (first | refine blk_drewN ?_ _ | refine blk_drew ?_ | refine blk_alloc ?_ _)); refine blk_put (cs := #[.int .i64 ((rd_T64 l0 x5_2).f0), .int .i64 ((rd_T64 l0 x5_2).f1.f0), .int .i64 ((rd_T64 l0 x5_2).f1.f1), .int .i64 ((rd_T64 l0 x5_2).f2.f0), .int .i64 0, .int .i64 0, .int .i64 0, .slice none 0 0, .slice none 0 0, .slice none 0 0]) ?_ 4 _ rfl; (with_reducible repeat (first | refine blk_drewN ?_ _ | refine blk_drew ?_ | refine blk_alloc ?_ _)); refine blk_put (cs := #[.int .i64 ((rd_T64 l0 x5_2).f0), .int .i64 ((rd_T64 l0 x5_2).f1.f0), .int .i64 ((rd_T64 l0 x5_2).f1.f1), .int .i64 0, .int .i64 0, .int .i64 0, .int .i64 0, .slice none 0 0, .slice none 0 0, .slice none 0 0]) ?_ 3 _ rfl; (with_reducible repeat (first | refine blk_drewN ?_ _ | refine blk_drew ?_ | refine blk_alloc ?_ _)); refine blk_put (cs := #[.int .i64 ((rd_T64 l0 x5_2).f0), .int .i64 ((rd_T64 l0 x5_2).f1.f0), .int .i64 0, .int .i64 0, .int .i64 0, .int .i64 0, .int .i64 0, .slice none 0 0, .slice none 0 0, .slice none 0 0]) ?_ 2 _ rfl; (with_reducible repeat (first | refine blk_drewN ?_ _ | refine blk_drew ?_ | refine blk_alloc ?_ _)); refine blk_put (cs := #[.int .i64 ((rd_T64 l0 x5_2).f0), .int .i64 0, .int .i64 0, .int .i64 0, .int .i64 0, .int .i64 0, .int .i64 0, .slice none 0 0, .slice none 0 0, .slice none 0 0]) ?_ 1 _ rfl; (with_reducible repeat (first | refine blk_drewN ?_ _ | refine blk_drew ?_ | refine blk_alloc ?_ _)); refine blk_put (cs := #[.int .i64 0, .int .i64 0, .int .i64 0, .int .i64 0, .int .i64 0, .int .i64 0, .int .i64 0, .slice none 0 0, .slice none 0 0, .slice none 0 0]) ?_ 0 _ rfl; (with_reducible repeat (first | refine blk_drewN ?_ _ | refine blk_drew ?_ | refine blk_alloc ?_ _)); exact BK131.out⟩, ⟨mB HB.out⟩⟩
            ·rw [if_neg c30] at H
             have c30b0 : (((rd_T64 l0 x5_2).f1.f0) == 0 && (((rd_T64 l0 x5_2).f1.f1) == 0)) = false := by simpa using c30
             (try (have c30b1 : decide (((rd_T64 l0 x5_2).f1.f0) = 0 && (((rd_T64 l0 x5_2).f1.f1) == 0)) = false := by simpa using c30))
             (try (have c30b2 : (((rd_T64 l0 x5_2).f1.f0) == 0 && (((rd_T64 l0 x5_2).f1.f1) == 0)) = false := by simpa using c30))
             (try (have c30b3 : ¬ (((rd_T64 l0 x5_2).f1.f0) = 0 && (((rd_T64 l0 x5_2).f1.f1) == 0)) := by simpa using c30))
             clear c30
             have H' := z0 H
             clear H
             obtain ⟨hcz32_0, hcz32_1, hcz32_2, hcz32_3, hcz32_4, hcz32_5, hcz32_6, hcz32_7, hcz32_8, hcz32_9, hfz32_0, hfz32_1, hfz32_2, hfz32_3, hfz32_4, hfz32_5, hfz32_6, hfz32_7, hfz32_8, hfz32_9⟩ := cel10 BK131.out
             go_wp2
             go_meet
             case rel => exact ⟨_, (false), rfy, H', ⟨by have := HJ2.out; have := HK2.out; first | omega | exact Nat.le_refl _⟩, ⟨by (with_reducible repeat (first | refine blk_drewN ?_ _ | refine blk_drew ?_ | refine blk_alloc ?_ _)); refine blk_put (cs := #[.int .i64 ((rd_T64 l0 x5_2).f0), .int .i64 ((rd_T64 l0 x5_2).f1.f0), .int .i64 ((rd_T64 l0 x5_2).f1.f1), .int .i64 ((rd_T64 l0 x5_2).f2.f0), .int .i64 ((rd_T64 l0 x5_2).f2.f1), .int .i64 ((rd_T64 l0 x5_2).f2.f2.f0), .int .i64 ((rd_T64 l0 x5_2).f2.f2.f1), .slice A130_7 ((rd_T64 l0 x5_2).f2.f3).length c130_7, .slice A130_8 ((rd_T64 l0 x5_2).f3).length c130_8, .slice none 0 0]) ?_ 9 _ rfl; (with_reducible repeat (first | refine blk_drewN ?_ _ | refine blk_drew ?_ | refine blk_alloc ?_ _)); refine blk_put (cs := #[.int .i64 ((rd_T64 l0 x5_2).f0), .int .i64 ((rd_T64 l0 x5_2).f1.f0), .int .i64 ((rd_T64 l0 x5_2).f1.f1), .int .i64 ((rd_T64 l0 x5_2).f2.f0), .int .i64 ((rd_T64 l0 x5_2).f2.f1), .int .i64 ((rd_T64 l0 x5_2).f2.f2.f0), .int .i64 ((rd_T64 l0 x5_2).f2.f2.f1), .slice A130_7 ((rd_T64 l0 x5_2).f2.f3).length c130_7, .slice none 0 0, .slice none 0 0]) ?_ 8 _ rfl; (with_reducible repeat (first | refine blk_drewN ?_ _ | refine blk_drew ?_ | refine blk_alloc ?_ _)); refine blk_put (cs := #[.int .i64 ((rd_T64 l0 x5_2).f0), .int .i64 ((rd_T64 l0 x5_2).f1.f0), .int .i64 ((rd_T64 l0 x5_2).f1.f1), .int .i64 ((rd_T64 l0 x5_2).f2.f0), .int .i64 ((rd_T64 l0 x5_2).f2.f1), .int .i64 ((rd_T64 l0 x5_2).f2.f2.f0), .int .i64 ((rd_T64 l0 x5_2).f2.f2.f1), .slice none 0 0, .slice none 0 0, .slice none 0 0]) ?_ 7 _ rfl; (with_reducible repeat (first | refine blk_drewN ?_ _ | refine blk_drew ?_ | refine blk_alloc ?_ _)); refine blk_put (cs := #[.int .i64 ((rd_T64 l0 x5_2).f0), .int .i64 ((rd_T64 l0 x5_2).f1.f0), .int .i64 ((rd_T64 l0 x5_2).f1.f1), .int .i64 ((rd_T64 l0 x5_2).f2.f0), .int .i64 ((rd_T64 l0 x5_2).f2.f1), .int .i64 ((rd_T64 l0 x5_2).f2.f2.f0), .int .i64 0, .slice none 0 0, .slice none 0 0, .slice none 0 0]) ?_ 6 _ rfl; (with_reducible repeat (first | refine blk_drewN ?_ _ | refine blk_drew ?_ | refine blk_alloc ?_ _)); refine blk_put (cs := #[.int .i64 ((rd_T64 l0 x5_2).f0), .int .i64 ((rd_T64 l0 x5_2).f1.f0), .int .i64 ((rd_T64 l0 x5_2).f1.f1), .int .i64 ((rd_T64 l0 x5_2).f2.f0), .int .i64 ((rd_T64 l0 x5_2).f2.f1), .int .i64 0, .int .i64 0, .slice none 0 0, .slice none 0 0, .slice none 0 0]) ?_ 5 _ rfl; (with_reducible repeat (first | refine blk_drewN ?_ _ | refine blk_drew ?_ | refine blk_alloc ?_ _)); refine blk_put (cs := #[.int .i64 ((rd_T64 l0 x5_2).f0), .int .i64 ((rd_T64 l0 x5_2).f1.f0), .int .i64 ((rd_T64 l0 x5_2).f1.f1), .int .i64 ((rd_T64 l0 x5_2).f2.f0), .int .i64 0, .int .i64 0, .int .i64 0, .slice none 0 0, .slice none 0 0, .slice none 0 0]) ?_ 4 _ rfl; (with_reducible repeat (first | refine blk_drewN ?_ _ | refine blk_drew ?_ | refine blk_alloc ?_ _)); refine blk_put (cs := #[.int .i64 ((rd_T64 l0 x5_2).f0), .int .i64 ((rd_T64 l0 x5_2).f1.f0), .int .i64 ((rd_T64 l0 x5_2).f1.f1), .int .i64 0, .int .i64 0, .int .i64 0, .int .i64 0, .slice none 0 0, .slice none 0 0, .slice none 0 0]) ?_ 3 _ rfl; (with_reducible repeat (first | refine blk_drewN ?_ _ | refine blk_drew ?_ | refine blk_alloc ?_ _)); refine blk_put (cs := #[.int .i64 ((rd_T64 l0 x5_2).f0), .int .i64 ((rd_T64 l0 x5_2).f1.f0), .int .i64 0, .int .i64 0, .int .i64 0, .int .i64 0, .int .i64 0, .slice none 0 0, .slice none 0 0, .slice none 0 0]) ?_ 2 _ rfl; (with_reducible repeat (first | refine blk_drewN ?_ _ | refine blk_drew ?_ | refine blk_alloc ?_ _)); refine blk_put (cs := #[.int .i64 ((rd_T64 l0 x5_2).f0), .int .i64 0, .int .i64 0, .int .i64 0, .int .i64 0, .int .i64 0, .int .i64 0, .slice none 0 0, .slice none 0 0, .slice none 0 0]) ?_ 1 _ rfl; (with_reducible repeat (first | refine blk_drewN ?_ _ | refine blk_drew ?_ | refine blk_alloc ?_ _)); refine blk_put (cs := #[.int .i64 0, .int .i64 0, .int .i64 0, .int .i64 0, .int .i64 0, .int .i64 0, .int .i64 0, .slice none 0 0, .slice none 0 0, .slice none 0 0]) ?_ 0 _ rfl; (with_reducible repeat (first | refine blk_drewN ?_ _ | refine blk_drew ?_ | refine blk_alloc ?_ _)); exact BK131.out⟩, ⟨mB HB.out⟩⟩
           ·rw [if_neg c29] at H
            have c29b0 : (((rd_T64 l0 x5_2).f0) == 3) = false := beq_eq_false_iff_ne.mpr c29
            have c29b1 : (((rd_T64 l0 x5_2).f0) != 3) = true := bne_iff_ne.mpr c29
            have H' := z0 H
            clear H
            go_wp2
            go_meet
            case rel => exact ⟨_, (false), rfy, H', ⟨by have := HJ2.out; have := HK2.out; first | omega | exact Nat.le_refl _⟩, ⟨by (with_reducible repeat (first | refine blk_drewN ?_ _ | refine blk_drew ?_ | refine blk_alloc ?_ _)); refine blk_put (cs := #[.int .i64 ((rd_T64 l0 x5_2).f0), .int .i64 ((rd_T64 l0 x5_2).f1.f0), .int .i64 ((rd_T64 l0 x5_2).f1.f1), .int .i64 ((rd_T64 l0 x5_2).f2.f0), .int .i64 ((rd_T64 l0 x5_2).f2.f1), .int .i64 ((rd_T64 l0 x5_2).f2.f2.f0), .int .i64 ((rd_T64 l0 x5_2).f2.f2.f1), .slice A130_7 ((rd_T64 l0 x5_2).f2.f3).length c130_7, .slice A130_8 ((rd_T64 l0 x5_2).f3).length c130_8, .slice none 0 0]) ?_ 9 _ rfl; (with_reducible repeat (first | refine blk_drewN ?_ _ | refine blk_drew ?_ | refine blk_alloc ?_ _)); refine blk_put (cs := #[.int .i64 ((rd_T64 l0 x5_2).f0), .int .i64 ((rd_T64 l0 x5_2).f1.f0), .int .i64 ((rd_T64 l0 x5_2).f1.f1), .int .i64 ((rd_T64 l0 x5_2).f2.f0), .int .i64 ((rd_T64 l0 x5_2).f2.f1), .int .i64 ((rd_T64 l0 x5_2).f2.f2.f0), .int .i64 ((rd_T64 l0 x5_2).f2.f2.f1), .slice A130_7 ((rd_T64 l0 x5_2).f2.f3).length c130_7, .slice none 0 0, .slice none 0 0]) ?_ 8 _ rfl; (with_reducible repeat (first | refine blk_drewN ?_ _ | refine blk_drew ?_ | refine blk_alloc ?_ _)); refine blk_put (cs := #[.int .i64 ((rd_T64 l0 x5_2).f0), .int .i64 ((rd_T64 l0 x5_2).f1.f0), .int .i64 ((rd_T64 l0 x5_2).f1.f1), .int .i64 ((rd_T64 l0 x5_2).f2.f0), .int .i64 ((rd_T64 l0 x5_2).f2.f1), .int .i64 ((rd_T64 l0 x5_2).f2.f2.f0), .int .i64 ((rd_T64 l0 x5_2).f2.f2.f1), .slice none 0 0, .slice none 0 0, .slice none 0 0]) ?_ 7 _ rfl; (with_reducible repeat (first | refine blk_drewN ?_ _ | refine blk_drew ?_ | refine blk_alloc ?_ _)); refine blk_put (cs := #[.int .i64 ((rd_T64 l0 x5_2).f0), .int .i64 ((rd_T64 l0 x5_2).f1.f0), .int .i64 ((rd_T64 l0 x5_2).f1.f1), .int .i64 ((rd_T64 l0 x5_2).f2.f0), .int .i64 ((rd_T64 l0 x5_2).f2.f1), .int .i64 ((rd_T64 l0 x5_2).f2.f2.f0), .int .i64 0, .slice none 0 0, .slice none 0 0, .slice none 0 0]) ?_ 6 _ rfl; (with_reducible repeat (first | refine blk_drewN ?_ _ | refine blk_drew ?_ | refine blk_alloc ?_ _)); refine blk_put (cs := #[.int .i64 ((rd_T64 l0 x5_2).f0), .int .i64 ((rd_T64 l0 x5_2).f1.f0), .int .i64 ((rd_T64 l0 x5_2).f1.f1), .int .i64 ((rd_T64 l0 x5_2).f2.f0), .int .i64 ((rd_T64 l0 x5_2).f2.f1), .int .i64 0, .int .i64 0, .slice none 0 0, .slice none 0 0, .slice none 0 0]) ?_ 5 _ rfl; (with_reducible repeat (first | refine blk_drewN ?_ _ | refine blk_drew ?_ | refine blk_alloc ?_ _)); refine blk_put (cs := #[.int .i64 ((rd_T64 l0 x5_2).f0), .int .i64 ((rd_T64 l0 x5_2).f1.f0), .int .i64 ((rd_T64 l0 x5_2).f1.f1), .int .i64 ((rd_T64 l0 x5_2).f2.f0), .int .i64 0, .int .i64 0, .int .i64 0, .slice none 0 0, .slice none 0 0, .slice none 0 0]) ?_ 4 _ rfl; (with_reducible repeat (first | refine blk_drewN ?_ _ | refine blk_drew ?_ | refine blk_alloc ?_ _)); refine blk_put (cs := #[.int .i64 ((rd_T64 l0 x5_2).f0), .int .i64 ((rd_T64 l0 x5_2).f1.f0), .int .i64 ((rd_T64 l0 x5_2).f1.f1), .int .i64 0, .int .i64 0, .int .i64 0, .int .i64 0, .slice none 0 0, .slice none 0 0, .slice none 0 0]) ?_ 3 _ rfl; (with_reducible repeat (first | refine blk_drewN ?_ _ | refine blk_drew ?_ | refine blk_alloc ?_ _)); refine blk_put (cs := #[.int .i64 ((rd_T64 l0 x5_2).f0), .int .i64 ((rd_T64 l0 x5_2).f1.f0), .int .i64 0, .int .i64 0, .int .i64 0, .int .i64 0, .int .i64 0, .slice none 0 0, .slice none 0 0, .slice none 0 0]) ?_ 2 _ rfl; (with_reducible repeat (first | refine blk_drewN ?_ _ | refine blk_drew ?_ | refine blk_alloc ?_ _)); refine blk_put (cs := #[.int .i64 ((rd_T64 l0 x5_2).f0), .int .i64 0, .int .i64 0, .int .i64 0, .int .i64 0, .int .i64 0, .int .i64 0, .slice none 0 0, .slice none 0 0, .slice none 0 0]) ?_ 1 _ rfl; (with_reducible repeat (first | refine blk_drewN ?_ _ | refine blk_drew ?_ | refine blk_alloc ?_ _)); refine blk_put (cs := #[.int .i64 0, .int .i64 0, .int .i64 0, .int .i64 0, .int .i64 0, .int .i64 0, .int .i64 0, .slice none 0 0, .slice none 0 0, .slice none 0 0]) ?_ 0 _ rfl; (with_reducible repeat (first | refine blk_drewN ?_ _ | refine blk_drew ?_ | refine blk_alloc ?_ _)); exact BK131.out⟩, ⟨mB HB.out⟩⟩
        case rest =>
         clear HC8
         (try clear c1); (try clear p1); (try clear q1); (try clear hx1); (try clear c2); (try clear p2); (try clear c3); (try clear c4); (try clear c4b0); (try clear c4b1); (try clear c5); (try clear c6); (try clear c6b0); (try clear c7); (try clear c7b0); (try clear c11); (try clear c11b0); (try clear c11b1); (try clear c13); (try clear p13); (try clear q13); (try clear hx13); (try clear c14); (try clear c14b0); (try clear c14b1); (try clear c18); (try clear c18b0); (try clear c18b1); (try clear c18b2); (try clear c23); (try clear c27); (try clear c27b0); (try clear c27b1); (try clear c29); (try clear c29b0); (try clear c29b1); (try clear c30); (try clear c30b0); (try clear c30b1); (try clear c30b2); (try clear hcz10_0); (try clear hcz10_1); (try clear hcz10_2); (try clear hcz10_3); (try clear hcz10_4); (try clear hcz10_5); (try clear hcz10_6); (try clear hcz10_7); (try clear hcz10_8); (try clear hcz10_9); (try clear hcz15_0); (try clear hcz15_1); (try clear hcz15_2); (try clear hcz15_3); (try clear hcz15_4); (try clear hcz15_5); (try clear hcz15_6); (try clear hcz15_7); (try clear hcz15_8); (try clear hcz15_9); (try clear hcz17_0); (try clear hcz17_1); (try clear hcz17_2); (try clear hcz17_3); (try clear hcz17_4); (try clear hcz17_5); (try clear hcz17_6); (try clear hcz17_7); (try clear hcz17_8); (try clear hcz17_9); (try clear hcz19_0); (try clear hcz19_1); (try clear hcz19_2); (try clear hcz19_3); (try clear hcz19_4); (try clear hcz19_5); (try clear hcz19_6); (try clear hcz19_7); (try clear hcz19_8); (try clear hcz19_9); (try clear hcz21_0); (try clear hcz21_1); (try clear hcz21_2); (try clear hcz21_3); (try clear hcz21_4); (try clear hcz21_5); (try clear hcz21_6); (try clear hcz21_7); (try clear hcz21_8); (try clear hcz21_9); (try clear hcz22_0); (try clear hcz22_1); (try clear hcz22_2); (try clear hcz22_3); (try clear hcz22_4); (try clear hcz22_5); (try clear hcz22_6); (try clear hcz22_7); (try clear hcz22_8); (try clear hcz22_9); (try clear hcz24_0); (try clear hcz24_1); (try clear hcz24_2); (try clear hcz24_3); (try clear hcz24_4); (try clear hcz24_5); (try clear hcz24_6); (try clear hcz24_7); (try clear hcz24_8); (try clear hcz24_9); (try clear hcz25_0); (try clear hcz25_1); (try clear hcz25_2); (try clear hcz25_3); (try clear hcz25_4); (try clear hcz25_5); (try clear hcz25_6); (try clear hcz25_7); (try clear hcz25_8); (try clear hcz25_9); (try clear hcz28_0); (try clear hcz28_1); (try clear hcz28_2); (try clear hcz28_3); (try clear hcz28_4); (try clear hcz28_5); (try clear hcz28_6); (try clear hcz28_7); (try clear hcz28_8); (try clear hcz28_9); (try clear hcz31_0); (try clear hcz31_1); (try clear hcz31_2); (try clear hcz31_3); (try clear hcz31_4); (try clear hcz31_5); (try clear hcz31_6); (try clear hcz31_7); (try clear hcz31_8); (try clear hcz31_9); (try clear hcz32_0); (try clear hcz32_1); (try clear hcz32_2); (try clear hcz32_3); (try clear hcz32_4); (try clear hcz32_5); (try clear hcz32_6); (try clear hcz32_7); (try clear hcz32_8); (try clear hcz32_9); (try clear hfz10_0); (try clear hfz10_1); (try clear hfz10_2); (try clear hfz10_3); (try clear hfz10_4); (try clear hfz10_5); (try clear hfz10_6); (try clear hfz10_7); (try clear hfz10_8); (try clear hfz10_9); (try clear hfz15_0); (try clear hfz15_1); (try clear hfz15_2); (try clear hfz15_3); (try clear hfz15_4); (try clear hfz15_5); (try clear hfz15_6); (try clear hfz15_7); (try clear hfz15_8); (try clear hfz15_9); (try clear hfz17_0); (try clear hfz17_1); (try clear hfz17_2); (try clear hfz17_3); (try clear hfz17_4); (try clear hfz17_5); (try clear hfz17_6); (try clear hfz17_7); (try clear hfz17_8); (try clear hfz17_9); (try clear hfz19_0); (try clear hfz19_1); (try clear hfz19_2); (try clear hfz19_3); (try clear hfz19_4); (try clear hfz19_5); (try clear hfz19_6); (try clear hfz19_7); (try clear hfz19_8); (try clear hfz19_9); (try clear hfz21_0); (try clear hfz21_1); (try clear hfz21_2); (try clear hfz21_3); (try clear hfz21_4); (try clear hfz21_5); (try clear hfz21_6); (try clear hfz21_7); (try clear hfz21_8); (try clear hfz21_9); (try clear hfz22_0); (try clear hfz22_1); (try clear hfz22_2); (try clear hfz22_3); (try clear hfz22_4); (try clear hfz22_5); (try clear hfz22_6); (try clear hfz22_7); (try clear hfz22_8); (try clear hfz22_9); (try clear hfz24_0); (try clear hfz24_1); (try clear hfz24_2); (try clear hfz24_3); (try clear hfz24_4); (try clear hfz24_5); (try clear hfz24_6); (try clear hfz24_7); (try clear hfz24_8); (try clear hfz24_9); (try clear hfz25_0); (try clear hfz25_1); (try clear hfz25_2); (try clear hfz25_3); (try clear hfz25_4); (try clear hfz25_5); (try clear hfz25_6); (try clear hfz25_7); (try clear hfz25_8); (try clear hfz25_9); (try clear hfz28_0); (try clear hfz28_1); (try clear hfz28_2); (try clear hfz28_3); (try clear hfz28_4); (try clear hfz28_5); (try clear hfz28_6); (try clear hfz28_7); (try clear hfz28_8); (try clear hfz28_9); (try clear hfz31_0); (try clear hfz31_1); (try clear hfz31_2); (try clear hfz31_3); (try clear hfz31_4); (try clear hfz31_5); (try clear hfz31_6); (try clear hfz31_7); (try clear hfz31_8); (try clear hfz31_9); (try clear hfz32_0); (try clear hfz32_1); (try clear hfz32_2); (try clear hfz32_3); (try clear hfz32_4); (try clear hfz32_5); (try clear hfz32_6); (try clear hfz32_7); (try clear hfz32_8); (try clear hfz32_9); (try clear hx130_0); (try clear hx130_1); (try clear hx130_2); (try clear hx130_3); (try clear hx130_4); (try clear hx130_5); (try clear hx130_6); (try clear hx130_7); (try clear hx130_8); (try clear hx130_9); (try clear p130); (try clear p2); (try clear q130)
         obtain ⟨kq, x7_7, rfl, HA, HJ7, BK131, HB⟩ := hcut
         cases kq with
         | zero => exact absurd HA.out (by simp [spec_l4Form.j2])
         | succ kj7 =>
          have H := HA.out
          clear HA
          simp only [spec_l4Form.j2] at H
          by_cases c33 : x7_7 = true
          ·subst c33
           have H1 : ((spec_ExprOk.f kj7 ((rd_T64 l0 x5_2).f2.f0) ((rd_T64 l0 x5_2).f2.f1) ((rd_T64 l0 x5_2).f2.f2.f0) ((rd_T64 l0 x5_2).f2.f2.f1) ((rd_T64 l0 x5_2).f2.f3)).bind fun t133 => (if t133 = true then ((spec_l4Form.f kj7 ((rd_T64 l0 x5_2).f3) (wrap64 (a1 - 1))).bind fun t134 => (if t134 = true then ((spec_l4Form.f kj7 ((rd_T64 l0 x5_2).f4) (wrap64 (a1 - 1))).bind fun t135 => (if t135 = true then (spec_l4Form.l0 kj7 l0 a1 (wrap64 (x5_2 + 1))) else (some false))) else (some false))) else (some false))) = some r := by rw [if_pos rfl] at H; exact H
           clear H
           have H := H1
           clear H1
           replace H := Option.bind_eq_some_iff.mp H
           obtain ⟨t133, A340, H⟩ := H
           replace H : (if t133 = true then ((spec_l4Form.f kj7 ((rd_T64 l0 x5_2).f3) (wrap64 (a1 - 1))).bind fun t134 => (if t134 = true then ((spec_l4Form.f kj7 ((rd_T64 l0 x5_2).f4) (wrap64 (a1 - 1))).bind fun t135 => (if t135 = true then (spec_l4Form.l0 kj7 l0 a1 (wrap64 (x5_2 + 1))) else (some false))) else (some false))) else (some false)) = some r := H
           have A34 := z0 A340
           clear A340
           by_cases c35 : t133 = true
           ·subst c35
            have H1 : ((spec_l4Form.f kj7 ((rd_T64 l0 x5_2).f3) (wrap64 (a1 - 1))).bind fun t134 => (if t134 = true then ((spec_l4Form.f kj7 ((rd_T64 l0 x5_2).f4) (wrap64 (a1 - 1))).bind fun t135 => (if t135 = true then (spec_l4Form.l0 kj7 l0 a1 (wrap64 (x5_2 + 1))) else (some false))) else (some false))) = some r := by rw [if_pos rfl] at H; exact H
            clear H
            have H := H1
            clear H1
            replace H := Option.bind_eq_some_iff.mp H
            obtain ⟨t134, A360, H⟩ := H
            replace H : (if t134 = true then ((spec_l4Form.f kj7 ((rd_T64 l0 x5_2).f4) (wrap64 (a1 - 1))).bind fun t135 => (if t135 = true then (spec_l4Form.l0 kj7 l0 a1 (wrap64 (x5_2 + 1))) else (some false))) else (some false)) = some r := H
            have A36 := z0 A360
            clear A360
            by_cases c37 : t134 = true
            ·subst c37
             have H1 : ((spec_l4Form.f kj7 ((rd_T64 l0 x5_2).f4) (wrap64 (a1 - 1))).bind fun t135 => (if t135 = true then (spec_l4Form.l0 kj7 l0 a1 (wrap64 (x5_2 + 1))) else (some false))) = some r := by rw [if_pos rfl] at H; exact H
             clear H
             have H := H1
             clear H1
             replace H := Option.bind_eq_some_iff.mp H
             obtain ⟨t135, A380, H⟩ := H
             replace H : (if t135 = true then (spec_l4Form.l0 kj7 l0 a1 (wrap64 (x5_2 + 1))) else (some false)) = some r := H
             have A38 := z0 A380
             clear A380
             have HF39 := z0 H
             clear H
             obtain ⟨hcz40_0, hcz40_1, hcz40_2, hcz40_3, hcz40_4, hcz40_5, hcz40_6, hcz40_7, hcz40_8, hcz40_9, hfz40_0, hfz40_1, hfz40_2, hfz40_3, hfz40_4, hfz40_5, hfz40_6, hfz40_7, hfz40_8, hfz40_9⟩ := cel10 BK131.out
             go_upto_if 91 with (first | (go_at_call 21; (with_reducible refine (spec_ExprOk.calls kj7 ((rd_T64 l0 x5_2).f2.f0) ((rd_T64 l0 x5_2).f2.f1) ((rd_T64 l0 x5_2).f2.f2.f0) ((rd_T64 l0 x5_2).f2.f2.f1) _ _ ((rd_T64 l0 x5_2).f2.f3) true _ ?side1 ?side2 A34.out).mono ?_); (case side1 => exact mC (Kd.C_below HR130_7.out HB.out)); (case side2 => exact HC130_7.out); rintro e w41 ⟨rfl, hb⟩; have n0_ := z0 (blk_below (g := gb131) (o := .cells #[.int .i64 ((rd_T64 l0 x5_2).f0), .int .i64 ((rd_T64 l0 x5_2).f1.f0), .int .i64 ((rd_T64 l0 x5_2).f1.f1), .int .i64 ((rd_T64 l0 x5_2).f2.f0), .int .i64 ((rd_T64 l0 x5_2).f2.f1), .int .i64 ((rd_T64 l0 x5_2).f2.f2.f0), .int .i64 ((rd_T64 l0 x5_2).f2.f2.f1), .slice A130_7 ((rd_T64 l0 x5_2).f2.f3).length c130_7, .slice A130_8 ((rd_T64 l0 x5_2).f3).length c130_8, .slice A130_9 ((rd_T64 l0 x5_2).f4).length c130_9] 64 (0, 0)) (mK BK131.out) hb); have n1_ := z0 (below_step (mB HB.out) hb); clear BK131; clear HB; have BK131 := n0_; have HB := n1_; clear n0_ n1_; (try clear hb); (try clear hb2); (try clear hk); (try clear hi); obtain ⟨hcz42_0, hcz42_1, hcz42_2, hcz42_3, hcz42_4, hcz42_5, hcz42_6, hcz42_7, hcz42_8, hcz42_9, hfz42_0, hfz42_1, hfz42_2, hfz42_3, hfz42_4, hfz42_5, hfz42_6, hfz42_7, hfz42_8, hfz42_9⟩ := cel10 BK131.out) | (go_at_call 30; (with_reducible refine (ih kj7 (by have := HJ2.out; have := HK2.out; have := HJ7.out; omega) _ _ ((rd_T64 l0 x5_2).f3) (wrap64 (a1 - 1)) true _ ?side1 ?side2 A36.out).mono ?_); (case side1 => exact mC (Kd.C_below HR130_8.out HB.out)); (case side2 => exact HC130_8.out); rintro e w43 ⟨rfl, hb⟩; have n0_ := z0 (blk_below (g := gb131) (o := .cells #[.int .i64 ((rd_T64 l0 x5_2).f0), .int .i64 ((rd_T64 l0 x5_2).f1.f0), .int .i64 ((rd_T64 l0 x5_2).f1.f1), .int .i64 ((rd_T64 l0 x5_2).f2.f0), .int .i64 ((rd_T64 l0 x5_2).f2.f1), .int .i64 ((rd_T64 l0 x5_2).f2.f2.f0), .int .i64 ((rd_T64 l0 x5_2).f2.f2.f1), .slice A130_7 ((rd_T64 l0 x5_2).f2.f3).length c130_7, .slice A130_8 ((rd_T64 l0 x5_2).f3).length c130_8, .slice A130_9 ((rd_T64 l0 x5_2).f4).length c130_9] 64 (0, 0)) (mK BK131.out) hb); have n1_ := z0 (below_step (mB HB.out) hb); clear BK131; clear HB; have BK131 := n0_; have HB := n1_; clear n0_ n1_; (try clear hb); (try clear hb2); (try clear hk); (try clear hi); obtain ⟨hcz44_0, hcz44_1, hcz44_2, hcz44_3, hcz44_4, hcz44_5, hcz44_6, hcz44_7, hcz44_8, hcz44_9, hfz44_0, hfz44_1, hfz44_2, hfz44_3, hfz44_4, hfz44_5, hfz44_6, hfz44_7, hfz44_8, hfz44_9⟩ := cel10 BK131.out) | (go_at_call 30; (with_reducible refine (ih kj7 (by have := HJ2.out; have := HK2.out; have := HJ7.out; omega) _ _ ((rd_T64 l0 x5_2).f4) (wrap64 (a1 - 1)) t135 _ ?side1 ?side2 A38.out).mono ?_); (case side1 => exact mC (Kd.C_below HR130_9.out HB.out)); (case side2 => exact HC130_9.out); rintro e w45 ⟨rfl, hb⟩; have n0_ := z0 (blk_below (g := gb131) (o := .cells #[.int .i64 ((rd_T64 l0 x5_2).f0), .int .i64 ((rd_T64 l0 x5_2).f1.f0), .int .i64 ((rd_T64 l0 x5_2).f1.f1), .int .i64 ((rd_T64 l0 x5_2).f2.f0), .int .i64 ((rd_T64 l0 x5_2).f2.f1), .int .i64 ((rd_T64 l0 x5_2).f2.f2.f0), .int .i64 ((rd_T64 l0 x5_2).f2.f2.f1), .slice A130_7 ((rd_T64 l0 x5_2).f2.f3).length c130_7, .slice A130_8 ((rd_T64 l0 x5_2).f3).length c130_8, .slice A130_9 ((rd_T64 l0 x5_2).f4).length c130_9] 64 (0, 0)) (mK BK131.out) hb); have n1_ := z0 (below_step (mB HB.out) hb); clear BK131; clear HB; have BK131 := n0_; have HB := n1_; clear n0_ n1_; (try clear hb); (try clear hb2); (try clear hk); (try clear hi)))
             (try simp only [Act.put, List.setIfInBounds_toArray, List.set_cons_zero, List.set_cons_succ])
             have H := HF39.out
             clear HF39
             (try clear c1); (try clear p1); (try clear q1); (try clear hx1); (try clear c2); (try clear p2); (try clear c3); (try clear c4); (try clear c4b0); (try clear c4b1); (try clear c5); (try clear c6); (try clear c6b0); (try clear p6); (try clear c7); (try clear c7b0); (try clear c11); (try clear c11b0); (try clear c11b1); (try clear c13); (try clear p13); (try clear q13); (try clear hx13); (try clear c14); (try clear c14b0); (try clear c14b1); (try clear c18); (try clear c18b0); (try clear c18b1); (try clear c18b2); (try clear c23); (try clear c27); (try clear c27b0); (try clear c27b1); (try clear c29); (try clear c29b0); (try clear c29b1); (try clear c30); (try clear c30b0); (try clear c30b1); (try clear c30b2); (try clear c33); (try clear c35); (try clear c37); (try clear hcz10_0); (try clear hcz10_1); (try clear hcz10_2); (try clear hcz10_3); (try clear hcz10_4); (try clear hcz10_5); (try clear hcz10_6); (try clear hcz10_7); (try clear hcz10_8); (try clear hcz10_9); (try clear hcz15_0); (try clear hcz15_1); (try clear hcz15_2); (try clear hcz15_3); (try clear hcz15_4); (try clear hcz15_5); (try clear hcz15_6); (try clear hcz15_7); (try clear hcz15_8); (try clear hcz15_9); (try clear hcz17_0); (try clear hcz17_1); (try clear hcz17_2); (try clear hcz17_3); (try clear hcz17_4); (try clear hcz17_5); (try clear hcz17_6); (try clear hcz17_7); (try clear hcz17_8); (try clear hcz17_9); (try clear hcz19_0); (try clear hcz19_1); (try clear hcz19_2); (try clear hcz19_3); (try clear hcz19_4); (try clear hcz19_5); (try clear hcz19_6); (try clear hcz19_7); (try clear hcz19_8); (try clear hcz19_9); (try clear hcz21_0); (try clear hcz21_1); (try clear hcz21_2); (try clear hcz21_3); (try clear hcz21_4); (try clear hcz21_5); (try clear hcz21_6); (try clear hcz21_7); (try clear hcz21_8); (try clear hcz21_9); (try clear hcz22_0); (try clear hcz22_1); (try clear hcz22_2); (try clear hcz22_3); (try clear hcz22_4); (try clear hcz22_5); (try clear hcz22_6); (try clear hcz22_7); (try clear hcz22_8); (try clear hcz22_9); (try clear hcz24_0); (try clear hcz24_1); (try clear hcz24_2); (try clear hcz24_3); (try clear hcz24_4); (try clear hcz24_5); (try clear hcz24_6); (try clear hcz24_7); (try clear hcz24_8); (try clear hcz24_9); (try clear hcz25_0); (try clear hcz25_1); (try clear hcz25_2); (try clear hcz25_3); (try clear hcz25_4); (try clear hcz25_5); (try clear hcz25_6); (try clear hcz25_7); (try clear hcz25_8); (try clear hcz25_9); (try clear hcz28_0); (try clear hcz28_1); (try clear hcz28_2); (try clear hcz28_3); (try clear hcz28_4); (try clear hcz28_5); (try clear hcz28_6); (try clear hcz28_7); (try clear hcz28_8); (try clear hcz28_9); (try clear hcz31_0); (try clear hcz31_1); (try clear hcz31_2); (try clear hcz31_3); (try clear hcz31_4); (try clear hcz31_5); (try clear hcz31_6); (try clear hcz31_7); (try clear hcz31_8); (try clear hcz31_9); (try clear hcz32_0); (try clear hcz32_1); (try clear hcz32_2); (try clear hcz32_3); (try clear hcz32_4); (try clear hcz32_5); (try clear hcz32_6); (try clear hcz32_7); (try clear hcz32_8); (try clear hcz32_9); (try clear hcz40_0); (try clear hcz40_1); (try clear hcz40_2); (try clear hcz40_3); (try clear hcz40_4); (try clear hcz40_5); (try clear hcz40_6); (try clear hcz40_7); (try clear hcz40_8); (try clear hcz40_9); (try clear hcz42_0); (try clear hcz42_1); (try clear hcz42_2); (try clear hcz42_3); (try clear hcz42_4); (try clear hcz42_5); (try clear hcz42_6); (try clear hcz42_7); (try clear hcz42_8); (try clear hcz42_9); (try clear hcz44_0); (try clear hcz44_1); (try clear hcz44_2); (try clear hcz44_3); (try clear hcz44_4); (try clear hcz44_5); (try clear hcz44_6); (try clear hcz44_7); (try clear hcz44_8); (try clear hcz44_9); (try clear hfz10_0); (try clear hfz10_1); (try clear hfz10_2); (try clear hfz10_3); (try clear hfz10_4); (try clear hfz10_5); (try clear hfz10_6); (try clear hfz10_7); (try clear hfz10_8); (try clear hfz10_9); (try clear hfz15_0); (try clear hfz15_1); (try clear hfz15_2); (try clear hfz15_3); (try clear hfz15_4); (try clear hfz15_5); (try clear hfz15_6); (try clear hfz15_7); (try clear hfz15_8); (try clear hfz15_9); (try clear hfz17_0); (try clear hfz17_1); (try clear hfz17_2); (try clear hfz17_3); (try clear hfz17_4); (try clear hfz17_5); (try clear hfz17_6); (try clear hfz17_7); (try clear hfz17_8); (try clear hfz17_9); (try clear hfz19_0); (try clear hfz19_1); (try clear hfz19_2); (try clear hfz19_3); (try clear hfz19_4); (try clear hfz19_5); (try clear hfz19_6); (try clear hfz19_7); (try clear hfz19_8); (try clear hfz19_9); (try clear hfz21_0); (try clear hfz21_1); (try clear hfz21_2); (try clear hfz21_3); (try clear hfz21_4); (try clear hfz21_5); (try clear hfz21_6); (try clear hfz21_7); (try clear hfz21_8); (try clear hfz21_9); (try clear hfz22_0); (try clear hfz22_1); (try clear hfz22_2); (try clear hfz22_3); (try clear hfz22_4); (try clear hfz22_5); (try clear hfz22_6); (try clear hfz22_7); (try clear hfz22_8); (try clear hfz22_9); (try clear hfz24_0); (try clear hfz24_1); (try clear hfz24_2); (try clear hfz24_3); (try clear hfz24_4); (try clear hfz24_5); (try clear hfz24_6); (try clear hfz24_7); (try clear hfz24_8); (try clear hfz24_9); (try clear hfz25_0); (try clear hfz25_1); (try clear hfz25_2); (try clear hfz25_3); (try clear hfz25_4); (try clear hfz25_5); (try clear hfz25_6); (try clear hfz25_7); (try clear hfz25_8); (try clear hfz25_9); (try clear hfz28_0); (try clear hfz28_1); (try clear hfz28_2); (try clear hfz28_3); (try clear hfz28_4); (try clear hfz28_5); (try clear hfz28_6); (try clear hfz28_7); (try clear hfz28_8); (try clear hfz28_9); (try clear hfz31_0); (try clear hfz31_1); (try clear hfz31_2); (try clear hfz31_3); (try clear hfz31_4); (try clear hfz31_5); (try clear hfz31_6); (try clear hfz31_7); (try clear hfz31_8); (try clear hfz31_9); (try clear hfz32_0); (try clear hfz32_1); (try clear hfz32_2); (try clear hfz32_3); (try clear hfz32_4); (try clear hfz32_5); (try clear hfz32_6); (try clear hfz32_7); (try clear hfz32_8); (try clear hfz32_9); (try clear hfz40_0); (try clear hfz40_1); (try clear hfz40_2); (try clear hfz40_3); (try clear hfz40_4); (try clear hfz40_5); (try clear hfz40_6); (try clear hfz40_7); (try clear hfz40_8); (try clear hfz40_9); (try clear hfz42_0); (try clear hfz42_1); (try clear hfz42_2); (try clear hfz42_3); (try clear hfz42_4); (try clear hfz42_5); (try clear hfz42_6); (try clear hfz42_7); (try clear hfz42_8); (try clear hfz42_9); (try clear hfz44_0); (try clear hfz44_1); (try clear hfz44_2); (try clear hfz44_3); (try clear hfz44_4); (try clear hfz44_5); (try clear hfz44_6); (try clear hfz44_7); (try clear hfz44_8); (try clear hfz44_9); (try clear hx130_0); (try clear hx130_1); (try clear hx130_2); (try clear hx130_3); (try clear hx130_4); (try clear hx130_5); (try clear hx130_6); (try clear hx130_7); (try clear hx130_8); (try clear hx130_9); (try clear p1); (try clear p13); (try clear p130); (try clear p2); (try clear q1); (try clear q13); (try clear q130)
             by_cases c46 : t135 = true
             ·subst c46
              have H1 : (spec_l4Form.l0 kj7 l0 a1 (wrap64 (x5_2 + 1))) = some r := by rw [if_pos rfl] at H; exact H
              clear H
              have H := H1
              clear H1
              have H' := z0 H
              clear H
              go_wp2
              go_roundg kj7
              case measure => have := HJ2.out; have := HK2.out; have := HJ7.out; omega
              case rel => exact ⟨(wrap64 (x5_2 + 1)), rfy, H', ⟨by have := HJ2.out; have := HK2.out; have := HJ7.out; omega⟩, ⟨mB HB.out⟩⟩
             ·replace c46 := Bool.eq_false_iff.mpr c46
              subst c46
              have H1 : (some false) = some r := by rw [if_neg (show ¬ (false = true) by decide)] at H; exact H
              clear H
              have H := H1
              clear H1
              obtain rfl := Option.some.inj H
              go_wp2
              go_ret
              exact ⟨rfx, mB HB.out⟩
            ·replace c37 := Bool.eq_false_iff.mpr c37
             subst c37
             have H1 : (some false) = some r := by rw [if_neg (show ¬ (false = true) by decide)] at H; exact H
             clear H
             have H := H1
             clear H1
             obtain rfl := Option.some.inj H
             obtain ⟨hcz47_0, hcz47_1, hcz47_2, hcz47_3, hcz47_4, hcz47_5, hcz47_6, hcz47_7, hcz47_8, hcz47_9, hfz47_0, hfz47_1, hfz47_2, hfz47_3, hfz47_4, hfz47_5, hfz47_6, hfz47_7, hfz47_8, hfz47_9⟩ := cel10 BK131.out
             go_wp2_with (first | (go_at_call 21; (with_reducible refine (spec_ExprOk.calls kj7 ((rd_T64 l0 x5_2).f2.f0) ((rd_T64 l0 x5_2).f2.f1) ((rd_T64 l0 x5_2).f2.f2.f0) ((rd_T64 l0 x5_2).f2.f2.f1) _ _ ((rd_T64 l0 x5_2).f2.f3) true _ ?side1 ?side2 A34.out).mono ?_); (case side1 => exact mC (Kd.C_below HR130_7.out HB.out)); (case side2 => exact HC130_7.out); rintro e w48 ⟨rfl, hb⟩; have n0_ := z0 (blk_below (g := gb131) (o := .cells #[.int .i64 ((rd_T64 l0 x5_2).f0), .int .i64 ((rd_T64 l0 x5_2).f1.f0), .int .i64 ((rd_T64 l0 x5_2).f1.f1), .int .i64 ((rd_T64 l0 x5_2).f2.f0), .int .i64 ((rd_T64 l0 x5_2).f2.f1), .int .i64 ((rd_T64 l0 x5_2).f2.f2.f0), .int .i64 ((rd_T64 l0 x5_2).f2.f2.f1), .slice A130_7 ((rd_T64 l0 x5_2).f2.f3).length c130_7, .slice A130_8 ((rd_T64 l0 x5_2).f3).length c130_8, .slice A130_9 ((rd_T64 l0 x5_2).f4).length c130_9] 64 (0, 0)) (mK BK131.out) hb); have n1_ := z0 (below_step (mB HB.out) hb); clear BK131; clear HB; have BK131 := n0_; have HB := n1_; clear n0_ n1_; (try clear hb); (try clear hb2); (try clear hk); (try clear hi); obtain ⟨hcz49_0, hcz49_1, hcz49_2, hcz49_3, hcz49_4, hcz49_5, hcz49_6, hcz49_7, hcz49_8, hcz49_9, hfz49_0, hfz49_1, hfz49_2, hfz49_3, hfz49_4, hfz49_5, hfz49_6, hfz49_7, hfz49_8, hfz49_9⟩ := cel10 BK131.out) | (go_at_call 30; (with_reducible refine (ih kj7 (by have := HJ2.out; have := HK2.out; have := HJ7.out; omega) _ _ ((rd_T64 l0 x5_2).f3) (wrap64 (a1 - 1)) false _ ?side1 ?side2 A36.out).mono ?_); (case side1 => exact mC (Kd.C_below HR130_8.out HB.out)); (case side2 => exact HC130_8.out); rintro e w50 ⟨rfl, hb⟩; have n0_ := z0 (blk_below (g := gb131) (o := .cells #[.int .i64 ((rd_T64 l0 x5_2).f0), .int .i64 ((rd_T64 l0 x5_2).f1.f0), .int .i64 ((rd_T64 l0 x5_2).f1.f1), .int .i64 ((rd_T64 l0 x5_2).f2.f0), .int .i64 ((rd_T64 l0 x5_2).f2.f1), .int .i64 ((rd_T64 l0 x5_2).f2.f2.f0), .int .i64 ((rd_T64 l0 x5_2).f2.f2.f1), .slice A130_7 ((rd_T64 l0 x5_2).f2.f3).length c130_7, .slice A130_8 ((rd_T64 l0 x5_2).f3).length c130_8, .slice A130_9 ((rd_T64 l0 x5_2).f4).length c130_9] 64 (0, 0)) (mK BK131.out) hb); have n1_ := z0 (below_step (mB HB.out) hb); clear BK131; clear HB; have BK131 := n0_; have HB := n1_; clear n0_ n1_; (try clear hb); (try clear hb2); (try clear hk); (try clear hi)))
             go_ret
             exact ⟨rfx, mB HB.out⟩
           ·replace c35 := Bool.eq_false_iff.mpr c35
            subst c35
            have H1 : (some false) = some r := by rw [if_neg (show ¬ (false = true) by decide)] at H; exact H
            clear H
            have H := H1
            clear H1
            obtain rfl := Option.some.inj H
            obtain ⟨hcz51_0, hcz51_1, hcz51_2, hcz51_3, hcz51_4, hcz51_5, hcz51_6, hcz51_7, hcz51_8, hcz51_9, hfz51_0, hfz51_1, hfz51_2, hfz51_3, hfz51_4, hfz51_5, hfz51_6, hfz51_7, hfz51_8, hfz51_9⟩ := cel10 BK131.out
            go_wp2_with (first | (go_at_call 21; (with_reducible refine (spec_ExprOk.calls kj7 ((rd_T64 l0 x5_2).f2.f0) ((rd_T64 l0 x5_2).f2.f1) ((rd_T64 l0 x5_2).f2.f2.f0) ((rd_T64 l0 x5_2).f2.f2.f1) _ _ ((rd_T64 l0 x5_2).f2.f3) false _ ?side1 ?side2 A34.out).mono ?_); (case side1 => exact mC (Kd.C_below HR130_7.out HB.out)); (case side2 => exact HC130_7.out); rintro e w52 ⟨rfl, hb⟩; have n0_ := z0 (blk_below (g := gb131) (o := .cells #[.int .i64 ((rd_T64 l0 x5_2).f0), .int .i64 ((rd_T64 l0 x5_2).f1.f0), .int .i64 ((rd_T64 l0 x5_2).f1.f1), .int .i64 ((rd_T64 l0 x5_2).f2.f0), .int .i64 ((rd_T64 l0 x5_2).f2.f1), .int .i64 ((rd_T64 l0 x5_2).f2.f2.f0), .int .i64 ((rd_T64 l0 x5_2).f2.f2.f1), .slice A130_7 ((rd_T64 l0 x5_2).f2.f3).length c130_7, .slice A130_8 ((rd_T64 l0 x5_2).f3).length c130_8, .slice A130_9 ((rd_T64 l0 x5_2).f4).length c130_9] 64 (0, 0)) (mK BK131.out) hb); have n1_ := z0 (below_step (mB HB.out) hb); clear BK131; clear HB; have BK131 := n0_; have HB := n1_; clear n0_ n1_; (try clear hb); (try clear hb2); (try clear hk); (try clear hi)))
            go_ret
            exact ⟨rfx, mB HB.out⟩
          ·replace c33 := Bool.eq_false_iff.mpr c33
           subst c33
           have H1 : (some false) = some r := by rw [if_neg (show ¬ (false = true) by decide)] at H; exact H
           clear H
           have H := H1
           clear H1
           obtain rfl := Option.some.inj H
           go_wp2
           go_ret
           exact ⟨rfx, mB HB.out⟩
       ·rw [if_neg c7] at H
        exact absurd H (by simp)
      ·rw [if_neg c6] at H
       have c6b0 : decide (x5_2 < (l0.length : Int)) = false := decide_eq_false c6
       clear c6
       obtain rfl := Option.some.inj H
       go_wp2
       go_ret
       exact ⟨rfx, mB HB.out⟩

end Go.Proofs.Ytfikglnnkbldaaa.B
namespace Go.Proofs.Ytfikglnnkbldaaa.B
open Go.RowKit Go.Proofs.YtfikglnnkbldaaaW.PrintWords Go.Proofs.YtfikglnnkbldaaaW.PrintLast Go.Proofs.YtfikglnnkbldaaaW.PrintMore
attribute [local go_sem] max2_int min2_int max_two min_two max_three min_three max_four min_four   -- for this text's walks alone
set_option linter.unusedVariables false
set_option linter.unusedSimpArgs false

/-! ### spec_StmtsOk: function 8 -/
def spec_StmtsOk.f (k : Nat) (l0 : List (S64)) : Option (Bool) := (spec_l4Many.f k l0 4).bind fun t136 => (if t136 ≤ 16 then ((spec_l4Form.f k l0 4).bind fun t137 => (some t137)) else (some false))
theorem spec_StmtsOk.mono : ∀ a0 k, LeO (spec_StmtsOk.f k a0) (spec_StmtsOk.f (k + 1) a0) := by
 intro a0 k
 unfold spec_StmtsOk.f
 repeat' first
   | (with_reducible exact spec_l4Form.mono _ _ _)
   | (with_reducible exact spec_l4Many.mono _ _ _)
   | (with_reducible exact LeO.refl _)
   | (with_reducible exact LeO.none _)
   | (with_reducible refine LeO.ite ?_ ?_)
   | (with_reducible refine LeO.bind ?_ (fun _ => ?_))
   | exact spec_l4Form.mono _ _ _
   | exact spec_l4Many.mono _ _ _
   | exact LeO.none _
   | refine LeO.ite ?_ ?_
   | refine LeO.bind ?_ (fun _ => ?_)
set_option maxHeartbeats 8000000 in
set_option maxRecDepth 100000 in
theorem spec_StmtsOk.calls (k : Nat) (A0 : Option Addr) (c0 : Nat) (l0 : List (S64)) (r : Bool) (w : World) (hr0 : Kd.C k64 w A0 l0.length l0) (hc0 : l0.length ≤ c0) (h : spec_StmtsOk.f k l0 = some r) :
  Calls Try.prog 8 #[.slice A0 l0.length c0] w fun e w' => e = .returned (.bool r) ∧ Below w.heap.size w w' := by
 have HR0 := z0 hr0
 have HC0 := z0 hc0
 clear hr0 hc0
 have HB := z0 (Below.refl w.heap.size w)
 have H : ((spec_l4Many.f k l0 4).bind fun t136 => (if t136 ≤ 16 then ((spec_l4Form.f k l0 4).bind fun t137 => (some t137)) else (some false))) = some r := h
 clear h
 replace H := Option.bind_eq_some_iff.mp H
 obtain ⟨t136, A20, H⟩ := H
 replace H : (if t136 ≤ 16 then ((spec_l4Form.f k l0 4).bind fun t137 => (some t137)) else (some false)) = some r := H
 have A2 := z0 A20
 clear A20
 by_cases c3 : t136 ≤ 16
 ·rw [if_pos c3] at H
  have c3b0 : decide (t136 ≤ 16) = true := decide_eq_true c3
  clear c3
  replace H := Option.bind_eq_some_iff.mp H
  obtain ⟨t137, A40, H⟩ := H
  replace H : (some t137) = some r := H
  have A4 := z0 A40
  clear A40
  obtain rfl := Option.some.inj H
  go_enter Try.func8, Try.ntmps8
  go_wp2_with (first | ((with_reducible refine gate_callee (f := 29) rfl ?_); refine goesL_ (some 4) rfl rfl Try.func29 (by kernel_rfl) rfl #[.slice A0 l0.length c0, .int .i64 4] rfl argx ?_; (with_reducible refine (spec_l4Many.calls k _ _ l0 4 t136 _ ?side1 ?side2 A2.out).mono ?_); (case side1 => exact mC HR0.out); (case side2 => exact HC0.out); rintro e w5 ⟨rfl, hb⟩; refine ⟨_, rfl, ?_⟩; have n0_ := z0 (below_step (mB HB.out) hb); clear HB; have HB := n0_; clear n0_; (try clear hb); (try clear hb2); (try clear hk); (try clear hi)) | (go_at_call 30; (with_reducible refine (spec_l4Form.calls k _ _ l0 4 t137 _ ?side1 ?side2 A4.out).mono ?_); (case side1 => exact mC (Kd.C_below HR0.out HB.out)); (case side2 => exact HC0.out); rintro e w6 ⟨rfl, hb⟩; have n0_ := z0 (below_step (mB HB.out) hb); clear HB; have HB := n0_; clear n0_; (try clear hb); (try clear hb2); (try clear hk); (try clear hi)))
  go_ret
  exact ⟨rfx, mB HB.out⟩
 ·rw [if_neg c3] at H
  have c3b0 : decide (t136 ≤ 16) = false := decide_eq_false c3
  clear c3
  obtain rfl := Option.some.inj H
  go_enter Try.func8, Try.ntmps8
  go_wp2_with (first | ((with_reducible refine gate_callee (f := 29) rfl ?_); refine goesL_ (some 4) rfl rfl Try.func29 (by kernel_rfl) rfl #[.slice A0 l0.length c0, .int .i64 4] rfl argx ?_; (with_reducible refine (spec_l4Many.calls k _ _ l0 4 t136 _ ?side1 ?side2 A2.out).mono ?_); (case side1 => exact mC HR0.out); (case side2 => exact HC0.out); rintro e w7 ⟨rfl, hb⟩; refine ⟨_, rfl, ?_⟩; have n0_ := z0 (below_step (mB HB.out) hb); clear HB; have HB := n0_; clear n0_; (try clear hb); (try clear hb2); (try clear hk); (try clear hi)))
  go_ret
  exact ⟨rfx, mB HB.out⟩

end Go.Proofs.Ytfikglnnkbldaaa.B
namespace Go.Proofs.Ytfikglnnkbldaaa.B
open Go.RowKit Go.Proofs.YtfikglnnkbldaaaW.PrintWords Go.Proofs.YtfikglnnkbldaaaW.PrintLast Go.Proofs.YtfikglnnkbldaaaW.PrintMore
attribute [local go_sem] max2_int min2_int max_two min_two max_three min_three max_four min_four   -- for this text's walks alone
set_option linter.unusedVariables false
set_option linter.unusedSimpArgs false

/-! ### spec_StmtsMany: function 12 -/
def spec_StmtsMany.f (k : Nat) (l0 : List (S64)) : Option (Int) := (spec_StmtsOk.f k l0).bind fun t231 => (if t231 = true then ((spec_l4Many.f k l0 4).bind fun t232 => (some t232)) else (some 0))
theorem spec_StmtsMany.mono : ∀ a0 k, LeO (spec_StmtsMany.f k a0) (spec_StmtsMany.f (k + 1) a0) := by
 intro a0 k
 unfold spec_StmtsMany.f
 repeat' first
   | (with_reducible exact spec_StmtsOk.mono _ _)
   | (with_reducible exact spec_l4Many.mono _ _ _)
   | (with_reducible exact LeO.refl _)
   | (with_reducible exact LeO.none _)
   | (with_reducible refine LeO.ite ?_ ?_)
   | (with_reducible refine LeO.bind ?_ (fun _ => ?_))
   | exact spec_StmtsOk.mono _ _
   | exact spec_l4Many.mono _ _ _
   | exact LeO.none _
   | refine LeO.ite ?_ ?_
   | refine LeO.bind ?_ (fun _ => ?_)
set_option maxHeartbeats 8000000 in
set_option maxRecDepth 100000 in
theorem spec_StmtsMany.calls (k : Nat) (A0 : Option Addr) (c0 : Nat) (l0 : List (S64)) (r : Int) (w : World) (hr0 : Kd.C k64 w A0 l0.length l0) (hc0 : l0.length ≤ c0) (h : spec_StmtsMany.f k l0 = some r) :
  Calls Try.prog 12 #[.slice A0 l0.length c0] w fun e w' => e = .returned (.int .i64 r) ∧ Below w.heap.size w w' := by
 have HR0 := z0 hr0
 have HC0 := z0 hc0
 clear hr0 hc0
 have HB := z0 (Below.refl w.heap.size w)
 have H : ((spec_StmtsOk.f k l0).bind fun t231 => (if t231 = true then ((spec_l4Many.f k l0 4).bind fun t232 => (some t232)) else (some 0))) = some r := h
 clear h
 replace H := Option.bind_eq_some_iff.mp H
 obtain ⟨t231, A20, H⟩ := H
 replace H : (if t231 = true then ((spec_l4Many.f k l0 4).bind fun t232 => (some t232)) else (some 0)) = some r := H
 have A2 := z0 A20
 clear A20
 have HF3 := z0 H
 clear H
 go_enter Try.func12, Try.ntmps12
 go_upto_if 5 with (first | ((with_reducible refine gate_callee (f := 8) rfl ?_); refine goesL_ (some 4) rfl rfl Try.func8 (by kernel_rfl) rfl #[.slice A0 l0.length c0] rfl argx ?_; (with_reducible refine (spec_StmtsOk.calls k _ _ l0 t231 _ ?side1 ?side2 A2.out).mono ?_); (case side1 => exact mC HR0.out); (case side2 => exact HC0.out); rintro e w4 ⟨rfl, hb⟩; refine ⟨_, rfl, ?_⟩; have n0_ := z0 (below_step (mB HB.out) hb); clear HB; have HB := n0_; clear n0_; (try clear hb); (try clear hb2); (try clear hk); (try clear hi)))
 (try simp only [Act.put, List.setIfInBounds_toArray, List.set_cons_zero, List.set_cons_succ])
 have H := HF3.out
 clear HF3
 try clear c1
 by_cases c5 : t231 = true
 ·subst c5
  have H1 : ((spec_l4Many.f k l0 4).bind fun t232 => (some t232)) = some r := by rw [if_pos rfl] at H; exact H
  clear H
  have H := H1
  clear H1
  replace H := Option.bind_eq_some_iff.mp H
  obtain ⟨t232, A60, H⟩ := H
  replace H : (some t232) = some r := H
  have A6 := z0 A60
  clear A60
  obtain rfl := Option.some.inj H
  go_wp2_with (first | ((with_reducible refine gate_callee (f := 29) rfl ?_); refine goesL_ (some 7) rfl rfl Try.func29 (by kernel_rfl) rfl #[.slice A0 l0.length c0, .int .i64 4] rfl argx ?_; (with_reducible refine (spec_l4Many.calls k _ _ l0 4 t232 _ ?side1 ?side2 A6.out).mono ?_); (case side1 => exact mC (Kd.C_below HR0.out HB.out)); (case side2 => exact HC0.out); rintro e w7 ⟨rfl, hb⟩; refine ⟨_, rfl, ?_⟩; have n0_ := z0 (below_step (mB HB.out) hb); clear HB; have HB := n0_; clear n0_; (try clear hb); (try clear hb2); (try clear hk); (try clear hi)))
  go_ret
  exact ⟨rfx, mB HB.out⟩
 ·replace c5 := Bool.eq_false_iff.mpr c5
  subst c5
  have H1 : (some 0) = some r := by rw [if_neg (show ¬ (false = true) by decide)] at H; exact H
  clear H
  have H := H1
  clear H1
  obtain rfl := Option.some.inj H
  go_wp2
  go_ret
  exact ⟨rfx, mB HB.out⟩

end Go.Proofs.Ytfikglnnkbldaaa.B
