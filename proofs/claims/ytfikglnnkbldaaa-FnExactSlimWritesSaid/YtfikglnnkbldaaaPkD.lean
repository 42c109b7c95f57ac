import Derived.Test.YtfikglnnkbldaaaB0
import Derived.Test.YtfikglnnkbldaaaSq
import Derived.Test.YtfikglnnkbldaaaPkB
import Derived.Test.YtfikglnnkbldaaaPkC
-- printed by base.py (this claim's tool) over the kit's print
namespace Go.Proofs.Ytfikglnnkbldaaa.B
open Go.RowKit Go.Proofs.YtfikglnnkbldaaaW.PrintWords Go.Proofs.YtfikglnnkbldaaaW.PrintLast Go.Proofs.YtfikglnnkbldaaaW.PrintMore
attribute [local go_sem] max2_int min2_int max_two min_two max_three min_three max_four min_four   -- for this text's walks alone
set_option linter.unusedVariables false
set_option linter.unusedSimpArgs false

attribute [local go_sem high] eqA33
/-! ### spec_l10Writes: function 34 -/
mutual
def spec_l10Writes.l0 : Nat → List (S64) → Int → Int → Int → Option (Bool)
 | 0, _, _, _, _ => none
 | k + 1, x0, x5, x247000, x247001 => if x5 < (x0.length : Int) then (if 0 ≤ x5 then (if ((rd_T64 x0 x5).f0) = 1 then (if (((rd_T64 x0 x5).f1.f0) == x247000 && (((rd_T64 x0 x5).f1.f1) == x247001)) = true then (some true) else ((spec_l10Writes.f k ((rd_T64 x0 x5).f3) x247000 x247001).bind fun t249 => (if t249 = true then (some true) else ((spec_l10Writes.f k ((rd_T64 x0 x5).f4) x247000 x247001).bind fun t250 => (if t250 = true then (some true) else (spec_l10Writes.l0 k x0 (wrap64 (x5 + 1)) x247000 x247001)))))) else ((spec_l10Writes.f k ((rd_T64 x0 x5).f3) x247000 x247001).bind fun t251 => (if t251 = true then (some true) else ((spec_l10Writes.f k ((rd_T64 x0 x5).f4) x247000 x247001).bind fun t252 => (if t252 = true then (some true) else (spec_l10Writes.l0 k x0 (wrap64 (x5 + 1)) x247000 x247001)))))) else (none)) else (some false)
def spec_l10Writes.f : Nat → List (S64) → Int → Int → Option (Bool)
 | 0, _, _, _ => none
 | k + 1, l0, a1_0, a1_1 => spec_l10Writes.l0 k l0 0 a1_0 a1_1
end
theorem spec_l10Writes.mono_l : ∀ k, (∀ y0 y1 y2, LeO (spec_l10Writes.f k y0 y1 y2) (spec_l10Writes.f (k + 1) y0 y1 y2)) ∧ (∀ y0 y1 y2 y3, LeO (spec_l10Writes.l0 k y0 y1 y2 y3) (spec_l10Writes.l0 (k + 1) y0 y1 y2 y3))
 | 0 => ⟨fun _ _ _ r h => by simp [spec_l10Writes.f] at h, fun _ _ _ _ r h => by simp [spec_l10Writes.l0] at h⟩
 | k + 1 => by
  obtain ⟨ih0, ih1⟩ := spec_l10Writes.mono_l k
  refine ⟨?_, ?_⟩
  ·intro y0 y1 y2
   unfold spec_l10Writes.f
   repeat' first
   | (with_reducible exact ih0 _ _ _)
   | (with_reducible exact ih1 _ _ _ _)
   | (with_reducible exact LeO.refl _)
   | (with_reducible exact LeO.none _)
   | (with_reducible refine LeO.ite ?_ ?_)
   | (with_reducible refine LeO.bind ?_ (fun _ => ?_))
   | exact ih0 _ _ _
   | exact ih1 _ _ _ _
   | exact LeO.none _
   | refine LeO.ite ?_ ?_
   | refine LeO.bind ?_ (fun _ => ?_)
  ·intro y0 y1 y2 y3
   unfold spec_l10Writes.l0
   repeat' first
   | (with_reducible exact ih0 _ _ _)
   | (with_reducible exact ih1 _ _ _ _)
   | (with_reducible exact LeO.refl _)
   | (with_reducible exact LeO.none _)
   | (with_reducible refine LeO.ite ?_ ?_)
   | (with_reducible refine LeO.bind ?_ (fun _ => ?_))
   | exact ih0 _ _ _
   | exact ih1 _ _ _ _
   | exact LeO.none _
   | refine LeO.ite ?_ ?_
   | refine LeO.bind ?_ (fun _ => ?_)
theorem spec_l10Writes.mono : ∀ a0 a1 a2 k, LeO (spec_l10Writes.f k a0 a1 a2) (spec_l10Writes.f (k + 1) a0 a1 a2) := by
 intro a0 a1 a2 k
 obtain ⟨ih0, ih1⟩ := spec_l10Writes.mono_l k
 exact ih0 a0 a1 a2
set_option maxHeartbeats 8000000 in
set_option maxRecDepth 100000 in
theorem spec_l10Writes.calls (k : Nat) : ∀ (A0 : Option Addr) (c0 : Nat) (l0 : List (S64)) (a1_0 : Int) (a1_1 : Int) (r : Bool) (w : World) (hr0 : Kd.C k64 w A0 l0.length l0) (hc0 : l0.length ≤ c0) (h : spec_l10Writes.f k l0 a1_0 a1_1 = some r),
  Calls Try.prog 34 #[.slice A0 l0.length c0, .agg #[.int .i64 a1_0, .int .i64 a1_1]] w fun e w' => e = .returned (.bool r) ∧ Below w.heap.size w w' := by
 induction k using Nat.strongRecOn with
 | _ k ih =>
 intro A0 c0 l0 a1_0 a1_1 r w hr0 hc0 h
 cases k with
 | zero => exact absurd h (by simp [spec_l10Writes.f])
 | succ k =>
 simp only [spec_l10Writes.f] at h
 have hu33 := Try.underlying33
 have hu64 := Try.underlying64
 have HR0 := z0 hr0
 have HC0 := z0 hc0
 clear hr0 hc0
 have HB := z0 (Below.refl w.heap.size w)
 have H : (spec_l10Writes.l0 k l0 0 a1_0 a1_1) = some r := h
 clear h
 have H' := z0 H
 clear H
 go_enter Try.func34, Try.ntmps34
 go_wp2_with (first | ((with_reducible refine gate_dst (N := 3) rfl ?_); refine box_event ?hg (N := 3) ?hd (cs := #[.int .i64 a1_0, .int .i64 a1_1]) (t := 33) ?hr ?_; (case hd => rfl); (case hg => rfl); (case hr => first | (go_simp; done) | (go_simp; rfl)); intro gb246 hg w3 hbox hb; have n0_ := z0 (below_step (mB HB.out) hb); have n1_ := z0 (hbox); have n2_ := z0 ((by rw [hg]; exact (below_size (mB HB.out)) : w.heap.size ≤ gb246)); have n3_ := z0 ((by rw [hg]; exact (below_size (mB HB.out)) : w.heap.size ≤ gb246)); clear HB; have HB := n0_; have BK246 := n1_; have GW246 := n2_; have GE246 := n3_; clear n0_ n1_ n2_ n3_; clear hb hbox hg))
 go_loopg [5] k (fun kq v5 w' => ∃ (x5_1 : Int), v5 = .int .i64 x5_1 ∧ Aside0 (spec_l10Writes.l0 kq l0 x5_1 a1_0 a1_1 = some r) ∧ Aside0 (kq ≤ k) ∧ Aside0 (w'.heap[gb246]? = some (.cells #[.int .i64 a1_0, .int .i64 a1_1] 33 (0, 0))) ∧ Aside0 (Below w.heap.size w w'))
 case atStart => exact ⟨(0), rfy, H', ⟨Nat.le_refl _⟩, ⟨mK BK246.out⟩, ⟨mB HB.out⟩⟩
 case round =>
  clear H'
  (try clear p2); (try clear c3)
  obtain ⟨x5_1, rfl, HA, HK1, BK246, HB⟩ := hrel
  cases gk with
  | zero => exact absurd HA.out (by simp [spec_l10Writes.l0])
  | succ k1 =>
   have H := HA.out
   clear HA
   simp only [spec_l10Writes.l0] at H
   by_cases c4 : x5_1 < (l0.length : Int)
   ·rw [if_pos c4] at H
    have c4b0 : decide (x5_1 < (l0.length : Int)) = true := decide_eq_true c4
    clear c4
    by_cases c5 : 0 ≤ x5_1
    ·rw [if_pos c5] at H
     have c5b0 : decide (0 ≤ x5_1) = true := decide_eq_true c5
     clear c5
     have HF6 := z0 H
     clear H
     have p247 : 0 ≤ (x5_1 : Int) := of_decide_eq_true (by first | (with_reducible assumption) | assumption)
     have q247 : x5_1 < (l0.length : Int) := of_decide_eq_true (by first | (with_reducible assumption) | assumption)
     obtain ⟨ad247, A247_7, c247_7, A247_8, c247_8, A247_9, c247_9, e247, hx247_0, hx247_1, hx247_2, hx247_3, hx247_4, hx247_5, hx247_6, hx247_7, hx247_8, hx247_9, hl247_7, hi247_7, hl247_8, hi247_8, hl247_9, hi247_9⟩ := at_T64 HR0.out x5_1 p247 q247
     cases e247
     replace hx247_0 := (HB.out.cell (World.block_lt_of_cell? w _ hx247_0)).trans hx247_0
     replace hx247_1 := (HB.out.cell (World.block_lt_of_cell? w _ hx247_1)).trans hx247_1
     replace hx247_2 := (HB.out.cell (World.block_lt_of_cell? w _ hx247_2)).trans hx247_2
     replace hx247_3 := (HB.out.cell (World.block_lt_of_cell? w _ hx247_3)).trans hx247_3
     replace hx247_4 := (HB.out.cell (World.block_lt_of_cell? w _ hx247_4)).trans hx247_4
     replace hx247_5 := (HB.out.cell (World.block_lt_of_cell? w _ hx247_5)).trans hx247_5
     replace hx247_6 := (HB.out.cell (World.block_lt_of_cell? w _ hx247_6)).trans hx247_6
     replace hx247_7 := (HB.out.cell (World.block_lt_of_cell? w _ hx247_7)).trans hx247_7
     replace hx247_8 := (HB.out.cell (World.block_lt_of_cell? w _ hx247_8)).trans hx247_8
     replace hx247_9 := (HB.out.cell (World.block_lt_of_cell? w _ hx247_9)).trans hx247_9
     have HR247_7 := z0 hi247_7
     have HC247_7 := z0 hl247_7
     clear hi247_7 hl247_7
     have HR247_8 := z0 hi247_8
     have HC247_8 := z0 hl247_8
     clear hi247_8 hl247_8
     have HR247_9 := z0 hi247_9
     have HC247_9 := z0 hl247_9
     clear hi247_9 hl247_9
     replace p247 := eq_true p247
     replace q247 := eq_true q247
     go_upto_region 5 with (first | ((with_reducible refine gate_dst (N := 6) rfl ?_); refine box_event ?hg (N := 6) ?hd (cs := #[.int .i64 0, .int .i64 0, .int .i64 0, .int .i64 0, .int .i64 0, .int .i64 0, .int .i64 0, .slice none 0 0, .slice none 0 0, .slice none 0 0]) (t := 64) ?hr ?_; (case hd => rfl); (case hg => rfl); (case hr => first | (go_simp; done) | (go_simp; rfl)); intro gb248 hg w7 hbox hb; have n0_ := z0 (blk_below (g := gb246) (o := .cells #[.int .i64 a1_0, .int .i64 a1_1] 33 (0, 0)) (mK BK246.out) hb); have n1_ := z0 (below_step (mB HB.out) hb); have n2_ := z0 (hbox); have n3_ := z0 ((by rw [hg]; exact (below_size (mB HB.out)) : w.heap.size ≤ gb248)); have n4_ := z0 ((by rw [hg]; exact (below_size (mB HB.out)) : w.heap.size ≤ gb248)); have n5_ := z0 ((by rw [hg]; exact Nat.ne_of_lt (blk_lt (g := gb246) (o := .cells #[.int .i64 a1_0, .int .i64 a1_1] 33 (0, 0)) (mK BK246.out)) : gb246 ≠ gb248)); have n6_ := z0 ((by rw [hg]; exact Nat.ne_of_gt (blk_lt (g := gb246) (o := .cells #[.int .i64 a1_0, .int .i64 a1_1] 33 (0, 0)) (mK BK246.out)) : gb248 ≠ gb246)); clear BK246; clear HB; have BK246 := n0_; have HB := n1_; have BK248 := n2_; have GW248 := n3_; have GE248 := n4_; have NB246_248 := n5_; have NB248_246 := n6_; clear n0_ n1_ n2_ n3_ n4_ n5_ n6_; clear hb hbox hg; have hnb8 := NB248_246.out; have hnc8 := NB246_248.out; obtain ⟨hcz9_0, hcz9_1, hcz9_2, hcz9_3, hcz9_4, hcz9_5, hcz9_6, hcz9_7, hcz9_8, hcz9_9, hfz9_0, hfz9_1, hfz9_2, hfz9_3, hfz9_4, hfz9_5, hfz9_6, hfz9_7, hfz9_8, hfz9_9⟩ := cel10 BK248.out))
     (try simp only [Act.put, List.setIfInBounds_toArray, List.set_cons_zero, List.set_cons_succ])
     have H := HF6.out
     clear HF6
     (try clear c2); (try clear p2); (try clear q2); (try clear hx2); (try clear c3); (try clear c4); (try clear c4b0); (try clear c5); (try clear c5b0); (try clear c8); (try clear hcz9_0); (try clear hcz9_1); (try clear hcz9_2); (try clear hcz9_3); (try clear hcz9_4); (try clear hcz9_5); (try clear hcz9_6); (try clear hcz9_7); (try clear hcz9_8); (try clear hcz9_9); (try clear hfz9_0); (try clear hfz9_1); (try clear hfz9_2); (try clear hfz9_3); (try clear hfz9_4); (try clear hfz9_5); (try clear hfz9_6); (try clear hfz9_7); (try clear hfz9_8); (try clear hfz9_9); (try clear hx247_0); (try clear hx247_1); (try clear hx247_2); (try clear hx247_3); (try clear hx247_4); (try clear hx247_5); (try clear hx247_6); (try clear hx247_7); (try clear hx247_8); (try clear hx247_9); (try clear p2); (try clear p247); (try clear q247)
     by_cases c10 : ((rd_T64 l0 x5_1).f0) = 1
     ·rw [if_pos c10] at H
      have c10b0 : (((rd_T64 l0 x5_1).f0) == 1) = true := beq_iff_eq.mpr c10
      have c10b1 : (((rd_T64 l0 x5_1).f0) != 1) = false := bne_eq_false_iff_eq.mpr c10
      clear c10
      by_cases c11 : (((rd_T64 l0 x5_1).f1.f0) == a1_0 && (((rd_T64 l0 x5_1).f1.f1) == a1_1)) = true
      ·rw [if_pos c11] at H
       have c11b0 : (((rd_T64 l0 x5_1).f1.f0) == a1_0 && (((rd_T64 l0 x5_1).f1.f1) == a1_1)) = true := c11
       (try (have c11b1 : decide (((rd_T64 l0 x5_1).f1.f0) = a1_0 && (((rd_T64 l0 x5_1).f1.f1) == a1_1)) = true := by simpa using c11))
       (try (have c11b2 : (((rd_T64 l0 x5_1).f1.f0) == a1_0 && (((rd_T64 l0 x5_1).f1.f1) == a1_1)) = true := by simpa using c11))
       clear c11
       obtain rfl := Option.some.inj H
       have hnb12 := NB248_246.out
       have hnc12 := NB246_248.out
       obtain ⟨hcz13_0, hcz13_1, hcz13_2, hcz13_3, hcz13_4, hcz13_5, hcz13_6, hcz13_7, hcz13_8, hcz13_9, hfz13_0, hfz13_1, hfz13_2, hfz13_3, hfz13_4, hfz13_5, hfz13_6, hfz13_7, hfz13_8, hfz13_9⟩ := cel10 BK248.out
       obtain ⟨hcz14_0, hcz14_1, hfz14_0, hfz14_1⟩ := cel2 BK246.out
       go_wp2
       go_ret
       exact ⟨rfx, mB HB.out⟩
      ·rw [if_neg c11] at H
       have c11b0 : (((rd_T64 l0 x5_1).f1.f0) == a1_0 && (((rd_T64 l0 x5_1).f1.f1) == a1_1)) = false := by simpa using c11
       (try (have c11b1 : decide (((rd_T64 l0 x5_1).f1.f0) = a1_0 && (((rd_T64 l0 x5_1).f1.f1) == a1_1)) = false := by simpa using c11))
       (try (have c11b2 : (((rd_T64 l0 x5_1).f1.f0) == a1_0 && (((rd_T64 l0 x5_1).f1.f1) == a1_1)) = false := by simpa using c11))
       (try (have c11b3 : ¬ (((rd_T64 l0 x5_1).f1.f0) = a1_0 && (((rd_T64 l0 x5_1).f1.f1) == a1_1)) := by simpa using c11))
       clear c11
       replace H := Option.bind_eq_some_iff.mp H
       obtain ⟨t249, A150, H⟩ := H
       replace H : (if t249 = true then (some true) else ((spec_l10Writes.f k1 ((rd_T64 l0 x5_1).f4) a1_0 a1_1).bind fun t250 => (if t250 = true then (some true) else (spec_l10Writes.l0 k1 l0 (wrap64 (x5_1 + 1)) a1_0 a1_1)))) = some r := H
       have A15 := z0 A150
       clear A150
       by_cases c16 : t249 = true
       ·subst c16
        have H1 : (some true) = some r := by rw [if_pos rfl] at H; exact H
        clear H
        have H := H1
        clear H1
        obtain rfl := Option.some.inj H
        have hnb17 := NB248_246.out
        have hnc17 := NB246_248.out
        obtain ⟨hcz18_0, hcz18_1, hcz18_2, hcz18_3, hcz18_4, hcz18_5, hcz18_6, hcz18_7, hcz18_8, hcz18_9, hfz18_0, hfz18_1, hfz18_2, hfz18_3, hfz18_4, hfz18_5, hfz18_6, hfz18_7, hfz18_8, hfz18_9⟩ := cel10 BK248.out
        obtain ⟨hcz19_0, hcz19_1, hfz19_0, hfz19_1⟩ := cel2 BK246.out
        go_wp2_with (first | (go_at_call 34; (with_reducible refine (ih k1 (by have := HK1.out; omega) _ _ ((rd_T64 l0 x5_1).f3) a1_0 a1_1 true _ ?side1 ?side2 A15.out).mono ?_); (case side1 => exact Kd.C_below HR247_8.out (mB HB.out)); (case side2 => exact HC247_8.out); rintro e w20 ⟨rfl, hb⟩; have n0_ := z0 (blk_below (g := gb246) (o := .cells #[.int .i64 a1_0, .int .i64 a1_1] 33 (0, 0)) (by (with_reducible repeat (first | refine blk_drewN ?_ _ | refine blk_drew ?_ | refine blk_alloc ?_ _)); refine blk_far ?_ NB246_248.out _; (with_reducible repeat (first | refine blk_drewN ?_ _ | refine blk_drew ?_ | refine blk_alloc ?_ _)); refine blk_far ?_ NB246_248.out _; (with_reducible repeat (first | refine blk_drewN ?_ _ | refine blk_drew ?_ | refine blk_alloc ?_ _)); refine blk_far ?_ NB246_248.out _; (with_reducible repeat (first | refine blk_drewN ?_ _ | refine blk_drew ?_ | refine blk_alloc ?_ _)); refine blk_far ?_ NB246_248.out _; (with_reducible repeat (first | refine blk_drewN ?_ _ | refine blk_drew ?_ | refine blk_alloc ?_ _)); refine blk_far ?_ NB246_248.out _; (with_reducible repeat (first | refine blk_drewN ?_ _ | refine blk_drew ?_ | refine blk_alloc ?_ _)); refine blk_far ?_ NB246_248.out _; (with_reducible repeat (first | refine blk_drewN ?_ _ | refine blk_drew ?_ | refine blk_alloc ?_ _)); refine blk_far ?_ NB246_248.out _; (with_reducible repeat (first | refine blk_drewN ?_ _ | refine blk_drew ?_ | refine blk_alloc ?_ _)); refine blk_far ?_ NB246_248.out _; (with_reducible repeat (first | refine blk_drewN ?_ _ | refine blk_drew ?_ | refine blk_alloc ?_ _)); refine blk_far ?_ NB246_248.out _; (with_reducible repeat (first | refine blk_drewN ?_ _ | refine blk_drew ?_ | refine blk_alloc ?_ _)); refine blk_far ?_ NB246_248.out _; (with_reducible repeat (first | refine blk_drewN ?_ _ | refine blk_drew ?_ | refine blk_alloc ?_ _)); exact BK246.out) hb); have n1_ := z0 (blk_below (g := gb248) (o := .cells #[.int .i64 ((rd_T64 l0 x5_1).f0), .int .i64 ((rd_T64 l0 x5_1).f1.f0), .int .i64 ((rd_T64 l0 x5_1).f1.f1), .int .i64 ((rd_T64 l0 x5_1).f2.f0), .int .i64 ((rd_T64 l0 x5_1).f2.f1), .int .i64 ((rd_T64 l0 x5_1).f2.f2.f0), .int .i64 ((rd_T64 l0 x5_1).f2.f2.f1), .slice A247_7 ((rd_T64 l0 x5_1).f2.f3).length c247_7, .slice A247_8 ((rd_T64 l0 x5_1).f3).length c247_8, .slice A247_9 ((rd_T64 l0 x5_1).f4).length c247_9] 64 (0, 0)) (by (with_reducible repeat (first | refine blk_drewN ?_ _ | refine blk_drew ?_ | refine blk_alloc ?_ _)); refine blk_put (cs := #[.int .i64 ((rd_T64 l0 x5_1).f0), .int .i64 ((rd_T64 l0 x5_1).f1.f0), .int .i64 ((rd_T64 l0 x5_1).f1.f1), .int .i64 ((rd_T64 l0 x5_1).f2.f0), .int .i64 ((rd_T64 l0 x5_1).f2.f1), .int .i64 ((rd_T64 l0 x5_1).f2.f2.f0), .int .i64 ((rd_T64 l0 x5_1).f2.f2.f1), .slice A247_7 ((rd_T64 l0 x5_1).f2.f3).length c247_7, .slice A247_8 ((rd_T64 l0 x5_1).f3).length c247_8, .slice none 0 0]) ?_ 9 _ rfl; (with_reducible repeat (first | refine blk_drewN ?_ _ | refine blk_drew ?_ | refine blk_alloc ?_ _)); refine blk_put (cs := #[.int .i64 ((rd_T64 l0 x5_1).f0), .int .i64 ((rd_T64 l0 x5_1).f1.f0), .int .i64 ((rd_T64 l0 x5_1).f1.f1), .int .i64 ((rd_T64 l0 x5_1).f2.f0), .int .i64 ((rd_T64 l0 x5_1).f2.f1), .int .i64 ((rd_T64 l0 x5_1).f2.f2.f0), .int .i64 ((rd_T64 l0 x5_1).f2.f2.f1), .slice A247_7 ((rd_T64 l0 x5_1).f2.f3).length c247_7, .slice none 0 0, .slice none 0 0]) ?_ 8 _ rfl; (with_reducible repeat (first | refine blk_drewN ?_ _ | refine blk_drew ?_ | refine blk_alloc ?_ _)); refine blk_put (cs := #[.int .i64 ((rd_T64 l0 x5_1).f0), .int .i64 ((rd_T64 l0 x5_1).f1.f0), .int .i64 ((rd_T64 l0 x5_1).f1.f1), .int .i64 ((rd_T64 l0 x5_1).f2.f0), .int .i64 ((rd_T64 l0 x5_1).f2.f1), .int .i64 ((rd_T64 l0 x5_1).f2.f2.f0), .int .i64 ((rd_T64 l0 x5_1).f2.f2.f1), .slice none 0 0, .slice none 0 0, .slice none 0 0]) ?_ 7 _ rfl; (with_reducible repeat (first | refine blk_drewN ?_ _ | refine blk_drew ?_ | refine blk_alloc ?_ _)); refine blk_put (cs := #[.int .i64 ((rd_T64 l0 x5_1).f0), .int .i64 ((rd_T64 l0 x5_1).f1.f0), .int .i64 ((rd_T64 l0 x5_1).f1.f1), .int .i64 ((rd_T64 l0 x5_1).f2.f0), .int .i64 ((rd_T64 l0 x5_1).f2.f1), .int .i64 ((rd_T64 l0 x5_1).f2.f2.f0), .int .i64 0, .slice none 0 0, .slice none 0 0, .slice none 0 0]) ?_ 6 _ rfl; (with_reducible repeat (first | refine blk_drewN ?_ _ | refine blk_drew ?_ | refine blk_alloc ?_ _)); refine blk_put (cs := #[.int .i64 ((rd_T64 l0 x5_1).f0), .int .i64 ((rd_T64 l0 x5_1).f1.f0), .int .i64 ((rd_T64 l0 x5_1).f1.f1), .int .i64 ((rd_T64 l0 x5_1).f2.f0), .int .i64 ((rd_T64 l0 x5_1).f2.f1), .int .i64 0, .int .i64 0, .slice none 0 0, .slice none 0 0, .slice none 0 0]) ?_ 5 _ rfl; (with_reducible repeat (first | refine blk_drewN ?_ _ | refine blk_drew ?_ | refine blk_alloc ?_ _)); refine blk_put (cs := #[.int .i64 ((rd_T64 l0 x5_1).f0), .int .i64 ((rd_T64 l0 x5_1).f1.f0), .int .i64 ((rd_T64 l0 x5_1).f1.f1), .int .i64 ((rd_T64 l0 x5_1).f2.f0), .int .i64 0, .int .i64 0, .int .i64 0, .slice none 0 0, .slice none 0 0, .slice none 0 0]) ?_ 4 _ rfl; (with_reducible repeat (first | refine blk_drewN ?_ _ | refine blk_drew ?_ | refine blk_alloc ?_ _)); refine blk_put (cs := #[.int .i64 ((rd_T64 l0 x5_1).f0), .int .i64 ((rd_T64 l0 x5_1).f1.f0), .int .i64 ((rd_T64 l0 x5_1).f1.f1), .int .i64 0, .int .i64 0, .int .i64 0, .int .i64 0, .slice none 0 0, .slice none 0 0, .slice none 0 0]) ?_ 3 _ rfl; (with_reducible repeat (first | refine blk_drewN ?_ _ | refine blk_drew ?_ | refine blk_alloc ?_ _)); refine blk_put (cs := #[.int .i64 ((rd_T64 l0 x5_1).f0), .int .i64 ((rd_T64 l0 x5_1).f1.f0), .int .i64 0, .int .i64 0, .int .i64 0, .int .i64 0, .int .i64 0, .slice none 0 0, .slice none 0 0, .slice none 0 0]) ?_ 2 _ rfl; (with_reducible repeat (first | refine blk_drewN ?_ _ | refine blk_drew ?_ | refine blk_alloc ?_ _)); refine blk_put (cs := #[.int .i64 ((rd_T64 l0 x5_1).f0), .int .i64 0, .int .i64 0, .int .i64 0, .int .i64 0, .int .i64 0, .int .i64 0, .slice none 0 0, .slice none 0 0, .slice none 0 0]) ?_ 1 _ rfl; (with_reducible repeat (first | refine blk_drewN ?_ _ | refine blk_drew ?_ | refine blk_alloc ?_ _)); refine blk_put (cs := #[.int .i64 0, .int .i64 0, .int .i64 0, .int .i64 0, .int .i64 0, .int .i64 0, .int .i64 0, .slice none 0 0, .slice none 0 0, .slice none 0 0]) ?_ 0 _ rfl; (with_reducible repeat (first | refine blk_drewN ?_ _ | refine blk_drew ?_ | refine blk_alloc ?_ _)); exact BK248.out) hb); have n2_ := z0 (below_step (mB HB.out) hb); clear BK246; clear BK248; clear HB; have BK246 := n0_; have BK248 := n1_; have HB := n2_; clear n0_ n1_ n2_; (try clear hb); (try clear hb2); (try clear hk); (try clear hi)))
        go_ret
        exact ⟨rfx, mB HB.out⟩
       ·replace c16 := Bool.eq_false_iff.mpr c16
        subst c16
        have H1 : ((spec_l10Writes.f k1 ((rd_T64 l0 x5_1).f4) a1_0 a1_1).bind fun t250 => (if t250 = true then (some true) else (spec_l10Writes.l0 k1 l0 (wrap64 (x5_1 + 1)) a1_0 a1_1))) = some r := by rw [if_neg (show ¬ (false = true) by decide)] at H; exact H
        clear H
        have H := H1
        clear H1
        replace H := Option.bind_eq_some_iff.mp H
        obtain ⟨t250, A210, H⟩ := H
        replace H : (if t250 = true then (some true) else (spec_l10Writes.l0 k1 l0 (wrap64 (x5_1 + 1)) a1_0 a1_1)) = some r := H
        have A21 := z0 A210
        clear A210
        have HF22 := z0 H
        clear H
        have hnb23 := NB248_246.out
        have hnc23 := NB246_248.out
        obtain ⟨hcz24_0, hcz24_1, hcz24_2, hcz24_3, hcz24_4, hcz24_5, hcz24_6, hcz24_7, hcz24_8, hcz24_9, hfz24_0, hfz24_1, hfz24_2, hfz24_3, hfz24_4, hfz24_5, hfz24_6, hfz24_7, hfz24_8, hfz24_9⟩ := cel10 BK248.out
        obtain ⟨hcz25_0, hcz25_1, hfz25_0, hfz25_1⟩ := cel2 BK246.out
        go_upto_if 37 with (first | (go_at_call 34; (with_reducible refine (ih k1 (by have := HK1.out; omega) _ _ ((rd_T64 l0 x5_1).f3) a1_0 a1_1 false _ ?side1 ?side2 A15.out).mono ?_); (case side1 => exact Kd.C_below HR247_8.out (mB HB.out)); (case side2 => exact HC247_8.out); rintro e w26 ⟨rfl, hb⟩; have n0_ := z0 (blk_below (g := gb246) (o := .cells #[.int .i64 a1_0, .int .i64 a1_1] 33 (0, 0)) (by (with_reducible repeat (first | refine blk_drewN ?_ _ | refine blk_drew ?_ | refine blk_alloc ?_ _)); refine blk_far ?_ NB246_248.out _; (with_reducible repeat (first | refine blk_drewN ?_ _ | refine blk_drew ?_ | refine blk_alloc ?_ _)); refine blk_far ?_ NB246_248.out _; (with_reducible repeat (first | refine blk_drewN ?_ _ | refine blk_drew ?_ | refine blk_alloc ?_ _)); refine blk_far ?_ NB246_248.out _; (with_reducible repeat (first | refine blk_drewN ?_ _ | refine blk_drew ?_ | refine blk_alloc ?_ _)); refine blk_far ?_ NB246_248.out _; (with_reducible repeat (first | refine blk_drewN ?_ _ | refine blk_drew ?_ | refine blk_alloc ?_ _)); refine blk_far ?_ NB246_248.out _; (with_reducible repeat (first | refine blk_drewN ?_ _ | refine blk_drew ?_ | refine blk_alloc ?_ _)); refine blk_far ?_ NB246_248.out _; (with_reducible repeat (first | refine blk_drewN ?_ _ | refine blk_drew ?_ | refine blk_alloc ?_ _)); refine blk_far ?_ NB246_248.out _; (with_reducible repeat (first | refine blk_drewN ?_ _ | refine blk_drew ?_ | refine blk_alloc ?_ _)); refine blk_far ?_ NB246_248.out _; (with_reducible repeat (first | refine blk_drewN ?_ _ | refine blk_drew ?_ | refine blk_alloc ?_ _)); refine blk_far ?_ NB246_248.out _; (with_reducible repeat (first | refine blk_drewN ?_ _ | refine blk_drew ?_ | refine blk_alloc ?_ _)); refine blk_far ?_ NB246_248.out _; (with_reducible repeat (first | refine blk_drewN ?_ _ | refine blk_drew ?_ | refine blk_alloc ?_ _)); exact BK246.out) hb); have n1_ := z0 (blk_below (g := gb248) (o := .cells #[.int .i64 ((rd_T64 l0 x5_1).f0), .int .i64 ((rd_T64 l0 x5_1).f1.f0), .int .i64 ((rd_T64 l0 x5_1).f1.f1), .int .i64 ((rd_T64 l0 x5_1).f2.f0), .int .i64 ((rd_T64 l0 x5_1).f2.f1), .int .i64 ((rd_T64 l0 x5_1).f2.f2.f0), .int .i64 ((rd_T64 l0 x5_1).f2.f2.f1), .slice A247_7 ((rd_T64 l0 x5_1).f2.f3).length c247_7, .slice A247_8 ((rd_T64 l0 x5_1).f3).length c247_8, .slice A247_9 ((rd_T64 l0 x5_1).f4).length c247_9] 64 (0, 0)) (by (with_reducible repeat (first | refine blk_drewN ?_ _ | refine blk_drew ?_ | refine blk_alloc ?_ _)); refine blk_put (cs := #[.int .i64 ((rd_T64 l0 x5_1).f0), .int .i64 ((rd_T64 l0 x5_1).f1.f0), .int .i64 ((rd_T64 l0 x5_1).f1.f1), .int .i64 ((rd_T64 l0 x5_1).f2.f0), .int .i64 ((rd_T64 l0 x5_1).f2.f1), .int .i64 ((rd_T64 l0 x5_1).f2.f2.f0), .int .i64 ((rd_T64 l0 x5_1).f2.f2.f1), .slice A247_7 ((rd_T64 l0 x5_1).f2.f3).length c247_7, .slice A247_8 ((rd_T64 l0 x5_1).f3).length c247_8, .slice none 0 0]) ?_ 9 _ rfl; (with_reducible repeat (first | refine blk_drewN ?_ _ | refine blk_drew ?_ | refine blk_alloc ?_ _)); refine blk_put (cs := #[.int .i64 ((rd_T64 l0 x5_1).f0), .int .i64 ((rd_T64 l0 x5_1).f1.f0), .int .i64 ((rd_T64 l0 x5_1).f1.f1), .int .i64 ((rd_T64 l0 x5_1).f2.f0), .int .i64 ((rd_T64 l0 x5_1).f2.f1), .int .i64 ((rd_T64 l0 x5_1).f2.f2.f0), .int .i64 ((rd_T64 l0 x5_1).f2.f2.f1), .slice A247_7 ((rd_T64 l0 x5_1).f2.f3).length c247_7, .slice none 0 0, .slice none 0 0]) ?_ 8 _ rfl; (with_reducible repeat (first | refine blk_drewN ?_ _ | refine blk_drew ?_ | refine blk_alloc ?_ _)); refine blk_put (cs := #[.int .i64 ((rd_T64 l0 x5_1).f0), .int .i64 ((rd_T64 l0 x5_1).f1.f0), .int .i64 ((rd_T64 l0 x5_1).f1.f1), .int .i64 ((rd_T64 l0 x5_1).f2.f0), .int .i64 ((rd_T64 l0 x5_1).f2.f1), .int .i64 ((rd_T64 l0 x5_1).f2.f2.f0), .int .i64 ((rd_T64 l0 x5_1).f2.f2.f1), .slice none 0 0, .slice none 0 0, .slice none 0 0]) ?_ 7 _ rfl; (with_reducible repeat (first | refine blk_drewN ?_ _ | refine blk_drew ?_ | refine blk_alloc ?_ _)); refine blk_put (cs := #[.int .i64 ((rd_T64 l0 x5_1).f0), .int .i64 ((rd_T64 l0 x5_1).f1.f0), .int .i64 ((rd_T64 l0 x5_1).f1.f1), .int .i64 ((rd_T64 l0 x5_1).f2.f0), .int .i64 ((rd_T64 l0 x5_1).f2.f1), .int .i64 ((rd_T64 l0 x5_1).f2.f2.f0), .int .i64 0, .slice none 0 0, .slice none 0 0, .slice none 0 0]) ?_ 6 _ rfl; (with_reducible repeat (first | refine blk_drewN ?_ _ | refine blk_drew ?_ | refine blk_alloc ?_ _)); refine blk_put (cs := #[.int .i64 ((rd_T64 l0 x5_1).f0), .int .i64 ((rd_T64 l0 x5_1).f1.f0), .int .i64 ((rd_T64 l0 x5_1).f1.f1), .int .i64 ((rd_T64 l0 x5_1).f2.f0), .int .i64 ((rd_T64 l0 x5_1).f2.f1), .int .i64 0, .int .i64 0, .slice none 0 0, .slice none 0 0, .slice none 0 0]) ?_ 5 _ rfl; (with_reducible repeat (first | refine blk_drewN ?_ _ | refine blk_drew ?_ | refine blk_alloc ?_ _)); refine blk_put (cs := #[.int .i64 ((rd_T64 l0 x5_1).f0), .int .i64 ((rd_T64 l0 x5_1).f1.f0), .int .i64 ((rd_T64 l0 x5_1).f1.f1), .int .i64 ((rd_T64 l0 x5_1).f2.f0), .int .i64 0, .int .i64 0, .int .i64 0, .slice none 0 0, .slice none 0 0, .slice none 0 0]) ?_ 4 _ rfl; (with_reducible repeat (first | refine blk_drewN ?_ _ | refine blk_drew ?_ | refine blk_alloc ?_ _)); refine blk_put (cs := #[.int .i64 ((rd_T64 l0 x5_1).f0), .int .i64 ((rd_T64 l0 x5_1).f1.f0), .int .i64 ((rd_T64 l0 x5_1).f1.f1), .int .i64 0, .int .i64 0, .int .i64 0, .int .i64 0, .slice none 0 0, .slice none 0 0, .slice none 0 0]) ?_ 3 _ rfl; (with_reducible repeat (first | refine blk_drewN ?_ _ | refine blk_drew ?_ | refine blk_alloc ?_ _)); refine blk_put (cs := #[.int .i64 ((rd_T64 l0 x5_1).f0), .int .i64 ((rd_T64 l0 x5_1).f1.f0), .int .i64 0, .int .i64 0, .int .i64 0, .int .i64 0, .int .i64 0, .slice none 0 0, .slice none 0 0, .slice none 0 0]) ?_ 2 _ rfl; (with_reducible repeat (first | refine blk_drewN ?_ _ | refine blk_drew ?_ | refine blk_alloc ?_ _)); refine blk_put (cs := #[.int .i64 ((rd_T64 l0 x5_1).f0), .int .i64 0, .int .i64 0, .int .i64 0, .int .i64 0, .int .i64 0, .int .i64 0, .slice none 0 0, .slice none 0 0, .slice none 0 0]) ?_ 1 _ rfl; (with_reducible repeat (first | refine blk_drewN ?_ _ | refine blk_drew ?_ | refine blk_alloc ?_ _)); refine blk_put (cs := #[.int .i64 0, .int .i64 0, .int .i64 0, .int .i64 0, .int .i64 0, .int .i64 0, .int .i64 0, .slice none 0 0, .slice none 0 0, .slice none 0 0]) ?_ 0 _ rfl; (with_reducible repeat (first | refine blk_drewN ?_ _ | refine blk_drew ?_ | refine blk_alloc ?_ _)); exact BK248.out) hb); have n2_ := z0 (below_step (mB HB.out) hb); clear BK246; clear BK248; clear HB; have BK246 := n0_; have BK248 := n1_; have HB := n2_; clear n0_ n1_ n2_; (try clear hb); (try clear hb2); (try clear hk); (try clear hi); obtain ⟨hcz27_0, hcz27_1, hcz27_2, hcz27_3, hcz27_4, hcz27_5, hcz27_6, hcz27_7, hcz27_8, hcz27_9, hfz27_0, hfz27_1, hfz27_2, hfz27_3, hfz27_4, hfz27_5, hfz27_6, hfz27_7, hfz27_8, hfz27_9⟩ := cel10 BK248.out; obtain ⟨hcz28_0, hcz28_1, hfz28_0, hfz28_1⟩ := cel2 BK246.out) | (go_at_call 34; (with_reducible refine (ih k1 (by have := HK1.out; omega) _ _ ((rd_T64 l0 x5_1).f4) a1_0 a1_1 t250 _ ?side1 ?side2 A21.out).mono ?_); (case side1 => exact mC (Kd.C_below HR247_9.out HB.out)); (case side2 => exact HC247_9.out); rintro e w29 ⟨rfl, hb⟩; have n0_ := z0 (blk_below (g := gb246) (o := .cells #[.int .i64 a1_0, .int .i64 a1_1] 33 (0, 0)) (mK BK246.out) hb); have n1_ := z0 (blk_below (g := gb248) (o := .cells #[.int .i64 ((rd_T64 l0 x5_1).f0), .int .i64 ((rd_T64 l0 x5_1).f1.f0), .int .i64 ((rd_T64 l0 x5_1).f1.f1), .int .i64 ((rd_T64 l0 x5_1).f2.f0), .int .i64 ((rd_T64 l0 x5_1).f2.f1), .int .i64 ((rd_T64 l0 x5_1).f2.f2.f0), .int .i64 ((rd_T64 l0 x5_1).f2.f2.f1), .slice A247_7 ((rd_T64 l0 x5_1).f2.f3).length c247_7, .slice A247_8 ((rd_T64 l0 x5_1).f3).length c247_8, .slice A247_9 ((rd_T64 l0 x5_1).f4).length c247_9] 64 (0, 0)) (mK BK248.out) hb); have n2_ := z0 (below_step (mB HB.out) hb); clear BK246; clear BK248; clear HB; have BK246 := n0_; have BK248 := n1_; have HB := n2_; clear n0_ n1_ n2_; (try clear hb); (try clear hb2); (try clear hk); (try clear hi)))
        (try simp only [Act.put, List.setIfInBounds_toArray, List.set_cons_zero, List.set_cons_succ])
        have H := HF22.out
        clear HF22
        (try clear c1); (try clear c2); (try clear p2); (try clear q2); (try clear hx2); (try clear c3); (try clear c4); (try clear c4b0); (try clear c5); (try clear c5b0); (try clear p6); (try clear c8); (try clear c10); (try clear c10b0); (try clear c10b1); (try clear c11); (try clear c11b0); (try clear c11b1); (try clear c11b2); (try clear c12); (try clear c16); (try clear c17); (try clear c23); (try clear c24); (try clear p24); (try clear q24); (try clear hx24); (try clear hcz13_0); (try clear hcz13_1); (try clear hcz13_2); (try clear hcz13_3); (try clear hcz13_4); (try clear hcz13_5); (try clear hcz13_6); (try clear hcz13_7); (try clear hcz13_8); (try clear hcz13_9); (try clear hcz14_0); (try clear hcz14_1); (try clear hcz18_0); (try clear hcz18_1); (try clear hcz18_2); (try clear hcz18_3); (try clear hcz18_4); (try clear hcz18_5); (try clear hcz18_6); (try clear hcz18_7); (try clear hcz18_8); (try clear hcz18_9); (try clear hcz19_0); (try clear hcz19_1); (try clear hcz24_0); (try clear hcz24_1); (try clear hcz24_2); (try clear hcz24_3); (try clear hcz24_4); (try clear hcz24_5); (try clear hcz24_6); (try clear hcz24_7); (try clear hcz24_8); (try clear hcz24_9); (try clear hcz25_0); (try clear hcz25_1); (try clear hcz27_0); (try clear hcz27_1); (try clear hcz27_2); (try clear hcz27_3); (try clear hcz27_4); (try clear hcz27_5); (try clear hcz27_6); (try clear hcz27_7); (try clear hcz27_8); (try clear hcz27_9); (try clear hcz28_0); (try clear hcz28_1); (try clear hcz9_0); (try clear hcz9_1); (try clear hcz9_2); (try clear hcz9_3); (try clear hcz9_4); (try clear hcz9_5); (try clear hcz9_6); (try clear hcz9_7); (try clear hcz9_8); (try clear hcz9_9); (try clear hfz13_0); (try clear hfz13_1); (try clear hfz13_2); (try clear hfz13_3); (try clear hfz13_4); (try clear hfz13_5); (try clear hfz13_6); (try clear hfz13_7); (try clear hfz13_8); (try clear hfz13_9); (try clear hfz14_0); (try clear hfz14_1); (try clear hfz18_0); (try clear hfz18_1); (try clear hfz18_2); (try clear hfz18_3); (try clear hfz18_4); (try clear hfz18_5); (try clear hfz18_6); (try clear hfz18_7); (try clear hfz18_8); (try clear hfz18_9); (try clear hfz19_0); (try clear hfz19_1); (try clear hfz24_0); (try clear hfz24_1); (try clear hfz24_2); (try clear hfz24_3); (try clear hfz24_4); (try clear hfz24_5); (try clear hfz24_6); (try clear hfz24_7); (try clear hfz24_8); (try clear hfz24_9); (try clear hfz25_0); (try clear hfz25_1); (try clear hfz27_0); (try clear hfz27_1); (try clear hfz27_2); (try clear hfz27_3); (try clear hfz27_4); (try clear hfz27_5); (try clear hfz27_6); (try clear hfz27_7); (try clear hfz27_8); (try clear hfz27_9); (try clear hfz28_0); (try clear hfz28_1); (try clear hfz9_0); (try clear hfz9_1); (try clear hfz9_2); (try clear hfz9_3); (try clear hfz9_4); (try clear hfz9_5); (try clear hfz9_6); (try clear hfz9_7); (try clear hfz9_8); (try clear hfz9_9); (try clear hx247_0); (try clear hx247_1); (try clear hx247_2); (try clear hx247_3); (try clear hx247_4); (try clear hx247_5); (try clear hx247_6); (try clear hx247_7); (try clear hx247_8); (try clear hx247_9); (try clear p2); (try clear p247); (try clear q2); (try clear q247)
        by_cases c30 : t250 = true
        ·subst c30
         have H1 : (some true) = some r := by rw [if_pos rfl] at H; exact H
         clear H
         have H := H1
         clear H1
         obtain rfl := Option.some.inj H
         go_wp2
         go_ret
         exact ⟨rfx, mB HB.out⟩
        ·replace c30 := Bool.eq_false_iff.mpr c30
         subst c30
         have H1 : (spec_l10Writes.l0 k1 l0 (wrap64 (x5_1 + 1)) a1_0 a1_1) = some r := by rw [if_neg (show ¬ (false = true) by decide)] at H; exact H
         clear H
         have H := H1
         clear H1
         have H' := z0 H
         clear H
         go_wp2
         go_roundg k1
         case measure => have := HK1.out; omega
         case rel => exact ⟨(wrap64 (x5_1 + 1)), rfy, H', ⟨by have := HK1.out; omega⟩, ⟨mK BK246.out⟩, ⟨mB HB.out⟩⟩
     ·rw [if_neg c10] at H
      have c10b0 : (((rd_T64 l0 x5_1).f0) == 1) = false := beq_eq_false_iff_ne.mpr c10
      have c10b1 : (((rd_T64 l0 x5_1).f0) != 1) = true := bne_iff_ne.mpr c10
      replace H := Option.bind_eq_some_iff.mp H
      obtain ⟨t251, A310, H⟩ := H
      replace H : (if t251 = true then (some true) else ((spec_l10Writes.f k1 ((rd_T64 l0 x5_1).f4) a1_0 a1_1).bind fun t252 => (if t252 = true then (some true) else (spec_l10Writes.l0 k1 l0 (wrap64 (x5_1 + 1)) a1_0 a1_1)))) = some r := H
      have A31 := z0 A310
      clear A310
      by_cases c32 : t251 = true
      ·subst c32
       have H1 : (some true) = some r := by rw [if_pos rfl] at H; exact H
       clear H
       have H := H1
       clear H1
       obtain rfl := Option.some.inj H
       have hnb33 := NB248_246.out
       have hnc33 := NB246_248.out
       obtain ⟨hcz34_0, hcz34_1, hcz34_2, hcz34_3, hcz34_4, hcz34_5, hcz34_6, hcz34_7, hcz34_8, hcz34_9, hfz34_0, hfz34_1, hfz34_2, hfz34_3, hfz34_4, hfz34_5, hfz34_6, hfz34_7, hfz34_8, hfz34_9⟩ := cel10 BK248.out
       obtain ⟨hcz35_0, hcz35_1, hfz35_0, hfz35_1⟩ := cel2 BK246.out
       go_wp2_with (first | (go_at_call 34; (with_reducible refine (ih k1 (by have := HK1.out; omega) _ _ ((rd_T64 l0 x5_1).f3) a1_0 a1_1 true _ ?side1 ?side2 A31.out).mono ?_); (case side1 => exact Kd.C_below HR247_8.out (mB HB.out)); (case side2 => exact HC247_8.out); rintro e w36 ⟨rfl, hb⟩; have n0_ := z0 (blk_below (g := gb246) (o := .cells #[.int .i64 a1_0, .int .i64 a1_1] 33 (0, 0)) (by (with_reducible repeat (first | refine blk_drewN ?_ _ | refine blk_drew ?_ | refine blk_alloc ?_ _)); refine blk_far ?_ NB246_248.out _; (with_reducible repeat (first | refine blk_drewN ?_ _ | refine blk_drew ?_ | refine blk_alloc ?_ _)); refine blk_far ?_ NB246_248.out _; (with_reducible repeat (first | refine blk_drewN ?_ _ | refine blk_drew ?_ | refine blk_alloc ?_ _)); refine blk_far ?_ NB246_248.out _; (with_reducible repeat (first | refine blk_drewN ?_ _ | refine blk_drew ?_ | refine blk_alloc ?_ _)); refine blk_far ?_ NB246_248.out _; (with_reducible repeat (first | refine blk_drewN ?_ _ | refine blk_drew ?_ | refine blk_alloc ?_ _)); refine blk_far ?_ NB246_248.out _; (with_reducible repeat (first | refine blk_drewN ?_ _ | refine blk_drew ?_ | refine blk_alloc ?_ _)); refine blk_far ?_ NB246_248.out _; (with_reducible repeat (first | refine blk_drewN ?_ _ | refine blk_drew ?_ | refine blk_alloc ?_ _)); refine blk_far ?_ NB246_248.out _; (with_reducible repeat (first | refine blk_drewN ?_ _ | refine blk_drew ?_ | refine blk_alloc ?_ _)); refine blk_far ?_ NB246_248.out _; (with_reducible repeat (first | refine blk_drewN ?_ _ | refine blk_drew ?_ | refine blk_alloc ?_ _)); refine blk_far ?_ NB246_248.out _; (with_reducible repeat (first | refine blk_drewN ?_ _ | refine blk_drew ?_ | refine blk_alloc ?_ _)); refine blk_far ?_ NB246_248.out _; (with_reducible repeat (first | refine blk_drewN ?_ _ | refine blk_drew ?_ | refine blk_alloc ?_ _)); exact BK246.out) hb); have n1_ := z0 (blk_below (g := gb248) (o := .cells #[.int .i64 ((rd_T64 l0 x5_1).f0), .int .i64 ((rd_T64 l0 x5_1).f1.f0), .int .i64 ((rd_T64 l0 x5_1).f1.f1), .int .i64 ((rd_T64 l0 x5_1).f2.f0), .int .i64 ((rd_T64 l0 x5_1).f2.f1), .int .i64 ((rd_T64 l0 x5_1).f2.f2.f0), .int .i64 ((rd_T64 l0 x5_1).f2.f2.f1), .slice A247_7 ((rd_T64 l0 x5_1).f2.f3).length c247_7, .slice A247_8 ((rd_T64 l0 x5_1).f3).length c247_8, .slice A247_9 ((rd_T64 l0 x5_1).f4).length c247_9] 64 (0, 0)) (by (with_reducible repeat (first | refine blk_drewN ?_ _ | refine blk_drew ?_ | refine blk_alloc ?_ _)); refine blk_put (cs := #[.int .i64 ((rd_T64 l0 x5_1).f0), .int .i64 ((rd_T64 l0 x5_1).f1.f0), .int .i64 ((rd_T64 l0 x5_1).f1.f1), .int .i64 ((rd_T64 l0 x5_1).f2.f0), .int .i64 ((rd_T64 l0 x5_1).f2.f1), .int .i64 ((rd_T64 l0 x5_1).f2.f2.f0), .int .i64 ((rd_T64 l0 x5_1).f2.f2.f1), .slice A247_7 ((rd_T64 l0 x5_1).f2.f3).length c247_7, .slice A247_8 ((rd_T64 l0 x5_1).f3).length c247_8, .slice none 0 0]) ?_ 9 _ rfl; (with_reducible repeat (first | refine blk_drewN ?_ _ | refine blk_drew ?_ | refine blk_alloc ?_ _)); refine blk_put (cs := #[.int .i64 ((rd_T64 l0 x5_1).f0), .int .i64 ((rd_T64 l0 x5_1).f1.f0), .int .i64 ((rd_T64 l0 x5_1).f1.f1), .int .i64 ((rd_T64 l0 x5_1).f2.f0), .int .i64 ((rd_T64 l0 x5_1).f2.f1), .int .i64 ((rd_T64 l0 x5_1).f2.f2.f0), .int .i64 ((rd_T64 l0 x5_1).f2.f2.f1), .slice A247_7 ((rd_T64 l0 x5_1).f2.f3).length c247_7, .slice none 0 0, .slice none 0 0]) ?_ 8 _ rfl; (with_reducible repeat (first | refine blk_drewN ?_ _ | refine blk_drew ?_ | refine blk_alloc ?_ _)); refine blk_put (cs := #[.int .i64 ((rd_T64 l0 x5_1).f0), .int .i64 ((rd_T64 l0 x5_1).f1.f0), .int .i64 ((rd_T64 l0 x5_1).f1.f1), .int .i64 ((rd_T64 l0 x5_1).f2.f0), .int .i64 ((rd_T64 l0 x5_1).f2.f1), .int .i64 ((rd_T64 l0 x5_1).f2.f2.f0), .int .i64 ((rd_T64 l0 x5_1).f2.f2.f1), .slice none 0 0, .slice none 0 0, .slice none 0 0]) ?_ 7 _ rfl; (with_reducible repeat (first | refine blk_drewN ?_ _ | refine blk_drew ?_ | refine blk_alloc ?_ _)); refine blk_put (cs := #[.int .i64 ((rd_T64 l0 x5_1).f0), .int .i64 ((rd_T64 l0 x5_1).f1.f0), .int .i64 ((rd_T64 l0 x5_1).f1.f1), .int .i64 ((rd_T64 l0 x5_1).f2.f0), .int .i64 ((rd_T64 l0 x5_1).f2.f1), .int .i64 ((rd_T64 l0 x5_1).f2.f2.f0), .int .i64 0, .slice none 0 0, .slice none 0 0, .slice none 0 0]) ?_ 6 _ rfl; (with_reducible repeat (first | refine blk_drewN ?_ _ | refine blk_drew ?_ | refine blk_alloc ?_ _)); refine blk_put (cs := #[.int .i64 ((rd_T64 l0 x5_1).f0), .int .i64 ((rd_T64 l0 x5_1).f1.f0), .int .i64 ((rd_T64 l0 x5_1).f1.f1), .int .i64 ((rd_T64 l0 x5_1).f2.f0), .int .i64 ((rd_T64 l0 x5_1).f2.f1), .int .i64 0, .int .i64 0, .slice none 0 0, .slice none 0 0, .slice none 0 0]) ?_ 5 _ rfl; (with_reducible repeat (first | refine blk_drewN ?_ _ | refine blk_drew ?_ | refine blk_alloc ?_ _)); refine blk_put (cs := #[.int .i64 ((rd_T64 l0 x5_1).f0), .int .i64 ((rd_T64 l0 x5_1).f1.f0), .int .i64 ((rd_T64 l0 x5_1).f1.f1), .int .i64 ((rd_T64 l0 x5_1).f2.f0), .int .i64 0, .int .i64 0, .int .i64 0, .slice none 0 0, .slice none 0 0, .slice none 0 0]) ?_ 4 _ rfl; (with_reducible repeat (first | refine blk_drewN ?_ _ | refine blk_drew ?_ | refine blk_alloc ?_ _)); refine blk_put (cs := #[.int .i64 ((rd_T64 l0 x5_1).f0), .int .i64 ((rd_T64 l0 x5_1).f1.f0), .int .i64 ((rd_T64 l0 x5_1).f1.f1), .int .i64 0, .int .i64 0, .int .i64 0, .int .i64 0, .slice none 0 0, .slice none 0 0, .slice none 0 0]) ?_ 3 _ rfl; (with_reducible repeat (first | refine blk_drewN ?_ _ | refine blk_drew ?_ | refine blk_alloc ?_ _)); refine blk_put (cs := #[.int .i64 ((rd_T64 l0 x5_1).f0), .int .i64 ((rd_T64 l0 x5_1).f1.f0), .int .i64 0, .int .i64 0, .int .i64 0, .int .i64 0, .int .i64 0, .slice none 0 0, .slice none 0 0, .slice none 0 0]) ?_ 2 _ rfl; (with_reducible repeat (first | refine blk_drewN ?_ _ | refine blk_drew ?_ | refine blk_alloc ?_ _)); refine blk_put (cs := #[.int .i64 ((rd_T64 l0 x5_1).f0), .int .i64 0, .int .i64 0, .int .i64 0, .int .i64 0, .int .i64 0, .int .i64 0, .slice none 0 0, .slice none 0 0, .slice none 0 0]) ?_ 1 _ rfl; (with_reducible repeat (first | refine blk_drewN ?_ _ | refine blk_drew ?_ | refine blk_alloc ?_ _)); refine blk_put (cs := #[.int .i64 0, .int .i64 0, .int .i64 0, .int .i64 0, .int .i64 0, .int .i64 0, .int .i64 0, .slice none 0 0, .slice none 0 0, .slice none 0 0]) ?_ 0 _ rfl; (with_reducible repeat (first | refine blk_drewN ?_ _ | refine blk_drew ?_ | refine blk_alloc ?_ _)); exact BK248.out) hb); have n2_ := z0 (below_step (mB HB.out) hb); clear BK246; clear BK248; clear HB; have BK246 := n0_; have BK248 := n1_; have HB := n2_; clear n0_ n1_ n2_; (try clear hb); (try clear hb2); (try clear hk); (try clear hi)))
       go_ret
       exact ⟨rfx, mB HB.out⟩
      ·replace c32 := Bool.eq_false_iff.mpr c32
       subst c32
       have H1 : ((spec_l10Writes.f k1 ((rd_T64 l0 x5_1).f4) a1_0 a1_1).bind fun t252 => (if t252 = true then (some true) else (spec_l10Writes.l0 k1 l0 (wrap64 (x5_1 + 1)) a1_0 a1_1))) = some r := by rw [if_neg (show ¬ (false = true) by decide)] at H; exact H
       clear H
       have H := H1
       clear H1
       replace H := Option.bind_eq_some_iff.mp H
       obtain ⟨t252, A370, H⟩ := H
       replace H : (if t252 = true then (some true) else (spec_l10Writes.l0 k1 l0 (wrap64 (x5_1 + 1)) a1_0 a1_1)) = some r := H
       have A37 := z0 A370
       clear A370
       have HF38 := z0 H
       clear H
       have hnb39 := NB248_246.out
       have hnc39 := NB246_248.out
       obtain ⟨hcz40_0, hcz40_1, hcz40_2, hcz40_3, hcz40_4, hcz40_5, hcz40_6, hcz40_7, hcz40_8, hcz40_9, hfz40_0, hfz40_1, hfz40_2, hfz40_3, hfz40_4, hfz40_5, hfz40_6, hfz40_7, hfz40_8, hfz40_9⟩ := cel10 BK248.out
       obtain ⟨hcz41_0, hcz41_1, hfz41_0, hfz41_1⟩ := cel2 BK246.out
       go_upto_if 37 with (first | (go_at_call 34; (with_reducible refine (ih k1 (by have := HK1.out; omega) _ _ ((rd_T64 l0 x5_1).f3) a1_0 a1_1 false _ ?side1 ?side2 A31.out).mono ?_); (case side1 => exact Kd.C_below HR247_8.out (mB HB.out)); (case side2 => exact HC247_8.out); rintro e w42 ⟨rfl, hb⟩; have n0_ := z0 (blk_below (g := gb246) (o := .cells #[.int .i64 a1_0, .int .i64 a1_1] 33 (0, 0)) (by (with_reducible repeat (first | refine blk_drewN ?_ _ | refine blk_drew ?_ | refine blk_alloc ?_ _)); refine blk_far ?_ NB246_248.out _; (with_reducible repeat (first | refine blk_drewN ?_ _ | refine blk_drew ?_ | refine blk_alloc ?_ _)); refine blk_far ?_ NB246_248.out _; (with_reducible repeat (first | refine blk_drewN ?_ _ | refine blk_drew ?_ | refine blk_alloc ?_ _)); refine blk_far ?_ NB246_248.out _; (with_reducible repeat (first | refine blk_drewN ?_ _ | refine blk_drew ?_ | refine blk_alloc ?_ _)); refine blk_far ?_ NB246_248.out _; (with_reducible repeat (first | refine blk_drewN ?_ _ | refine blk_drew ?_ | refine blk_alloc ?_ _)); refine blk_far ?_ NB246_248.out _; (with_reducible repeat (first | refine blk_drewN ?_ _ | refine blk_drew ?_ | refine blk_alloc ?_ _)); refine blk_far ?_ NB246_248.out _; (with_reducible repeat (first | refine blk_drewN ?_ _ | refine blk_drew ?_ | refine blk_alloc ?_ _)); refine blk_far ?_ NB246_248.out _; (with_reducible repeat (first | refine blk_drewN ?_ _ | refine blk_drew ?_ | refine blk_alloc ?_ _)); refine blk_far ?_ NB246_248.out _; (with_reducible repeat (first | refine blk_drewN ?_ _ | refine blk_drew ?_ | refine blk_alloc ?_ _)); refine blk_far ?_ NB246_248.out _; (with_reducible repeat (first | refine blk_drewN ?_ _ | refine blk_drew ?_ | refine blk_alloc ?_ _)); refine blk_far ?_ NB246_248.out _; (with_reducible repeat (first | refine blk_drewN ?_ _ | refine blk_drew ?_ | refine blk_alloc ?_ _)); exact BK246.out) hb); have n1_ := z0 (blk_below (g := gb248) (o := .cells #[.int .i64 ((rd_T64 l0 x5_1).f0), .int .i64 ((rd_T64 l0 x5_1).f1.f0), .int .i64 ((rd_T64 l0 x5_1).f1.f1), .int .i64 ((rd_T64 l0 x5_1).f2.f0), .int .i64 ((rd_T64 l0 x5_1).f2.f1), .int .i64 ((rd_T64 l0 x5_1).f2.f2.f0), .int .i64 ((rd_T64 l0 x5_1).f2.f2.f1), .slice A247_7 ((rd_T64 l0 x5_1).f2.f3).length c247_7, .slice A247_8 ((rd_T64 l0 x5_1).f3).length c247_8, .slice A247_9 ((rd_T64 l0 x5_1).f4).length c247_9] 64 (0, 0)) (by (with_reducible repeat (first | refine blk_drewN ?_ _ | refine blk_drew ?_ | refine blk_alloc ?_ _)); refine blk_put (cs := #[.int .i64 ((rd_T64 l0 x5_1).f0), .int .i64 ((rd_T64 l0 x5_1).f1.f0), .int .i64 ((rd_T64 l0 x5_1).f1.f1), .int .i64 ((rd_T64 l0 x5_1).f2.f0), .int .i64 ((rd_T64 l0 x5_1).f2.f1), .int .i64 ((rd_T64 l0 x5_1).f2.f2.f0), .int .i64 ((rd_T64 l0 x5_1).f2.f2.f1), .slice A247_7 ((rd_T64 l0 x5_1).f2.f3).length c247_7, .slice A247_8 ((rd_T64 l0 x5_1).f3).length c247_8, .slice none 0 0]) ?_ 9 _ rfl; (with_reducible repeat (first | refine blk_drewN ?_ _ | refine blk_drew ?_ | refine blk_alloc ?_ _)); refine blk_put (cs := #[.int .i64 ((rd_T64 l0 x5_1).f0), .int .i64 ((rd_T64 l0 x5_1).f1.f0), .int .i64 ((rd_T64 l0 x5_1).f1.f1), .int .i64 ((rd_T64 l0 x5_1).f2.f0), .int .i64 ((rd_T64 l0 x5_1).f2.f1), .int .i64 ((rd_T64 l0 x5_1).f2.f2.f0), .int .i64 ((rd_T64 l0 x5_1).f2.f2.f1), .slice A247_7 ((rd_T64 l0 x5_1).f2.f3).length c247_7, .slice none 0 0, .slice none 0 0]) ?_ 8 _ rfl; (with_reducible repeat (first | refine blk_drewN ?_ _ | refine blk_drew ?_ | refine blk_alloc ?_ _)); refine blk_put (cs := #[.int .i64 ((rd_T64 l0 x5_1).f0), .int .i64 ((rd_T64 l0 x5_1).f1.f0), .int .i64 ((rd_T64 l0 x5_1).f1.f1), .int .i64 ((rd_T64 l0 x5_1).f2.f0), .int .i64 ((rd_T64 l0 x5_1).f2.f1), .int .i64 ((rd_T64 l0 x5_1).f2.f2.f0), .int .i64 ((rd_T64 l0 x5_1).f2.f2.f1), .slice none 0 0, .slice none 0 0, .slice none 0 0]) ?_ 7 _ rfl; (with_reducible repeat (first | refine blk_drewN ?_ _ | refine blk_drew ?_ | refine blk_alloc ?_ _)); refine blk_put (cs := #[.int .i64 ((rd_T64 l0 x5_1).f0), .int .i64 ((rd_T64 l0 x5_1).f1.f0), .int .i64 ((rd_T64 l0 x5_1).f1.f1), .int .i64 ((rd_T64 l0 x5_1).f2.f0), .int .i64 ((rd_T64 l0 x5_1).f2.f1), .int .i64 ((rd_T64 l0 x5_1).f2.f2.f0), .int .i64 0, .slice none 0 0, .slice none 0 0, .slice none 0 0]) ?_ 6 _ rfl; (with_reducible repeat (first | refine blk_drewN ?_ _ | refine blk_drew ?_ | refine blk_alloc ?_ _)); refine blk_put (cs := #[.int .i64 ((rd_T64 l0 x5_1).f0), .int .i64 ((rd_T64 l0 x5_1).f1.f0), .int .i64 ((rd_T64 l0 x5_1).f1.f1), .int .i64 ((rd_T64 l0 x5_1).f2.f0), .int .i64 ((rd_T64 l0 x5_1).f2.f1), .int .i64 0, .int .i64 0, .slice none 0 0, .slice none 0 0, .slice none 0 0]) ?_ 5 _ rfl; (with_reducible repeat (first | refine blk_drewN ?_ _ | refine blk_drew ?_ | refine blk_alloc ?_ _)); refine blk_put (cs := #[.int .i64 ((rd_T64 l0 x5_1).f0), .int .i64 ((rd_T64 l0 x5_1).f1.f0), .int .i64 ((rd_T64 l0 x5_1).f1.f1), .int .i64 ((rd_T64 l0 x5_1).f2.f0), .int .i64 0, .int .i64 0, .int .i64 0, .slice none 0 0, .slice none 0 0, .slice none 0 0]) ?_ 4 _ rfl; (with_reducible repeat (first | refine blk_drewN ?_ _ | refine blk_drew ?_ | refine blk_alloc ?_ _)); refine blk_put (cs := #[.int .i64 ((rd_T64 l0 x5_1).f0), .int .i64 ((rd_T64 l0 x5_1).f1.f0), .int .i64 ((rd_T64 l0 x5_1).f1.f1), .int .i64 0, .int .i64 0, .int .i64 0, .int .i64 0, .slice none 0 0, .slice none 0 0, .slice none 0 0]) ?_ 3 _ rfl; (with_reducible repeat (first | refine blk_drewN ?_ _ | refine blk_drew ?_ | refine blk_alloc ?_ _)); refine blk_put (cs := #[.int .i64 ((rd_T64 l0 x5_1).f0), .int .i64 ((rd_T64 l0 x5_1).f1.f0), .int .i64 0, .int .i64 0, .int .i64 0, .int .i64 0, .int .i64 0, .slice none 0 0, .slice none 0 0, .slice none 0 0]) ?_ 2 _ rfl; (with_reducible repeat (first | refine blk_drewN ?_ _ | refine blk_drew ?_ | refine blk_alloc ?_ _)); refine blk_put (cs := #[.int .i64 ((rd_T64 l0 x5_1).f0), .int .i64 0, .int .i64 0, .int .i64 0, .int .i64 0, .int .i64 0, .int .i64 0, .slice none 0 0, .slice none 0 0, .slice none 0 0]) ?_ 1 _ rfl; (with_reducible repeat (first | refine blk_drewN ?_ _ | refine blk_drew ?_ | refine blk_alloc ?_ _)); refine blk_put (cs := #[.int .i64 0, .int .i64 0, .int .i64 0, .int .i64 0, .int .i64 0, .int .i64 0, .int .i64 0, .slice none 0 0, .slice none 0 0, .slice none 0 0]) ?_ 0 _ rfl; (with_reducible repeat (first | refine blk_drewN ?_ _ | refine blk_drew ?_ | refine blk_alloc ?_ _)); exact BK248.out) hb); have n2_ := z0 (below_step (mB HB.out) hb); clear BK246; clear BK248; clear HB; have BK246 := n0_; have BK248 := n1_; have HB := n2_; clear n0_ n1_ n2_; (try clear hb); (try clear hb2); (try clear hk); (try clear hi); obtain ⟨hcz43_0, hcz43_1, hcz43_2, hcz43_3, hcz43_4, hcz43_5, hcz43_6, hcz43_7, hcz43_8, hcz43_9, hfz43_0, hfz43_1, hfz43_2, hfz43_3, hfz43_4, hfz43_5, hfz43_6, hfz43_7, hfz43_8, hfz43_9⟩ := cel10 BK248.out; obtain ⟨hcz44_0, hcz44_1, hfz44_0, hfz44_1⟩ := cel2 BK246.out) | (go_at_call 34; (with_reducible refine (ih k1 (by have := HK1.out; omega) _ _ ((rd_T64 l0 x5_1).f4) a1_0 a1_1 t252 _ ?side1 ?side2 A37.out).mono ?_); (case side1 => exact mC (Kd.C_below HR247_9.out HB.out)); (case side2 => exact HC247_9.out); rintro e w45 ⟨rfl, hb⟩; have n0_ := z0 (blk_below (g := gb246) (o := .cells #[.int .i64 a1_0, .int .i64 a1_1] 33 (0, 0)) (mK BK246.out) hb); have n1_ := z0 (blk_below (g := gb248) (o := .cells #[.int .i64 ((rd_T64 l0 x5_1).f0), .int .i64 ((rd_T64 l0 x5_1).f1.f0), .int .i64 ((rd_T64 l0 x5_1).f1.f1), .int .i64 ((rd_T64 l0 x5_1).f2.f0), .int .i64 ((rd_T64 l0 x5_1).f2.f1), .int .i64 ((rd_T64 l0 x5_1).f2.f2.f0), .int .i64 ((rd_T64 l0 x5_1).f2.f2.f1), .slice A247_7 ((rd_T64 l0 x5_1).f2.f3).length c247_7, .slice A247_8 ((rd_T64 l0 x5_1).f3).length c247_8, .slice A247_9 ((rd_T64 l0 x5_1).f4).length c247_9] 64 (0, 0)) (mK BK248.out) hb); have n2_ := z0 (below_step (mB HB.out) hb); clear BK246; clear BK248; clear HB; have BK246 := n0_; have BK248 := n1_; have HB := n2_; clear n0_ n1_ n2_; (try clear hb); (try clear hb2); (try clear hk); (try clear hi)))
       (try simp only [Act.put, List.setIfInBounds_toArray, List.set_cons_zero, List.set_cons_succ])
       have H := HF38.out
       clear HF38
       (try clear c1); (try clear c2); (try clear p2); (try clear q2); (try clear hx2); (try clear c3); (try clear c4); (try clear c4b0); (try clear c5); (try clear c5b0); (try clear p6); (try clear c8); (try clear c10); (try clear c10b0); (try clear c10b1); (try clear c11); (try clear c11b0); (try clear c11b1); (try clear c11b2); (try clear c12); (try clear c16); (try clear c17); (try clear c23); (try clear c24); (try clear p24); (try clear q24); (try clear hx24); (try clear c30); (try clear c32); (try clear c33); (try clear c34); (try clear c39); (try clear hcz13_0); (try clear hcz13_1); (try clear hcz13_2); (try clear hcz13_3); (try clear hcz13_4); (try clear hcz13_5); (try clear hcz13_6); (try clear hcz13_7); (try clear hcz13_8); (try clear hcz13_9); (try clear hcz14_0); (try clear hcz14_1); (try clear hcz18_0); (try clear hcz18_1); (try clear hcz18_2); (try clear hcz18_3); (try clear hcz18_4); (try clear hcz18_5); (try clear hcz18_6); (try clear hcz18_7); (try clear hcz18_8); (try clear hcz18_9); (try clear hcz19_0); (try clear hcz19_1); (try clear hcz24_0); (try clear hcz24_1); (try clear hcz24_2); (try clear hcz24_3); (try clear hcz24_4); (try clear hcz24_5); (try clear hcz24_6); (try clear hcz24_7); (try clear hcz24_8); (try clear hcz24_9); (try clear hcz25_0); (try clear hcz25_1); (try clear hcz27_0); (try clear hcz27_1); (try clear hcz27_2); (try clear hcz27_3); (try clear hcz27_4); (try clear hcz27_5); (try clear hcz27_6); (try clear hcz27_7); (try clear hcz27_8); (try clear hcz27_9); (try clear hcz28_0); (try clear hcz28_1); (try clear hcz34_0); (try clear hcz34_1); (try clear hcz34_2); (try clear hcz34_3); (try clear hcz34_4); (try clear hcz34_5); (try clear hcz34_6); (try clear hcz34_7); (try clear hcz34_8); (try clear hcz34_9); (try clear hcz35_0); (try clear hcz35_1); (try clear hcz40_0); (try clear hcz40_1); (try clear hcz40_2); (try clear hcz40_3); (try clear hcz40_4); (try clear hcz40_5); (try clear hcz40_6); (try clear hcz40_7); (try clear hcz40_8); (try clear hcz40_9); (try clear hcz41_0); (try clear hcz41_1); (try clear hcz43_0); (try clear hcz43_1); (try clear hcz43_2); (try clear hcz43_3); (try clear hcz43_4); (try clear hcz43_5); (try clear hcz43_6); (try clear hcz43_7); (try clear hcz43_8); (try clear hcz43_9); (try clear hcz44_0); (try clear hcz44_1); (try clear hcz9_0); (try clear hcz9_1); (try clear hcz9_2); (try clear hcz9_3); (try clear hcz9_4); (try clear hcz9_5); (try clear hcz9_6); (try clear hcz9_7); (try clear hcz9_8); (try clear hcz9_9); (try clear hfz13_0); (try clear hfz13_1); (try clear hfz13_2); (try clear hfz13_3); (try clear hfz13_4); (try clear hfz13_5); (try clear hfz13_6); (try clear hfz13_7); (try clear hfz13_8); (try clear hfz13_9); (try clear hfz14_0); (try clear hfz14_1); (try clear hfz18_0); (try clear hfz18_1); (try clear hfz18_2); (try clear hfz18_3); (try clear hfz18_4); (try clear hfz18_5); (try clear hfz18_6); (try clear hfz18_7); (try clear hfz18_8); (try clear hfz18_9); (try clear hfz19_0); (try clear hfz19_1); (try clear hfz24_0); (try clear hfz24_1); (try clear hfz24_2); (try clear hfz24_3); (try clear hfz24_4); (try clear hfz24_5); (try clear hfz24_6); (try clear hfz24_7); (try clear hfz24_8); (try clear hfz24_9); (try clear hfz25_0); (try clear hfz25_1); (try clear hfz27_0); (try clear hfz27_1); (try clear hfz27_2); (try clear hfz27_3); (try clear hfz27_4); (try clear hfz27_5); (try clear hfz27_6); (try clear hfz27_7); (try clear hfz27_8); (try clear hfz27_9); (try clear hfz28_0); (try clear hfz28_1); (try clear hfz34_0); (try clear hfz34_1); (try clear hfz34_2); (try clear hfz34_3); (try clear hfz34_4); (try clear hfz34_5); (try clear hfz34_6); (try clear hfz34_7); (try clear hfz34_8); (try clear hfz34_9); (try clear hfz35_0); (try clear hfz35_1); (try clear hfz40_0); (try clear hfz40_1); (try clear hfz40_2); (try clear hfz40_3); (try clear hfz40_4); (try clear hfz40_5); (try clear hfz40_6); (try clear hfz40_7); (try clear hfz40_8); (try clear hfz40_9); (try clear hfz41_0); (try clear hfz41_1); (try clear hfz43_0); (try clear hfz43_1); (try clear hfz43_2); (try clear hfz43_3); (try clear hfz43_4); (try clear hfz43_5); (try clear hfz43_6); (try clear hfz43_7); (try clear hfz43_8); (try clear hfz43_9); (try clear hfz44_0); (try clear hfz44_1); (try clear hfz9_0); (try clear hfz9_1); (try clear hfz9_2); (try clear hfz9_3); (try clear hfz9_4); (try clear hfz9_5); (try clear hfz9_6); (try clear hfz9_7); (try clear hfz9_8); (try clear hfz9_9); (try clear hx247_0); (try clear hx247_1); (try clear hx247_2); (try clear hx247_3); (try clear hx247_4); (try clear hx247_5); (try clear hx247_6); (try clear hx247_7); (try clear hx247_8); (try clear hx247_9); (try clear p2); (try clear p24); (try clear p247); (try clear p6); (try clear q2); (try clear q24); (try clear q247)
       by_cases c46 : t252 = true
       ·subst c46
        have H1 : (some true) = some r := by rw [if_pos rfl] at H; exact H
        clear H
        have H := H1
        clear H1
        obtain rfl := Option.some.inj H
        go_wp2
        go_ret
        exact ⟨rfx, mB HB.out⟩
       ·replace c46 := Bool.eq_false_iff.mpr c46
        subst c46
        have H1 : (spec_l10Writes.l0 k1 l0 (wrap64 (x5_1 + 1)) a1_0 a1_1) = some r := by rw [if_neg (show ¬ (false = true) by decide)] at H; exact H
        clear H
        have H := H1
        clear H1
        have H' := z0 H
        clear H
        go_wp2
        go_roundg k1
        case measure => have := HK1.out; omega
        case rel => exact ⟨(wrap64 (x5_1 + 1)), rfy, H', ⟨by have := HK1.out; omega⟩, ⟨mK BK246.out⟩, ⟨mB HB.out⟩⟩
    ·rw [if_neg c5] at H
     exact absurd H (by simp)
   ·rw [if_neg c4] at H
    have c4b0 : decide (x5_1 < (l0.length : Int)) = false := decide_eq_false c4
    clear c4
    obtain rfl := Option.some.inj H
    go_wp2
    go_ret
    exact ⟨rfx, mB HB.out⟩

end Go.Proofs.Ytfikglnnkbldaaa.B
-- printed by base.py (this claim's tool) over the kit's print
namespace Go.Proofs.Ytfikglnnkbldaaa.B
open Go.RowKit Go.Proofs.YtfikglnnkbldaaaW.PrintWords Go.Proofs.YtfikglnnkbldaaaW.PrintLast Go.Proofs.YtfikglnnkbldaaaW.PrintMore
attribute [local go_sem] max2_int min2_int max_two min_two max_three min_three max_four min_four   -- for this text's walks alone
set_option linter.unusedVariables false
set_option linter.unusedSimpArgs false

/-! ### spec_SlimWrites: function 14 -/
def spec_SlimWrites.f (k : Nat) (l0 : List (S64)) (a1_0 : Int) (a1_1 : Int) : Option (Bool) := (spec_StmtsOk.f k l0).bind fun t254 => (if t254 = true then ((spec_l10Writes.f k l0 a1_0 a1_1).bind fun t255 => (some t255)) else (some false))
theorem spec_SlimWrites.mono : ∀ a0 a1 a2 k, LeO (spec_SlimWrites.f k a0 a1 a2) (spec_SlimWrites.f (k + 1) a0 a1 a2) := by
 intro a0 a1 a2 k
 unfold spec_SlimWrites.f
 repeat' first
   | (with_reducible exact spec_StmtsOk.mono _ _)
   | (with_reducible exact spec_l10Writes.mono _ _ _ _)
   | (with_reducible exact LeO.refl _)
   | (with_reducible exact LeO.none _)
   | (with_reducible refine LeO.ite ?_ ?_)
   | (with_reducible refine LeO.bind ?_ (fun _ => ?_))
   | exact spec_StmtsOk.mono _ _
   | exact spec_l10Writes.mono _ _ _ _
   | exact LeO.none _
   | refine LeO.ite ?_ ?_
   | refine LeO.bind ?_ (fun _ => ?_)
set_option maxHeartbeats 8000000 in
set_option maxRecDepth 100000 in
theorem spec_SlimWrites.calls (k : Nat) (A0 : Option Addr) (c0 : Nat) (l0 : List (S64)) (a1_0 : Int) (a1_1 : Int) (r : Bool) (w : World) (hr0 : Kd.C k64 w A0 l0.length l0) (hc0 : l0.length ≤ c0) (h : spec_SlimWrites.f k l0 a1_0 a1_1 = some r) :
  Calls Try.prog 14 #[.slice A0 l0.length c0, .agg #[.int .i64 a1_0, .int .i64 a1_1]] w fun e w' => e = .returned (.bool r) ∧ Below w.heap.size w w' := by
 have hu33 := Try.underlying33
 have HR0 := z0 hr0
 have HC0 := z0 hc0
 clear hr0 hc0
 have HB := z0 (Below.refl w.heap.size w)
 have H : ((spec_StmtsOk.f k l0).bind fun t254 => (if t254 = true then ((spec_l10Writes.f k l0 a1_0 a1_1).bind fun t255 => (some t255)) else (some false))) = some r := h
 clear h
 have HF3 := z0 H
 clear H
 go_enter Try.func14, Try.ntmps14
 go_upto_region 1 with (first | ((with_reducible refine gate_dst (N := 3) rfl ?_); refine box_event ?hg (N := 3) ?hd (cs := #[.int .i64 a1_0, .int .i64 a1_1]) (t := 33) ?hr ?_; (case hd => rfl); (case hg => rfl); (case hr => first | (go_simp; done) | (go_simp; rfl)); intro gb253 hg w4 hbox hb; have n0_ := z0 (below_step (mB HB.out) hb); have n1_ := z0 (hbox); have n2_ := z0 ((by rw [hg]; exact (below_size (mB HB.out)) : w.heap.size ≤ gb253)); have n3_ := z0 ((by rw [hg]; exact (below_size (mB HB.out)) : w.heap.size ≤ gb253)); clear HB; have HB := n0_; have BK253 := n1_; have GW253 := n2_; have GE253 := n3_; clear n0_ n1_ n2_ n3_; clear hb hbox hg))
 (try simp only [Act.put, List.setIfInBounds_toArray, List.set_cons_zero, List.set_cons_succ])
 have H := HF3.out
 clear HF3
 try clear c1
 replace H := Option.bind_eq_some_iff.mp H
 obtain ⟨t254, A50, H⟩ := H
 replace H : (if t254 = true then ((spec_l10Writes.f k l0 a1_0 a1_1).bind fun t255 => (some t255)) else (some false)) = some r := H
 have A5 := z0 A50
 clear A50
 by_cases c6 : t254 = true
 ·subst c6
  have H1 : ((spec_l10Writes.f k l0 a1_0 a1_1).bind fun t255 => (some t255)) = some r := by rw [if_pos rfl] at H; exact H
  clear H
  have H := H1
  clear H1
  replace H := Option.bind_eq_some_iff.mp H
  obtain ⟨t255, A70, H⟩ := H
  replace H : (some t255) = some r := H
  have A7 := z0 A70
  clear A70
  obtain rfl := Option.some.inj H
  go_wp2_with (first | ((with_reducible refine gate_callee (f := 8) rfl ?_); refine goesL_ (some 6) rfl rfl Try.func8 (by kernel_rfl) rfl #[.slice A0 l0.length c0] rfl argx ?_; (with_reducible refine (spec_StmtsOk.calls k _ _ l0 true _ ?side1 ?side2 A5.out).mono ?_); (case side1 => exact mC (Kd.C_below HR0.out HB.out)); (case side2 => exact HC0.out); rintro e w8 ⟨rfl, hb⟩; refine ⟨_, rfl, ?_⟩; have n0_ := z0 (blk_below (g := gb253) (o := .cells #[.int .i64 a1_0, .int .i64 a1_1] 33 (0, 0)) (mK BK253.out) hb); have n1_ := z0 (below_step (mB HB.out) hb); clear BK253; clear HB; have BK253 := n0_; have HB := n1_; clear n0_ n1_; (try clear hb); (try clear hb2); (try clear hk); (try clear hi); obtain ⟨hcz9_0, hcz9_1, hfz9_0, hfz9_1⟩ := cel2 BK253.out) | (go_at_call 34; (with_reducible refine (spec_l10Writes.calls k _ _ l0 a1_0 a1_1 t255 _ ?side1 ?side2 A7.out).mono ?_); (case side1 => exact mC (Kd.C_below HR0.out HB.out)); (case side2 => exact HC0.out); rintro e w10 ⟨rfl, hb⟩; have n0_ := z0 (blk_below (g := gb253) (o := .cells #[.int .i64 a1_0, .int .i64 a1_1] 33 (0, 0)) (mK BK253.out) hb); have n1_ := z0 (below_step (mB HB.out) hb); clear BK253; clear HB; have BK253 := n0_; have HB := n1_; clear n0_ n1_; (try clear hb); (try clear hb2); (try clear hk); (try clear hi)))
  go_ret
  exact ⟨rfx, mB HB.out⟩
 ·replace c6 := Bool.eq_false_iff.mpr c6
  subst c6
  have H1 : (some false) = some r := by rw [if_neg (show ¬ (false = true) by decide)] at H; exact H
  clear H
  have H := H1
  clear H1
  obtain rfl := Option.some.inj H
  go_wp2_with (first | ((with_reducible refine gate_callee (f := 8) rfl ?_); refine goesL_ (some 6) rfl rfl Try.func8 (by kernel_rfl) rfl #[.slice A0 l0.length c0] rfl argx ?_; (with_reducible refine (spec_StmtsOk.calls k _ _ l0 false _ ?side1 ?side2 A5.out).mono ?_); (case side1 => exact mC (Kd.C_below HR0.out HB.out)); (case side2 => exact HC0.out); rintro e w11 ⟨rfl, hb⟩; refine ⟨_, rfl, ?_⟩; have n0_ := z0 (blk_below (g := gb253) (o := .cells #[.int .i64 a1_0, .int .i64 a1_1] 33 (0, 0)) (mK BK253.out) hb); have n1_ := z0 (below_step (mB HB.out) hb); clear BK253; clear HB; have BK253 := n0_; have HB := n1_; clear n0_ n1_; (try clear hb); (try clear hb2); (try clear hk); (try clear hi)))
  go_ret
  exact ⟨rfx, mB HB.out⟩

end Go.Proofs.Ytfikglnnkbldaaa.B
