/- Printed functions of this seat, in one text. -/
import Derived.Test.YtlmchfcfkfegaaaB0
import Derived.Test.YtlmchfcfkfegaaaSq
import Derived.Test.YtlmchfcfkfegaaaPkB
namespace Go.Proofs.Ytlmchfcfkfegaaa.B
open Go.RowKit Go.Proofs.YtlmchfcfkfegaaaW.PrintWords Go.Proofs.YtlmchfcfkfegaaaW.PrintLast Go.Proofs.YtlmchfcfkfegaaaW.PrintMore
attribute [local go_sem] max2_int min2_int max_two min_two max_three min_three max_four min_four   -- for this text's walks alone
set_option linter.unusedVariables false
set_option linter.unusedSimpArgs false

/-! ### spec_ChartOk: function 13 -/
mutual
def spec_ChartOk.j0 : Nat → Bool → Int → List (S52) → List (S92) → Option (Bool)
 | 0, _, _, _, _ => none
 | k + 1, x26, x322000, x322001, x322002 => if x26 = true then (some false) else (spec_ChartOk.l0 k 0 x322000 x322001 x322002)
def spec_ChartOk.l0 : Nat → Int → Int → List (S52) → List (S92) → Option (Bool)
 | 0, _, _, _, _ => none
 | k + 1, x3, x322000, x322001, x322002 => if x3 < (x322001.length : Int) then (if 0 ≤ x3 then ((spec_l8Places.f k ((rd_T52 x322001 x3).f0) x322000).bind fun t324 => (if t324 = true then ((spec_l8Places.f k ((rd_T52 x322001 x3).f1) x322000).bind fun t325 => (if t325 = true then ((spec_ExprOk.f k ((rd_T52 x322001 x3).f2.f0) ((rd_T52 x322001 x3).f2.f1) ((rd_T52 x322001 x3).f2.f2.f0) ((rd_T52 x322001 x3).f2.f2.f1) ((rd_T52 x322001 x3).f2.f3)).bind fun t326 => (if t326 = true then (spec_ChartOk.l0 k (wrap64 (x3 + 1)) x322000 x322001 x322002) else (some false))) else (some false))) else (some false))) else (none)) else (spec_ChartOk.l1 k 0 x322000 x322001 x322002)
def spec_ChartOk.l1 : Nat → Int → Int → List (S52) → List (S92) → Option (Bool)
 | 0, _, _, _, _ => none
 | k + 1, x5, x322000, x322001, x322002 => if x5 < (x322002.length : Int) then (if 0 ≤ x5 then (if ((rd_T92 x322002 x5).f0) < 1 then (some false) else (if ((rd_T92 x322002 x5).f0) > 4 then (some false) else (if ((rd_T92 x322002 x5).f1) < 0 then (some false) else (if ((rd_T92 x322002 x5).f1) ≥ x322000 then (some false) else ((spec_AddrOk.f ((rd_T92 x322002 x5).f2.f0) ((rd_T92 x322002 x5).f2.f1)).bind fun t329 => (if t329 = true then (if ((rd_T92 x322002 x5).f2.f0) = 2 then (spec_ChartOk.l1 k (wrap64 (x5 + 1)) x322000 x322001 x322002) else (some false)) else (some false))))))) else (none)) else (some true)
end
def spec_ChartOk.f (k : Nat) (a0_0 : Int) (l0_1 : List (S52)) (l0_2 : List (S92)) : Option (Bool) := if a0_0 < 1 then (spec_ChartOk.j0 k true a0_0 l0_1 l0_2) else (if a0_0 > 6 then (spec_ChartOk.j0 k true a0_0 l0_1 l0_2) else (if (l0_1.length : Int) > 6 then (spec_ChartOk.j0 k true a0_0 l0_1 l0_2) else (spec_ChartOk.j0 k (decide ((l0_2.length : Int) > 6)) a0_0 l0_1 l0_2)))
theorem spec_ChartOk.mono_l : ∀ k, (∀ y0 y1 y2 y3, LeO (spec_ChartOk.j0 k y0 y1 y2 y3) (spec_ChartOk.j0 (k + 1) y0 y1 y2 y3)) ∧ (∀ y0 y1 y2 y3, LeO (spec_ChartOk.l0 k y0 y1 y2 y3) (spec_ChartOk.l0 (k + 1) y0 y1 y2 y3)) ∧ (∀ y0 y1 y2 y3, LeO (spec_ChartOk.l1 k y0 y1 y2 y3) (spec_ChartOk.l1 (k + 1) y0 y1 y2 y3))
 | 0 => ⟨fun _ _ _ _ r h => by simp [spec_ChartOk.j0] at h, fun _ _ _ _ r h => by simp [spec_ChartOk.l0] at h, fun _ _ _ _ r h => by simp [spec_ChartOk.l1] at h⟩
 | k + 1 => by
  obtain ⟨ih0, ih1, ih2⟩ := spec_ChartOk.mono_l k
  refine ⟨?_, ?_, ?_⟩
  ·intro y0 y1 y2 y3
   unfold spec_ChartOk.j0
   repeat' first
   | (with_reducible exact ih0 _ _ _ _)
   | (with_reducible exact ih1 _ _ _ _)
   | (with_reducible exact ih2 _ _ _ _)
   | (with_reducible exact spec_ExprOk.mono _ _ _ _ _ _)
   | (with_reducible exact spec_l8Places.mono _ _ _)
   | (with_reducible exact LeO.refl _)
   | (with_reducible exact LeO.none _)
   | (with_reducible refine LeO.ite ?_ ?_)
   | (with_reducible refine LeO.bind ?_ (fun _ => ?_))
   | exact ih0 _ _ _ _
   | exact ih1 _ _ _ _
   | exact ih2 _ _ _ _
   | exact spec_ExprOk.mono _ _ _ _ _ _
   | exact spec_l8Places.mono _ _ _
   | exact LeO.none _
   | refine LeO.ite ?_ ?_
   | refine LeO.bind ?_ (fun _ => ?_)
  ·intro y0 y1 y2 y3
   unfold spec_ChartOk.l0
   repeat' first
   | (with_reducible exact ih0 _ _ _ _)
   | (with_reducible exact ih1 _ _ _ _)
   | (with_reducible exact ih2 _ _ _ _)
   | (with_reducible exact spec_ExprOk.mono _ _ _ _ _ _)
   | (with_reducible exact spec_l8Places.mono _ _ _)
   | (with_reducible exact LeO.refl _)
   | (with_reducible exact LeO.none _)
   | (with_reducible refine LeO.ite ?_ ?_)
   | (with_reducible refine LeO.bind ?_ (fun _ => ?_))
   | exact ih0 _ _ _ _
   | exact ih1 _ _ _ _
   | exact ih2 _ _ _ _
   | exact spec_ExprOk.mono _ _ _ _ _ _
   | exact spec_l8Places.mono _ _ _
   | exact LeO.none _
   | refine LeO.ite ?_ ?_
   | refine LeO.bind ?_ (fun _ => ?_)
  ·intro y0 y1 y2 y3
   unfold spec_ChartOk.l1
   repeat' first
   | (with_reducible exact ih0 _ _ _ _)
   | (with_reducible exact ih1 _ _ _ _)
   | (with_reducible exact ih2 _ _ _ _)
   | (with_reducible exact spec_ExprOk.mono _ _ _ _ _ _)
   | (with_reducible exact spec_l8Places.mono _ _ _)
   | (with_reducible exact LeO.refl _)
   | (with_reducible exact LeO.none _)
   | (with_reducible refine LeO.ite ?_ ?_)
   | (with_reducible refine LeO.bind ?_ (fun _ => ?_))
   | exact ih0 _ _ _ _
   | exact ih1 _ _ _ _
   | exact ih2 _ _ _ _
   | exact spec_ExprOk.mono _ _ _ _ _ _
   | exact spec_l8Places.mono _ _ _
   | exact LeO.none _
   | refine LeO.ite ?_ ?_
   | refine LeO.bind ?_ (fun _ => ?_)
theorem spec_ChartOk.mono : ∀ a0 a1 a2 k, LeO (spec_ChartOk.f k a0 a1 a2) (spec_ChartOk.f (k + 1) a0 a1 a2) := by
 intro a0 a1 a2 k
 obtain ⟨ih0, ih1, ih2⟩ := spec_ChartOk.mono_l k
 unfold spec_ChartOk.f
 repeat' first
   | (with_reducible exact ih0 _ _ _ _)
   | (with_reducible exact ih1 _ _ _ _)
   | (with_reducible exact ih2 _ _ _ _)
   | (with_reducible exact spec_ExprOk.mono _ _ _ _ _ _)
   | (with_reducible exact spec_l8Places.mono _ _ _)
   | (with_reducible exact LeO.refl _)
   | (with_reducible exact LeO.none _)
   | (with_reducible refine LeO.ite ?_ ?_)
   | (with_reducible refine LeO.bind ?_ (fun _ => ?_))
   | exact ih0 _ _ _ _
   | exact ih1 _ _ _ _
   | exact ih2 _ _ _ _
   | exact spec_ExprOk.mono _ _ _ _ _ _
   | exact spec_l8Places.mono _ _ _
   | exact LeO.none _
   | refine LeO.ite ?_ ?_
   | refine LeO.bind ?_ (fun _ => ?_)
set_option maxHeartbeats 8000000 in
set_option maxRecDepth 100000 in
theorem spec_ChartOk.calls (k : Nat) (a0_0 : Int) (A0_1 : Option Addr) (c0_1 : Nat) (l0_1 : List (S52)) (A0_2 : Option Addr) (c0_2 : Nat) (l0_2 : List (S92)) (r : Bool) (w : World) (hr0_1 : Kd.C k52 w A0_1 l0_1.length l0_1) (hc0_1 : l0_1.length ≤ c0_1) (hr0_2 : Kd.C k92 w A0_2 l0_2.length l0_2) (hc0_2 : l0_2.length ≤ c0_2) (h : spec_ChartOk.f k a0_0 l0_1 l0_2 = some r) :
  Calls Try.prog 13 #[.agg #[.int .i64 a0_0, .slice A0_1 l0_1.length c0_1, .slice A0_2 l0_2.length c0_2]] w fun e w' => e = .returned (.bool r) ∧ Below w.heap.size w w' := by
 have hu31 := Try.underlying31
 have hu52 := Try.underlying52
 have hu50 := Try.underlying50
 have hu92 := Try.underlying92
 have hu47 := Try.underlying47
 have HR0_1 := z0 hr0_1
 have HC0_1 := z0 hc0_1
 clear hr0_1 hc0_1
 have HR0_2 := z0 hr0_2
 have HC0_2 := z0 hc0_2
 clear hr0_2 hc0_2
 have HB := z0 (Below.refl w.heap.size w)
 have H : (if a0_0 < 1 then (spec_ChartOk.j0 k true a0_0 l0_1 l0_2) else (if a0_0 > 6 then (spec_ChartOk.j0 k true a0_0 l0_1 l0_2) else (if (l0_1.length : Int) > 6 then (spec_ChartOk.j0 k true a0_0 l0_1 l0_2) else (spec_ChartOk.j0 k (decide ((l0_2.length : Int) > 6)) a0_0 l0_1 l0_2)))) = some r := h
 clear h
 have HC2 := z0 H
 clear H
 go_enter Try.func13, Try.ntmps13
 go_upto_region 1 with (first | ((with_reducible refine gate_dst (N := 1) rfl ?_); (try (refine gate_guard (by rfl) ?_; dsimp only)); refine box_event ?hg (N := 1) ?hd (cs := #[.int .i64 a0_0, .slice A0_1 l0_1.length c0_1, .slice A0_2 l0_2.length c0_2]) (t := 31) ?hr ?_; (case hd => rfl); (case hg => rfl); (case hr => first | (go_simp; done) | (go_simp; rfl)); intro gb321 hg w3 hbox hb; have n0_ := z0 (below_step (mB HB.out) hb); have n1_ := z0 (hbox); have n2_ := z0 ((by rw [hg]; exact (below_size (mB HB.out)) : w.heap.size ≤ gb321)); have n3_ := z0 ((by rw [hg]; exact (below_size (mB HB.out)) : w.heap.size ≤ gb321)); clear HB; have HB := n0_; have BK321 := n1_; have GW321 := n2_; have GE321 := n3_; clear n0_ n1_ n2_ n3_; clear hb hbox hg))
 (try simp only [Act.put, List.setIfInBounds_toArray, List.set_cons_zero, List.set_cons_succ])
 go_cut [26] (fun v26 wc => ∃ (kq : Nat) (x26_1 : Bool), v26 = .bool x26_1 ∧ Aside0 (spec_ChartOk.j0 kq x26_1 a0_0 l0_1 l0_2 = some r) ∧ Aside0 (kq ≤ k) ∧ Aside0 (wc.heap[gb321]? = some (.cells #[.int .i64 a0_0, (.slice A0_1 l0_1.length c0_1), (.slice A0_2 l0_2.length c0_2)] 31 (0, 0))) ∧ Aside0 (Below w.heap.size w wc))
 case first =>
  have H := HC2.out
  clear HC2
  by_cases c4 : a0_0 < 1
  ·rw [if_pos c4] at H
   have c4b0 : decide (a0_0 < 1) = true := decide_eq_true c4
   clear c4
   (first | rw [c4b0] | (simp only [i64_w, i32_w]; rw [c4b0]) | skip)
   have H' := z0 H
   clear H
   obtain ⟨hcz5_0, hcz5_1, hcz5_2, hfz5_0, hfz5_1, hfz5_2⟩ := cel3 BK321.out
   go_wp2
   go_meet
   case rel => exact ⟨_, (true), rfy, H', ⟨by first | omega | exact Nat.le_refl _⟩, ⟨mK BK321.out⟩, ⟨mB HB.out⟩⟩
  ·rw [if_neg c4] at H
   have c4b0 : decide (a0_0 < 1) = false := decide_eq_false c4
   clear c4
   (first | rw [c4b0] | (simp only [i64_w, i32_w]; rw [c4b0]) | skip)
   by_cases c6 : a0_0 > 6
   ·rw [if_pos c6] at H
    have c6b0 : decide (6 < a0_0) = true := decide_eq_true c6
    clear c6
    have H' := z0 H
    clear H
    obtain ⟨hcz7_0, hcz7_1, hcz7_2, hfz7_0, hfz7_1, hfz7_2⟩ := cel3 BK321.out
    go_wp2
    go_meet
    case rel => exact ⟨_, (true), rfy, H', ⟨by first | omega | exact Nat.le_refl _⟩, ⟨mK BK321.out⟩, ⟨mB HB.out⟩⟩
   ·rw [if_neg c6] at H
    have c6b0 : decide (6 < a0_0) = false := decide_eq_false c6
    clear c6
    by_cases c8 : (l0_1.length : Int) > 6
    ·rw [if_pos c8] at H
     have c8b0 : decide (6 < (l0_1.length : Int)) = true := decide_eq_true c8
     have c8b1 : decide (6 < l0_1.length) = true := decide_eq_true (by omega)
     clear c8
     have H' := z0 H
     clear H
     obtain ⟨hcz9_0, hcz9_1, hcz9_2, hfz9_0, hfz9_1, hfz9_2⟩ := cel3 BK321.out
     go_wp2
     go_meet
     case rel => exact ⟨_, (true), rfy, H', ⟨by first | omega | exact Nat.le_refl _⟩, ⟨mK BK321.out⟩, ⟨mB HB.out⟩⟩
    ·rw [if_neg c8] at H
     have c8b0 : decide (6 < (l0_1.length : Int)) = false := decide_eq_false c8
     have c8b1 : decide (6 < l0_1.length) = false := decide_eq_false (by omega)
     clear c8
     have H' := z0 H
     clear H
     obtain ⟨hcz10_0, hcz10_1, hcz10_2, hfz10_0, hfz10_1, hfz10_2⟩ := cel3 BK321.out
     go_wp2
     go_meet
     case rel => exact ⟨_, (decide ((l0_2.length : Int) > 6)), rfy, H', ⟨by first | omega | exact Nat.le_refl _⟩, ⟨mK BK321.out⟩, ⟨mB HB.out⟩⟩
 case rest =>
  clear HC2
  (try clear c1); (try clear p2); (try clear c4); (try clear c4b0); (try clear c6); (try clear c6b0); (try clear c8); (try clear c8b0); (try clear c8b1); (try clear hcz10_0); (try clear hcz10_1); (try clear hcz10_2); (try clear hcz5_0); (try clear hcz5_1); (try clear hcz5_2); (try clear hcz7_0); (try clear hcz7_1); (try clear hcz7_2); (try clear hcz9_0); (try clear hcz9_1); (try clear hcz9_2); (try clear hfz10_0); (try clear hfz10_1); (try clear hfz10_2); (try clear hfz5_0); (try clear hfz5_1); (try clear hfz5_2); (try clear hfz7_0); (try clear hfz7_1); (try clear hfz7_2); (try clear hfz9_0); (try clear hfz9_1); (try clear hfz9_2)
  obtain ⟨kq, x26_1, rfl, HA, HJ1, BK321, HB⟩ := hcut
  cases kq with
  | zero => exact absurd HA.out (by simp [spec_ChartOk.j0])
  | succ kj1 =>
   have H := HA.out
   clear HA
   simp only [spec_ChartOk.j0] at H
   by_cases c11 : x26_1 = true
   ·subst c11
    have H1 : (some false) = some r := by rw [if_pos rfl] at H; exact H
    clear H
    have H := H1
    clear H1
    obtain rfl := Option.some.inj H
    go_wp2
    go_ret
    exact ⟨rfx, mB HB.out⟩
   ·replace c11 := Bool.eq_false_iff.mpr c11
    subst c11
    have H1 : (spec_ChartOk.l0 kj1 0 a0_0 l0_1 l0_2) = some r := by rw [if_neg (show ¬ (false = true) by decide)] at H; exact H
    clear H
    have H := H1
    clear H1
    have H' := z0 H
    clear H
    go_wp2
    go_loopg [3] kj1 (fun kq v3 w' => ∃ (x3_2 : Int), v3 = .int .i64 x3_2 ∧ Aside0 (spec_ChartOk.l0 kq x3_2 a0_0 l0_1 l0_2 = some r) ∧ Aside0 (kq ≤ kj1) ∧ Aside0 (w'.heap[gb321]? = some (.cells #[.int .i64 a0_0, (.slice A0_1 l0_1.length c0_1), (.slice A0_2 l0_2.length c0_2)] 31 (0, 0))) ∧ Aside0 (Below w.heap.size w w'))
    case atStart => exact ⟨(0), rfy, H', ⟨Nat.le_refl _⟩, ⟨mK BK321.out⟩, ⟨mB HB.out⟩⟩
    case round =>
     clear H'
     (try clear c1); (try clear p2); (try clear c4); (try clear c4b0); (try clear c6); (try clear c6b0); (try clear c8); (try clear c8b0); (try clear c8b1); (try clear c11); (try clear hcz10_0); (try clear hcz10_1); (try clear hcz10_2); (try clear hcz5_0); (try clear hcz5_1); (try clear hcz5_2); (try clear hcz7_0); (try clear hcz7_1); (try clear hcz7_2); (try clear hcz9_0); (try clear hcz9_1); (try clear hcz9_2); (try clear hfz10_0); (try clear hfz10_1); (try clear hfz10_2); (try clear hfz5_0); (try clear hfz5_1); (try clear hfz5_2); (try clear hfz7_0); (try clear hfz7_1); (try clear hfz7_2); (try clear hfz9_0); (try clear hfz9_1); (try clear hfz9_2); (try clear p2)
     obtain ⟨x3_2, rfl, HA, HK2, BK321, HB⟩ := hrel
     cases gk with
     | zero => exact absurd HA.out (by simp [spec_ChartOk.l0])
     | succ k2 =>
      have H := HA.out
      clear HA
      simp only [spec_ChartOk.l0] at H
      by_cases c12 : x3_2 < (l0_1.length : Int)
      ·rw [if_pos c12] at H
       have c12b0 : decide (x3_2 < (l0_1.length : Int)) = true := decide_eq_true c12
       clear c12
       by_cases c13 : 0 ≤ x3_2
       ·rw [if_pos c13] at H
        have c13b0 : decide (0 ≤ x3_2) = true := decide_eq_true c13
        clear c13
        have HF14 := z0 H
        clear H
        obtain ⟨hcz15_0, hcz15_1, hcz15_2, hfz15_0, hfz15_1, hfz15_2⟩ := cel3 BK321.out
        have p322 : 0 ≤ (x3_2 : Int) := of_decide_eq_true (by first | (with_reducible assumption) | assumption)
        have q322 : x3_2 < (l0_1.length : Int) := of_decide_eq_true (by first | (with_reducible assumption) | assumption)
        obtain ⟨ad322, A322_0, c322_0, A322_1, c322_1, A322_6, c322_6, e322, hx322_0, hx322_1, hx322_2, hx322_3, hx322_4, hx322_5, hx322_6, hl322_0, hi322_0, hl322_1, hi322_1, hl322_6, hi322_6⟩ := at_T52 HR0_1.out x3_2 p322 q322
        cases e322
        replace hx322_0 := (HB.out.cell (World.block_lt_of_cell? w _ hx322_0)).trans hx322_0
        replace hx322_1 := (HB.out.cell (World.block_lt_of_cell? w _ hx322_1)).trans hx322_1
        replace hx322_2 := (HB.out.cell (World.block_lt_of_cell? w _ hx322_2)).trans hx322_2
        replace hx322_3 := (HB.out.cell (World.block_lt_of_cell? w _ hx322_3)).trans hx322_3
        replace hx322_4 := (HB.out.cell (World.block_lt_of_cell? w _ hx322_4)).trans hx322_4
        replace hx322_5 := (HB.out.cell (World.block_lt_of_cell? w _ hx322_5)).trans hx322_5
        replace hx322_6 := (HB.out.cell (World.block_lt_of_cell? w _ hx322_6)).trans hx322_6
        have HR322_0 := z0 hi322_0
        have HC322_0 := z0 hl322_0
        clear hi322_0 hl322_0
        have HR322_1 := z0 hi322_1
        have HC322_1 := z0 hl322_1
        clear hi322_1 hl322_1
        have HR322_6 := z0 hi322_6
        have HC322_6 := z0 hl322_6
        clear hi322_6 hl322_6
        replace p322 := eq_true p322
        replace q322 := eq_true q322
        go_upto_region 7 with (first | ((with_reducible refine gate_dst (N := 4) rfl ?_); (try (refine gate_guard (by rfl) ?_; dsimp only)); refine box_event ?hg (N := 4) ?hd (cs := #[.slice none 0 0, .slice none 0 0, .int .i64 0, .int .i64 0, .int .i64 0, .int .i64 0, .slice none 0 0]) (t := 52) ?hr ?_; (case hd => rfl); (case hg => rfl); (case hr => first | (go_simp; done) | (go_simp; rfl)); intro gb323 hg w16 hbox hb; have n0_ := z0 (blk_below (g := gb321) (o := .cells #[.int .i64 a0_0, .slice (some ad322) l0_1.length c0_1, .slice A0_2 l0_2.length c0_2] 31 (0, 0)) (mK BK321.out) hb); have n1_ := z0 (below_step (mB HB.out) hb); have n2_ := z0 (hbox); have n3_ := z0 ((by rw [hg]; exact (below_size (mB HB.out)) : w.heap.size ≤ gb323)); have n4_ := z0 ((by rw [hg]; exact (below_size (mB HB.out)) : w.heap.size ≤ gb323)); have n5_ := z0 ((by rw [hg]; exact Nat.ne_of_lt (blk_lt (g := gb321) (o := .cells #[.int .i64 a0_0, .slice (some ad322) l0_1.length c0_1, .slice A0_2 l0_2.length c0_2] 31 (0, 0)) (mK BK321.out)) : gb321 ≠ gb323)); have n6_ := z0 ((by rw [hg]; exact Nat.ne_of_gt (blk_lt (g := gb321) (o := .cells #[.int .i64 a0_0, .slice (some ad322) l0_1.length c0_1, .slice A0_2 l0_2.length c0_2] 31 (0, 0)) (mK BK321.out)) : gb323 ≠ gb321)); clear BK321; clear HB; have BK321 := n0_; have HB := n1_; have BK323 := n2_; have GW323 := n3_; have GE323 := n4_; have NB321_323 := n5_; have NB323_321 := n6_; clear n0_ n1_ n2_ n3_ n4_ n5_ n6_; clear hb hbox hg; have hnb17 := NB323_321.out; have hnc17 := NB321_323.out; obtain ⟨hcz18_0, hcz18_1, hcz18_2, hcz18_3, hcz18_4, hcz18_5, hcz18_6, hfz18_0, hfz18_1, hfz18_2, hfz18_3, hfz18_4, hfz18_5, hfz18_6⟩ := cel7 BK323.out))
        (try simp only [Act.put, List.setIfInBounds_toArray, List.set_cons_zero, List.set_cons_succ])
        have H := HF14.out
        clear HF14
        (try clear c1); (try clear p2); (try clear c3); (try clear p3); (try clear q3); (try clear hx3); (try clear c4); (try clear c4b0); (try clear c6); (try clear c6b0); (try clear c8); (try clear c8b0); (try clear c8b1); (try clear c11); (try clear c12); (try clear c12b0); (try clear c13); (try clear c13b0); (try clear c17); (try clear hcz10_0); (try clear hcz10_1); (try clear hcz10_2); (try clear hcz15_0); (try clear hcz15_1); (try clear hcz15_2); (try clear hcz18_0); (try clear hcz18_1); (try clear hcz18_2); (try clear hcz18_3); (try clear hcz18_4); (try clear hcz18_5); (try clear hcz18_6); (try clear hcz5_0); (try clear hcz5_1); (try clear hcz5_2); (try clear hcz7_0); (try clear hcz7_1); (try clear hcz7_2); (try clear hcz9_0); (try clear hcz9_1); (try clear hcz9_2); (try clear hfz10_0); (try clear hfz10_1); (try clear hfz10_2); (try clear hfz15_0); (try clear hfz15_1); (try clear hfz15_2); (try clear hfz18_0); (try clear hfz18_1); (try clear hfz18_2); (try clear hfz18_3); (try clear hfz18_4); (try clear hfz18_5); (try clear hfz18_6); (try clear hfz5_0); (try clear hfz5_1); (try clear hfz5_2); (try clear hfz7_0); (try clear hfz7_1); (try clear hfz7_2); (try clear hfz9_0); (try clear hfz9_1); (try clear hfz9_2); (try clear hx322_0); (try clear hx322_1); (try clear hx322_2); (try clear hx322_3); (try clear hx322_4); (try clear hx322_5); (try clear hx322_6); (try clear p2); (try clear p322); (try clear q322)
        replace H := Option.bind_eq_some_iff.mp H
        obtain ⟨t324, A190, H⟩ := H
        replace H : (if t324 = true then ((spec_l8Places.f k2 ((rd_T52 l0_1 x3_2).f1) a0_0).bind fun t325 => (if t325 = true then ((spec_ExprOk.f k2 ((rd_T52 l0_1 x3_2).f2.f0) ((rd_T52 l0_1 x3_2).f2.f1) ((rd_T52 l0_1 x3_2).f2.f2.f0) ((rd_T52 l0_1 x3_2).f2.f2.f1) ((rd_T52 l0_1 x3_2).f2.f3)).bind fun t326 => (if t326 = true then (spec_ChartOk.l0 k2 (wrap64 (x3_2 + 1)) a0_0 l0_1 l0_2) else (some false))) else (some false))) else (some false)) = some r := H
        have A19 := z0 A190
        clear A190
        by_cases c20 : t324 = true
        ·subst c20
         have H1 : ((spec_l8Places.f k2 ((rd_T52 l0_1 x3_2).f1) a0_0).bind fun t325 => (if t325 = true then ((spec_ExprOk.f k2 ((rd_T52 l0_1 x3_2).f2.f0) ((rd_T52 l0_1 x3_2).f2.f1) ((rd_T52 l0_1 x3_2).f2.f2.f0) ((rd_T52 l0_1 x3_2).f2.f2.f1) ((rd_T52 l0_1 x3_2).f2.f3)).bind fun t326 => (if t326 = true then (spec_ChartOk.l0 k2 (wrap64 (x3_2 + 1)) a0_0 l0_1 l0_2) else (some false))) else (some false))) = some r := by rw [if_pos rfl] at H; exact H
         clear H
         have H := H1
         clear H1
         replace H := Option.bind_eq_some_iff.mp H
         obtain ⟨t325, A210, H⟩ := H
         replace H : (if t325 = true then ((spec_ExprOk.f k2 ((rd_T52 l0_1 x3_2).f2.f0) ((rd_T52 l0_1 x3_2).f2.f1) ((rd_T52 l0_1 x3_2).f2.f2.f0) ((rd_T52 l0_1 x3_2).f2.f2.f1) ((rd_T52 l0_1 x3_2).f2.f3)).bind fun t326 => (if t326 = true then (spec_ChartOk.l0 k2 (wrap64 (x3_2 + 1)) a0_0 l0_1 l0_2) else (some false))) else (some false)) = some r := H
         have A21 := z0 A210
         clear A210
         by_cases c22 : t325 = true
         ·subst c22
          have H1 : ((spec_ExprOk.f k2 ((rd_T52 l0_1 x3_2).f2.f0) ((rd_T52 l0_1 x3_2).f2.f1) ((rd_T52 l0_1 x3_2).f2.f2.f0) ((rd_T52 l0_1 x3_2).f2.f2.f1) ((rd_T52 l0_1 x3_2).f2.f3)).bind fun t326 => (if t326 = true then (spec_ChartOk.l0 k2 (wrap64 (x3_2 + 1)) a0_0 l0_1 l0_2) else (some false))) = some r := by rw [if_pos rfl] at H; exact H
          clear H
          have H := H1
          clear H1
          replace H := Option.bind_eq_some_iff.mp H
          obtain ⟨t326, A230, H⟩ := H
          replace H : (if t326 = true then (spec_ChartOk.l0 k2 (wrap64 (x3_2 + 1)) a0_0 l0_1 l0_2) else (some false)) = some r := H
          have A23 := z0 A230
          clear A230
          have HF24 := z0 H
          clear H
          have hnb25 := NB323_321.out
          have hnc25 := NB321_323.out
          obtain ⟨hcz26_0, hcz26_1, hcz26_2, hcz26_3, hcz26_4, hcz26_5, hcz26_6, hfz26_0, hfz26_1, hfz26_2, hfz26_3, hfz26_4, hfz26_5, hfz26_6⟩ := cel7 BK323.out
          obtain ⟨hcz27_0, hcz27_1, hcz27_2, hfz27_0, hfz27_1, hfz27_2⟩ := cel3 BK321.out
          go_upto_if 58 with (first | ((with_reducible refine gate_callee (f := 44) rfl ?_); refine goesL_ (some 43) rfl rfl Try.func44 (by kernel_rfl) rfl #[.slice A322_0 ((rd_T52 l0_1 x3_2).f0).length c322_0, .int .i64 a0_0] rfl argx ?_; (with_reducible refine (spec_l8Places.calls k2 _ _ ((rd_T52 l0_1 x3_2).f0) a0_0 true _ ?side1 ?side2 A19.out).mono ?_); (case side1 => exact Kd.C_below HR322_0.out (mB HB.out)); (case side2 => exact HC322_0.out); rintro e w' ⟨rfl, ⟨nd, rfl⟩⟩; refine ⟨_, rfl, ?_⟩) | (go_at_call 44; (with_reducible refine (spec_l8Places.calls k2 _ _ ((rd_T52 l0_1 x3_2).f1) a0_0 true _ ?side1 ?side2 A21.out).mono ?_); (case side1 => exact Kd.C_below HR322_1.out (mB HB.out)); (case side2 => exact HC322_1.out); rintro e w' ⟨rfl, ⟨nd, rfl⟩⟩) | (go_at_call 45; (with_reducible refine (spec_ExprOk.calls k2 ((rd_T52 l0_1 x3_2).f2.f0) ((rd_T52 l0_1 x3_2).f2.f1) ((rd_T52 l0_1 x3_2).f2.f2.f0) ((rd_T52 l0_1 x3_2).f2.f2.f1) _ _ ((rd_T52 l0_1 x3_2).f2.f3) t326 _ ?side1 ?side2 A23.out).mono ?_); (case side1 => exact Kd.C_below HR322_6.out (mB HB.out)); (case side2 => exact HC322_6.out); rintro e w28 ⟨rfl, hb⟩; have n0_ := z0 (blk_below (g := gb321) (o := .cells #[.int .i64 a0_0, .slice (some ad322) l0_1.length c0_1, .slice A0_2 l0_2.length c0_2] 31 (0, 0)) (by (with_reducible repeat (first | refine blk_drewN ?_ _ | refine blk_drew ?_ | refine blk_alloc ?_ _)); refine blk_far ?_ NB321_323.out _; (with_reducible repeat (first | refine blk_drewN ?_ _ | refine blk_drew ?_ | refine blk_alloc ?_ _)); refine blk_far ?_ NB321_323.out _; (with_reducible repeat (first | refine blk_drewN ?_ _ | refine blk_drew ?_ | refine blk_alloc ?_ _)); refine blk_far ?_ NB321_323.out _; (with_reducible repeat (first | refine blk_drewN ?_ _ | refine blk_drew ?_ | refine blk_alloc ?_ _)); refine blk_far ?_ NB321_323.out _; (with_reducible repeat (first | refine blk_drewN ?_ _ | refine blk_drew ?_ | refine blk_alloc ?_ _)); refine blk_far ?_ NB321_323.out _; (with_reducible repeat (first | refine blk_drewN ?_ _ | refine blk_drew ?_ | refine blk_alloc ?_ _)); refine blk_far ?_ NB321_323.out _; (with_reducible repeat (first | refine blk_drewN ?_ _ | refine blk_drew ?_ | refine blk_alloc ?_ _)); refine blk_far ?_ NB321_323.out _; (with_reducible repeat (first | refine blk_drewN ?_ _ | refine blk_drew ?_ | refine blk_alloc ?_ _)); exact BK321.out) hb); have n1_ := z0 (blk_below (g := gb323) (o := .cells #[.slice A322_0 ((rd_T52 l0_1 x3_2).f0).length c322_0, .slice A322_1 ((rd_T52 l0_1 x3_2).f1).length c322_1, .int .i64 ((rd_T52 l0_1 x3_2).f2.f0), .int .i64 ((rd_T52 l0_1 x3_2).f2.f1), .int .i64 ((rd_T52 l0_1 x3_2).f2.f2.f0), .int .i64 ((rd_T52 l0_1 x3_2).f2.f2.f1), .slice A322_6 ((rd_T52 l0_1 x3_2).f2.f3).length c322_6] 52 (0, 0)) (by (with_reducible repeat (first | refine blk_drewN ?_ _ | refine blk_drew ?_ | refine blk_alloc ?_ _)); refine blk_put (cs := #[.slice A322_0 ((rd_T52 l0_1 x3_2).f0).length c322_0, .slice A322_1 ((rd_T52 l0_1 x3_2).f1).length c322_1, .int .i64 ((rd_T52 l0_1 x3_2).f2.f0), .int .i64 ((rd_T52 l0_1 x3_2).f2.f1), .int .i64 ((rd_T52 l0_1 x3_2).f2.f2.f0), .int .i64 ((rd_T52 l0_1 x3_2).f2.f2.f1), .slice none 0 0]) ?_ 6 _ rfl; (with_reducible repeat (first | refine blk_drewN ?_ _ | refine blk_drew ?_ | refine blk_alloc ?_ _)); refine blk_put (cs := #[.slice A322_0 ((rd_T52 l0_1 x3_2).f0).length c322_0, .slice A322_1 ((rd_T52 l0_1 x3_2).f1).length c322_1, .int .i64 ((rd_T52 l0_1 x3_2).f2.f0), .int .i64 ((rd_T52 l0_1 x3_2).f2.f1), .int .i64 ((rd_T52 l0_1 x3_2).f2.f2.f0), .int .i64 0, .slice none 0 0]) ?_ 5 _ rfl; (with_reducible repeat (first | refine blk_drewN ?_ _ | refine blk_drew ?_ | refine blk_alloc ?_ _)); refine blk_put (cs := #[.slice A322_0 ((rd_T52 l0_1 x3_2).f0).length c322_0, .slice A322_1 ((rd_T52 l0_1 x3_2).f1).length c322_1, .int .i64 ((rd_T52 l0_1 x3_2).f2.f0), .int .i64 ((rd_T52 l0_1 x3_2).f2.f1), .int .i64 0, .int .i64 0, .slice none 0 0]) ?_ 4 _ rfl; (with_reducible repeat (first | refine blk_drewN ?_ _ | refine blk_drew ?_ | refine blk_alloc ?_ _)); refine blk_put (cs := #[.slice A322_0 ((rd_T52 l0_1 x3_2).f0).length c322_0, .slice A322_1 ((rd_T52 l0_1 x3_2).f1).length c322_1, .int .i64 ((rd_T52 l0_1 x3_2).f2.f0), .int .i64 0, .int .i64 0, .int .i64 0, .slice none 0 0]) ?_ 3 _ rfl; (with_reducible repeat (first | refine blk_drewN ?_ _ | refine blk_drew ?_ | refine blk_alloc ?_ _)); refine blk_put (cs := #[.slice A322_0 ((rd_T52 l0_1 x3_2).f0).length c322_0, .slice A322_1 ((rd_T52 l0_1 x3_2).f1).length c322_1, .int .i64 0, .int .i64 0, .int .i64 0, .int .i64 0, .slice none 0 0]) ?_ 2 _ rfl; (with_reducible repeat (first | refine blk_drewN ?_ _ | refine blk_drew ?_ | refine blk_alloc ?_ _)); refine blk_put (cs := #[.slice A322_0 ((rd_T52 l0_1 x3_2).f0).length c322_0, .slice none 0 0, .int .i64 0, .int .i64 0, .int .i64 0, .int .i64 0, .slice none 0 0]) ?_ 1 _ rfl; (with_reducible repeat (first | refine blk_drewN ?_ _ | refine blk_drew ?_ | refine blk_alloc ?_ _)); refine blk_put (cs := #[.slice none 0 0, .slice none 0 0, .int .i64 0, .int .i64 0, .int .i64 0, .int .i64 0, .slice none 0 0]) ?_ 0 _ rfl; (with_reducible repeat (first | refine blk_drewN ?_ _ | refine blk_drew ?_ | refine blk_alloc ?_ _)); exact BK323.out) hb); have n2_ := z0 (below_step (mB HB.out) hb); clear BK321; clear BK323; clear HB; have BK321 := n0_; have BK323 := n1_; have HB := n2_; clear n0_ n1_ n2_; (try clear hb); (try clear hb2); (try clear hk); (try clear hi)))
          (try simp only [Act.put, List.setIfInBounds_toArray, List.set_cons_zero, List.set_cons_succ])
          have H := HF24.out
          clear HF24
          (try clear c1); (try clear c2); (try clear p2); (try clear c3); (try clear p3); (try clear q3); (try clear hx3); (try clear c4); (try clear c4b0); (try clear c6); (try clear c6b0); (try clear p6); (try clear c8); (try clear c8b0); (try clear c8b1); (try clear c11); (try clear c12); (try clear c12b0); (try clear c13); (try clear c13b0); (try clear c17); (try clear c20); (try clear c22); (try clear c25); (try clear hcz10_0); (try clear hcz10_1); (try clear hcz10_2); (try clear hcz15_0); (try clear hcz15_1); (try clear hcz15_2); (try clear hcz18_0); (try clear hcz18_1); (try clear hcz18_2); (try clear hcz18_3); (try clear hcz18_4); (try clear hcz18_5); (try clear hcz18_6); (try clear hcz26_0); (try clear hcz26_1); (try clear hcz26_2); (try clear hcz26_3); (try clear hcz26_4); (try clear hcz26_5); (try clear hcz26_6); (try clear hcz27_0); (try clear hcz27_1); (try clear hcz27_2); (try clear hcz5_0); (try clear hcz5_1); (try clear hcz5_2); (try clear hcz7_0); (try clear hcz7_1); (try clear hcz7_2); (try clear hcz9_0); (try clear hcz9_1); (try clear hcz9_2); (try clear hfz10_0); (try clear hfz10_1); (try clear hfz10_2); (try clear hfz15_0); (try clear hfz15_1); (try clear hfz15_2); (try clear hfz18_0); (try clear hfz18_1); (try clear hfz18_2); (try clear hfz18_3); (try clear hfz18_4); (try clear hfz18_5); (try clear hfz18_6); (try clear hfz26_0); (try clear hfz26_1); (try clear hfz26_2); (try clear hfz26_3); (try clear hfz26_4); (try clear hfz26_5); (try clear hfz26_6); (try clear hfz27_0); (try clear hfz27_1); (try clear hfz27_2); (try clear hfz5_0); (try clear hfz5_1); (try clear hfz5_2); (try clear hfz7_0); (try clear hfz7_1); (try clear hfz7_2); (try clear hfz9_0); (try clear hfz9_1); (try clear hfz9_2); (try clear hx322_0); (try clear hx322_1); (try clear hx322_2); (try clear hx322_3); (try clear hx322_4); (try clear hx322_5); (try clear hx322_6); (try clear p2); (try clear p3); (try clear p322); (try clear q3); (try clear q322)
          by_cases c29 : t326 = true
          ·subst c29
           have H1 : (spec_ChartOk.l0 k2 (wrap64 (x3_2 + 1)) a0_0 l0_1 l0_2) = some r := by rw [if_pos rfl] at H; exact H
           clear H
           have H := H1
           clear H1
           have H' := z0 H
           clear H
           go_wp2
           go_roundg k2
           case measure => have := HJ1.out; have := HK2.out; omega
           case rel => exact ⟨(wrap64 (x3_2 + 1)), rfy, H', ⟨by have := HJ1.out; have := HK2.out; omega⟩, ⟨mK BK321.out⟩, ⟨mB HB.out⟩⟩
          ·replace c29 := Bool.eq_false_iff.mpr c29
           subst c29
           have H1 : (some false) = some r := by rw [if_neg (show ¬ (false = true) by decide)] at H; exact H
           clear H
           have H := H1
           clear H1
           obtain rfl := Option.some.inj H
           go_wp2
           go_ret
           exact ⟨rfx, mB HB.out⟩
         ·replace c22 := Bool.eq_false_iff.mpr c22
          subst c22
          have H1 : (some false) = some r := by rw [if_neg (show ¬ (false = true) by decide)] at H; exact H
          clear H
          have H := H1
          clear H1
          obtain rfl := Option.some.inj H
          have hnb30 := NB323_321.out
          have hnc30 := NB321_323.out
          obtain ⟨hcz31_0, hcz31_1, hcz31_2, hcz31_3, hcz31_4, hcz31_5, hcz31_6, hfz31_0, hfz31_1, hfz31_2, hfz31_3, hfz31_4, hfz31_5, hfz31_6⟩ := cel7 BK323.out
          obtain ⟨hcz32_0, hcz32_1, hcz32_2, hfz32_0, hfz32_1, hfz32_2⟩ := cel3 BK321.out
          go_wp2_with (first | ((with_reducible refine gate_callee (f := 44) rfl ?_); refine goesL_ (some 43) rfl rfl Try.func44 (by kernel_rfl) rfl #[.slice A322_0 ((rd_T52 l0_1 x3_2).f0).length c322_0, .int .i64 a0_0] rfl argx ?_; (with_reducible refine (spec_l8Places.calls k2 _ _ ((rd_T52 l0_1 x3_2).f0) a0_0 true _ ?side1 ?side2 A19.out).mono ?_); (case side1 => exact Kd.C_below HR322_0.out (mB HB.out)); (case side2 => exact HC322_0.out); rintro e w' ⟨rfl, ⟨nd, rfl⟩⟩; refine ⟨_, rfl, ?_⟩) | (go_at_call 44; (with_reducible refine (spec_l8Places.calls k2 _ _ ((rd_T52 l0_1 x3_2).f1) a0_0 false _ ?side1 ?side2 A21.out).mono ?_); (case side1 => exact Kd.C_below HR322_1.out (mB HB.out)); (case side2 => exact HC322_1.out); rintro e w' ⟨rfl, ⟨nd, rfl⟩⟩))
          go_ret
          exact ⟨rfx, mB HB.out⟩
        ·replace c20 := Bool.eq_false_iff.mpr c20
         subst c20
         have H1 : (some false) = some r := by rw [if_neg (show ¬ (false = true) by decide)] at H; exact H
         clear H
         have H := H1
         clear H1
         obtain rfl := Option.some.inj H
         have hnb33 := NB323_321.out
         have hnc33 := NB321_323.out
         obtain ⟨hcz34_0, hcz34_1, hcz34_2, hcz34_3, hcz34_4, hcz34_5, hcz34_6, hfz34_0, hfz34_1, hfz34_2, hfz34_3, hfz34_4, hfz34_5, hfz34_6⟩ := cel7 BK323.out
         obtain ⟨hcz35_0, hcz35_1, hcz35_2, hfz35_0, hfz35_1, hfz35_2⟩ := cel3 BK321.out
         go_wp2_with (first | ((with_reducible refine gate_callee (f := 44) rfl ?_); refine goesL_ (some 43) rfl rfl Try.func44 (by kernel_rfl) rfl #[.slice A322_0 ((rd_T52 l0_1 x3_2).f0).length c322_0, .int .i64 a0_0] rfl argx ?_; (with_reducible refine (spec_l8Places.calls k2 _ _ ((rd_T52 l0_1 x3_2).f0) a0_0 false _ ?side1 ?side2 A19.out).mono ?_); (case side1 => exact Kd.C_below HR322_0.out (mB HB.out)); (case side2 => exact HC322_0.out); rintro e w' ⟨rfl, ⟨nd, rfl⟩⟩; refine ⟨_, rfl, ?_⟩))
         go_ret
         exact ⟨rfx, mB HB.out⟩
       ·rw [if_neg c13] at H
        exact absurd H (by simp)
      ·rw [if_neg c12] at H
       have c12b0 : decide (x3_2 < (l0_1.length : Int)) = false := decide_eq_false c12
       clear c12
       have H' := z0 H
       clear H
       obtain ⟨hcz36_0, hcz36_1, hcz36_2, hfz36_0, hfz36_1, hfz36_2⟩ := cel3 BK321.out
       go_wp2
       go_loopg [5] k2 (fun kq v5 w' => ∃ (x5_3 : Int), v5 = .int .i64 x5_3 ∧ Aside0 (spec_ChartOk.l1 kq x5_3 a0_0 l0_1 l0_2 = some r) ∧ Aside0 (kq ≤ k2) ∧ Aside0 (w'.heap[gb321]? = some (.cells #[.int .i64 a0_0, (.slice A0_1 l0_1.length c0_1), (.slice A0_2 l0_2.length c0_2)] 31 (0, 0))) ∧ Aside0 (Below w.heap.size w w'))
       case atStart => exact ⟨(0), rfy, H', ⟨Nat.le_refl _⟩, ⟨mK BK321.out⟩, ⟨mB HB.out⟩⟩
       case round =>
        clear H'
        (try clear c1); (try clear c2); (try clear p2); (try clear c3); (try clear p3); (try clear q3); (try clear hx3); (try clear c4); (try clear c4b0); (try clear c6); (try clear c6b0); (try clear p6); (try clear c8); (try clear c8b0); (try clear c8b1); (try clear c11); (try clear c12); (try clear c12b0); (try clear c13); (try clear c13b0); (try clear c17); (try clear c20); (try clear c22); (try clear c25); (try clear c29); (try clear c30); (try clear c32); (try clear p32); (try clear q32); (try clear hx32); (try clear c33); (try clear hcz10_0); (try clear hcz10_1); (try clear hcz10_2); (try clear hcz15_0); (try clear hcz15_1); (try clear hcz15_2); (try clear hcz18_0); (try clear hcz18_1); (try clear hcz18_2); (try clear hcz18_3); (try clear hcz18_4); (try clear hcz18_5); (try clear hcz18_6); (try clear hcz26_0); (try clear hcz26_1); (try clear hcz26_2); (try clear hcz26_3); (try clear hcz26_4); (try clear hcz26_5); (try clear hcz26_6); (try clear hcz27_0); (try clear hcz27_1); (try clear hcz27_2); (try clear hcz31_0); (try clear hcz31_1); (try clear hcz31_2); (try clear hcz31_3); (try clear hcz31_4); (try clear hcz31_5); (try clear hcz31_6); (try clear hcz32_0); (try clear hcz32_1); (try clear hcz32_2); (try clear hcz34_0); (try clear hcz34_1); (try clear hcz34_2); (try clear hcz34_3); (try clear hcz34_4); (try clear hcz34_5); (try clear hcz34_6); (try clear hcz35_0); (try clear hcz35_1); (try clear hcz35_2); (try clear hcz36_0); (try clear hcz36_1); (try clear hcz36_2); (try clear hcz5_0); (try clear hcz5_1); (try clear hcz5_2); (try clear hcz7_0); (try clear hcz7_1); (try clear hcz7_2); (try clear hcz9_0); (try clear hcz9_1); (try clear hcz9_2); (try clear hfz10_0); (try clear hfz10_1); (try clear hfz10_2); (try clear hfz15_0); (try clear hfz15_1); (try clear hfz15_2); (try clear hfz18_0); (try clear hfz18_1); (try clear hfz18_2); (try clear hfz18_3); (try clear hfz18_4); (try clear hfz18_5); (try clear hfz18_6); (try clear hfz26_0); (try clear hfz26_1); (try clear hfz26_2); (try clear hfz26_3); (try clear hfz26_4); (try clear hfz26_5); (try clear hfz26_6); (try clear hfz27_0); (try clear hfz27_1); (try clear hfz27_2); (try clear hfz31_0); (try clear hfz31_1); (try clear hfz31_2); (try clear hfz31_3); (try clear hfz31_4); (try clear hfz31_5); (try clear hfz31_6); (try clear hfz32_0); (try clear hfz32_1); (try clear hfz32_2); (try clear hfz34_0); (try clear hfz34_1); (try clear hfz34_2); (try clear hfz34_3); (try clear hfz34_4); (try clear hfz34_5); (try clear hfz34_6); (try clear hfz35_0); (try clear hfz35_1); (try clear hfz35_2); (try clear hfz36_0); (try clear hfz36_1); (try clear hfz36_2); (try clear hfz5_0); (try clear hfz5_1); (try clear hfz5_2); (try clear hfz7_0); (try clear hfz7_1); (try clear hfz7_2); (try clear hfz9_0); (try clear hfz9_1); (try clear hfz9_2); (try clear hx322_0); (try clear hx322_1); (try clear hx322_2); (try clear hx322_3); (try clear hx322_4); (try clear hx322_5); (try clear hx322_6); (try clear p2); (try clear p3); (try clear p322); (try clear p6); (try clear q3); (try clear q322)
        obtain ⟨x5_3, rfl, HA, HK3, BK321, HB⟩ := hrel
        cases gk with
        | zero => exact absurd HA.out (by simp [spec_ChartOk.l1])
        | succ k3 =>
         have H := HA.out
         clear HA
         simp only [spec_ChartOk.l1] at H
         by_cases c37 : x5_3 < (l0_2.length : Int)
         ·rw [if_pos c37] at H
          have c37b0 : decide (x5_3 < (l0_2.length : Int)) = true := decide_eq_true c37
          clear c37
          by_cases c38 : 0 ≤ x5_3
          ·rw [if_pos c38] at H
           have c38b0 : decide (0 ≤ x5_3) = true := decide_eq_true c38
           clear c38
           have HF39 := z0 H
           clear H
           obtain ⟨hcz40_0, hcz40_1, hcz40_2, hfz40_0, hfz40_1, hfz40_2⟩ := cel3 BK321.out
           have p327 : 0 ≤ (x5_3 : Int) := of_decide_eq_true (by first | (with_reducible assumption) | assumption)
           have q327 : x5_3 < (l0_2.length : Int) := of_decide_eq_true (by first | (with_reducible assumption) | assumption)
           obtain ⟨ad327, e327, hx327_0, hx327_1, hx327_2, hx327_3⟩ := at_T92 HR0_2.out x5_3 p327 q327
           cases e327
           replace hx327_0 := (HB.out.cell (World.block_lt_of_cell? w _ hx327_0)).trans hx327_0
           replace hx327_1 := (HB.out.cell (World.block_lt_of_cell? w _ hx327_1)).trans hx327_1
           replace hx327_2 := (HB.out.cell (World.block_lt_of_cell? w _ hx327_2)).trans hx327_2
           replace hx327_3 := (HB.out.cell (World.block_lt_of_cell? w _ hx327_3)).trans hx327_3
           replace p327 := eq_true p327
           replace q327 := eq_true q327
           go_upto_region 13 with (first | ((with_reducible refine gate_dst (N := 6) rfl ?_); (try (refine gate_guard (by rfl) ?_; dsimp only)); refine box_event ?hg (N := 6) ?hd (cs := #[.int .i64 0, .int .i64 0, .int .i64 0, .int .i64 0]) (t := 92) ?hr ?_; (case hd => rfl); (case hg => rfl); (case hr => first | (go_simp; done) | (go_simp; rfl)); intro gb328 hg w41 hbox hb; have n0_ := z0 (blk_below (g := gb321) (o := .cells #[.int .i64 a0_0, .slice A0_1 l0_1.length c0_1, .slice (some ad327) l0_2.length c0_2] 31 (0, 0)) (mK BK321.out) hb); have n1_ := z0 (below_step (mB HB.out) hb); have n2_ := z0 (hbox); have n3_ := z0 ((by rw [hg]; exact (below_size (mB HB.out)) : w.heap.size ≤ gb328)); have n4_ := z0 ((by rw [hg]; exact (below_size (mB HB.out)) : w.heap.size ≤ gb328)); have n5_ := z0 ((by rw [hg]; exact Nat.ne_of_lt (blk_lt (g := gb321) (o := .cells #[.int .i64 a0_0, .slice A0_1 l0_1.length c0_1, .slice (some ad327) l0_2.length c0_2] 31 (0, 0)) (mK BK321.out)) : gb321 ≠ gb328)); have n6_ := z0 ((by rw [hg]; exact Nat.ne_of_gt (blk_lt (g := gb321) (o := .cells #[.int .i64 a0_0, .slice A0_1 l0_1.length c0_1, .slice (some ad327) l0_2.length c0_2] 31 (0, 0)) (mK BK321.out)) : gb328 ≠ gb321)); clear BK321; clear HB; have BK321 := n0_; have HB := n1_; have BK328 := n2_; have GW328 := n3_; have GE328 := n4_; have NB321_328 := n5_; have NB328_321 := n6_; clear n0_ n1_ n2_ n3_ n4_ n5_ n6_; clear hb hbox hg; have hnb42 := NB328_321.out; have hnc42 := NB321_328.out; obtain ⟨hcz43_0, hcz43_1, hcz43_2, hcz43_3, hfz43_0, hfz43_1, hfz43_2, hfz43_3⟩ := cel4 BK328.out))
           (try simp only [Act.put, List.setIfInBounds_toArray, List.set_cons_zero, List.set_cons_succ])
           have H := HF39.out
           clear HF39
           (try clear c1); (try clear c2); (try clear p2); (try clear c3); (try clear p3); (try clear q3); (try clear hx3); (try clear c4); (try clear c4b0); (try clear c6); (try clear c6b0); (try clear p6); (try clear c8); (try clear c8b0); (try clear c8b1); (try clear c11); (try clear c12); (try clear c12b0); (try clear c13); (try clear c13b0); (try clear c17); (try clear c20); (try clear c22); (try clear c25); (try clear c29); (try clear c30); (try clear c32); (try clear p32); (try clear q32); (try clear hx32); (try clear c33); (try clear c37); (try clear c37b0); (try clear c38); (try clear c38b0); (try clear c42); (try clear hcz10_0); (try clear hcz10_1); (try clear hcz10_2); (try clear hcz15_0); (try clear hcz15_1); (try clear hcz15_2); (try clear hcz18_0); (try clear hcz18_1); (try clear hcz18_2); (try clear hcz18_3); (try clear hcz18_4); (try clear hcz18_5); (try clear hcz18_6); (try clear hcz26_0); (try clear hcz26_1); (try clear hcz26_2); (try clear hcz26_3); (try clear hcz26_4); (try clear hcz26_5); (try clear hcz26_6); (try clear hcz27_0); (try clear hcz27_1); (try clear hcz27_2); (try clear hcz31_0); (try clear hcz31_1); (try clear hcz31_2); (try clear hcz31_3); (try clear hcz31_4); (try clear hcz31_5); (try clear hcz31_6); (try clear hcz32_0); (try clear hcz32_1); (try clear hcz32_2); (try clear hcz34_0); (try clear hcz34_1); (try clear hcz34_2); (try clear hcz34_3); (try clear hcz34_4); (try clear hcz34_5); (try clear hcz34_6); (try clear hcz35_0); (try clear hcz35_1); (try clear hcz35_2); (try clear hcz36_0); (try clear hcz36_1); (try clear hcz36_2); (try clear hcz40_0); (try clear hcz40_1); (try clear hcz40_2); (try clear hcz43_0); (try clear hcz43_1); (try clear hcz43_2); (try clear hcz43_3); (try clear hcz5_0); (try clear hcz5_1); (try clear hcz5_2); (try clear hcz7_0); (try clear hcz7_1); (try clear hcz7_2); (try clear hcz9_0); (try clear hcz9_1); (try clear hcz9_2); (try clear hfz10_0); (try clear hfz10_1); (try clear hfz10_2); (try clear hfz15_0); (try clear hfz15_1); (try clear hfz15_2); (try clear hfz18_0); (try clear hfz18_1); (try clear hfz18_2); (try clear hfz18_3); (try clear hfz18_4); (try clear hfz18_5); (try clear hfz18_6); (try clear hfz26_0); (try clear hfz26_1); (try clear hfz26_2); (try clear hfz26_3); (try clear hfz26_4); (try clear hfz26_5); (try clear hfz26_6); (try clear hfz27_0); (try clear hfz27_1); (try clear hfz27_2); (try clear hfz31_0); (try clear hfz31_1); (try clear hfz31_2); (try clear hfz31_3); (try clear hfz31_4); (try clear hfz31_5); (try clear hfz31_6); (try clear hfz32_0); (try clear hfz32_1); (try clear hfz32_2); (try clear hfz34_0); (try clear hfz34_1); (try clear hfz34_2); (try clear hfz34_3); (try clear hfz34_4); (try clear hfz34_5); (try clear hfz34_6); (try clear hfz35_0); (try clear hfz35_1); (try clear hfz35_2); (try clear hfz36_0); (try clear hfz36_1); (try clear hfz36_2); (try clear hfz40_0); (try clear hfz40_1); (try clear hfz40_2); (try clear hfz43_0); (try clear hfz43_1); (try clear hfz43_2); (try clear hfz43_3); (try clear hfz5_0); (try clear hfz5_1); (try clear hfz5_2); (try clear hfz7_0); (try clear hfz7_1); (try clear hfz7_2); (try clear hfz9_0); (try clear hfz9_1); (try clear hfz9_2); (try clear hx322_0); (try clear hx322_1); (try clear hx322_2); (try clear hx322_3); (try clear hx322_4); (try clear hx322_5); (try clear hx322_6); (try clear hx327_0); (try clear hx327_1); (try clear hx327_2); (try clear hx327_3); (try clear p2); (try clear p3); (try clear p32); (try clear p322); (try clear p327); (try clear p6); (try clear q3); (try clear q32); (try clear q322); (try clear q327)
           by_cases c44 : ((rd_T92 l0_2 x5_3).f0) < 1
           ·rw [if_pos c44] at H
            have c44b0 : decide (((rd_T92 l0_2 x5_3).f0) < 1) = true := decide_eq_true c44
            clear c44
            obtain rfl := Option.some.inj H
            have hnb45 := NB328_321.out
            have hnc45 := NB321_328.out
            obtain ⟨hcz46_0, hcz46_1, hcz46_2, hcz46_3, hfz46_0, hfz46_1, hfz46_2, hfz46_3⟩ := cel4 BK328.out
            go_wp2
            go_ret
            exact ⟨rfx, mB HB.out⟩
           ·rw [if_neg c44] at H
            have c44b0 : decide (((rd_T92 l0_2 x5_3).f0) < 1) = false := decide_eq_false c44
            clear c44
            by_cases c47 : ((rd_T92 l0_2 x5_3).f0) > 4
            ·rw [if_pos c47] at H
             have c47b0 : decide (4 < ((rd_T92 l0_2 x5_3).f0)) = true := decide_eq_true c47
             clear c47
             obtain rfl := Option.some.inj H
             have hnb48 := NB328_321.out
             have hnc48 := NB321_328.out
             obtain ⟨hcz49_0, hcz49_1, hcz49_2, hcz49_3, hfz49_0, hfz49_1, hfz49_2, hfz49_3⟩ := cel4 BK328.out
             go_wp2
             go_ret
             exact ⟨rfx, mB HB.out⟩
            ·rw [if_neg c47] at H
             have c47b0 : decide (4 < ((rd_T92 l0_2 x5_3).f0)) = false := decide_eq_false c47
             clear c47
             by_cases c50 : ((rd_T92 l0_2 x5_3).f1) < 0
             ·rw [if_pos c50] at H
              have c50b0 : decide (((rd_T92 l0_2 x5_3).f1) < 0) = true := decide_eq_true c50
              clear c50
              obtain rfl := Option.some.inj H
              have hnb51 := NB328_321.out
              have hnc51 := NB321_328.out
              obtain ⟨hcz52_0, hcz52_1, hcz52_2, hcz52_3, hfz52_0, hfz52_1, hfz52_2, hfz52_3⟩ := cel4 BK328.out
              go_wp2
              go_ret
              exact ⟨rfx, mB HB.out⟩
             ·rw [if_neg c50] at H
              have c50b0 : decide (((rd_T92 l0_2 x5_3).f1) < 0) = false := decide_eq_false c50
              clear c50
              by_cases c53 : ((rd_T92 l0_2 x5_3).f1) ≥ a0_0
              ·rw [if_pos c53] at H
               have c53b0 : decide (a0_0 ≤ ((rd_T92 l0_2 x5_3).f1)) = true := decide_eq_true c53
               clear c53
               obtain rfl := Option.some.inj H
               have hnb54 := NB328_321.out
               have hnc54 := NB321_328.out
               obtain ⟨hcz55_0, hcz55_1, hcz55_2, hcz55_3, hfz55_0, hfz55_1, hfz55_2, hfz55_3⟩ := cel4 BK328.out
               obtain ⟨hcz56_0, hcz56_1, hcz56_2, hfz56_0, hfz56_1, hfz56_2⟩ := cel3 BK321.out
               go_wp2
               go_ret
               exact ⟨rfx, mB HB.out⟩
              ·rw [if_neg c53] at H
               have c53b0 : decide (a0_0 ≤ ((rd_T92 l0_2 x5_3).f1)) = false := decide_eq_false c53
               clear c53
               replace H := Option.bind_eq_some_iff.mp H
               obtain ⟨t329, A570, H⟩ := H
               replace H : (if t329 = true then (if ((rd_T92 l0_2 x5_3).f2.f0) = 2 then (spec_ChartOk.l1 k3 (wrap64 (x5_3 + 1)) a0_0 l0_1 l0_2) else (some false)) else (some false)) = some r := H
               have A57 := z0 A570
               clear A570
               by_cases c58 : t329 = true
               ·subst c58
                have H1 : (if ((rd_T92 l0_2 x5_3).f2.f0) = 2 then (spec_ChartOk.l1 k3 (wrap64 (x5_3 + 1)) a0_0 l0_1 l0_2) else (some false)) = some r := by rw [if_pos rfl] at H; exact H
                clear H
                have H := H1
                clear H1
                have HF59 := z0 H
                clear H
                have hnb60 := NB328_321.out
                have hnc60 := NB321_328.out
                obtain ⟨hcz61_0, hcz61_1, hcz61_2, hcz61_3, hfz61_0, hfz61_1, hfz61_2, hfz61_3⟩ := cel4 BK328.out
                obtain ⟨hcz62_0, hcz62_1, hcz62_2, hfz62_0, hfz62_1, hfz62_2⟩ := cel3 BK321.out
                go_upto_if 102 with (first | (go_at_call 46; (with_reducible refine (spec_AddrOk.calls ((rd_T92 l0_2 x5_3).f2.f0) ((rd_T92 l0_2 x5_3).f2.f1) true _ A57.out).mono ?_); rintro e w63 ⟨rfl, hb⟩; have n0_ := z0 (blk_below (g := gb321) (o := .cells #[.int .i64 a0_0, .slice A0_1 l0_1.length c0_1, .slice (some ad327) l0_2.length c0_2] 31 (0, 0)) (by (with_reducible repeat (first | refine blk_drewN ?_ _ | refine blk_drew ?_ | refine blk_alloc ?_ _)); refine blk_far ?_ NB321_328.out _; (with_reducible repeat (first | refine blk_drewN ?_ _ | refine blk_drew ?_ | refine blk_alloc ?_ _)); refine blk_far ?_ NB321_328.out _; (with_reducible repeat (first | refine blk_drewN ?_ _ | refine blk_drew ?_ | refine blk_alloc ?_ _)); refine blk_far ?_ NB321_328.out _; (with_reducible repeat (first | refine blk_drewN ?_ _ | refine blk_drew ?_ | refine blk_alloc ?_ _)); refine blk_far ?_ NB321_328.out _; (with_reducible repeat (first | refine blk_drewN ?_ _ | refine blk_drew ?_ | refine blk_alloc ?_ _)); exact BK321.out) hb); have n1_ := z0 (blk_below (g := gb328) (o := .cells #[.int .i64 ((rd_T92 l0_2 x5_3).f0), .int .i64 ((rd_T92 l0_2 x5_3).f1), .int .i64 ((rd_T92 l0_2 x5_3).f2.f0), .int .i64 ((rd_T92 l0_2 x5_3).f2.f1)] 92 (0, 0)) (by (with_reducible repeat (first | refine blk_drewN ?_ _ | refine blk_drew ?_ | refine blk_alloc ?_ _)); refine blk_put (cs := #[.int .i64 ((rd_T92 l0_2 x5_3).f0), .int .i64 ((rd_T92 l0_2 x5_3).f1), .int .i64 ((rd_T92 l0_2 x5_3).f2.f0), .int .i64 0]) ?_ 3 _ rfl; (with_reducible repeat (first | refine blk_drewN ?_ _ | refine blk_drew ?_ | refine blk_alloc ?_ _)); refine blk_put (cs := #[.int .i64 ((rd_T92 l0_2 x5_3).f0), .int .i64 ((rd_T92 l0_2 x5_3).f1), .int .i64 0, .int .i64 0]) ?_ 2 _ rfl; (with_reducible repeat (first | refine blk_drewN ?_ _ | refine blk_drew ?_ | refine blk_alloc ?_ _)); refine blk_put (cs := #[.int .i64 ((rd_T92 l0_2 x5_3).f0), .int .i64 0, .int .i64 0, .int .i64 0]) ?_ 1 _ rfl; (with_reducible repeat (first | refine blk_drewN ?_ _ | refine blk_drew ?_ | refine blk_alloc ?_ _)); refine blk_put (cs := #[.int .i64 0, .int .i64 0, .int .i64 0, .int .i64 0]) ?_ 0 _ rfl; (with_reducible repeat (first | refine blk_drewN ?_ _ | refine blk_drew ?_ | refine blk_alloc ?_ _)); exact BK328.out) hb); have n2_ := z0 (below_step (mB HB.out) hb); clear BK321; clear BK328; clear HB; have BK321 := n0_; have BK328 := n1_; have HB := n2_; clear n0_ n1_ n2_; (try clear hb); (try clear hb2); (try clear hk); (try clear hi); obtain ⟨hcz64_0, hcz64_1, hcz64_2, hcz64_3, hfz64_0, hfz64_1, hfz64_2, hfz64_3⟩ := cel4 BK328.out))
                (try simp only [Act.put, List.setIfInBounds_toArray, List.set_cons_zero, List.set_cons_succ])
                have H := HF59.out
                clear HF59
                (try clear c1); (try clear c2); (try clear p2); (try clear c3); (try clear p3); (try clear q3); (try clear hx3); (try clear c4); (try clear c4b0); (try clear c5); (try clear c6); (try clear c6b0); (try clear p6); (try clear c8); (try clear c8b0); (try clear c8b1); (try clear c11); (try clear c12); (try clear c12b0); (try clear c13); (try clear c13b0); (try clear c17); (try clear c20); (try clear c22); (try clear c25); (try clear c29); (try clear c30); (try clear c32); (try clear p32); (try clear q32); (try clear hx32); (try clear c33); (try clear c37); (try clear c37b0); (try clear c38); (try clear c38b0); (try clear c42); (try clear c44); (try clear c44b0); (try clear c45); (try clear c47); (try clear c47b0); (try clear c48); (try clear c50); (try clear c50b0); (try clear c51); (try clear c53); (try clear c53b0); (try clear c54); (try clear c58); (try clear c60); (try clear p64); (try clear hcz10_0); (try clear hcz10_1); (try clear hcz10_2); (try clear hcz15_0); (try clear hcz15_1); (try clear hcz15_2); (try clear hcz18_0); (try clear hcz18_1); (try clear hcz18_2); (try clear hcz18_3); (try clear hcz18_4); (try clear hcz18_5); (try clear hcz18_6); (try clear hcz26_0); (try clear hcz26_1); (try clear hcz26_2); (try clear hcz26_3); (try clear hcz26_4); (try clear hcz26_5); (try clear hcz26_6); (try clear hcz27_0); (try clear hcz27_1); (try clear hcz27_2); (try clear hcz31_0); (try clear hcz31_1); (try clear hcz31_2); (try clear hcz31_3); (try clear hcz31_4); (try clear hcz31_5); (try clear hcz31_6); (try clear hcz32_0); (try clear hcz32_1); (try clear hcz32_2); (try clear hcz34_0); (try clear hcz34_1); (try clear hcz34_2); (try clear hcz34_3); (try clear hcz34_4); (try clear hcz34_5); (try clear hcz34_6); (try clear hcz35_0); (try clear hcz35_1); (try clear hcz35_2); (try clear hcz36_0); (try clear hcz36_1); (try clear hcz36_2); (try clear hcz40_0); (try clear hcz40_1); (try clear hcz40_2); (try clear hcz43_0); (try clear hcz43_1); (try clear hcz43_2); (try clear hcz43_3); (try clear hcz46_0); (try clear hcz46_1); (try clear hcz46_2); (try clear hcz46_3); (try clear hcz49_0); (try clear hcz49_1); (try clear hcz49_2); (try clear hcz49_3); (try clear hcz52_0); (try clear hcz52_1); (try clear hcz52_2); (try clear hcz52_3); (try clear hcz55_0); (try clear hcz55_1); (try clear hcz55_2); (try clear hcz55_3); (try clear hcz56_0); (try clear hcz56_1); (try clear hcz56_2); (try clear hcz5_0); (try clear hcz5_1); (try clear hcz5_2); (try clear hcz61_0); (try clear hcz61_1); (try clear hcz61_2); (try clear hcz61_3); (try clear hcz62_0); (try clear hcz62_1); (try clear hcz62_2); (try clear hcz64_0); (try clear hcz64_1); (try clear hcz64_2); (try clear hcz64_3); (try clear hcz7_0); (try clear hcz7_1); (try clear hcz7_2); (try clear hcz9_0); (try clear hcz9_1); (try clear hcz9_2); (try clear hfz10_0); (try clear hfz10_1); (try clear hfz10_2); (try clear hfz15_0); (try clear hfz15_1); (try clear hfz15_2); (try clear hfz18_0); (try clear hfz18_1); (try clear hfz18_2); (try clear hfz18_3); (try clear hfz18_4); (try clear hfz18_5); (try clear hfz18_6); (try clear hfz26_0); (try clear hfz26_1); (try clear hfz26_2); (try clear hfz26_3); (try clear hfz26_4); (try clear hfz26_5); (try clear hfz26_6); (try clear hfz27_0); (try clear hfz27_1); (try clear hfz27_2); (try clear hfz31_0); (try clear hfz31_1); (try clear hfz31_2); (try clear hfz31_3); (try clear hfz31_4); (try clear hfz31_5); (try clear hfz31_6); (try clear hfz32_0); (try clear hfz32_1); (try clear hfz32_2); (try clear hfz34_0); (try clear hfz34_1); (try clear hfz34_2); (try clear hfz34_3); (try clear hfz34_4); (try clear hfz34_5); (try clear hfz34_6); (try clear hfz35_0); (try clear hfz35_1); (try clear hfz35_2); (try clear hfz36_0); (try clear hfz36_1); (try clear hfz36_2); (try clear hfz40_0); (try clear hfz40_1); (try clear hfz40_2); (try clear hfz43_0); (try clear hfz43_1); (try clear hfz43_2); (try clear hfz43_3); (try clear hfz46_0); (try clear hfz46_1); (try clear hfz46_2); (try clear hfz46_3); (try clear hfz49_0); (try clear hfz49_1); (try clear hfz49_2); (try clear hfz49_3); (try clear hfz52_0); (try clear hfz52_1); (try clear hfz52_2); (try clear hfz52_3); (try clear hfz55_0); (try clear hfz55_1); (try clear hfz55_2); (try clear hfz55_3); (try clear hfz56_0); (try clear hfz56_1); (try clear hfz56_2); (try clear hfz5_0); (try clear hfz5_1); (try clear hfz5_2); (try clear hfz61_0); (try clear hfz61_1); (try clear hfz61_2); (try clear hfz61_3); (try clear hfz62_0); (try clear hfz62_1); (try clear hfz62_2); (try clear hfz64_0); (try clear hfz64_1); (try clear hfz64_2); (try clear hfz64_3); (try clear hfz7_0); (try clear hfz7_1); (try clear hfz7_2); (try clear hfz9_0); (try clear hfz9_1); (try clear hfz9_2); (try clear hx322_0); (try clear hx322_1); (try clear hx322_2); (try clear hx322_3); (try clear hx322_4); (try clear hx322_5); (try clear hx322_6); (try clear hx327_0); (try clear hx327_1); (try clear hx327_2); (try clear hx327_3); (try clear p2); (try clear p3); (try clear p32); (try clear p322); (try clear p327); (try clear p6); (try clear q3); (try clear q32); (try clear q322); (try clear q327)
                by_cases c65 : ((rd_T92 l0_2 x5_3).f2.f0) = 2
                ·rw [if_pos c65] at H
                 have c65b0 : (((rd_T92 l0_2 x5_3).f2.f0) == 2) = true := beq_iff_eq.mpr c65
                 have c65b1 : (((rd_T92 l0_2 x5_3).f2.f0) != 2) = false := bne_eq_false_iff_eq.mpr c65
                 clear c65
                 (first | rw [c65b0] | (simp only [i64_w, i32_w]; rw [c65b0]) | skip)
                 have H' := z0 H
                 clear H
                 go_wp2
                 go_roundg k3
                 case measure => have := HJ1.out; have := HK2.out; have := HK3.out; omega
                 case rel => exact ⟨(wrap64 (x5_3 + 1)), rfy, H', ⟨by have := HJ1.out; have := HK2.out; have := HK3.out; omega⟩, ⟨mK BK321.out⟩, ⟨mB HB.out⟩⟩
                ·rw [if_neg c65] at H
                 have c65b0 : (((rd_T92 l0_2 x5_3).f2.f0) == 2) = false := beq_eq_false_iff_ne.mpr c65
                 have c65b1 : (((rd_T92 l0_2 x5_3).f2.f0) != 2) = true := bne_iff_ne.mpr c65
                 (first | rw [c65b0] | (simp only [i64_w, i32_w]; rw [c65b0]) | skip)
                 obtain rfl := Option.some.inj H
                 go_wp2
                 go_ret
                 exact ⟨rfx, mB HB.out⟩
               ·replace c58 := Bool.eq_false_iff.mpr c58
                subst c58
                have H1 : (some false) = some r := by rw [if_neg (show ¬ (false = true) by decide)] at H; exact H
                clear H
                have H := H1
                clear H1
                obtain rfl := Option.some.inj H
                have hnb66 := NB328_321.out
                have hnc66 := NB321_328.out
                obtain ⟨hcz67_0, hcz67_1, hcz67_2, hcz67_3, hfz67_0, hfz67_1, hfz67_2, hfz67_3⟩ := cel4 BK328.out
                obtain ⟨hcz68_0, hcz68_1, hcz68_2, hfz68_0, hfz68_1, hfz68_2⟩ := cel3 BK321.out
                go_wp2_with (first | (go_at_call 46; (with_reducible refine (spec_AddrOk.calls ((rd_T92 l0_2 x5_3).f2.f0) ((rd_T92 l0_2 x5_3).f2.f1) false _ A57.out).mono ?_); rintro e w69 ⟨rfl, hb⟩; have n0_ := z0 (blk_below (g := gb321) (o := .cells #[.int .i64 a0_0, .slice A0_1 l0_1.length c0_1, .slice (some ad327) l0_2.length c0_2] 31 (0, 0)) (by (with_reducible repeat (first | refine blk_drewN ?_ _ | refine blk_drew ?_ | refine blk_alloc ?_ _)); refine blk_far ?_ NB321_328.out _; (with_reducible repeat (first | refine blk_drewN ?_ _ | refine blk_drew ?_ | refine blk_alloc ?_ _)); refine blk_far ?_ NB321_328.out _; (with_reducible repeat (first | refine blk_drewN ?_ _ | refine blk_drew ?_ | refine blk_alloc ?_ _)); refine blk_far ?_ NB321_328.out _; (with_reducible repeat (first | refine blk_drewN ?_ _ | refine blk_drew ?_ | refine blk_alloc ?_ _)); refine blk_far ?_ NB321_328.out _; (with_reducible repeat (first | refine blk_drewN ?_ _ | refine blk_drew ?_ | refine blk_alloc ?_ _)); exact BK321.out) hb); have n1_ := z0 (blk_below (g := gb328) (o := .cells #[.int .i64 ((rd_T92 l0_2 x5_3).f0), .int .i64 ((rd_T92 l0_2 x5_3).f1), .int .i64 ((rd_T92 l0_2 x5_3).f2.f0), .int .i64 ((rd_T92 l0_2 x5_3).f2.f1)] 92 (0, 0)) (by (with_reducible repeat (first | refine blk_drewN ?_ _ | refine blk_drew ?_ | refine blk_alloc ?_ _)); refine blk_put (cs := #[.int .i64 ((rd_T92 l0_2 x5_3).f0), .int .i64 ((rd_T92 l0_2 x5_3).f1), .int .i64 ((rd_T92 l0_2 x5_3).f2.f0), .int .i64 0]) ?_ 3 _ rfl; (with_reducible repeat (first | refine blk_drewN ?_ _ | refine blk_drew ?_ | refine blk_alloc ?_ _)); refine blk_put (cs := #[.int .i64 ((rd_T92 l0_2 x5_3).f0), .int .i64 ((rd_T92 l0_2 x5_3).f1), .int .i64 0, .int .i64 0]) ?_ 2 _ rfl; (with_reducible repeat (first | refine blk_drewN ?_ _ | refine blk_drew ?_ | refine blk_alloc ?_ _)); refine blk_put (cs := #[.int .i64 ((rd_T92 l0_2 x5_3).f0), .int .i64 0, .int .i64 0, .int .i64 0]) ?_ 1 _ rfl; (with_reducible repeat (first | refine blk_drewN ?_ _ | refine blk_drew ?_ | refine blk_alloc ?_ _)); refine blk_put (cs := #[.int .i64 0, .int .i64 0, .int .i64 0, .int .i64 0]) ?_ 0 _ rfl; (with_reducible repeat (first | refine blk_drewN ?_ _ | refine blk_drew ?_ | refine blk_alloc ?_ _)); exact BK328.out) hb); have n2_ := z0 (below_step (mB HB.out) hb); clear BK321; clear BK328; clear HB; have BK321 := n0_; have BK328 := n1_; have HB := n2_; clear n0_ n1_ n2_; (try clear hb); (try clear hb2); (try clear hk); (try clear hi)))
                go_ret
                exact ⟨rfx, mB HB.out⟩
          ·rw [if_neg c38] at H
           exact absurd H (by simp)
         ·rw [if_neg c37] at H
          have c37b0 : decide (x5_3 < (l0_2.length : Int)) = false := decide_eq_false c37
          clear c37
          obtain rfl := Option.some.inj H
          obtain ⟨hcz70_0, hcz70_1, hcz70_2, hfz70_0, hfz70_1, hfz70_2⟩ := cel3 BK321.out
          go_wp2
          go_ret
          exact ⟨rfx, mB HB.out⟩

end Go.Proofs.Ytlmchfcfkfegaaa.B
namespace Go.Proofs.Ytlmchfcfkfegaaa.B
open Go.RowKit Go.Proofs.YtlmchfcfkfegaaaW.PrintWords Go.Proofs.YtlmchfcfkfegaaaW.PrintLast Go.Proofs.YtlmchfcfkfegaaaW.PrintMore
attribute [local go_sem] max2_int min2_int max_two min_two max_three min_three max_four min_four   -- for this text's walks alone
set_option linter.unusedVariables false
set_option linter.unusedSimpArgs false

/-! ### spec_l8New: function 48 -/
def spec_l8New.f (a0_0 : Int) (l0_1 : List (S52)) (l0_2 : List (S92)) : Option (List Bool × List Bool) := if 0 ≤ a0_0 then (if (a0_0 : Int).toNat ≤ 281474976710656 then ((some (List.replicate (a0_0 : Int).toNat false : List Bool)).bind fun y363 => (if 6 ≤ 281474976710656 then (if 0 < (y363.length : Int) then (some ((y363.set (0 : Int).toNat true), (List.replicate 6 false))) else (none)) else (none))) else (none)) else (none)
set_option maxHeartbeats 8000000 in
set_option maxRecDepth 100000 in
theorem spec_l8New.calls (a0_0 : Int) (A0_1 : Option Addr) (c0_1 : Nat) (l0_1 : List (S52)) (A0_2 : Option Addr) (c0_2 : Nat) (l0_2 : List (S92)) (r1 : List Bool) (r2 : List Bool) (w : World) (hr0_1 : Kd.C k52 w A0_1 l0_1.length l0_1) (hc0_1 : l0_1.length ≤ c0_1) (hr0_2 : Kd.C k92 w A0_2 l0_2.length l0_2) (hc0_2 : l0_2.length ≤ c0_2) (h : spec_l8New.f a0_0 l0_1 l0_2 = some (r1, r2)) :
  Calls Try.prog 48 #[.agg #[.int .i64 a0_0, .slice A0_1 l0_1.length c0_1, .slice A0_2 l0_2.length c0_2]] w fun e w' => ∃ v0_ v1_ : Value, e = .returned (.agg #[v0_, v1_]) ∧ Kd.R Kd.bool 4 w' w.heap.size (fun k_ => nB k_ v1_) v0_ r1 ∧ Kd.R Kd.bool 4 w' w.heap.size (fun k_ => nB k_ v0_) v1_ r2 ∧ Below w.heap.size w w' := by
 have hu31 := Try.underlying31
 have hu38 := Try.underlying38
 have HR0_1 := z0 hr0_1
 have HC0_1 := z0 hc0_1
 clear hr0_1 hc0_1
 have HR0_2 := z0 hr0_2
 have HC0_2 := z0 hc0_2
 clear hr0_2 hc0_2
 have HB := z0 (Below.refl w.heap.size w)
 have H : (if 0 ≤ a0_0 then (if (a0_0 : Int).toNat ≤ 281474976710656 then ((some (List.replicate (a0_0 : Int).toNat false : List Bool)).bind fun y363 => (if 6 ≤ 281474976710656 then (if 0 < (y363.length : Int) then (some ((y363.set (0 : Int).toNat true), (List.replicate 6 false))) else (none)) else (none))) else (none)) else (none)) = some (r1, r2) := h
 clear h
 by_cases c2 : 0 ≤ a0_0
 ·rw [if_pos c2] at H
  have c2b0 := eq_true c2
  have c2b1 : decide (0 ≤ a0_0) = true := decide_eq_true c2
  clear c2
  by_cases c3 : (a0_0 : Int).toNat ≤ 281474976710656
  ·rw [if_pos c3] at H
   have c3b0 := eq_true c3
   have c3b1 : decide ((a0_0 : Int).toNat ≤ 281474976710656) = true := decide_eq_true c3
   clear c3
   obtain ⟨y363, hy363⟩ : ∃ y_ : List Bool, y_ = (List.replicate (a0_0 : Int).toNat false) := ⟨_, rfl⟩
   replace H : (if 6 ≤ 281474976710656 then (if 0 < (y363.length : Int) then (some ((y363.set (0 : Int).toNat true), (List.replicate 6 false))) else (none)) else (none)) = some (r1, r2) := by first | (rw [hy363]; with_reducible exact H) | (have H2_ := (Option.bind_some _ _).symm.trans H; rw [hy363]; with_reducible exact H2_) | (have H2_ := (Option.bind_some _ _).symm.trans H; with_reducible exact H2_) | with_reducible exact H | (rw [hy363]; exact H) | exact H
   have Ny363 := z0 hy363
   clear hy363
   by_cases c4 : 6 ≤ 281474976710656
   ·rw [if_pos c4] at H
    have c4b0 := eq_true c4
    have c4b1 : decide (6 ≤ 281474976710656) = true := decide_eq_true c4
    clear c4
    obtain ⟨y366, hy366⟩ : ∃ y_ : List Bool, y_ = (List.replicate 6 false) := ⟨_, rfl⟩
    replace H : (if 0 < (y363.length : Int) then (some ((y363.set (0 : Int).toNat true), y366)) else (none)) = some (r1, r2) := by first | (rw [hy366]; with_reducible exact H) | (have H2_ := (Option.bind_some _ _).symm.trans H; rw [hy366]; with_reducible exact H2_) | (have H2_ := (Option.bind_some _ _).symm.trans H; with_reducible exact H2_) | with_reducible exact H | (rw [hy366]; exact H) | exact H
    have Ny366 := z0 hy366
    clear hy366
    by_cases c5 : 0 < (y363.length : Int)
    ·rw [if_pos c5] at H
     have c5b0 : decide (0 < (y363.length : Int)) = true := decide_eq_true c5
     have c5b1 : decide (0 < y363.length) = true := decide_eq_true (by omega)
     clear c5
     obtain ⟨y370, hy370⟩ : ∃ y_ : List Bool, y_ = (y363.set (0 : Int).toNat true) := ⟨_, rfl⟩
     replace H : (some (y370, y366)) = some (r1, r2) := by first | (rw [hy370]; with_reducible exact H) | (have H2_ := (Option.bind_some _ _).symm.trans H; rw [hy370]; with_reducible exact H2_) | (have H2_ := (Option.bind_some _ _).symm.trans H; with_reducible exact H2_) | with_reducible exact H | (rw [hy370]; exact H) | exact H
     have Ny370 := z0 hy370
     clear hy370
     simp only [Option.some.injEq, Prod.mk.injEq] at H
     obtain ⟨rfl, rfl⟩ := H
     go_enter Try.func48, Try.ntmps48
     try go_wp2_with (first | ((with_reducible refine gate_dst (N := 1) rfl ?_); refine box_event ?hg (N := 1) ?hd (cs := #[.int .i64 a0_0, .slice A0_1 l0_1.length c0_1, .slice A0_2 l0_2.length c0_2]) (t := 31) ?hr ?_; (case hd => rfl); (case hg => rfl); (case hr => first | (go_simp; done) | (go_simp; rfl)); intro gb361 hg w7 hbox hb; have n0_ := z0 (below_step (mB HB.out) hb); have n1_ := z0 (hbox); have n2_ := z0 ((by rw [hg]; exact (below_size (mB HB.out)) : w.heap.size ≤ gb361)); have n3_ := z0 ((by rw [hg]; exact (below_size (mB HB.out)) : w.heap.size ≤ gb361)); clear HB; have HB := n0_; have BK361 := n1_; have GW361 := n2_; have GE361 := n3_; clear n0_ n1_ n2_ n3_; clear hb hbox hg) | ((with_reducible refine gate_dst (N := 2) rfl ?_); refine box_event ?hg (N := 2) ?hd (cs := #[.slice none 0 0, .slice none 0 0]) (t := 38) ?hr ?_; (case hd => rfl); (case hg => rfl); (case hr => first | (go_simp; done) | (go_simp; rfl)); intro gb362 hg w8 hbox hb; have n0_ := z0 (blk_below (g := gb361) (o := .cells #[.int .i64 a0_0, .slice A0_1 l0_1.length c0_1, .slice A0_2 l0_2.length c0_2] 31 (0, 0)) (mK BK361.out) hb); have n1_ := z0 (below_step (mB HB.out) hb); have n2_ := z0 (hbox); have n3_ := z0 ((by rw [hg]; exact (below_size (mB HB.out)) : w.heap.size ≤ gb362)); have n4_ := z0 ((by rw [hg]; exact (below_size (mB HB.out)) : w.heap.size ≤ gb362)); have n5_ := z0 ((by rw [hg]; exact Nat.ne_of_lt (blk_lt (g := gb361) (o := .cells #[.int .i64 a0_0, .slice A0_1 l0_1.length c0_1, .slice A0_2 l0_2.length c0_2] 31 (0, 0)) (mK BK361.out)) : gb361 ≠ gb362)); have n6_ := z0 ((by rw [hg]; exact Nat.ne_of_gt (blk_lt (g := gb361) (o := .cells #[.int .i64 a0_0, .slice A0_1 l0_1.length c0_1, .slice A0_2 l0_2.length c0_2] 31 (0, 0)) (mK BK361.out)) : gb362 ≠ gb361)); clear BK361; clear HB; have BK361 := n0_; have HB := n1_; have BK362 := n2_; have GW362 := n3_; have GE362 := n4_; have NB361_362 := n5_; have NB362_361 := n6_; clear n0_ n1_ n2_ n3_ n4_ n5_ n6_; clear hb hbox hg))
     have n0_ := z0 (blk_drew BK361.out)
     have n1_ := z0 (blk_drew BK362.out)
     have n2_ := z0 (below_drew1 HB.out)
     clear BK361 BK362 HB
     have BK361 := n0_
     have BK362 := n1_
     have HB := n2_
     clear n0_ n1_ n2_
     refine start_ (n := 7) (S := fun w' => w'.cell? ⟨gb361, 0, none⟩ = some (.int .i64 a0_0) ∧ w'.cell? ⟨gb361, 1, none⟩ = some (.slice A0_1 l0_1.length c0_1) ∧ w'.cell? ⟨gb361, 2, none⟩ = some (.slice A0_2 l0_2.length c0_2)) (ds := []) #[false, false, false, false, false, false, false] (by kernel_rfl) rfl rfl ⟨(blk_cell BK361.out 0).trans rfl, (blk_cell BK361.out 1).trans rfl, (blk_cell BK361.out 2).trans rfl⟩ (fun hHeld => ?_)
     generalize w8.drew = w9 at BK361 BK362 HB hHeld ⊢
     refine pure_ (i := 0) (N := some 4) (v := ?_) (a' := ?_) #[true, false, false, false, false, false, false] rfl rfl (by kernel_rfl) (fun _ _ _ h => h) (Or.inl ⟨by rfl, ?_⟩) ?_ ?_
     rotate_left
     ·intro w'
      go_simp
      with_reducible rfl
     rotate_left
     ·simp only [Act.put, List.setIfInBounds_toArray, List.set_cons_zero, List.set_cons_succ, i64_w, i32_w]
      rfl
     refine take_ (i := 1) (N := some 5) (v := ?_) (a' := ?_) #[true, true, false, false, false, false, false] rfl rfl (by kernel_rfl) (fun _ _ _ h => h) (Or.inl ⟨by rfl, ?_⟩) hHeld ?_ ?_
     rotate_left
     ·rintro w' ⟨s0, s1, s2⟩
      go_simp
      with_reducible rfl
     rotate_left
     ·simp only [Act.put, List.setIfInBounds_toArray, List.set_cons_zero, List.set_cons_succ, i64_w, i32_w]
      rfl
     refine join_ (σ := Value × Value × Nat) 1 #[true, true, true, true, true, true, false] (fun s_ => [(6, s_.1), (7, s_.2.1), (3, .pointer (some ⟨s_.2.2, 0, none⟩)), (8, .agg #[s_.1, s_.2.1])]) (fun s_ w' => (w'.cell? ⟨gb361, 0, none⟩ = some (.int .i64 a0_0) ∧ w'.cell? ⟨gb361, 1, none⟩ = some (.slice A0_1 l0_1.length c0_1) ∧ w'.cell? ⟨gb361, 2, none⟩ = some (.slice A0_2 l0_2.length c0_2)) ∧ (Kd.R Kd.bool 4 w' w.heap.size (fun k_ => some k_ ≠ (s_.2.1 : Value).ownBlock) s_.1 y363) ∧ (Kd.R Kd.bool 4 w' w.heap.size (fun k_ => some k_ ≠ (s_.1 : Value).ownBlock) s_.2.1 y366) ∧ (w'.heap[gb361]? = some (.cells #[.int .i64 a0_0, .slice A0_1 l0_1.length c0_1, .slice A0_2 l0_2.length c0_2] 31 (0, 0))) ∧ (w'.heap[gb362]? = some (.cells #[.slice none 0 0, .slice none 0 0] 38 (0, 0))) ∧ (w'.heap[s_.2.2]? = some (.cells #[.slice none 0 0, .slice none 0 0] 38 (0, 0))) ∧ (w.heap.size ≤ s_.2.2) ∧ (w.heap.size ≤ s_.2.2) ∧ (gb361 ≠ s_.2.2) ∧ (s_.2.2 ≠ gb361) ∧ (gb362 ≠ s_.2.2) ∧ (s_.2.2 ≠ gb362) ∧ (Below w.heap.size w w')) ?_ ?_
     rotate_left
     ·intro hJ2_3_5
      refine join_ (σ := Value × Value) 2 #[true, true, true, true, true, false, false] (fun s_ => [(6, s_.1), (7, s_.2), (8, .agg #[s_.1, s_.2])]) (fun s_ w' => (w'.cell? ⟨gb361, 0, none⟩ = some (.int .i64 a0_0) ∧ w'.cell? ⟨gb361, 1, none⟩ = some (.slice A0_1 l0_1.length c0_1) ∧ w'.cell? ⟨gb361, 2, none⟩ = some (.slice A0_2 l0_2.length c0_2)) ∧ (Kd.R Kd.bool 4 w' w.heap.size (fun k_ => some k_ ≠ (s_.2 : Value).ownBlock) s_.1 y363) ∧ (Kd.R Kd.bool 4 w' w.heap.size (fun k_ => some k_ ≠ (s_.1 : Value).ownBlock) s_.2 y366) ∧ (w'.heap[gb361]? = some (.cells #[.int .i64 a0_0, .slice A0_1 l0_1.length c0_1, .slice A0_2 l0_2.length c0_2] 31 (0, 0))) ∧ (w'.heap[gb362]? = some (.cells #[.slice none 0 0, .slice none 0 0] 38 (0, 0))) ∧ (Below w.heap.size w w')) ?_ ?_
      rotate_left
      ·intro hJ2_3
       refine join_ (σ := Value × Nat) 3 #[true, true, true, false, false, true, false] (fun s_ => [(6, s_.1), (3, .pointer (some ⟨s_.2, 0, none⟩))]) (fun s_ w' => (w'.cell? ⟨gb361, 0, none⟩ = some (.int .i64 a0_0) ∧ w'.cell? ⟨gb361, 1, none⟩ = some (.slice A0_1 l0_1.length c0_1) ∧ w'.cell? ⟨gb361, 2, none⟩ = some (.slice A0_2 l0_2.length c0_2)) ∧ (Kd.R Kd.bool 4 w' w.heap.size (fun _ => True) s_.1 y363) ∧ (w'.heap[gb361]? = some (.cells #[.int .i64 a0_0, .slice A0_1 l0_1.length c0_1, .slice A0_2 l0_2.length c0_2] 31 (0, 0))) ∧ (w'.heap[gb362]? = some (.cells #[.slice none 0 0, .slice none 0 0] 38 (0, 0))) ∧ (w'.heap[s_.2]? = some (.cells #[.slice none 0 0, .slice none 0 0] 38 (0, 0))) ∧ (w.heap.size ≤ s_.2) ∧ (w.heap.size ≤ s_.2) ∧ (gb361 ≠ s_.2) ∧ (s_.2 ≠ gb361) ∧ (gb362 ≠ s_.2) ∧ (s_.2 ≠ gb362) ∧ (Below w.heap.size w w')) ?_ ?_
       rotate_left
       ·intro hJ2_5
        refine join_ (σ := Value × Nat) 3 #[true, true, false, true, false, true, false] (fun s_ => [(7, s_.1), (3, .pointer (some ⟨s_.2, 0, none⟩))]) (fun s_ w' => (w'.cell? ⟨gb361, 0, none⟩ = some (.int .i64 a0_0) ∧ w'.cell? ⟨gb361, 1, none⟩ = some (.slice A0_1 l0_1.length c0_1) ∧ w'.cell? ⟨gb361, 2, none⟩ = some (.slice A0_2 l0_2.length c0_2)) ∧ (Kd.R Kd.bool 4 w' w.heap.size (fun _ => True) s_.1 y366) ∧ (w'.heap[gb361]? = some (.cells #[.int .i64 a0_0, .slice A0_1 l0_1.length c0_1, .slice A0_2 l0_2.length c0_2] 31 (0, 0))) ∧ (w'.heap[gb362]? = some (.cells #[.slice none 0 0, .slice none 0 0] 38 (0, 0))) ∧ (w'.heap[s_.2]? = some (.cells #[.slice none 0 0, .slice none 0 0] 38 (0, 0))) ∧ (w.heap.size ≤ s_.2) ∧ (w.heap.size ≤ s_.2) ∧ (gb361 ≠ s_.2) ∧ (s_.2 ≠ gb361) ∧ (gb362 ≠ s_.2) ∧ (s_.2 ≠ gb362) ∧ (Below w.heap.size w w')) ?_ ?_
        rotate_left
        ·intro hJ3_5
         refine join_ (σ := Value) 4 #[true, true, true, false, false, false, false] (fun s_ => [(6, s_)]) (fun s_ w' => (w'.cell? ⟨gb361, 0, none⟩ = some (.int .i64 a0_0) ∧ w'.cell? ⟨gb361, 1, none⟩ = some (.slice A0_1 l0_1.length c0_1) ∧ w'.cell? ⟨gb361, 2, none⟩ = some (.slice A0_2 l0_2.length c0_2)) ∧ (Kd.R Kd.bool 4 w' w.heap.size (fun _ => True) s_ y363) ∧ (w'.heap[gb361]? = some (.cells #[.int .i64 a0_0, .slice A0_1 l0_1.length c0_1, .slice A0_2 l0_2.length c0_2] 31 (0, 0))) ∧ (w'.heap[gb362]? = some (.cells #[.slice none 0 0, .slice none 0 0] 38 (0, 0))) ∧ (Below w.heap.size w w')) ?_ ?_
         rotate_left
         ·intro hJ2
          refine join_ (σ := Value) 4 #[true, true, false, true, false, false, false] (fun s_ => [(7, s_)]) (fun s_ w' => (w'.cell? ⟨gb361, 0, none⟩ = some (.int .i64 a0_0) ∧ w'.cell? ⟨gb361, 1, none⟩ = some (.slice A0_1 l0_1.length c0_1) ∧ w'.cell? ⟨gb361, 2, none⟩ = some (.slice A0_2 l0_2.length c0_2)) ∧ (Kd.R Kd.bool 4 w' w.heap.size (fun _ => True) s_ y366) ∧ (w'.heap[gb361]? = some (.cells #[.int .i64 a0_0, .slice A0_1 l0_1.length c0_1, .slice A0_2 l0_2.length c0_2] 31 (0, 0))) ∧ (w'.heap[gb362]? = some (.cells #[.slice none 0 0, .slice none 0 0] 38 (0, 0))) ∧ (Below w.heap.size w w')) ?_ ?_
          rotate_left
          ·intro hJ3
           refine join_ (σ := Nat) 4 #[true, true, false, false, false, true, false] (fun s_ => [(3, .pointer (some ⟨s_, 0, none⟩))]) (fun s_ w' => (w'.cell? ⟨gb361, 0, none⟩ = some (.int .i64 a0_0) ∧ w'.cell? ⟨gb361, 1, none⟩ = some (.slice A0_1 l0_1.length c0_1) ∧ w'.cell? ⟨gb361, 2, none⟩ = some (.slice A0_2 l0_2.length c0_2)) ∧ (w'.heap[gb361]? = some (.cells #[.int .i64 a0_0, .slice A0_1 l0_1.length c0_1, .slice A0_2 l0_2.length c0_2] 31 (0, 0))) ∧ (w'.heap[gb362]? = some (.cells #[.slice none 0 0, .slice none 0 0] 38 (0, 0))) ∧ (w'.heap[s_]? = some (.cells #[.slice none 0 0, .slice none 0 0] 38 (0, 0))) ∧ (w.heap.size ≤ s_) ∧ (w.heap.size ≤ s_) ∧ (gb361 ≠ s_) ∧ (s_ ≠ gb361) ∧ (gb362 ≠ s_) ∧ (s_ ≠ gb362) ∧ (Below w.heap.size w w')) ?_ ?_
           rotate_left
           ·intro hJ5
            refine three_ (i := 2) (j := 3) (k := 5) (Ni := some 6) (Nj := some 7) (Nk := some 3) #[true, true, true, false, false, false, false] #[true, true, false, true, false, false, false] #[true, true, false, false, false, true, false] rfl rfl rfl rfl rfl rfl (by kernel_rfl) (by decide) (by decide) (by decide) (fun K hK => ?_) (fun K hK => ?_) (fun K hK => ?_)
            ·skip
             refine Kd.R_make_step Kd.bool _ 4 (by rfl) (N := 6) rfl 36 _ _ rfl a0_0 rfl rfl Try.underlying36 (.bool false) 1 info4 rfl (by decide) (by omega) false (ok := fun _ => True) (okp := fun _ => True) rfl (fun _ hk => hk) trivial (of_decide_eq_true (by first | (with_reducible assumption) | assumption)) (Nat.le_trans (Nat.mul_le_mul_right _ (of_decide_eq_true (by first | (with_reducible assumption) | assumption) : a0_0.toNat ≤ 281474976710656)) (by omega)) (Below.refl _ _) (Nat.le_refl _) ?_
             intro v364 w10 ho11 hb hg_ hnew_
             clear hg_ hnew_
             (first | rw [← Ny363.out] at ho11 | (simp only [Int.reduceToNat] at ho11; rw [← Ny363.out] at ho11))
             have n0_ := z0 (Kd.R_lower ho11 (below_size (mB HB.out)))
             have n1_ := z0 (blk_below (g := gb361) (o := .cells #[.int .i64 a0_0, .slice A0_1 l0_1.length c0_1, .slice A0_2 l0_2.length c0_2] 31 (0, 0)) (mK BK361.out) hb)
             have n2_ := z0 (blk_below (g := gb362) (o := .cells #[.slice none 0 0, .slice none 0 0] 38 (0, 0)) (mK BK362.out) hb)
             have n3_ := z0 (below_step (mB HB.out) hb)
             clear BK361 BK362 HB
             have HO365 := n0_
             have BK361 := n1_
             have BK362 := n2_
             have HB := n3_
             clear n0_ n1_ n2_ n3_ hb ho11
             refine hK.out _ _ ⟨(blk_cell BK361.out 0).trans rfl, (blk_cell BK361.out 1).trans rfl, (blk_cell BK361.out 2).trans rfl⟩ (fun hHeld => ?_)
             clear hK K
             refine norm_ (a' := ?_) ?_ ?_
             rotate_left
             ·show Act.put _ (some 6) _ = _
              simp only [Act.put, List.setIfInBounds_toArray, List.set_cons_zero, List.set_cons_succ, i64_w, i32_w]
              rfl
             exact norm_ (by first | (simp only [putAll, Act.put, List.setIfInBounds_toArray, List.set_cons_zero, List.set_cons_succ]; done) | (simp only [putAll, Act.put, List.setIfInBounds_toArray, List.set_cons_zero, List.set_cons_succ]; rfl)) (hJ2 (v364) _ ⟨hHeld, (mR HO365.out), (mK BK361.out), (mK BK362.out), (mB HB.out)⟩)
            ·skip
             refine Kd.R_make_step Kd.bool _ 4 (by rfl) (N := 7) rfl 36 _ _ rfl 6 rfl rfl Try.underlying36 (.bool false) 1 info4 rfl (by decide) (by omega) false (ok := fun _ => True) (okp := fun _ => True) rfl (fun _ hk => hk) trivial (by omega) (by omega) (Below.refl _ _) (Nat.le_refl _) ?_
             intro v367 w10 ho11 hb hg_ hnew_
             clear hg_ hnew_
             (first | rw [← Ny366.out] at ho11 | (simp only [Int.reduceToNat] at ho11; rw [← Ny366.out] at ho11))
             have n0_ := z0 (Kd.R_lower ho11 (below_size (mB HB.out)))
             have n1_ := z0 (blk_below (g := gb361) (o := .cells #[.int .i64 a0_0, .slice A0_1 l0_1.length c0_1, .slice A0_2 l0_2.length c0_2] 31 (0, 0)) (mK BK361.out) hb)
             have n2_ := z0 (blk_below (g := gb362) (o := .cells #[.slice none 0 0, .slice none 0 0] 38 (0, 0)) (mK BK362.out) hb)
             have n3_ := z0 (below_step (mB HB.out) hb)
             clear BK361 BK362 HB
             have HO368 := n0_
             have BK361 := n1_
             have BK362 := n2_
             have HB := n3_
             clear n0_ n1_ n2_ n3_ hb ho11
             refine hK.out _ _ ⟨(blk_cell BK361.out 0).trans rfl, (blk_cell BK361.out 1).trans rfl, (blk_cell BK361.out 2).trans rfl⟩ (fun hHeld => ?_)
             clear hK K
             refine norm_ (a' := ?_) ?_ ?_
             rotate_left
             ·show Act.put _ (some 7) _ = _
              simp only [Act.put, List.setIfInBounds_toArray, List.set_cons_zero, List.set_cons_succ, i64_w, i32_w]
              rfl
             exact norm_ (by first | (simp only [putAll, Act.put, List.setIfInBounds_toArray, List.set_cons_zero, List.set_cons_succ]; done) | (simp only [putAll, Act.put, List.setIfInBounds_toArray, List.set_cons_zero, List.set_cons_succ]; rfl)) (hJ3 (v367) _ ⟨hHeld, (mR HO368.out), (mK BK361.out), (mK BK362.out), (mB HB.out)⟩)
            ·skip
             refine box_step ?hg (N := 3) ?hd (cs := #[.slice none 0 0, .slice none 0 0]) (t := 38) ?hr ?_; (case hd => rfl); (case hg => rfl); (case hr => first | (go_simp; done) | (go_simp; rfl))
             intro gb369 hg w10 hbox hb
             have n0_ := z0 (blk_below (g := gb361) (o := .cells #[.int .i64 a0_0, .slice A0_1 l0_1.length c0_1, .slice A0_2 l0_2.length c0_2] 31 (0, 0)) (mK BK361.out) hb)
             have n1_ := z0 (blk_below (g := gb362) (o := .cells #[.slice none 0 0, .slice none 0 0] 38 (0, 0)) (mK BK362.out) hb)
             have n2_ := z0 (below_step (mB HB.out) hb)
             have n3_ := z0 (hbox)
             have n4_ := z0 ((by rw [hg]; exact (below_size (mB HB.out)) : w.heap.size ≤ gb369))
             have n5_ := z0 ((by rw [hg]; exact (below_size (mB HB.out)) : w.heap.size ≤ gb369))
             have n6_ := z0 ((by rw [hg]; exact Nat.ne_of_lt (blk_lt (g := gb361) (o := .cells #[.int .i64 a0_0, .slice A0_1 l0_1.length c0_1, .slice A0_2 l0_2.length c0_2] 31 (0, 0)) (mK BK361.out)) : gb361 ≠ gb369))
             have n7_ := z0 ((by rw [hg]; exact Nat.ne_of_gt (blk_lt (g := gb361) (o := .cells #[.int .i64 a0_0, .slice A0_1 l0_1.length c0_1, .slice A0_2 l0_2.length c0_2] 31 (0, 0)) (mK BK361.out)) : gb369 ≠ gb361))
             have n8_ := z0 ((by rw [hg]; exact Nat.ne_of_lt (blk_lt (g := gb362) (o := .cells #[.slice none 0 0, .slice none 0 0] 38 (0, 0)) (mK BK362.out)) : gb362 ≠ gb369))
             have n9_ := z0 ((by rw [hg]; exact Nat.ne_of_gt (blk_lt (g := gb362) (o := .cells #[.slice none 0 0, .slice none 0 0] 38 (0, 0)) (mK BK362.out)) : gb369 ≠ gb362))
             clear BK361 BK362 HB
             have BK361 := n0_
             have BK362 := n1_
             have HB := n2_
             have BK369 := n3_
             have GW369 := n4_
             have GE369 := n5_
             have NB361_369 := n6_
             have NB369_361 := n7_
             have NB362_369 := n8_
             have NB369_362 := n9_
             clear n0_ n1_ n2_ n3_ n4_ n5_ n6_ n7_ n8_ n9_ hb hbox hg
             refine hK.out _ _ ⟨(blk_cell BK361.out 0).trans rfl, (blk_cell BK361.out 1).trans rfl, (blk_cell BK361.out 2).trans rfl⟩ (fun hHeld => ?_)
             clear hK K
             refine norm_ (a' := ?_) ?_ ?_
             rotate_left
             ·show Act.put _ (some 3) _ = _
              simp only [Act.put, List.setIfInBounds_toArray, List.set_cons_zero, List.set_cons_succ, i64_w, i32_w]
              rfl
             exact norm_ (by first | (simp only [putAll, Act.put, List.setIfInBounds_toArray, List.set_cons_zero, List.set_cons_succ]; done) | (simp only [putAll, Act.put, List.setIfInBounds_toArray, List.set_cons_zero, List.set_cons_succ]; rfl)) (hJ5 (gb369) _ ⟨hHeld, (mK BK361.out), (mK BK362.out), (mK BK369.out), GW369.out, GE369.out, NB361_369.out, NB369_361.out, NB362_369.out, NB369_362.out, (mB HB.out)⟩)
           ·skip
            rintro gb369 w11 ⟨hS_, h0_, h1_, h2_, h3_, h4_, h5_, h6_, h7_, h8_, h9_⟩
            have n0_ : Aside0 (w11.heap[gb361]? = some (.cells #[.int .i64 a0_0, .slice A0_1 l0_1.length c0_1, .slice A0_2 l0_2.length c0_2] 31 (0, 0))) := ⟨h0_⟩
            have n1_ : Aside0 (w11.heap[gb362]? = some (.cells #[.slice none 0 0, .slice none 0 0] 38 (0, 0))) := ⟨h1_⟩
            have n2_ : Aside0 (w11.heap[gb369]? = some (.cells #[.slice none 0 0, .slice none 0 0] 38 (0, 0))) := ⟨h2_⟩
            have n3_ : Aside0 (w.heap.size ≤ gb369) := ⟨h3_⟩
            have n4_ : Aside0 (w.heap.size ≤ gb369) := ⟨h4_⟩
            have n5_ : Aside0 (gb361 ≠ gb369) := ⟨h5_⟩
            have n6_ : Aside0 (gb369 ≠ gb361) := ⟨h6_⟩
            have n7_ : Aside0 (gb362 ≠ gb369) := ⟨h7_⟩
            have n8_ : Aside0 (gb369 ≠ gb362) := ⟨h8_⟩
            have n9_ : Aside0 (Below w.heap.size w w11) := ⟨h9_⟩
            clear BK361 BK362 HB h0_ h1_ h2_ h3_ h4_ h5_ h6_ h7_ h8_ h9_
            have BK361 := n0_
            have BK362 := n1_
            have BK369 := n2_
            have GW369 := n3_
            have GE369 := n4_
            have NB361_369 := n5_
            have NB369_361 := n6_
            have NB362_369 := n7_
            have NB369_362 := n8_
            have HB := n9_
            clear n0_ n1_ n2_ n3_ n4_ n5_ n6_ n7_ n8_ n9_
            have hHeld : w11.cell? ⟨gb361, 0, none⟩ = some (.int .i64 a0_0) ∧ w11.cell? ⟨gb361, 1, none⟩ = some (.slice A0_1 l0_1.length c0_1) ∧ w11.cell? ⟨gb361, 2, none⟩ = some (.slice A0_2 l0_2.length c0_2) := hS_
            refine norm_ (a' := ?_) ?_ ?_
            rotate_left
            ·simp only [putAll, Act.put, List.setIfInBounds_toArray, List.set_cons_zero, List.set_cons_succ]
             rfl
            refine two_ (i := 2) (j := 3) (Ni := some 6) (Nj := some 7) #[true, true, true, false, false, true, false] #[true, true, false, true, false, true, false] rfl rfl rfl rfl (by kernel_rfl) (by decide) (by decide) (fun K hK => ?_) (fun K hK => ?_)
            ·skip
             refine Kd.R_make_step Kd.bool _ 4 (by rfl) (N := 6) rfl 36 _ _ rfl a0_0 rfl rfl Try.underlying36 (.bool false) 1 info4 rfl (by decide) (by omega) false (ok := fun _ => True) (okp := fun _ => True) rfl (fun _ hk => hk) trivial (of_decide_eq_true (by first | (with_reducible assumption) | assumption)) (Nat.le_trans (Nat.mul_le_mul_right _ (of_decide_eq_true (by first | (with_reducible assumption) | assumption) : a0_0.toNat ≤ 281474976710656)) (by omega)) (Below.refl _ _) (Nat.le_refl _) ?_
             intro v364 w12 ho13 hb hg_ hnew_
             clear hg_ hnew_
             (first | rw [← Ny363.out] at ho13 | (simp only [Int.reduceToNat] at ho13; rw [← Ny363.out] at ho13))
             have n0_ := z0 (Kd.R_lower ho13 (below_size (mB HB.out)))
             have n1_ := z0 (blk_below (g := gb361) (o := .cells #[.int .i64 a0_0, .slice A0_1 l0_1.length c0_1, .slice A0_2 l0_2.length c0_2] 31 (0, 0)) (mK BK361.out) hb)
             have n2_ := z0 (blk_below (g := gb362) (o := .cells #[.slice none 0 0, .slice none 0 0] 38 (0, 0)) (mK BK362.out) hb)
             have n3_ := z0 (blk_below (g := gb369) (o := .cells #[.slice none 0 0, .slice none 0 0] 38 (0, 0)) (mK BK369.out) hb)
             have n4_ := z0 (below_step (mB HB.out) hb)
             clear BK361 BK362 BK369 HB
             have HO365 := n0_
             have BK361 := n1_
             have BK362 := n2_
             have BK369 := n3_
             have HB := n4_
             clear n0_ n1_ n2_ n3_ n4_ hb ho13
             refine hK.out _ _ ⟨(blk_cell BK361.out 0).trans rfl, (blk_cell BK361.out 1).trans rfl, (blk_cell BK361.out 2).trans rfl⟩ (fun hHeld => ?_)
             clear hK K
             refine norm_ (a' := ?_) ?_ ?_
             rotate_left
             ·show Act.put _ (some 6) _ = _
              simp only [Act.put, List.setIfInBounds_toArray, List.set_cons_zero, List.set_cons_succ, i64_w, i32_w]
              rfl
             exact norm_ (by first | (simp only [putAll, Act.put, List.setIfInBounds_toArray, List.set_cons_zero, List.set_cons_succ]; done) | (simp only [putAll, Act.put, List.setIfInBounds_toArray, List.set_cons_zero, List.set_cons_succ]; rfl)) (hJ2_5 (v364, gb369) _ ⟨hHeld, (mR HO365.out), (mK BK361.out), (mK BK362.out), (mK BK369.out), GW369.out, GE369.out, NB361_369.out, NB369_361.out, NB362_369.out, NB369_362.out, (mB HB.out)⟩)
            ·skip
             refine Kd.R_make_step Kd.bool _ 4 (by rfl) (N := 7) rfl 36 _ _ rfl 6 rfl rfl Try.underlying36 (.bool false) 1 info4 rfl (by decide) (by omega) false (ok := fun _ => True) (okp := fun _ => True) rfl (fun _ hk => hk) trivial (by omega) (by omega) (Below.refl _ _) (Nat.le_refl _) ?_
             intro v367 w12 ho13 hb hg_ hnew_
             clear hg_ hnew_
             (first | rw [← Ny366.out] at ho13 | (simp only [Int.reduceToNat] at ho13; rw [← Ny366.out] at ho13))
             have n0_ := z0 (Kd.R_lower ho13 (below_size (mB HB.out)))
             have n1_ := z0 (blk_below (g := gb361) (o := .cells #[.int .i64 a0_0, .slice A0_1 l0_1.length c0_1, .slice A0_2 l0_2.length c0_2] 31 (0, 0)) (mK BK361.out) hb)
             have n2_ := z0 (blk_below (g := gb362) (o := .cells #[.slice none 0 0, .slice none 0 0] 38 (0, 0)) (mK BK362.out) hb)
             have n3_ := z0 (blk_below (g := gb369) (o := .cells #[.slice none 0 0, .slice none 0 0] 38 (0, 0)) (mK BK369.out) hb)
             have n4_ := z0 (below_step (mB HB.out) hb)
             clear BK361 BK362 BK369 HB
             have HO368 := n0_
             have BK361 := n1_
             have BK362 := n2_
             have BK369 := n3_
             have HB := n4_
             clear n0_ n1_ n2_ n3_ n4_ hb ho13
             refine hK.out _ _ ⟨(blk_cell BK361.out 0).trans rfl, (blk_cell BK361.out 1).trans rfl, (blk_cell BK361.out 2).trans rfl⟩ (fun hHeld => ?_)
             clear hK K
             refine norm_ (a' := ?_) ?_ ?_
             rotate_left
             ·show Act.put _ (some 7) _ = _
              simp only [Act.put, List.setIfInBounds_toArray, List.set_cons_zero, List.set_cons_succ, i64_w, i32_w]
              rfl
             exact norm_ (by first | (simp only [putAll, Act.put, List.setIfInBounds_toArray, List.set_cons_zero, List.set_cons_succ]; done) | (simp only [putAll, Act.put, List.setIfInBounds_toArray, List.set_cons_zero, List.set_cons_succ]; rfl)) (hJ3_5 (v367, gb369) _ ⟨hHeld, (mR HO368.out), (mK BK361.out), (mK BK362.out), (mK BK369.out), GW369.out, GE369.out, NB361_369.out, NB369_361.out, NB362_369.out, NB369_362.out, (mB HB.out)⟩)
          ·skip
           rintro v367 w12 ⟨hS_, h0_, h1_, h2_, h3_⟩
           have n0_ : Aside0 (Kd.R Kd.bool 4 w12 w.heap.size (fun _ => True) v367 y366) := ⟨h0_⟩
           have n1_ : Aside0 (w12.heap[gb361]? = some (.cells #[.int .i64 a0_0, .slice A0_1 l0_1.length c0_1, .slice A0_2 l0_2.length c0_2] 31 (0, 0))) := ⟨h1_⟩
           have n2_ : Aside0 (w12.heap[gb362]? = some (.cells #[.slice none 0 0, .slice none 0 0] 38 (0, 0))) := ⟨h2_⟩
           have n3_ : Aside0 (Below w.heap.size w w12) := ⟨h3_⟩
           clear BK361 BK362 HB h0_ h1_ h2_ h3_
           have HO368 := n0_
           have BK361 := n1_
           have BK362 := n2_
           have HB := n3_
           clear n0_ n1_ n2_ n3_
           have hHeld : w12.cell? ⟨gb361, 0, none⟩ = some (.int .i64 a0_0) ∧ w12.cell? ⟨gb361, 1, none⟩ = some (.slice A0_1 l0_1.length c0_1) ∧ w12.cell? ⟨gb361, 2, none⟩ = some (.slice A0_2 l0_2.length c0_2) := hS_
           refine norm_ (a' := ?_) ?_ ?_
           rotate_left
           ·simp only [putAll, Act.put, List.setIfInBounds_toArray, List.set_cons_zero, List.set_cons_succ]
            rfl
           refine two_ (i := 2) (j := 5) (Ni := some 6) (Nj := some 3) #[true, true, true, true, false, false, false] #[true, true, false, true, false, true, false] rfl rfl rfl rfl (by kernel_rfl) (by decide) (by decide) (fun K hK => ?_) (fun K hK => ?_)
           ·skip
            refine Kd.R_make_step Kd.bool _ 4 (by rfl) (N := 6) rfl 36 _ _ rfl a0_0 rfl rfl Try.underlying36 (.bool false) 1 info4 rfl (by decide) (by omega) false (ok := fun _ => True) (okp := fun _ => True) rfl (fun _ hk => hk) trivial (of_decide_eq_true (by first | (with_reducible assumption) | assumption)) (Nat.le_trans (Nat.mul_le_mul_right _ (of_decide_eq_true (by first | (with_reducible assumption) | assumption) : a0_0.toNat ≤ 281474976710656)) (by omega)) (Below.refl _ _) (Nat.le_refl _) ?_
            intro v364 w13 ho14 hb hg_ hnew_
            clear hg_ hnew_
            (first | rw [← Ny363.out] at ho14 | (simp only [Int.reduceToNat] at ho14; rw [← Ny363.out] at ho14))
            have n0_ := z0 (Kd.R_elder' (mR HO368.out) (by first | exact Kd.R_base ho14 | exact Kd.R_base ho14) hb)
            have n1_ := z0 (Kd.R_lower (Kd.R_new' ho14 (Kd.R_lt (mR HO368.out))) (below_size (mB HB.out)))
            have n2_ := z0 (blk_below (g := gb361) (o := .cells #[.int .i64 a0_0, .slice A0_1 l0_1.length c0_1, .slice A0_2 l0_2.length c0_2] 31 (0, 0)) (mK BK361.out) hb)
            have n3_ := z0 (blk_below (g := gb362) (o := .cells #[.slice none 0 0, .slice none 0 0] 38 (0, 0)) (mK BK362.out) hb)
            have n4_ := z0 (below_step (mB HB.out) hb)
            clear HO368 BK361 BK362 HB
            have HO368 := n0_
            have HO365 := n1_
            have BK361 := n2_
            have BK362 := n3_
            have HB := n4_
            clear n0_ n1_ n2_ n3_ n4_ hb ho14
            obtain ⟨Ao15, co15, eo15⟩ := Kd.R_slice HO368.out
            (first | subst eo15 | (injection eo15 with f1_ f2_ f3_; have f4_ := f1_.symm; have f5_ := f3_.symm; clear f1_ f2_ f3_; subst f4_; subst f5_))
            obtain ⟨Ao16, co16, eo16⟩ := Kd.R_slice HO365.out
            (first | subst eo16 | (injection eo16 with f1_ f2_ f3_; have f4_ := f1_.symm; have f5_ := f3_.symm; clear f1_ f2_ f3_; subst f4_; subst f5_))
            refine hK.out _ _ ⟨(blk_cell BK361.out 0).trans rfl, (blk_cell BK361.out 1).trans rfl, (blk_cell BK361.out 2).trans rfl⟩ (fun hHeld => ?_)
            clear hK K
            refine norm_ (a' := ?_) ?_ ?_
            rotate_left
            ·show Act.put _ (some 6) _ = _
             simp only [Act.put, List.setIfInBounds_toArray, List.set_cons_zero, List.set_cons_succ, i64_w, i32_w]
             rfl
            refine pure_ (i := 4) (N := some 8) (v := ?_) (a' := ?_) #[true, true, true, true, true, false, false] rfl rfl (by kernel_rfl) (fun _ _ _ h => h) (Or.inl ⟨by rfl, ?_⟩) ?_ ?_
            rotate_left
            ·intro w'
             go_simp
             with_reducible rfl
            rotate_left
            ·simp only [Act.put, List.setIfInBounds_toArray, List.set_cons_zero, List.set_cons_succ, i64_w, i32_w]
             rfl
            exact norm_ (by first | (simp only [putAll, Act.put, List.setIfInBounds_toArray, List.set_cons_zero, List.set_cons_succ]; done) | (simp only [putAll, Act.put, List.setIfInBounds_toArray, List.set_cons_zero, List.set_cons_succ]; rfl)) (hJ2_3 (.slice Ao16 y363.length co16, .slice Ao15 y366.length co15) _ ⟨hHeld, (by (with_reducible repeat (first | apply Kd.R_alloc | apply Kd.R_drewN | apply Kd.R_drew)); exact Kd.R_mono HO365.out (fun _ hk => hk.2)), (by (with_reducible repeat (first | apply Kd.R_alloc | apply Kd.R_drewN | apply Kd.R_drew)); exact Kd.R_mono HO368.out (fun _ hk => hk.2)), (mK BK361.out), (mK BK362.out), (mB HB.out)⟩)
           ·skip
            refine box_step ?hg (N := 3) ?hd (cs := #[.slice none 0 0, .slice none 0 0]) (t := 38) ?hr ?_; (case hd => rfl); (case hg => rfl); (case hr => first | (go_simp; done) | (go_simp; rfl))
            intro gb369 hg w13 hbox hb
            have n0_ := z0 (Kd.R_below (mR HO368.out) hb)
            have n1_ := z0 (blk_below (g := gb361) (o := .cells #[.int .i64 a0_0, .slice A0_1 l0_1.length c0_1, .slice A0_2 l0_2.length c0_2] 31 (0, 0)) (mK BK361.out) hb)
            have n2_ := z0 (blk_below (g := gb362) (o := .cells #[.slice none 0 0, .slice none 0 0] 38 (0, 0)) (mK BK362.out) hb)
            have n3_ := z0 (below_step (mB HB.out) hb)
            have n4_ := z0 (hbox)
            have n5_ := z0 ((by rw [hg]; exact (below_size (mB HB.out)) : w.heap.size ≤ gb369))
            have n6_ := z0 ((by rw [hg]; exact (below_size (mB HB.out)) : w.heap.size ≤ gb369))
            have n7_ := z0 ((by rw [hg]; exact Nat.ne_of_lt (blk_lt (g := gb361) (o := .cells #[.int .i64 a0_0, .slice A0_1 l0_1.length c0_1, .slice A0_2 l0_2.length c0_2] 31 (0, 0)) (mK BK361.out)) : gb361 ≠ gb369))
            have n8_ := z0 ((by rw [hg]; exact Nat.ne_of_gt (blk_lt (g := gb361) (o := .cells #[.int .i64 a0_0, .slice A0_1 l0_1.length c0_1, .slice A0_2 l0_2.length c0_2] 31 (0, 0)) (mK BK361.out)) : gb369 ≠ gb361))
            have n9_ := z0 ((by rw [hg]; exact Nat.ne_of_lt (blk_lt (g := gb362) (o := .cells #[.slice none 0 0, .slice none 0 0] 38 (0, 0)) (mK BK362.out)) : gb362 ≠ gb369))
            have n10_ := z0 ((by rw [hg]; exact Nat.ne_of_gt (blk_lt (g := gb362) (o := .cells #[.slice none 0 0, .slice none 0 0] 38 (0, 0)) (mK BK362.out)) : gb369 ≠ gb362))
            clear HO368 BK361 BK362 HB
            have HO368 := n0_
            have BK361 := n1_
            have BK362 := n2_
            have HB := n3_
            have BK369 := n4_
            have GW369 := n5_
            have GE369 := n6_
            have NB361_369 := n7_
            have NB369_361 := n8_
            have NB362_369 := n9_
            have NB369_362 := n10_
            clear n0_ n1_ n2_ n3_ n4_ n5_ n6_ n7_ n8_ n9_ n10_ hb hbox hg
            refine hK.out _ _ ⟨(blk_cell BK361.out 0).trans rfl, (blk_cell BK361.out 1).trans rfl, (blk_cell BK361.out 2).trans rfl⟩ (fun hHeld => ?_)
            clear hK K
            refine norm_ (a' := ?_) ?_ ?_
            rotate_left
            ·show Act.put _ (some 3) _ = _
             simp only [Act.put, List.setIfInBounds_toArray, List.set_cons_zero, List.set_cons_succ, i64_w, i32_w]
             rfl
            exact norm_ (by first | (simp only [putAll, Act.put, List.setIfInBounds_toArray, List.set_cons_zero, List.set_cons_succ]; done) | (simp only [putAll, Act.put, List.setIfInBounds_toArray, List.set_cons_zero, List.set_cons_succ]; rfl)) (hJ3_5 (v367, gb369) _ ⟨hHeld, (mR HO368.out), (mK BK361.out), (mK BK362.out), (mK BK369.out), GW369.out, GE369.out, NB361_369.out, NB369_361.out, NB362_369.out, NB369_362.out, (mB HB.out)⟩)
         ·skip
          rintro v364 w12 ⟨hS_, h0_, h1_, h2_, h3_⟩
          have n0_ : Aside0 (Kd.R Kd.bool 4 w12 w.heap.size (fun _ => True) v364 y363) := ⟨h0_⟩
          have n1_ : Aside0 (w12.heap[gb361]? = some (.cells #[.int .i64 a0_0, .slice A0_1 l0_1.length c0_1, .slice A0_2 l0_2.length c0_2] 31 (0, 0))) := ⟨h1_⟩
          have n2_ : Aside0 (w12.heap[gb362]? = some (.cells #[.slice none 0 0, .slice none 0 0] 38 (0, 0))) := ⟨h2_⟩
          have n3_ : Aside0 (Below w.heap.size w w12) := ⟨h3_⟩
          clear BK361 BK362 HB h0_ h1_ h2_ h3_
          have HO365 := n0_
          have BK361 := n1_
          have BK362 := n2_
          have HB := n3_
          clear n0_ n1_ n2_ n3_
          have hHeld : w12.cell? ⟨gb361, 0, none⟩ = some (.int .i64 a0_0) ∧ w12.cell? ⟨gb361, 1, none⟩ = some (.slice A0_1 l0_1.length c0_1) ∧ w12.cell? ⟨gb361, 2, none⟩ = some (.slice A0_2 l0_2.length c0_2) := hS_
          refine norm_ (a' := ?_) ?_ ?_
          rotate_left
          ·simp only [putAll, Act.put, List.setIfInBounds_toArray, List.set_cons_zero, List.set_cons_succ]
           rfl
          refine two_ (i := 3) (j := 5) (Ni := some 7) (Nj := some 3) #[true, true, true, true, false, false, false] #[true, true, true, false, false, true, false] rfl rfl rfl rfl (by kernel_rfl) (by decide) (by decide) (fun K hK => ?_) (fun K hK => ?_)
          ·skip
           refine Kd.R_make_step Kd.bool _ 4 (by rfl) (N := 7) rfl 36 _ _ rfl 6 rfl rfl Try.underlying36 (.bool false) 1 info4 rfl (by decide) (by omega) false (ok := fun _ => True) (okp := fun _ => True) rfl (fun _ hk => hk) trivial (by omega) (by omega) (Below.refl _ _) (Nat.le_refl _) ?_
           intro v367 w13 ho14 hb hg_ hnew_
           clear hg_ hnew_
           (first | rw [← Ny366.out] at ho14 | (simp only [Int.reduceToNat] at ho14; rw [← Ny366.out] at ho14))
           have n0_ := z0 (Kd.R_elder' (mR HO365.out) (by first | exact Kd.R_base ho14 | exact Kd.R_base ho14) hb)
           have n1_ := z0 (Kd.R_lower (Kd.R_new' ho14 (Kd.R_lt (mR HO365.out))) (below_size (mB HB.out)))
           have n2_ := z0 (blk_below (g := gb361) (o := .cells #[.int .i64 a0_0, .slice A0_1 l0_1.length c0_1, .slice A0_2 l0_2.length c0_2] 31 (0, 0)) (mK BK361.out) hb)
           have n3_ := z0 (blk_below (g := gb362) (o := .cells #[.slice none 0 0, .slice none 0 0] 38 (0, 0)) (mK BK362.out) hb)
           have n4_ := z0 (below_step (mB HB.out) hb)
           clear HO365 BK361 BK362 HB
           have HO365 := n0_
           have HO368 := n1_
           have BK361 := n2_
           have BK362 := n3_
           have HB := n4_
           clear n0_ n1_ n2_ n3_ n4_ hb ho14
           obtain ⟨Ao15, co15, eo15⟩ := Kd.R_slice HO368.out
           (first | subst eo15 | (injection eo15 with f1_ f2_ f3_; have f4_ := f1_.symm; have f5_ := f3_.symm; clear f1_ f2_ f3_; subst f4_; subst f5_))
           obtain ⟨Ao16, co16, eo16⟩ := Kd.R_slice HO365.out
           (first | subst eo16 | (injection eo16 with f1_ f2_ f3_; have f4_ := f1_.symm; have f5_ := f3_.symm; clear f1_ f2_ f3_; subst f4_; subst f5_))
           refine hK.out _ _ ⟨(blk_cell BK361.out 0).trans rfl, (blk_cell BK361.out 1).trans rfl, (blk_cell BK361.out 2).trans rfl⟩ (fun hHeld => ?_)
           clear hK K
           refine norm_ (a' := ?_) ?_ ?_
           rotate_left
           ·show Act.put _ (some 7) _ = _
            simp only [Act.put, List.setIfInBounds_toArray, List.set_cons_zero, List.set_cons_succ, i64_w, i32_w]
            rfl
           refine pure_ (i := 4) (N := some 8) (v := ?_) (a' := ?_) #[true, true, true, true, true, false, false] rfl rfl (by kernel_rfl) (fun _ _ _ h => h) (Or.inl ⟨by rfl, ?_⟩) ?_ ?_
           rotate_left
           ·intro w'
            go_simp
            with_reducible rfl
           rotate_left
           ·simp only [Act.put, List.setIfInBounds_toArray, List.set_cons_zero, List.set_cons_succ, i64_w, i32_w]
            rfl
           exact norm_ (by first | (simp only [putAll, Act.put, List.setIfInBounds_toArray, List.set_cons_zero, List.set_cons_succ]; done) | (simp only [putAll, Act.put, List.setIfInBounds_toArray, List.set_cons_zero, List.set_cons_succ]; rfl)) (hJ2_3 (.slice Ao16 y363.length co16, .slice Ao15 y366.length co15) _ ⟨hHeld, (by (with_reducible repeat (first | apply Kd.R_alloc | apply Kd.R_drewN | apply Kd.R_drew)); exact Kd.R_mono HO365.out (fun _ hk => hk.2)), (by (with_reducible repeat (first | apply Kd.R_alloc | apply Kd.R_drewN | apply Kd.R_drew)); exact Kd.R_mono HO368.out (fun _ hk => hk.2)), (mK BK361.out), (mK BK362.out), (mB HB.out)⟩)
          ·skip
           refine box_step ?hg (N := 3) ?hd (cs := #[.slice none 0 0, .slice none 0 0]) (t := 38) ?hr ?_; (case hd => rfl); (case hg => rfl); (case hr => first | (go_simp; done) | (go_simp; rfl))
           intro gb369 hg w13 hbox hb
           have n0_ := z0 (Kd.R_below (mR HO365.out) hb)
           have n1_ := z0 (blk_below (g := gb361) (o := .cells #[.int .i64 a0_0, .slice A0_1 l0_1.length c0_1, .slice A0_2 l0_2.length c0_2] 31 (0, 0)) (mK BK361.out) hb)
           have n2_ := z0 (blk_below (g := gb362) (o := .cells #[.slice none 0 0, .slice none 0 0] 38 (0, 0)) (mK BK362.out) hb)
           have n3_ := z0 (below_step (mB HB.out) hb)
           have n4_ := z0 (hbox)
           have n5_ := z0 ((by rw [hg]; exact (below_size (mB HB.out)) : w.heap.size ≤ gb369))
           have n6_ := z0 ((by rw [hg]; exact (below_size (mB HB.out)) : w.heap.size ≤ gb369))
           have n7_ := z0 ((by rw [hg]; exact Nat.ne_of_lt (blk_lt (g := gb361) (o := .cells #[.int .i64 a0_0, .slice A0_1 l0_1.length c0_1, .slice A0_2 l0_2.length c0_2] 31 (0, 0)) (mK BK361.out)) : gb361 ≠ gb369))
           have n8_ := z0 ((by rw [hg]; exact Nat.ne_of_gt (blk_lt (g := gb361) (o := .cells #[.int .i64 a0_0, .slice A0_1 l0_1.length c0_1, .slice A0_2 l0_2.length c0_2] 31 (0, 0)) (mK BK361.out)) : gb369 ≠ gb361))
           have n9_ := z0 ((by rw [hg]; exact Nat.ne_of_lt (blk_lt (g := gb362) (o := .cells #[.slice none 0 0, .slice none 0 0] 38 (0, 0)) (mK BK362.out)) : gb362 ≠ gb369))
           have n10_ := z0 ((by rw [hg]; exact Nat.ne_of_gt (blk_lt (g := gb362) (o := .cells #[.slice none 0 0, .slice none 0 0] 38 (0, 0)) (mK BK362.out)) : gb369 ≠ gb362))
           clear HO365 BK361 BK362 HB
           have HO365 := n0_
           have BK361 := n1_
           have BK362 := n2_
           have HB := n3_
           have BK369 := n4_
           have GW369 := n5_
           have GE369 := n6_
           have NB361_369 := n7_
           have NB369_361 := n8_
           have NB362_369 := n9_
           have NB369_362 := n10_
           clear n0_ n1_ n2_ n3_ n4_ n5_ n6_ n7_ n8_ n9_ n10_ hb hbox hg
           refine hK.out _ _ ⟨(blk_cell BK361.out 0).trans rfl, (blk_cell BK361.out 1).trans rfl, (blk_cell BK361.out 2).trans rfl⟩ (fun hHeld => ?_)
           clear hK K
           refine norm_ (a' := ?_) ?_ ?_
           rotate_left
           ·show Act.put _ (some 3) _ = _
            simp only [Act.put, List.setIfInBounds_toArray, List.set_cons_zero, List.set_cons_succ, i64_w, i32_w]
            rfl
           exact norm_ (by first | (simp only [putAll, Act.put, List.setIfInBounds_toArray, List.set_cons_zero, List.set_cons_succ]; done) | (simp only [putAll, Act.put, List.setIfInBounds_toArray, List.set_cons_zero, List.set_cons_succ]; rfl)) (hJ2_5 (v364, gb369) _ ⟨hHeld, (mR HO365.out), (mK BK361.out), (mK BK362.out), (mK BK369.out), GW369.out, GE369.out, NB361_369.out, NB369_361.out, NB362_369.out, NB369_362.out, (mB HB.out)⟩)
        ·skip
         rintro ⟨v367, gb369⟩ w13 ⟨hS_, h0_, h1_, h2_, h3_, h4_, h5_, h6_, h7_, h8_, h9_, h10_⟩
         have n0_ : Aside0 (Kd.R Kd.bool 4 w13 w.heap.size (fun _ => True) v367 y366) := ⟨h0_⟩
         have n1_ : Aside0 (w13.heap[gb361]? = some (.cells #[.int .i64 a0_0, .slice A0_1 l0_1.length c0_1, .slice A0_2 l0_2.length c0_2] 31 (0, 0))) := ⟨h1_⟩
         have n2_ : Aside0 (w13.heap[gb362]? = some (.cells #[.slice none 0 0, .slice none 0 0] 38 (0, 0))) := ⟨h2_⟩
         have n3_ : Aside0 (w13.heap[gb369]? = some (.cells #[.slice none 0 0, .slice none 0 0] 38 (0, 0))) := ⟨h3_⟩
         have n4_ : Aside0 (w.heap.size ≤ gb369) := ⟨h4_⟩
         have n5_ : Aside0 (w.heap.size ≤ gb369) := ⟨h5_⟩
         have n6_ : Aside0 (gb361 ≠ gb369) := ⟨h6_⟩
         have n7_ : Aside0 (gb369 ≠ gb361) := ⟨h7_⟩
         have n8_ : Aside0 (gb362 ≠ gb369) := ⟨h8_⟩
         have n9_ : Aside0 (gb369 ≠ gb362) := ⟨h9_⟩
         have n10_ : Aside0 (Below w.heap.size w w13) := ⟨h10_⟩
         clear BK361 BK362 HB h0_ h1_ h2_ h3_ h4_ h5_ h6_ h7_ h8_ h9_ h10_
         have HO368 := n0_
         have BK361 := n1_
         have BK362 := n2_
         have BK369 := n3_
         have GW369 := n4_
         have GE369 := n5_
         have NB361_369 := n6_
         have NB369_361 := n7_
         have NB362_369 := n8_
         have NB369_362 := n9_
         have HB := n10_
         clear n0_ n1_ n2_ n3_ n4_ n5_ n6_ n7_ n8_ n9_ n10_
         have hHeld : w13.cell? ⟨gb361, 0, none⟩ = some (.int .i64 a0_0) ∧ w13.cell? ⟨gb361, 1, none⟩ = some (.slice A0_1 l0_1.length c0_1) ∧ w13.cell? ⟨gb361, 2, none⟩ = some (.slice A0_2 l0_2.length c0_2) := hS_
         refine norm_ (a' := ?_) ?_ ?_
         rotate_left
         ·simp only [putAll, Act.put, List.setIfInBounds_toArray, List.set_cons_zero, List.set_cons_succ]
          rfl
         refine one_ (i := 2) (N := some 6) #[true, true, true, true, false, true, false] rfl rfl (by kernel_rfl) (by decide) (fun K hK => ?_)
         refine Kd.R_make_step Kd.bool _ 4 (by rfl) (N := 6) rfl 36 _ _ rfl a0_0 rfl rfl Try.underlying36 (.bool false) 1 info4 rfl (by decide) (by omega) false (ok := fun _ => True) (okp := fun _ => True) rfl (fun _ hk => hk) trivial (of_decide_eq_true (by first | (with_reducible assumption) | assumption)) (Nat.le_trans (Nat.mul_le_mul_right _ (of_decide_eq_true (by first | (with_reducible assumption) | assumption) : a0_0.toNat ≤ 281474976710656)) (by omega)) (Below.refl _ _) (Nat.le_refl _) ?_
         intro v364 w14 ho15 hb hg_ hnew_
         clear hg_ hnew_
         (first | rw [← Ny363.out] at ho15 | (simp only [Int.reduceToNat] at ho15; rw [← Ny363.out] at ho15))
         have n0_ := z0 (Kd.R_elder' (mR HO368.out) (by first | exact Kd.R_base ho15 | exact Kd.R_base ho15) hb)
         have n1_ := z0 (Kd.R_lower (Kd.R_new' ho15 (Kd.R_lt (mR HO368.out))) (below_size (mB HB.out)))
         have n2_ := z0 (blk_below (g := gb361) (o := .cells #[.int .i64 a0_0, .slice A0_1 l0_1.length c0_1, .slice A0_2 l0_2.length c0_2] 31 (0, 0)) (mK BK361.out) hb)
         have n3_ := z0 (blk_below (g := gb362) (o := .cells #[.slice none 0 0, .slice none 0 0] 38 (0, 0)) (mK BK362.out) hb)
         have n4_ := z0 (blk_below (g := gb369) (o := .cells #[.slice none 0 0, .slice none 0 0] 38 (0, 0)) (mK BK369.out) hb)
         have n5_ := z0 (below_step (mB HB.out) hb)
         clear HO368 BK361 BK362 BK369 HB
         have HO368 := n0_
         have HO365 := n1_
         have BK361 := n2_
         have BK362 := n3_
         have BK369 := n4_
         have HB := n5_
         clear n0_ n1_ n2_ n3_ n4_ n5_ hb ho15
         obtain ⟨Ao16, co16, eo16⟩ := Kd.R_slice HO368.out
         (first | subst eo16 | (injection eo16 with f1_ f2_ f3_; have f4_ := f1_.symm; have f5_ := f3_.symm; clear f1_ f2_ f3_; subst f4_; subst f5_))
         obtain ⟨Ao17, co17, eo17⟩ := Kd.R_slice HO365.out
         (first | subst eo17 | (injection eo17 with f1_ f2_ f3_; have f4_ := f1_.symm; have f5_ := f3_.symm; clear f1_ f2_ f3_; subst f4_; subst f5_))
         refine hK.out _ _ ⟨(blk_cell BK361.out 0).trans rfl, (blk_cell BK361.out 1).trans rfl, (blk_cell BK361.out 2).trans rfl⟩ (fun hHeld => ?_)
         clear hK K
         refine norm_ (a' := ?_) ?_ ?_
         rotate_left
         ·show Act.put _ (some 6) _ = _
          simp only [Act.put, List.setIfInBounds_toArray, List.set_cons_zero, List.set_cons_succ, i64_w, i32_w]
          rfl
         refine pure_ (i := 4) (N := some 8) (v := ?_) (a' := ?_) #[true, true, true, true, true, true, false] rfl rfl (by kernel_rfl) (fun _ _ _ h => h) (Or.inl ⟨by rfl, ?_⟩) ?_ ?_
         rotate_left
         ·intro w'
          go_simp
          with_reducible rfl
         rotate_left
         ·simp only [Act.put, List.setIfInBounds_toArray, List.set_cons_zero, List.set_cons_succ, i64_w, i32_w]
          rfl
         exact norm_ (by first | (simp only [putAll, Act.put, List.setIfInBounds_toArray, List.set_cons_zero, List.set_cons_succ]; done) | (simp only [putAll, Act.put, List.setIfInBounds_toArray, List.set_cons_zero, List.set_cons_succ]; rfl)) (hJ2_3_5 (.slice Ao17 y363.length co17, .slice Ao16 y366.length co16, gb369) _ ⟨hHeld, (by (with_reducible repeat (first | apply Kd.R_alloc | apply Kd.R_drewN | apply Kd.R_drew)); exact Kd.R_mono HO365.out (fun _ hk => hk.2)), (by (with_reducible repeat (first | apply Kd.R_alloc | apply Kd.R_drewN | apply Kd.R_drew)); exact Kd.R_mono HO368.out (fun _ hk => hk.2)), (mK BK361.out), (mK BK362.out), (mK BK369.out), GW369.out, GE369.out, NB361_369.out, NB369_361.out, NB362_369.out, NB369_362.out, (mB HB.out)⟩)
       ·skip
        rintro ⟨v364, gb369⟩ w13 ⟨hS_, h0_, h1_, h2_, h3_, h4_, h5_, h6_, h7_, h8_, h9_, h10_⟩
        have n0_ : Aside0 (Kd.R Kd.bool 4 w13 w.heap.size (fun _ => True) v364 y363) := ⟨h0_⟩
        have n1_ : Aside0 (w13.heap[gb361]? = some (.cells #[.int .i64 a0_0, .slice A0_1 l0_1.length c0_1, .slice A0_2 l0_2.length c0_2] 31 (0, 0))) := ⟨h1_⟩
        have n2_ : Aside0 (w13.heap[gb362]? = some (.cells #[.slice none 0 0, .slice none 0 0] 38 (0, 0))) := ⟨h2_⟩
        have n3_ : Aside0 (w13.heap[gb369]? = some (.cells #[.slice none 0 0, .slice none 0 0] 38 (0, 0))) := ⟨h3_⟩
        have n4_ : Aside0 (w.heap.size ≤ gb369) := ⟨h4_⟩
        have n5_ : Aside0 (w.heap.size ≤ gb369) := ⟨h5_⟩
        have n6_ : Aside0 (gb361 ≠ gb369) := ⟨h6_⟩
        have n7_ : Aside0 (gb369 ≠ gb361) := ⟨h7_⟩
        have n8_ : Aside0 (gb362 ≠ gb369) := ⟨h8_⟩
        have n9_ : Aside0 (gb369 ≠ gb362) := ⟨h9_⟩
        have n10_ : Aside0 (Below w.heap.size w w13) := ⟨h10_⟩
        clear BK361 BK362 HB h0_ h1_ h2_ h3_ h4_ h5_ h6_ h7_ h8_ h9_ h10_
        have HO365 := n0_
        have BK361 := n1_
        have BK362 := n2_
        have BK369 := n3_
        have GW369 := n4_
        have GE369 := n5_
        have NB361_369 := n6_
        have NB369_361 := n7_
        have NB362_369 := n8_
        have NB369_362 := n9_
        have HB := n10_
        clear n0_ n1_ n2_ n3_ n4_ n5_ n6_ n7_ n8_ n9_ n10_
        have hHeld : w13.cell? ⟨gb361, 0, none⟩ = some (.int .i64 a0_0) ∧ w13.cell? ⟨gb361, 1, none⟩ = some (.slice A0_1 l0_1.length c0_1) ∧ w13.cell? ⟨gb361, 2, none⟩ = some (.slice A0_2 l0_2.length c0_2) := hS_
        refine norm_ (a' := ?_) ?_ ?_
        rotate_left
        ·simp only [putAll, Act.put, List.setIfInBounds_toArray, List.set_cons_zero, List.set_cons_succ]
         rfl
        refine one_ (i := 3) (N := some 7) #[true, true, true, true, false, true, false] rfl rfl (by kernel_rfl) (by decide) (fun K hK => ?_)
        refine Kd.R_make_step Kd.bool _ 4 (by rfl) (N := 7) rfl 36 _ _ rfl 6 rfl rfl Try.underlying36 (.bool false) 1 info4 rfl (by decide) (by omega) false (ok := fun _ => True) (okp := fun _ => True) rfl (fun _ hk => hk) trivial (by omega) (by omega) (Below.refl _ _) (Nat.le_refl _) ?_
        intro v367 w14 ho15 hb hg_ hnew_
        clear hg_ hnew_
        (first | rw [← Ny366.out] at ho15 | (simp only [Int.reduceToNat] at ho15; rw [← Ny366.out] at ho15))
        have n0_ := z0 (Kd.R_elder' (mR HO365.out) (by first | exact Kd.R_base ho15 | exact Kd.R_base ho15) hb)
        have n1_ := z0 (Kd.R_lower (Kd.R_new' ho15 (Kd.R_lt (mR HO365.out))) (below_size (mB HB.out)))
        have n2_ := z0 (blk_below (g := gb361) (o := .cells #[.int .i64 a0_0, .slice A0_1 l0_1.length c0_1, .slice A0_2 l0_2.length c0_2] 31 (0, 0)) (mK BK361.out) hb)
        have n3_ := z0 (blk_below (g := gb362) (o := .cells #[.slice none 0 0, .slice none 0 0] 38 (0, 0)) (mK BK362.out) hb)
        have n4_ := z0 (blk_below (g := gb369) (o := .cells #[.slice none 0 0, .slice none 0 0] 38 (0, 0)) (mK BK369.out) hb)
        have n5_ := z0 (below_step (mB HB.out) hb)
        clear HO365 BK361 BK362 BK369 HB
        have HO365 := n0_
        have HO368 := n1_
        have BK361 := n2_
        have BK362 := n3_
        have BK369 := n4_
        have HB := n5_
        clear n0_ n1_ n2_ n3_ n4_ n5_ hb ho15
        obtain ⟨Ao16, co16, eo16⟩ := Kd.R_slice HO368.out
        (first | subst eo16 | (injection eo16 with f1_ f2_ f3_; have f4_ := f1_.symm; have f5_ := f3_.symm; clear f1_ f2_ f3_; subst f4_; subst f5_))
        obtain ⟨Ao17, co17, eo17⟩ := Kd.R_slice HO365.out
        (first | subst eo17 | (injection eo17 with f1_ f2_ f3_; have f4_ := f1_.symm; have f5_ := f3_.symm; clear f1_ f2_ f3_; subst f4_; subst f5_))
        refine hK.out _ _ ⟨(blk_cell BK361.out 0).trans rfl, (blk_cell BK361.out 1).trans rfl, (blk_cell BK361.out 2).trans rfl⟩ (fun hHeld => ?_)
        clear hK K
        refine norm_ (a' := ?_) ?_ ?_
        rotate_left
        ·show Act.put _ (some 7) _ = _
         simp only [Act.put, List.setIfInBounds_toArray, List.set_cons_zero, List.set_cons_succ, i64_w, i32_w]
         rfl
        refine pure_ (i := 4) (N := some 8) (v := ?_) (a' := ?_) #[true, true, true, true, true, true, false] rfl rfl (by kernel_rfl) (fun _ _ _ h => h) (Or.inl ⟨by rfl, ?_⟩) ?_ ?_
        rotate_left
        ·intro w'
         go_simp
         with_reducible rfl
        rotate_left
        ·simp only [Act.put, List.setIfInBounds_toArray, List.set_cons_zero, List.set_cons_succ, i64_w, i32_w]
         rfl
        exact norm_ (by first | (simp only [putAll, Act.put, List.setIfInBounds_toArray, List.set_cons_zero, List.set_cons_succ]; done) | (simp only [putAll, Act.put, List.setIfInBounds_toArray, List.set_cons_zero, List.set_cons_succ]; rfl)) (hJ2_3_5 (.slice Ao17 y363.length co17, .slice Ao16 y366.length co16, gb369) _ ⟨hHeld, (by (with_reducible repeat (first | apply Kd.R_alloc | apply Kd.R_drewN | apply Kd.R_drew)); exact Kd.R_mono HO365.out (fun _ hk => hk.2)), (by (with_reducible repeat (first | apply Kd.R_alloc | apply Kd.R_drewN | apply Kd.R_drew)); exact Kd.R_mono HO368.out (fun _ hk => hk.2)), (mK BK361.out), (mK BK362.out), (mK BK369.out), GW369.out, GE369.out, NB361_369.out, NB369_361.out, NB362_369.out, NB369_362.out, (mB HB.out)⟩)
      ·skip
       rintro ⟨v364, v367⟩ w16 ⟨hS_, h0_, h1_, h2_, h3_, h4_⟩
       have n0_ : Aside0 (Kd.R Kd.bool 4 w16 w.heap.size (fun k_ => nB k_ v367) v364 y363) := ⟨h0_⟩
       have n1_ : Aside0 (Kd.R Kd.bool 4 w16 w.heap.size (fun k_ => nB k_ v364) v367 y366) := ⟨h1_⟩
       have n2_ : Aside0 (w16.heap[gb361]? = some (.cells #[.int .i64 a0_0, .slice A0_1 l0_1.length c0_1, .slice A0_2 l0_2.length c0_2] 31 (0, 0))) := ⟨h2_⟩
       have n3_ : Aside0 (w16.heap[gb362]? = some (.cells #[.slice none 0 0, .slice none 0 0] 38 (0, 0))) := ⟨h3_⟩
       have n4_ : Aside0 (Below w.heap.size w w16) := ⟨h4_⟩
       clear BK361 BK362 HB h0_ h1_ h2_ h3_ h4_
       have HO365 := n0_
       have HO368 := n1_
       have BK361 := n2_
       have BK362 := n3_
       have HB := n4_
       clear n0_ n1_ n2_ n3_ n4_
       have hHeld : w16.cell? ⟨gb361, 0, none⟩ = some (.int .i64 a0_0) ∧ w16.cell? ⟨gb361, 1, none⟩ = some (.slice A0_1 l0_1.length c0_1) ∧ w16.cell? ⟨gb361, 2, none⟩ = some (.slice A0_2 l0_2.length c0_2) := hS_
       obtain ⟨Ao17, co17, eo17⟩ := Kd.R_slice HO368.out
       (first | subst eo17 | (injection eo17 with f1_ f2_ f3_; have f4_ := f1_.symm; have f5_ := f3_.symm; clear f1_ f2_ f3_; subst f4_; subst f5_))
       obtain ⟨Ao18, co18, eo18⟩ := Kd.R_slice HO365.out
       (first | subst eo18 | (injection eo18 with f1_ f2_ f3_; have f4_ := f1_.symm; have f5_ := f3_.symm; clear f1_ f2_ f3_; subst f4_; subst f5_))
       refine norm_ (a' := ?_) ?_ ?_
       rotate_left
       ·simp only [putAll, Act.put, List.setIfInBounds_toArray, List.set_cons_zero, List.set_cons_succ]
        rfl
       refine one_ (i := 5) (N := some 3) #[true, true, true, true, true, true, false] rfl rfl (by kernel_rfl) (by decide) (fun K hK => ?_)
       refine box_step ?hg (N := 3) ?hd (cs := #[.slice none 0 0, .slice none 0 0]) (t := 38) ?hr ?_; (case hd => rfl); (case hg => rfl); (case hr => first | (go_simp; done) | (go_simp; rfl))
       intro gb369 hg w19 hbox hb
       have n0_ := z0 (Kd.R_below (mR HO365.out) hb)
       have n1_ := z0 (Kd.R_below (mR HO368.out) hb)
       have n2_ := z0 (blk_below (g := gb361) (o := .cells #[.int .i64 a0_0, .slice A0_1 l0_1.length c0_1, .slice A0_2 l0_2.length c0_2] 31 (0, 0)) (mK BK361.out) hb)
       have n3_ := z0 (blk_below (g := gb362) (o := .cells #[.slice none 0 0, .slice none 0 0] 38 (0, 0)) (mK BK362.out) hb)
       have n4_ := z0 (below_step (mB HB.out) hb)
       have n5_ := z0 (hbox)
       have n6_ := z0 ((by rw [hg]; exact (below_size (mB HB.out)) : w.heap.size ≤ gb369))
       have n7_ := z0 ((by rw [hg]; exact (below_size (mB HB.out)) : w.heap.size ≤ gb369))
       have n8_ := z0 ((by rw [hg]; exact Nat.ne_of_lt (blk_lt (g := gb361) (o := .cells #[.int .i64 a0_0, .slice A0_1 l0_1.length c0_1, .slice A0_2 l0_2.length c0_2] 31 (0, 0)) (mK BK361.out)) : gb361 ≠ gb369))
       have n9_ := z0 ((by rw [hg]; exact Nat.ne_of_gt (blk_lt (g := gb361) (o := .cells #[.int .i64 a0_0, .slice A0_1 l0_1.length c0_1, .slice A0_2 l0_2.length c0_2] 31 (0, 0)) (mK BK361.out)) : gb369 ≠ gb361))
       have n10_ := z0 ((by rw [hg]; exact Nat.ne_of_lt (blk_lt (g := gb362) (o := .cells #[.slice none 0 0, .slice none 0 0] 38 (0, 0)) (mK BK362.out)) : gb362 ≠ gb369))
       have n11_ := z0 ((by rw [hg]; exact Nat.ne_of_gt (blk_lt (g := gb362) (o := .cells #[.slice none 0 0, .slice none 0 0] 38 (0, 0)) (mK BK362.out)) : gb369 ≠ gb362))
       clear HO365 HO368 BK361 BK362 HB
       have HO365 := n0_
       have HO368 := n1_
       have BK361 := n2_
       have BK362 := n3_
       have HB := n4_
       have BK369 := n5_
       have GW369 := n6_
       have GE369 := n7_
       have NB361_369 := n8_
       have NB369_361 := n9_
       have NB362_369 := n10_
       have NB369_362 := n11_
       clear n0_ n1_ n2_ n3_ n4_ n5_ n6_ n7_ n8_ n9_ n10_ n11_ hb hbox hg
       refine hK.out _ _ ⟨(blk_cell BK361.out 0).trans rfl, (blk_cell BK361.out 1).trans rfl, (blk_cell BK361.out 2).trans rfl⟩ (fun hHeld => ?_)
       clear hK K
       refine norm_ (a' := ?_) ?_ ?_
       rotate_left
       ·show Act.put _ (some 3) _ = _
        simp only [Act.put, List.setIfInBounds_toArray, List.set_cons_zero, List.set_cons_succ, i64_w, i32_w]
        rfl
       exact norm_ (by first | (simp only [putAll, Act.put, List.setIfInBounds_toArray, List.set_cons_zero, List.set_cons_succ]; done) | (simp only [putAll, Act.put, List.setIfInBounds_toArray, List.set_cons_zero, List.set_cons_succ]; rfl)) (hJ2_3_5 (.slice Ao18 y363.length co18, .slice Ao17 y366.length co17, gb369) _ ⟨hHeld, (mR HO365.out), (mR HO368.out), (mK BK361.out), (mK BK362.out), (mK BK369.out), GW369.out, GE369.out, NB361_369.out, NB369_361.out, NB362_369.out, NB369_362.out, (mB HB.out)⟩)
     rintro ⟨v364, v367, gb369⟩ w17 ⟨hS_, h0_, h1_, h2_, h3_, h4_, h5_, h6_, h7_, h8_, h9_, h10_, h11_⟩
     have n0_ : Aside0 (Kd.R Kd.bool 4 w17 w.heap.size (fun k_ => nB k_ v367) v364 y363) := ⟨h0_⟩
     have n1_ : Aside0 (Kd.R Kd.bool 4 w17 w.heap.size (fun k_ => nB k_ v364) v367 y366) := ⟨h1_⟩
     have n2_ : Aside0 (w17.heap[gb361]? = some (.cells #[.int .i64 a0_0, .slice A0_1 l0_1.length c0_1, .slice A0_2 l0_2.length c0_2] 31 (0, 0))) := ⟨h2_⟩
     have n3_ : Aside0 (w17.heap[gb362]? = some (.cells #[.slice none 0 0, .slice none 0 0] 38 (0, 0))) := ⟨h3_⟩
     have n4_ : Aside0 (w17.heap[gb369]? = some (.cells #[.slice none 0 0, .slice none 0 0] 38 (0, 0))) := ⟨h4_⟩
     have n5_ : Aside0 (w.heap.size ≤ gb369) := ⟨h5_⟩
     have n6_ : Aside0 (w.heap.size ≤ gb369) := ⟨h6_⟩
     have n7_ : Aside0 (gb361 ≠ gb369) := ⟨h7_⟩
     have n8_ : Aside0 (gb369 ≠ gb361) := ⟨h8_⟩
     have n9_ : Aside0 (gb362 ≠ gb369) := ⟨h9_⟩
     have n10_ : Aside0 (gb369 ≠ gb362) := ⟨h10_⟩
     have n11_ : Aside0 (Below w.heap.size w w17) := ⟨h11_⟩
     clear BK361 BK362 HB h0_ h1_ h2_ h3_ h4_ h5_ h6_ h7_ h8_ h9_ h10_ h11_
     have HO365 := n0_
     have HO368 := n1_
     have BK361 := n2_
     have BK362 := n3_
     have BK369 := n4_
     have GW369 := n5_
     have GE369 := n6_
     have NB361_369 := n7_
     have NB369_361 := n8_
     have NB362_369 := n9_
     have NB369_362 := n10_
     have HB := n11_
     clear n0_ n1_ n2_ n3_ n4_ n5_ n6_ n7_ n8_ n9_ n10_ n11_
     have hHeld : w17.cell? ⟨gb361, 0, none⟩ = some (.int .i64 a0_0) ∧ w17.cell? ⟨gb361, 1, none⟩ = some (.slice A0_1 l0_1.length c0_1) ∧ w17.cell? ⟨gb361, 2, none⟩ = some (.slice A0_2 l0_2.length c0_2) := hS_
     obtain ⟨Ao18, co18, eo18⟩ := Kd.R_slice HO368.out
     (first | subst eo18 | (injection eo18 with f1_ f2_ f3_; have f4_ := f1_.symm; have f5_ := f3_.symm; clear f1_ f2_ f3_; subst f4_; subst f5_))
     obtain ⟨Ao19, co19, eo19⟩ := Kd.R_slice HO365.out
     (first | subst eo19 | (injection eo19 with f1_ f2_ f3_; have f4_ := f1_.symm; have f5_ := f3_.symm; clear f1_ f2_ f3_; subst f4_; subst f5_))
     refine norm_ (a' := ?_) ?_ ?_
     rotate_left
     ·simp only [putAll, Act.put, List.setIfInBounds_toArray, List.set_cons_zero, List.set_cons_succ]
      rfl
     refine one_ (i := 6) (N := none) #[true, true, true, true, true, true, true] rfl rfl (by kernel_rfl) (by decide) (fun K hK => ?_)
     have hs20 : w17.cell? ⟨gb369, 0, none⟩ = some (.slice none 0 0) := (blk_cell BK369.out 0).trans rfl
     have hfs20 := blk_frozen BK369.out 0
     have hns20_0 := NB361_369.out
     have hns20_1 := NB362_369.out
     have hms20_0 := NB369_361.out
     have hms20_1 := NB369_362.out
     have hs21 : w17.cell? ⟨gb369, 1, none⟩ = some (.slice none 0 0) := (blk_cell BK369.out 1).trans rfl
     have hfs21 := blk_frozen BK369.out 1
     have hns21_0 := NB361_369.out
     have hns21_1 := NB362_369.out
     have hms21_0 := NB369_361.out
     have hms21_1 := NB369_362.out
     refine skip_ (w1 := ?_) (by rfl) rfl ?_ ?_
     rotate_left
     ·go_simp
      rfl
     refine hK.out _ _ ⟨((cell_far (p := ⟨gb369, _, none⟩) NB361_369.out _).trans (((cell_far (p := ⟨gb369, _, none⟩) NB361_369.out _).trans (hHeld.1)))), ((cell_far (p := ⟨gb369, _, none⟩) NB361_369.out _).trans (((cell_far (p := ⟨gb369, _, none⟩) NB361_369.out _).trans (hHeld.2.1)))), ((cell_far (p := ⟨gb369, _, none⟩) NB361_369.out _).trans (((cell_far (p := ⟨gb369, _, none⟩) NB361_369.out _).trans (hHeld.2.2))))⟩ (fun hHeld => ?_)
     clear hK K
     refine done_ (by kernel_rfl) ?_
     have n0_ : Aside0 (Kd.R Kd.bool 4 ((w17.setCell ⟨gb369, 0, none⟩ (.slice Ao19 y363.length co19)).setCell ⟨gb369, 1, none⟩ (.slice Ao18 y366.length co18)) w.heap.size (fun k_ => nB k_ (.slice Ao18 y366.length co18)) (.slice Ao19 y363.length co19) y363) := ⟨by (with_reducible repeat (first | apply Kd.R_alloc | apply Kd.R_drewN | apply Kd.R_drew)); exact Kd.R_mono (Kd.R_far (p := ⟨gb369, 1, none⟩) (Kd.R_far (p := ⟨gb369, 0, none⟩) (Kd.R_types HO365.out BK369.out (by decide)) (fun _ hk => hk.2) (.slice Ao19 y363.length co19)) (fun _ hk => hk.2) (.slice Ao18 y366.length co18)) (fun _ hk => hk.1)⟩
     have n1_ : Aside0 (Kd.R Kd.bool 4 ((w17.setCell ⟨gb369, 0, none⟩ (.slice Ao19 y363.length co19)).setCell ⟨gb369, 1, none⟩ (.slice Ao18 y366.length co18)) w.heap.size (fun k_ => nB k_ (.slice Ao19 y363.length co19)) (.slice Ao18 y366.length co18) y366) := ⟨by (with_reducible repeat (first | apply Kd.R_alloc | apply Kd.R_drewN | apply Kd.R_drew)); exact Kd.R_mono (Kd.R_far (p := ⟨gb369, 1, none⟩) (Kd.R_far (p := ⟨gb369, 0, none⟩) (Kd.R_types HO368.out BK369.out (by decide)) (fun _ hk => hk.2) (.slice Ao19 y363.length co19)) (fun _ hk => hk.2) (.slice Ao18 y366.length co18)) (fun _ hk => hk.1)⟩
     have n2_ : Aside0 (((w17.setCell ⟨gb369, 0, none⟩ (.slice Ao19 y363.length co19)).setCell ⟨gb369, 1, none⟩ (.slice Ao18 y366.length co18)).heap[gb361]? = some (.cells #[.int .i64 a0_0, .slice A0_1 l0_1.length c0_1, .slice A0_2 l0_2.length c0_2] 31 (0, 0))) := ⟨by (with_reducible repeat (first | refine blk_drewN ?_ _ | refine blk_drew ?_ | refine blk_alloc ?_ _)); refine blk_far ?_ NB361_369.out _; (with_reducible repeat (first | refine blk_drewN ?_ _ | refine blk_drew ?_ | refine blk_alloc ?_ _)); refine blk_far ?_ NB361_369.out _; (with_reducible repeat (first | refine blk_drewN ?_ _ | refine blk_drew ?_ | refine blk_alloc ?_ _)); exact BK361.out⟩
     have n3_ : Aside0 (((w17.setCell ⟨gb369, 0, none⟩ (.slice Ao19 y363.length co19)).setCell ⟨gb369, 1, none⟩ (.slice Ao18 y366.length co18)).heap[gb362]? = some (.cells #[.slice none 0 0, .slice none 0 0] 38 (0, 0))) := ⟨by (with_reducible repeat (first | refine blk_drewN ?_ _ | refine blk_drew ?_ | refine blk_alloc ?_ _)); refine blk_far ?_ NB362_369.out _; (with_reducible repeat (first | refine blk_drewN ?_ _ | refine blk_drew ?_ | refine blk_alloc ?_ _)); refine blk_far ?_ NB362_369.out _; (with_reducible repeat (first | refine blk_drewN ?_ _ | refine blk_drew ?_ | refine blk_alloc ?_ _)); exact BK362.out⟩
     have n4_ : Aside0 (((w17.setCell ⟨gb369, 0, none⟩ (.slice Ao19 y363.length co19)).setCell ⟨gb369, 1, none⟩ (.slice Ao18 y366.length co18)).heap[gb369]? = some (.cells #[.slice Ao19 y363.length co19, .slice Ao18 y366.length co18] 38 (0, 0))) := ⟨by (with_reducible repeat (first | refine blk_drewN ?_ _ | refine blk_drew ?_ | refine blk_alloc ?_ _)); refine blk_put (cs := #[.slice Ao19 y363.length co19, .slice none 0 0]) ?_ 1 _ rfl; (with_reducible repeat (first | refine blk_drewN ?_ _ | refine blk_drew ?_ | refine blk_alloc ?_ _)); refine blk_put (cs := #[.slice none 0 0, .slice none 0 0]) ?_ 0 _ rfl; (with_reducible repeat (first | refine blk_drewN ?_ _ | refine blk_drew ?_ | refine blk_alloc ?_ _)); exact BK369.out⟩
     have n5_ : Aside0 (Below w.heap.size w ((w17.setCell ⟨gb369, 0, none⟩ (.slice Ao19 y363.length co19)).setCell ⟨gb369, 1, none⟩ (.slice Ao18 y366.length co18))) := ⟨mB HB.out⟩
     (try clear HO365)
     (try clear HO368)
     (try clear BK361)
     (try clear BK362)
     (try clear BK369)
     (try clear HB)
     generalize ((w17.setCell ⟨gb369, 0, none⟩ (.slice Ao19 y363.length co19)).setCell ⟨gb369, 1, none⟩ (.slice Ao18 y366.length co18)) = w22 at n0_ n1_ n2_ n3_ n4_ n5_ ⊢
     have HO365 := n0_
     have HO368 := n1_
     have BK361 := n2_
     have BK362 := n3_
     have BK369 := n4_
     have HB := n5_
     clear n0_ n1_ n2_ n3_ n4_ n5_
     have hnb23 := NB369_361.out
     have hnc23 := NB361_369.out
     have hnb24 := NB369_362.out
     have hnc24 := NB362_369.out
     obtain ⟨hcz25_0, hcz25_1, hfz25_0, hfz25_1⟩ := cel2 BK369.out
     have p6 : 0 ≤ (0 : Int) := (by omega)
     have q6 : (0 : Int) < ((y363.length : Int) : Int) := of_decide_eq_true (by first | (with_reducible assumption) | assumption)
     have qi6 : (0 < y363.length) = True := eq_true (by omega)
     obtain ⟨go6, co6, eo6, gb6, gl6, cl6, HG6⟩ := Kd.R_form HO365.out (by omega)
     (first | cases eo6 | (injection eo6 with ea_ en_ ec_; (first | subst ea_ | (injection ea_ with ea_; subst ea_)); subst ec_; clear en_))
     have GB6 := z0 gb6
     have GG6 := z0 HG6
     clear gb6 gl6 HG6
     obtain ⟨hx6_0, hf6_0⟩ := Kd.R_celln false HO365.out (0 : Int) p6 q6
     (try rw [show ((0 : Int)).toNat = 0 from rfl] at hx6_0)
     (try simp only [Nat.reduceMul, Nat.zero_mul, Nat.zero_add, Nat.reduceAdd] at hx6_0)
     (try rw [show ((0 : Int)).toNat = 0 from rfl] at hf6_0)
     (try simp only [Nat.reduceMul, Nat.zero_mul, Nat.zero_add, Nat.reduceAdd] at hf6_0)
     replace p6 := eq_true p6
     replace q6 := eq_true q6
     obtain ⟨hy26_, hz26_⟩ := Kd.R_celln false HO365.out (0 : Int) (by omega) (of_decide_eq_true (by first | (with_reducible assumption) | assumption))
     (try simp only [Int.reduceToNat, Int.toNat_zero, Int.toNat_ofNat, Nat.reduceMul, Nat.zero_mul, Nat.zero_add] at hy26_ hz26_)
     (try rw [show ((0 : Int)).toNat = 0 from rfl] at hy26_)
     (try rw [show ((0 : Int)).toNat = 0 from rfl] at hz26_)
     have HP26 := Kd.R_putg HO365.out (0 : Int) true
     try go_wp2_with (first | ((with_reducible refine gate_store (t := 4) (p := 11) rfl ?_); refine store_event (t := 4) (p := 11) (v := ?vo_w27) (w1 := (w22.setCell ⟨go6, (0 : Int).toNat, none⟩ (.bool true))) ?hg ?ho ?hn ?hr ?_; (case ho => rfl); (case hg => rfl); (case hn => rfl); (case hr => first | (go_simp; done) | (go_simp; rfl)); intro w27 hw; have hg : w22.grownBy w27 (some go6) := (by rw [hw]; exact HP26.2); have hp_ : Kd.R Kd.bool 4 w27 w.heap.size (fun k_ => nB k_ (.slice Ao18 y366.length co18)) (.slice (some ⟨go6, 0, none⟩) y363.length co19) y370 := (by rw [hw, Ny370.out]; exact HP26.1); clear HP26; have n0_ := z0 (blk_grown (g := gb361) (o := .cells #[.int .i64 a0_0, .slice A0_1 l0_1.length c0_1, .slice A0_2 l0_2.length c0_2] 31 (0, 0)) (mK BK361.out) hg (Kd.R_ne HO365.out BK361.out (by decide))); have n1_ := z0 (blk_grown (g := gb362) (o := .cells #[.slice none 0 0, .slice none 0 0] 38 (0, 0)) (mK BK362.out) hg (Kd.R_ne HO365.out BK362.out (by decide))); have n2_ := z0 (hp_); have n3_ := z0 (Kd.R_after (v := (.slice (some ⟨go6, 0, none⟩) y363.length co19)) (v1 := (.slice (some ⟨go6, 0, none⟩) y363.length co19)) (ok := (fun _ => True)) (by (with_reducible repeat (first | apply Kd.R_alloc | apply Kd.R_drewN | apply Kd.R_drew)); exact Kd.R_mono HO368.out (fun _ hk => ⟨trivial, hk⟩)) hg (.inl rfl)); have n4_ := z0 (blk_grown (g := gb369) (o := .cells #[.slice (some ⟨go6, 0, none⟩) y363.length co19, .slice Ao18 y366.length co18] 38 (0, 0)) (mK BK369.out) hg (Kd.R_ne HO365.out BK369.out (by decide))); have n5_ := z0 ((by rw [hw]; exact below_set (HB.out) GB6.out : Below w.heap.size w w27)); clear BK361; clear BK362; clear HO365; clear HO368; clear BK369; clear HB; have BK361 := n0_; have BK362 := n1_; have HO365 := n2_; have HO368 := n3_; have BK369 := n4_; have HB := n5_; clear n0_ n1_ n2_ n3_ n4_ n5_; clear hg hw hp_; obtain ⟨hcz28_0, hcz28_1, hfz28_0, hfz28_1⟩ := cel2 BK369.out; have hnb29 := NB362_361.out; have hnc29 := NB361_362.out; obtain ⟨hcz30_0, hcz30_1, hfz30_0, hfz30_1⟩ := cel2 BK362.out))
     refine bodyPost_ret (results_cell_row rfl _ _ gb362 38 #[.slice (some ⟨go6, 0, none⟩) y363.length co19, .slice Ao18 y366.length co18] (0, 0) _ rfl (by (with_reducible repeat (first | refine blk_drewN ?_ _ | refine blk_drew ?_ | refine blk_alloc ?_ _)); refine blk_put (cs := #[.slice (some ⟨go6, 0, none⟩) y363.length co19, .slice none 0 0]) ?_ 1 _ rfl; (with_reducible repeat (first | refine blk_drewN ?_ _ | refine blk_drew ?_ | refine blk_alloc ?_ _)); refine blk_put (cs := #[.slice none 0 0, .slice none 0 0]) ?_ 0 _ rfl; (with_reducible repeat (first | refine blk_drewN ?_ _ | refine blk_drew ?_ | refine blk_alloc ?_ _)); exact BK362.out) Try.underlying38 rfl (by kernel_rfl)) rfl ?_
     exact ⟨_, _, rfx, by (with_reducible repeat (first | apply Kd.R_alloc | apply Kd.R_drewN | apply Kd.R_drew)); exact Kd.R_mono (Kd.R_far (p := ⟨gb362, 1, none⟩) (Kd.R_far (p := ⟨gb362, 0, none⟩) (Kd.R_types HO365.out BK362.out (by decide)) (fun _ hk => hk.2) (.slice (some ⟨go6, 0, none⟩) y363.length co19)) (fun _ hk => hk.2) (.slice Ao18 y366.length co18)) (fun _ hk => hk.1), by (with_reducible repeat (first | apply Kd.R_alloc | apply Kd.R_drewN | apply Kd.R_drew)); exact Kd.R_mono (Kd.R_far (p := ⟨gb362, 1, none⟩) (Kd.R_far (p := ⟨gb362, 0, none⟩) (Kd.R_types HO368.out BK362.out (by decide)) (fun _ hk => hk.2) (.slice (some ⟨go6, 0, none⟩) y363.length co19)) (fun _ hk => hk.2) (.slice Ao18 y366.length co18)) (fun _ hk => hk.1.2), mB HB.out⟩
    ·rw [if_neg c5] at H
     exact absurd H (by simp)
   ·rw [if_neg c4] at H
    exact absurd H (by simp)
  ·rw [if_neg c3] at H
   exact absurd H (by simp)
 ·rw [if_neg c2] at H
  exact absurd H (by simp)

end Go.Proofs.Ytlmchfcfkfegaaa.B
namespace Go.Proofs.Ytlmchfcfkfegaaa.B
open Go.RowKit Go.Proofs.YtlmchfcfkfegaaaW.PrintWords Go.Proofs.YtlmchfcfkfegaaaW.PrintLast Go.Proofs.YtlmchfcfkfegaaaW.PrintMore
attribute [local go_sem] max2_int min2_int max_two min_two max_three min_three max_four min_four   -- for this text's walks alone
set_option linter.unusedVariables false
set_option linter.unusedSimpArgs false

/-! ### spec_ChartNew: function 15 -/
def spec_ChartNew.f (k : Nat) (a0_0 : Int) (l0_1 : List (S52)) (l0_2 : List (S92)) : Option (List Bool × List Bool) := (spec_ChartOk.f k a0_0 l0_1 l0_2).bind fun t373 => (if t373 = true then ((spec_l8New.f a0_0 l0_1 l0_2).bind fun bt374 => (some (bt374.1, bt374.2))) else (some (([] : List Bool), ([] : List Bool))))
set_option maxHeartbeats 8000000 in
set_option maxRecDepth 100000 in
theorem spec_ChartNew.calls (k : Nat) (a0_0 : Int) (A0_1 : Option Addr) (c0_1 : Nat) (l0_1 : List (S52)) (A0_2 : Option Addr) (c0_2 : Nat) (l0_2 : List (S92)) (r1 : List Bool) (r2 : List Bool) (w : World) (hr0_1 : Kd.C k52 w A0_1 l0_1.length l0_1) (hc0_1 : l0_1.length ≤ c0_1) (hr0_2 : Kd.C k92 w A0_2 l0_2.length l0_2) (hc0_2 : l0_2.length ≤ c0_2) (h : spec_ChartNew.f k a0_0 l0_1 l0_2 = some (r1, r2)) :
  Calls Try.prog 15 #[.agg #[.int .i64 a0_0, .slice A0_1 l0_1.length c0_1, .slice A0_2 l0_2.length c0_2]] w fun e w' => ∃ v0_ v1_ : Value, e = .returned (.agg #[v0_, v1_]) ∧ Kd.R Kd.bool 4 w' w.heap.size (fun k_ => nB k_ v1_) v0_ r1 ∧ Kd.R Kd.bool 4 w' w.heap.size (fun k_ => nB k_ v0_) v1_ r2 ∧ Below w.heap.size w w' := by
 have hu31 := Try.underlying31
 have hu38 := Try.underlying38
 have HR0_1 := z0 hr0_1
 have HC0_1 := z0 hc0_1
 clear hr0_1 hc0_1
 have HR0_2 := z0 hr0_2
 have HC0_2 := z0 hc0_2
 clear hr0_2 hc0_2
 have HB := z0 (Below.refl w.heap.size w)
 have H : ((spec_ChartOk.f k a0_0 l0_1 l0_2).bind fun t373 => (if t373 = true then ((spec_l8New.f a0_0 l0_1 l0_2).bind fun bt374 => (some (bt374.1, bt374.2))) else (some (([] : List Bool), ([] : List Bool))))) = some (r1, r2) := h
 clear h
 replace H := Option.bind_eq_some_iff.mp H
 obtain ⟨t373, A20, H⟩ := H
 replace H : (if t373 = true then ((spec_l8New.f a0_0 l0_1 l0_2).bind fun bt374 => (some (bt374.1, bt374.2))) else (some (([] : List Bool), ([] : List Bool)))) = some (r1, r2) := H
 have A2 := z0 A20
 clear A20
 have HF3 := z0 H
 clear H
 go_enter Try.func15, Try.ntmps15
 go_upto_if 5 with (first | ((with_reducible refine gate_dst (N := 1) rfl ?_); refine box_event ?hg (N := 1) ?hd (cs := #[.int .i64 a0_0, .slice A0_1 l0_1.length c0_1, .slice A0_2 l0_2.length c0_2]) (t := 31) ?hr ?_; (case hd => rfl); (case hg => rfl); (case hr => first | (go_simp; done) | (go_simp; rfl)); intro gb371 hg w4 hbox hb; have n0_ := z0 (below_step (mB HB.out) hb); have n1_ := z0 (hbox); have n2_ := z0 ((by rw [hg]; exact (below_size (mB HB.out)) : w.heap.size ≤ gb371)); have n3_ := z0 ((by rw [hg]; exact (below_size (mB HB.out)) : w.heap.size ≤ gb371)); clear HB; have HB := n0_; have BK371 := n1_; have GW371 := n2_; have GE371 := n3_; clear n0_ n1_ n2_ n3_; clear hb hbox hg) | ((with_reducible refine gate_dst (N := 2) rfl ?_); refine box_event ?hg (N := 2) ?hd (cs := #[.slice none 0 0, .slice none 0 0]) (t := 38) ?hr ?_; (case hd => rfl); (case hg => rfl); (case hr => first | (go_simp; done) | (go_simp; rfl)); intro gb372 hg w5 hbox hb; have n0_ := z0 (blk_below (g := gb371) (o := .cells #[.int .i64 a0_0, .slice A0_1 l0_1.length c0_1, .slice A0_2 l0_2.length c0_2] 31 (0, 0)) (mK BK371.out) hb); have n1_ := z0 (below_step (mB HB.out) hb); have n2_ := z0 (hbox); have n3_ := z0 ((by rw [hg]; exact (below_size (mB HB.out)) : w.heap.size ≤ gb372)); have n4_ := z0 ((by rw [hg]; exact (below_size (mB HB.out)) : w.heap.size ≤ gb372)); have n5_ := z0 ((by rw [hg]; exact Nat.ne_of_lt (blk_lt (g := gb371) (o := .cells #[.int .i64 a0_0, .slice A0_1 l0_1.length c0_1, .slice A0_2 l0_2.length c0_2] 31 (0, 0)) (mK BK371.out)) : gb371 ≠ gb372)); have n6_ := z0 ((by rw [hg]; exact Nat.ne_of_gt (blk_lt (g := gb371) (o := .cells #[.int .i64 a0_0, .slice A0_1 l0_1.length c0_1, .slice A0_2 l0_2.length c0_2] 31 (0, 0)) (mK BK371.out)) : gb372 ≠ gb371)); clear BK371; clear HB; have BK371 := n0_; have HB := n1_; have BK372 := n2_; have GW372 := n3_; have GE372 := n4_; have NB371_372 := n5_; have NB372_371 := n6_; clear n0_ n1_ n2_ n3_ n4_ n5_ n6_; clear hb hbox hg; have hnb6 := NB371_372.out; have hnc6 := NB372_371.out; obtain ⟨hcz7_0, hcz7_1, hcz7_2, hfz7_0, hfz7_1, hfz7_2⟩ := cel3 BK371.out) | ((with_reducible refine gate_callee (f := 13) rfl ?_); refine goesL_ (some 4) rfl rfl Try.func13 (by kernel_rfl) rfl #[.agg #[.int .i64 a0_0, .slice A0_1 l0_1.length c0_1, .slice A0_2 l0_2.length c0_2]] rfl argx ?_; (with_reducible refine (spec_ChartOk.calls k a0_0 _ _ l0_1 _ _ l0_2 t373 _ ?side1 ?side2 ?side3 ?side4 A2.out).mono ?_); (case side1 => exact mC (Kd.C_below HR0_1.out HB.out)); (case side2 => exact HC0_1.out); (case side3 => exact mC (Kd.C_below HR0_2.out HB.out)); (case side4 => exact HC0_2.out); rintro e w8 ⟨rfl, hb⟩; refine ⟨_, rfl, ?_⟩; have n0_ := z0 (blk_below (g := gb371) (o := .cells #[.int .i64 a0_0, .slice A0_1 l0_1.length c0_1, .slice A0_2 l0_2.length c0_2] 31 (0, 0)) (mK BK371.out) hb); have n1_ := z0 (blk_below (g := gb372) (o := .cells #[.slice none 0 0, .slice none 0 0] 38 (0, 0)) (mK BK372.out) hb); have n2_ := z0 (below_step (mB HB.out) hb); clear BK371; clear BK372; clear HB; have BK371 := n0_; have BK372 := n1_; have HB := n2_; clear n0_ n1_ n2_; (try clear hb); (try clear hb2); (try clear hk); (try clear hi)))
 (try simp only [Act.put, List.setIfInBounds_toArray, List.set_cons_zero, List.set_cons_succ])
 have H := HF3.out
 clear HF3
 (try clear c1); (try clear c6); (try clear hcz7_0); (try clear hcz7_1); (try clear hcz7_2); (try clear hfz7_0); (try clear hfz7_1); (try clear hfz7_2)
 by_cases c9 : t373 = true
 ·subst c9
  have H1 : ((spec_l8New.f a0_0 l0_1 l0_2).bind fun bt374 => (some (bt374.1, bt374.2))) = some (r1, r2) := by rw [if_pos rfl] at H; exact H
  clear H
  have H := H1
  clear H1
  replace H := Option.bind_eq_some_iff.mp H
  obtain ⟨⟨t374, t377⟩, A100, H⟩ := H
  replace H : (some (t374, t377)) = some (r1, r2) := H
  have A10 := z0 A100
  clear A100
  simp only [Option.some.injEq, Prod.mk.injEq] at H
  obtain ⟨rfl, rfl⟩ := H
  have hnb11 := NB371_372.out
  have hnc11 := NB372_371.out
  obtain ⟨hcz12_0, hcz12_1, hcz12_2, hfz12_0, hfz12_1, hfz12_2⟩ := cel3 BK371.out
  go_wp2_with (first | ((with_reducible refine gate_callee (f := 48) rfl ?_); refine goesL_ (some 8) rfl rfl Try.func48 (by kernel_rfl) rfl #[.agg #[.int .i64 a0_0, .slice A0_1 l0_1.length c0_1, .slice A0_2 l0_2.length c0_2]] rfl argx ?_; (with_reducible refine (spec_l8New.calls a0_0 _ _ l0_1 _ _ l0_2 t374 t377 _ ?side1 ?side2 ?side3 ?side4 A10.out).mono ?_); (case side1 => exact mC (Kd.C_below HR0_1.out HB.out)); (case side2 => exact HC0_1.out); (case side3 => exact mC (Kd.C_below HR0_2.out HB.out)); (case side4 => exact HC0_2.out); rintro e w13 ⟨v375, v378, rfl, ho0, ho1, hb⟩; refine ⟨_, rfl, ?_⟩; have n0_ := z0 (Kd.R_lower ho0 (below_size (mB HB.out))); have n1_ := z0 (Kd.R_lower ho1 (below_size (mB HB.out))); have n2_ := z0 (blk_below (g := gb371) (o := .cells #[.int .i64 a0_0, .slice A0_1 l0_1.length c0_1, .slice A0_2 l0_2.length c0_2] 31 (0, 0)) (mK BK371.out) hb); have n3_ := z0 (blk_below (g := gb372) (o := .cells #[.slice none 0 0, .slice none 0 0] 38 (0, 0)) (mK BK372.out) hb); have n4_ := z0 (below_step (mB HB.out) hb); clear BK371; clear BK372; clear HB; have HO376 := n0_; have HO379 := n1_; have BK371 := n2_; have BK372 := n3_; have HB := n4_; clear n0_ n1_ n2_ n3_ n4_; (try clear hb); (try clear hb2); (try clear hk); (try clear hi); (try clear ho0); (try clear ho1); obtain ⟨Ao14, co14, eo14⟩ := Kd.R_slice HO376.out; subst eo14; obtain ⟨hcz15_0, hcz15_1, hfz15_0, hfz15_1⟩ := cel2 BK372.out; obtain ⟨Ao16, co16, eo16⟩ := Kd.R_slice HO379.out; subst eo16))
  refine bodyPost_ret (results_cell_row rfl _ _ gb372 38 #[.slice Ao14 t374.length co14, .slice Ao16 t377.length co16] (0, 0) _ rfl (by (with_reducible repeat (first | refine blk_drewN ?_ _ | refine blk_drew ?_ | refine blk_alloc ?_ _)); refine blk_put (cs := #[.slice Ao14 t374.length co14, .slice none 0 0]) ?_ 1 _ rfl; (with_reducible repeat (first | refine blk_drewN ?_ _ | refine blk_drew ?_ | refine blk_alloc ?_ _)); refine blk_put (cs := #[.slice none 0 0, .slice none 0 0]) ?_ 0 _ rfl; (with_reducible repeat (first | refine blk_drewN ?_ _ | refine blk_drew ?_ | refine blk_alloc ?_ _)); exact BK372.out) Try.underlying38 rfl (by kernel_rfl)) rfl ?_
  exact ⟨_, _, rfx, by (with_reducible repeat (first | apply Kd.R_alloc | apply Kd.R_drewN | apply Kd.R_drew)); exact Kd.R_mono (Kd.R_far (p := ⟨gb372, 1, none⟩) (Kd.R_far (p := ⟨gb372, 0, none⟩) (Kd.R_types HO376.out BK372.out (by decide)) (fun _ hk => hk.2) (.slice Ao14 t374.length co14)) (fun _ hk => hk.2) (.slice Ao16 t377.length co16)) (fun _ hk => hk.1), by (with_reducible repeat (first | apply Kd.R_alloc | apply Kd.R_drewN | apply Kd.R_drew)); exact Kd.R_mono (Kd.R_far (p := ⟨gb372, 1, none⟩) (Kd.R_far (p := ⟨gb372, 0, none⟩) (Kd.R_types HO379.out BK372.out (by decide)) (fun _ hk => hk.2) (.slice Ao14 t374.length co14)) (fun _ hk => hk.2) (.slice Ao16 t377.length co16)) (fun _ hk => hk.1), mB HB.out⟩
 ·replace c9 := Bool.eq_false_iff.mpr c9
  subst c9
  have H1 : (some (([] : List Bool), ([] : List Bool))) = some (r1, r2) := by rw [if_neg (show ¬ (false = true) by decide)] at H; exact H
  clear H
  have H := H1
  clear H1
  simp only [Option.some.injEq, Prod.mk.injEq] at H
  obtain ⟨rfl, rfl⟩ := H
  have hnb17 := NB372_371.out
  have hnc17 := NB371_372.out
  obtain ⟨hcz18_0, hcz18_1, hfz18_0, hfz18_1⟩ := cel2 BK372.out
  go_wp2
  refine bodyPost_ret (results_cell_row rfl _ _ gb372 38 #[.slice none 0 0, .slice none 0 0] (0, 0) _ rfl (by (with_reducible repeat (first | refine blk_drewN ?_ _ | refine blk_drew ?_ | refine blk_alloc ?_ _)); refine blk_put (cs := #[.slice none 0 0, .slice none 0 0]) ?_ 1 _ rfl; (with_reducible repeat (first | refine blk_drewN ?_ _ | refine blk_drew ?_ | refine blk_alloc ?_ _)); refine blk_put (cs := #[.slice none 0 0, .slice none 0 0]) ?_ 0 _ rfl; (with_reducible repeat (first | refine blk_drewN ?_ _ | refine blk_drew ?_ | refine blk_alloc ?_ _)); exact BK372.out) Try.underlying38 rfl (by kernel_rfl)) rfl ?_
  exact ⟨_, _, rfx, by first | exact Kd.R_nil _ _ _ _ _ | exact Kd.N_nil _ _ _ _ _ | exact Kd.V_nil _ _ _ _ _ | exact Kd.Q_nil _ _ _ _ _ | exact Kd.S_nil _ _ _ _ _, by first | exact Kd.R_nil _ _ _ _ _ | exact Kd.N_nil _ _ _ _ _ | exact Kd.V_nil _ _ _ _ _ | exact Kd.Q_nil _ _ _ _ _ | exact Kd.S_nil _ _ _ _ _, mB HB.out⟩

end Go.Proofs.Ytlmchfcfkfegaaa.B
namespace Go.Proofs.Ytlmchfcfkfegaaa.B
open Go.RowKit Go.Proofs.YtlmchfcfkfegaaaW.PrintWords Go.Proofs.YtlmchfcfkfegaaaW.PrintLast Go.Proofs.YtlmchfcfkfegaaaW.PrintMore
attribute [local go_sem] max2_int min2_int max_two min_two max_three min_three max_four min_four   -- for this text's walks alone
set_option linter.unusedVariables false
set_option linter.unusedSimpArgs false

/-! ### impl_newMarks: function 49 -/
def impl_newMarks.f (a0_0 : Int) (l0_1 : List (S52)) (l0_2 : List (S92)) : Option (List Bool × List Bool) := if 0 ≤ a0_0 then (if (a0_0 : Int).toNat ≤ 281474976710656 then ((some (List.replicate (a0_0 : Int).toNat false : List Bool)).bind fun y382 => (if 6 ≤ 281474976710656 then (if 0 < (y382.length : Int) then (some ((y382.set (0 : Int).toNat true), (List.replicate 6 false))) else (none)) else (none))) else (none)) else (none)
set_option maxHeartbeats 8000000 in
set_option maxRecDepth 100000 in
theorem impl_newMarks.calls (a0_0 : Int) (A0_1 : Option Addr) (c0_1 : Nat) (l0_1 : List (S52)) (A0_2 : Option Addr) (c0_2 : Nat) (l0_2 : List (S92)) (r1 : List Bool) (r2 : List Bool) (w : World) (hr0_1 : Kd.C k52 w A0_1 l0_1.length l0_1) (hc0_1 : l0_1.length ≤ c0_1) (hr0_2 : Kd.C k92 w A0_2 l0_2.length l0_2) (hc0_2 : l0_2.length ≤ c0_2) (h : impl_newMarks.f a0_0 l0_1 l0_2 = some (r1, r2)) :
  Calls Try.prog 49 #[.agg #[.int .i64 a0_0, .slice A0_1 l0_1.length c0_1, .slice A0_2 l0_2.length c0_2]] w fun e w' => ∃ v0_ v1_ : Value, e = .returned (.agg #[v0_, v1_]) ∧ Kd.R Kd.bool 4 w' w.heap.size (fun k_ => nB k_ v1_) v0_ r1 ∧ Kd.R Kd.bool 4 w' w.heap.size (fun k_ => nB k_ v0_) v1_ r2 ∧ Below w.heap.size w w' := by
 have hu31 := Try.underlying31
 have hu38 := Try.underlying38
 have HR0_1 := z0 hr0_1
 have HC0_1 := z0 hc0_1
 clear hr0_1 hc0_1
 have HR0_2 := z0 hr0_2
 have HC0_2 := z0 hc0_2
 clear hr0_2 hc0_2
 have HB := z0 (Below.refl w.heap.size w)
 have H : (if 0 ≤ a0_0 then (if (a0_0 : Int).toNat ≤ 281474976710656 then ((some (List.replicate (a0_0 : Int).toNat false : List Bool)).bind fun y382 => (if 6 ≤ 281474976710656 then (if 0 < (y382.length : Int) then (some ((y382.set (0 : Int).toNat true), (List.replicate 6 false))) else (none)) else (none))) else (none)) else (none)) = some (r1, r2) := h
 clear h
 by_cases c2 : 0 ≤ a0_0
 ·rw [if_pos c2] at H
  have c2b0 := eq_true c2
  have c2b1 : decide (0 ≤ a0_0) = true := decide_eq_true c2
  clear c2
  by_cases c3 : (a0_0 : Int).toNat ≤ 281474976710656
  ·rw [if_pos c3] at H
   have c3b0 := eq_true c3
   have c3b1 : decide ((a0_0 : Int).toNat ≤ 281474976710656) = true := decide_eq_true c3
   clear c3
   obtain ⟨y382, hy382⟩ : ∃ y_ : List Bool, y_ = (List.replicate (a0_0 : Int).toNat false) := ⟨_, rfl⟩
   replace H : (if 6 ≤ 281474976710656 then (if 0 < (y382.length : Int) then (some ((y382.set (0 : Int).toNat true), (List.replicate 6 false))) else (none)) else (none)) = some (r1, r2) := by first | (rw [hy382]; with_reducible exact H) | (have H2_ := (Option.bind_some _ _).symm.trans H; rw [hy382]; with_reducible exact H2_) | (have H2_ := (Option.bind_some _ _).symm.trans H; with_reducible exact H2_) | with_reducible exact H | (rw [hy382]; exact H) | exact H
   have Ny382 := z0 hy382
   clear hy382
   by_cases c4 : 6 ≤ 281474976710656
   ·rw [if_pos c4] at H
    have c4b0 := eq_true c4
    have c4b1 : decide (6 ≤ 281474976710656) = true := decide_eq_true c4
    clear c4
    obtain ⟨y385, hy385⟩ : ∃ y_ : List Bool, y_ = (List.replicate 6 false) := ⟨_, rfl⟩
    replace H : (if 0 < (y382.length : Int) then (some ((y382.set (0 : Int).toNat true), y385)) else (none)) = some (r1, r2) := by first | (rw [hy385]; with_reducible exact H) | (have H2_ := (Option.bind_some _ _).symm.trans H; rw [hy385]; with_reducible exact H2_) | (have H2_ := (Option.bind_some _ _).symm.trans H; with_reducible exact H2_) | with_reducible exact H | (rw [hy385]; exact H) | exact H
    have Ny385 := z0 hy385
    clear hy385
    by_cases c5 : 0 < (y382.length : Int)
    ·rw [if_pos c5] at H
     have c5b0 : decide (0 < (y382.length : Int)) = true := decide_eq_true c5
     have c5b1 : decide (0 < y382.length) = true := decide_eq_true (by omega)
     clear c5
     obtain ⟨y389, hy389⟩ : ∃ y_ : List Bool, y_ = (y382.set (0 : Int).toNat true) := ⟨_, rfl⟩
     replace H : (some (y389, y385)) = some (r1, r2) := by first | (rw [hy389]; with_reducible exact H) | (have H2_ := (Option.bind_some _ _).symm.trans H; rw [hy389]; with_reducible exact H2_) | (have H2_ := (Option.bind_some _ _).symm.trans H; with_reducible exact H2_) | with_reducible exact H | (rw [hy389]; exact H) | exact H
     have Ny389 := z0 hy389
     clear hy389
     simp only [Option.some.injEq, Prod.mk.injEq] at H
     obtain ⟨rfl, rfl⟩ := H
     go_enter Try.func49, Try.ntmps49
     try go_wp2_with (first | ((with_reducible refine gate_dst (N := 1) rfl ?_); refine box_event ?hg (N := 1) ?hd (cs := #[.int .i64 a0_0, .slice A0_1 l0_1.length c0_1, .slice A0_2 l0_2.length c0_2]) (t := 31) ?hr ?_; (case hd => rfl); (case hg => rfl); (case hr => first | (go_simp; done) | (go_simp; rfl)); intro gb380 hg w7 hbox hb; have n0_ := z0 (below_step (mB HB.out) hb); have n1_ := z0 (hbox); have n2_ := z0 ((by rw [hg]; exact (below_size (mB HB.out)) : w.heap.size ≤ gb380)); have n3_ := z0 ((by rw [hg]; exact (below_size (mB HB.out)) : w.heap.size ≤ gb380)); clear HB; have HB := n0_; have BK380 := n1_; have GW380 := n2_; have GE380 := n3_; clear n0_ n1_ n2_ n3_; clear hb hbox hg) | ((with_reducible refine gate_dst (N := 2) rfl ?_); refine box_event ?hg (N := 2) ?hd (cs := #[.slice none 0 0, .slice none 0 0]) (t := 38) ?hr ?_; (case hd => rfl); (case hg => rfl); (case hr => first | (go_simp; done) | (go_simp; rfl)); intro gb381 hg w8 hbox hb; have n0_ := z0 (blk_below (g := gb380) (o := .cells #[.int .i64 a0_0, .slice A0_1 l0_1.length c0_1, .slice A0_2 l0_2.length c0_2] 31 (0, 0)) (mK BK380.out) hb); have n1_ := z0 (below_step (mB HB.out) hb); have n2_ := z0 (hbox); have n3_ := z0 ((by rw [hg]; exact (below_size (mB HB.out)) : w.heap.size ≤ gb381)); have n4_ := z0 ((by rw [hg]; exact (below_size (mB HB.out)) : w.heap.size ≤ gb381)); have n5_ := z0 ((by rw [hg]; exact Nat.ne_of_lt (blk_lt (g := gb380) (o := .cells #[.int .i64 a0_0, .slice A0_1 l0_1.length c0_1, .slice A0_2 l0_2.length c0_2] 31 (0, 0)) (mK BK380.out)) : gb380 ≠ gb381)); have n6_ := z0 ((by rw [hg]; exact Nat.ne_of_gt (blk_lt (g := gb380) (o := .cells #[.int .i64 a0_0, .slice A0_1 l0_1.length c0_1, .slice A0_2 l0_2.length c0_2] 31 (0, 0)) (mK BK380.out)) : gb381 ≠ gb380)); clear BK380; clear HB; have BK380 := n0_; have HB := n1_; have BK381 := n2_; have GW381 := n3_; have GE381 := n4_; have NB380_381 := n5_; have NB381_380 := n6_; clear n0_ n1_ n2_ n3_ n4_ n5_ n6_; clear hb hbox hg))
     have n0_ := z0 (blk_drew BK380.out)
     have n1_ := z0 (blk_drew BK381.out)
     have n2_ := z0 (below_drew1 HB.out)
     clear BK380 BK381 HB
     have BK380 := n0_
     have BK381 := n1_
     have HB := n2_
     clear n0_ n1_ n2_
     refine start_ (n := 7) (S := fun w' => w'.cell? ⟨gb380, 0, none⟩ = some (.int .i64 a0_0) ∧ w'.cell? ⟨gb380, 1, none⟩ = some (.slice A0_1 l0_1.length c0_1) ∧ w'.cell? ⟨gb380, 2, none⟩ = some (.slice A0_2 l0_2.length c0_2)) (ds := []) #[false, false, false, false, false, false, false] (by kernel_rfl) rfl rfl ⟨(blk_cell BK380.out 0).trans rfl, (blk_cell BK380.out 1).trans rfl, (blk_cell BK380.out 2).trans rfl⟩ (fun hHeld => ?_)
     generalize w8.drew = w9 at BK380 BK381 HB hHeld ⊢
     refine pure_ (i := 0) (N := some 4) (v := ?_) (a' := ?_) #[true, false, false, false, false, false, false] rfl rfl (by kernel_rfl) (fun _ _ _ h => h) (Or.inl ⟨by rfl, ?_⟩) ?_ ?_
     rotate_left
     ·intro w'
      go_simp
      with_reducible rfl
     rotate_left
     ·simp only [Act.put, List.setIfInBounds_toArray, List.set_cons_zero, List.set_cons_succ, i64_w, i32_w]
      rfl
     refine take_ (i := 1) (N := some 5) (v := ?_) (a' := ?_) #[true, true, false, false, false, false, false] rfl rfl (by kernel_rfl) (fun _ _ _ h => h) (Or.inl ⟨by rfl, ?_⟩) hHeld ?_ ?_
     rotate_left
     ·rintro w' ⟨s0, s1, s2⟩
      go_simp
      with_reducible rfl
     rotate_left
     ·simp only [Act.put, List.setIfInBounds_toArray, List.set_cons_zero, List.set_cons_succ, i64_w, i32_w]
      rfl
     refine join_ (σ := Value × Value × Nat) 1 #[true, true, true, true, true, true, false] (fun s_ => [(6, s_.1), (7, s_.2.1), (3, .pointer (some ⟨s_.2.2, 0, none⟩)), (8, .agg #[s_.1, s_.2.1])]) (fun s_ w' => (w'.cell? ⟨gb380, 0, none⟩ = some (.int .i64 a0_0) ∧ w'.cell? ⟨gb380, 1, none⟩ = some (.slice A0_1 l0_1.length c0_1) ∧ w'.cell? ⟨gb380, 2, none⟩ = some (.slice A0_2 l0_2.length c0_2)) ∧ (Kd.R Kd.bool 4 w' w.heap.size (fun k_ => some k_ ≠ (s_.2.1 : Value).ownBlock) s_.1 y382) ∧ (Kd.R Kd.bool 4 w' w.heap.size (fun k_ => some k_ ≠ (s_.1 : Value).ownBlock) s_.2.1 y385) ∧ (w'.heap[gb380]? = some (.cells #[.int .i64 a0_0, .slice A0_1 l0_1.length c0_1, .slice A0_2 l0_2.length c0_2] 31 (0, 0))) ∧ (w'.heap[gb381]? = some (.cells #[.slice none 0 0, .slice none 0 0] 38 (0, 0))) ∧ (w'.heap[s_.2.2]? = some (.cells #[.slice none 0 0, .slice none 0 0] 38 (0, 0))) ∧ (w.heap.size ≤ s_.2.2) ∧ (w.heap.size ≤ s_.2.2) ∧ (gb380 ≠ s_.2.2) ∧ (s_.2.2 ≠ gb380) ∧ (gb381 ≠ s_.2.2) ∧ (s_.2.2 ≠ gb381) ∧ (Below w.heap.size w w')) ?_ ?_
     rotate_left
     ·intro hJ2_3_5
      refine join_ (σ := Value × Value) 2 #[true, true, true, true, true, false, false] (fun s_ => [(6, s_.1), (7, s_.2), (8, .agg #[s_.1, s_.2])]) (fun s_ w' => (w'.cell? ⟨gb380, 0, none⟩ = some (.int .i64 a0_0) ∧ w'.cell? ⟨gb380, 1, none⟩ = some (.slice A0_1 l0_1.length c0_1) ∧ w'.cell? ⟨gb380, 2, none⟩ = some (.slice A0_2 l0_2.length c0_2)) ∧ (Kd.R Kd.bool 4 w' w.heap.size (fun k_ => some k_ ≠ (s_.2 : Value).ownBlock) s_.1 y382) ∧ (Kd.R Kd.bool 4 w' w.heap.size (fun k_ => some k_ ≠ (s_.1 : Value).ownBlock) s_.2 y385) ∧ (w'.heap[gb380]? = some (.cells #[.int .i64 a0_0, .slice A0_1 l0_1.length c0_1, .slice A0_2 l0_2.length c0_2] 31 (0, 0))) ∧ (w'.heap[gb381]? = some (.cells #[.slice none 0 0, .slice none 0 0] 38 (0, 0))) ∧ (Below w.heap.size w w')) ?_ ?_
      rotate_left
      ·intro hJ2_3
       refine join_ (σ := Value × Nat) 3 #[true, true, true, false, false, true, false] (fun s_ => [(6, s_.1), (3, .pointer (some ⟨s_.2, 0, none⟩))]) (fun s_ w' => (w'.cell? ⟨gb380, 0, none⟩ = some (.int .i64 a0_0) ∧ w'.cell? ⟨gb380, 1, none⟩ = some (.slice A0_1 l0_1.length c0_1) ∧ w'.cell? ⟨gb380, 2, none⟩ = some (.slice A0_2 l0_2.length c0_2)) ∧ (Kd.R Kd.bool 4 w' w.heap.size (fun _ => True) s_.1 y382) ∧ (w'.heap[gb380]? = some (.cells #[.int .i64 a0_0, .slice A0_1 l0_1.length c0_1, .slice A0_2 l0_2.length c0_2] 31 (0, 0))) ∧ (w'.heap[gb381]? = some (.cells #[.slice none 0 0, .slice none 0 0] 38 (0, 0))) ∧ (w'.heap[s_.2]? = some (.cells #[.slice none 0 0, .slice none 0 0] 38 (0, 0))) ∧ (w.heap.size ≤ s_.2) ∧ (w.heap.size ≤ s_.2) ∧ (gb380 ≠ s_.2) ∧ (s_.2 ≠ gb380) ∧ (gb381 ≠ s_.2) ∧ (s_.2 ≠ gb381) ∧ (Below w.heap.size w w')) ?_ ?_
       rotate_left
       ·intro hJ2_5
        refine join_ (σ := Value × Nat) 3 #[true, true, false, true, false, true, false] (fun s_ => [(7, s_.1), (3, .pointer (some ⟨s_.2, 0, none⟩))]) (fun s_ w' => (w'.cell? ⟨gb380, 0, none⟩ = some (.int .i64 a0_0) ∧ w'.cell? ⟨gb380, 1, none⟩ = some (.slice A0_1 l0_1.length c0_1) ∧ w'.cell? ⟨gb380, 2, none⟩ = some (.slice A0_2 l0_2.length c0_2)) ∧ (Kd.R Kd.bool 4 w' w.heap.size (fun _ => True) s_.1 y385) ∧ (w'.heap[gb380]? = some (.cells #[.int .i64 a0_0, .slice A0_1 l0_1.length c0_1, .slice A0_2 l0_2.length c0_2] 31 (0, 0))) ∧ (w'.heap[gb381]? = some (.cells #[.slice none 0 0, .slice none 0 0] 38 (0, 0))) ∧ (w'.heap[s_.2]? = some (.cells #[.slice none 0 0, .slice none 0 0] 38 (0, 0))) ∧ (w.heap.size ≤ s_.2) ∧ (w.heap.size ≤ s_.2) ∧ (gb380 ≠ s_.2) ∧ (s_.2 ≠ gb380) ∧ (gb381 ≠ s_.2) ∧ (s_.2 ≠ gb381) ∧ (Below w.heap.size w w')) ?_ ?_
        rotate_left
        ·intro hJ3_5
         refine join_ (σ := Value) 4 #[true, true, true, false, false, false, false] (fun s_ => [(6, s_)]) (fun s_ w' => (w'.cell? ⟨gb380, 0, none⟩ = some (.int .i64 a0_0) ∧ w'.cell? ⟨gb380, 1, none⟩ = some (.slice A0_1 l0_1.length c0_1) ∧ w'.cell? ⟨gb380, 2, none⟩ = some (.slice A0_2 l0_2.length c0_2)) ∧ (Kd.R Kd.bool 4 w' w.heap.size (fun _ => True) s_ y382) ∧ (w'.heap[gb380]? = some (.cells #[.int .i64 a0_0, .slice A0_1 l0_1.length c0_1, .slice A0_2 l0_2.length c0_2] 31 (0, 0))) ∧ (w'.heap[gb381]? = some (.cells #[.slice none 0 0, .slice none 0 0] 38 (0, 0))) ∧ (Below w.heap.size w w')) ?_ ?_
         rotate_left
         ·intro hJ2
          refine join_ (σ := Value) 4 #[true, true, false, true, false, false, false] (fun s_ => [(7, s_)]) (fun s_ w' => (w'.cell? ⟨gb380, 0, none⟩ = some (.int .i64 a0_0) ∧ w'.cell? ⟨gb380, 1, none⟩ = some (.slice A0_1 l0_1.length c0_1) ∧ w'.cell? ⟨gb380, 2, none⟩ = some (.slice A0_2 l0_2.length c0_2)) ∧ (Kd.R Kd.bool 4 w' w.heap.size (fun _ => True) s_ y385) ∧ (w'.heap[gb380]? = some (.cells #[.int .i64 a0_0, .slice A0_1 l0_1.length c0_1, .slice A0_2 l0_2.length c0_2] 31 (0, 0))) ∧ (w'.heap[gb381]? = some (.cells #[.slice none 0 0, .slice none 0 0] 38 (0, 0))) ∧ (Below w.heap.size w w')) ?_ ?_
          rotate_left
          ·intro hJ3
           refine join_ (σ := Nat) 4 #[true, true, false, false, false, true, false] (fun s_ => [(3, .pointer (some ⟨s_, 0, none⟩))]) (fun s_ w' => (w'.cell? ⟨gb380, 0, none⟩ = some (.int .i64 a0_0) ∧ w'.cell? ⟨gb380, 1, none⟩ = some (.slice A0_1 l0_1.length c0_1) ∧ w'.cell? ⟨gb380, 2, none⟩ = some (.slice A0_2 l0_2.length c0_2)) ∧ (w'.heap[gb380]? = some (.cells #[.int .i64 a0_0, .slice A0_1 l0_1.length c0_1, .slice A0_2 l0_2.length c0_2] 31 (0, 0))) ∧ (w'.heap[gb381]? = some (.cells #[.slice none 0 0, .slice none 0 0] 38 (0, 0))) ∧ (w'.heap[s_]? = some (.cells #[.slice none 0 0, .slice none 0 0] 38 (0, 0))) ∧ (w.heap.size ≤ s_) ∧ (w.heap.size ≤ s_) ∧ (gb380 ≠ s_) ∧ (s_ ≠ gb380) ∧ (gb381 ≠ s_) ∧ (s_ ≠ gb381) ∧ (Below w.heap.size w w')) ?_ ?_
           rotate_left
           ·intro hJ5
            refine three_ (i := 2) (j := 3) (k := 5) (Ni := some 6) (Nj := some 7) (Nk := some 3) #[true, true, true, false, false, false, false] #[true, true, false, true, false, false, false] #[true, true, false, false, false, true, false] rfl rfl rfl rfl rfl rfl (by kernel_rfl) (by decide) (by decide) (by decide) (fun K hK => ?_) (fun K hK => ?_) (fun K hK => ?_)
            ·skip
             refine Kd.R_make_step Kd.bool _ 4 (by rfl) (N := 6) rfl 36 _ _ rfl a0_0 rfl rfl Try.underlying36 (.bool false) 1 info4 rfl (by decide) (by omega) false (ok := fun _ => True) (okp := fun _ => True) rfl (fun _ hk => hk) trivial (of_decide_eq_true (by first | (with_reducible assumption) | assumption)) (Nat.le_trans (Nat.mul_le_mul_right _ (of_decide_eq_true (by first | (with_reducible assumption) | assumption) : a0_0.toNat ≤ 281474976710656)) (by omega)) (Below.refl _ _) (Nat.le_refl _) ?_
             intro v383 w10 ho11 hb hg_ hnew_
             clear hg_ hnew_
             (first | rw [← Ny382.out] at ho11 | (simp only [Int.reduceToNat] at ho11; rw [← Ny382.out] at ho11))
             have n0_ := z0 (Kd.R_lower ho11 (below_size (mB HB.out)))
             have n1_ := z0 (blk_below (g := gb380) (o := .cells #[.int .i64 a0_0, .slice A0_1 l0_1.length c0_1, .slice A0_2 l0_2.length c0_2] 31 (0, 0)) (mK BK380.out) hb)
             have n2_ := z0 (blk_below (g := gb381) (o := .cells #[.slice none 0 0, .slice none 0 0] 38 (0, 0)) (mK BK381.out) hb)
             have n3_ := z0 (below_step (mB HB.out) hb)
             clear BK380 BK381 HB
             have HO384 := n0_
             have BK380 := n1_
             have BK381 := n2_
             have HB := n3_
             clear n0_ n1_ n2_ n3_ hb ho11
             refine hK.out _ _ ⟨(blk_cell BK380.out 0).trans rfl, (blk_cell BK380.out 1).trans rfl, (blk_cell BK380.out 2).trans rfl⟩ (fun hHeld => ?_)
             clear hK K
             refine norm_ (a' := ?_) ?_ ?_
             rotate_left
             ·show Act.put _ (some 6) _ = _
              simp only [Act.put, List.setIfInBounds_toArray, List.set_cons_zero, List.set_cons_succ, i64_w, i32_w]
              rfl
             exact norm_ (by first | (simp only [putAll, Act.put, List.setIfInBounds_toArray, List.set_cons_zero, List.set_cons_succ]; done) | (simp only [putAll, Act.put, List.setIfInBounds_toArray, List.set_cons_zero, List.set_cons_succ]; rfl)) (hJ2 (v383) _ ⟨hHeld, (mR HO384.out), (mK BK380.out), (mK BK381.out), (mB HB.out)⟩)
            ·skip
             refine Kd.R_make_step Kd.bool _ 4 (by rfl) (N := 7) rfl 36 _ _ rfl 6 rfl rfl Try.underlying36 (.bool false) 1 info4 rfl (by decide) (by omega) false (ok := fun _ => True) (okp := fun _ => True) rfl (fun _ hk => hk) trivial (by omega) (by omega) (Below.refl _ _) (Nat.le_refl _) ?_
             intro v386 w10 ho11 hb hg_ hnew_
             clear hg_ hnew_
             (first | rw [← Ny385.out] at ho11 | (simp only [Int.reduceToNat] at ho11; rw [← Ny385.out] at ho11))
             have n0_ := z0 (Kd.R_lower ho11 (below_size (mB HB.out)))
             have n1_ := z0 (blk_below (g := gb380) (o := .cells #[.int .i64 a0_0, .slice A0_1 l0_1.length c0_1, .slice A0_2 l0_2.length c0_2] 31 (0, 0)) (mK BK380.out) hb)
             have n2_ := z0 (blk_below (g := gb381) (o := .cells #[.slice none 0 0, .slice none 0 0] 38 (0, 0)) (mK BK381.out) hb)
             have n3_ := z0 (below_step (mB HB.out) hb)
             clear BK380 BK381 HB
             have HO387 := n0_
             have BK380 := n1_
             have BK381 := n2_
             have HB := n3_
             clear n0_ n1_ n2_ n3_ hb ho11
             refine hK.out _ _ ⟨(blk_cell BK380.out 0).trans rfl, (blk_cell BK380.out 1).trans rfl, (blk_cell BK380.out 2).trans rfl⟩ (fun hHeld => ?_)
             clear hK K
             refine norm_ (a' := ?_) ?_ ?_
             rotate_left
             ·show Act.put _ (some 7) _ = _
              simp only [Act.put, List.setIfInBounds_toArray, List.set_cons_zero, List.set_cons_succ, i64_w, i32_w]
              rfl
             exact norm_ (by first | (simp only [putAll, Act.put, List.setIfInBounds_toArray, List.set_cons_zero, List.set_cons_succ]; done) | (simp only [putAll, Act.put, List.setIfInBounds_toArray, List.set_cons_zero, List.set_cons_succ]; rfl)) (hJ3 (v386) _ ⟨hHeld, (mR HO387.out), (mK BK380.out), (mK BK381.out), (mB HB.out)⟩)
            ·skip
             refine box_step ?hg (N := 3) ?hd (cs := #[.slice none 0 0, .slice none 0 0]) (t := 38) ?hr ?_; (case hd => rfl); (case hg => rfl); (case hr => first | (go_simp; done) | (go_simp; rfl))
             intro gb388 hg w10 hbox hb
             have n0_ := z0 (blk_below (g := gb380) (o := .cells #[.int .i64 a0_0, .slice A0_1 l0_1.length c0_1, .slice A0_2 l0_2.length c0_2] 31 (0, 0)) (mK BK380.out) hb)
             have n1_ := z0 (blk_below (g := gb381) (o := .cells #[.slice none 0 0, .slice none 0 0] 38 (0, 0)) (mK BK381.out) hb)
             have n2_ := z0 (below_step (mB HB.out) hb)
             have n3_ := z0 (hbox)
             have n4_ := z0 ((by rw [hg]; exact (below_size (mB HB.out)) : w.heap.size ≤ gb388))
             have n5_ := z0 ((by rw [hg]; exact (below_size (mB HB.out)) : w.heap.size ≤ gb388))
             have n6_ := z0 ((by rw [hg]; exact Nat.ne_of_lt (blk_lt (g := gb380) (o := .cells #[.int .i64 a0_0, .slice A0_1 l0_1.length c0_1, .slice A0_2 l0_2.length c0_2] 31 (0, 0)) (mK BK380.out)) : gb380 ≠ gb388))
             have n7_ := z0 ((by rw [hg]; exact Nat.ne_of_gt (blk_lt (g := gb380) (o := .cells #[.int .i64 a0_0, .slice A0_1 l0_1.length c0_1, .slice A0_2 l0_2.length c0_2] 31 (0, 0)) (mK BK380.out)) : gb388 ≠ gb380))
             have n8_ := z0 ((by rw [hg]; exact Nat.ne_of_lt (blk_lt (g := gb381) (o := .cells #[.slice none 0 0, .slice none 0 0] 38 (0, 0)) (mK BK381.out)) : gb381 ≠ gb388))
             have n9_ := z0 ((by rw [hg]; exact Nat.ne_of_gt (blk_lt (g := gb381) (o := .cells #[.slice none 0 0, .slice none 0 0] 38 (0, 0)) (mK BK381.out)) : gb388 ≠ gb381))
             clear BK380 BK381 HB
             have BK380 := n0_
             have BK381 := n1_
             have HB := n2_
             have BK388 := n3_
             have GW388 := n4_
             have GE388 := n5_
             have NB380_388 := n6_
             have NB388_380 := n7_
             have NB381_388 := n8_
             have NB388_381 := n9_
             clear n0_ n1_ n2_ n3_ n4_ n5_ n6_ n7_ n8_ n9_ hb hbox hg
             refine hK.out _ _ ⟨(blk_cell BK380.out 0).trans rfl, (blk_cell BK380.out 1).trans rfl, (blk_cell BK380.out 2).trans rfl⟩ (fun hHeld => ?_)
             clear hK K
             refine norm_ (a' := ?_) ?_ ?_
             rotate_left
             ·show Act.put _ (some 3) _ = _
              simp only [Act.put, List.setIfInBounds_toArray, List.set_cons_zero, List.set_cons_succ, i64_w, i32_w]
              rfl
             exact norm_ (by first | (simp only [putAll, Act.put, List.setIfInBounds_toArray, List.set_cons_zero, List.set_cons_succ]; done) | (simp only [putAll, Act.put, List.setIfInBounds_toArray, List.set_cons_zero, List.set_cons_succ]; rfl)) (hJ5 (gb388) _ ⟨hHeld, (mK BK380.out), (mK BK381.out), (mK BK388.out), GW388.out, GE388.out, NB380_388.out, NB388_380.out, NB381_388.out, NB388_381.out, (mB HB.out)⟩)
           ·skip
            rintro gb388 w11 ⟨hS_, h0_, h1_, h2_, h3_, h4_, h5_, h6_, h7_, h8_, h9_⟩
            have n0_ : Aside0 (w11.heap[gb380]? = some (.cells #[.int .i64 a0_0, .slice A0_1 l0_1.length c0_1, .slice A0_2 l0_2.length c0_2] 31 (0, 0))) := ⟨h0_⟩
            have n1_ : Aside0 (w11.heap[gb381]? = some (.cells #[.slice none 0 0, .slice none 0 0] 38 (0, 0))) := ⟨h1_⟩
            have n2_ : Aside0 (w11.heap[gb388]? = some (.cells #[.slice none 0 0, .slice none 0 0] 38 (0, 0))) := ⟨h2_⟩
            have n3_ : Aside0 (w.heap.size ≤ gb388) := ⟨h3_⟩
            have n4_ : Aside0 (w.heap.size ≤ gb388) := ⟨h4_⟩
            have n5_ : Aside0 (gb380 ≠ gb388) := ⟨h5_⟩
            have n6_ : Aside0 (gb388 ≠ gb380) := ⟨h6_⟩
            have n7_ : Aside0 (gb381 ≠ gb388) := ⟨h7_⟩
            have n8_ : Aside0 (gb388 ≠ gb381) := ⟨h8_⟩
            have n9_ : Aside0 (Below w.heap.size w w11) := ⟨h9_⟩
            clear BK380 BK381 HB h0_ h1_ h2_ h3_ h4_ h5_ h6_ h7_ h8_ h9_
            have BK380 := n0_
            have BK381 := n1_
            have BK388 := n2_
            have GW388 := n3_
            have GE388 := n4_
            have NB380_388 := n5_
            have NB388_380 := n6_
            have NB381_388 := n7_
            have NB388_381 := n8_
            have HB := n9_
            clear n0_ n1_ n2_ n3_ n4_ n5_ n6_ n7_ n8_ n9_
            have hHeld : w11.cell? ⟨gb380, 0, none⟩ = some (.int .i64 a0_0) ∧ w11.cell? ⟨gb380, 1, none⟩ = some (.slice A0_1 l0_1.length c0_1) ∧ w11.cell? ⟨gb380, 2, none⟩ = some (.slice A0_2 l0_2.length c0_2) := hS_
            refine norm_ (a' := ?_) ?_ ?_
            rotate_left
            ·simp only [putAll, Act.put, List.setIfInBounds_toArray, List.set_cons_zero, List.set_cons_succ]
             rfl
            refine two_ (i := 2) (j := 3) (Ni := some 6) (Nj := some 7) #[true, true, true, false, false, true, false] #[true, true, false, true, false, true, false] rfl rfl rfl rfl (by kernel_rfl) (by decide) (by decide) (fun K hK => ?_) (fun K hK => ?_)
            ·skip
             refine Kd.R_make_step Kd.bool _ 4 (by rfl) (N := 6) rfl 36 _ _ rfl a0_0 rfl rfl Try.underlying36 (.bool false) 1 info4 rfl (by decide) (by omega) false (ok := fun _ => True) (okp := fun _ => True) rfl (fun _ hk => hk) trivial (of_decide_eq_true (by first | (with_reducible assumption) | assumption)) (Nat.le_trans (Nat.mul_le_mul_right _ (of_decide_eq_true (by first | (with_reducible assumption) | assumption) : a0_0.toNat ≤ 281474976710656)) (by omega)) (Below.refl _ _) (Nat.le_refl _) ?_
             intro v383 w12 ho13 hb hg_ hnew_
             clear hg_ hnew_
             (first | rw [← Ny382.out] at ho13 | (simp only [Int.reduceToNat] at ho13; rw [← Ny382.out] at ho13))
             have n0_ := z0 (Kd.R_lower ho13 (below_size (mB HB.out)))
             have n1_ := z0 (blk_below (g := gb380) (o := .cells #[.int .i64 a0_0, .slice A0_1 l0_1.length c0_1, .slice A0_2 l0_2.length c0_2] 31 (0, 0)) (mK BK380.out) hb)
             have n2_ := z0 (blk_below (g := gb381) (o := .cells #[.slice none 0 0, .slice none 0 0] 38 (0, 0)) (mK BK381.out) hb)
             have n3_ := z0 (blk_below (g := gb388) (o := .cells #[.slice none 0 0, .slice none 0 0] 38 (0, 0)) (mK BK388.out) hb)
             have n4_ := z0 (below_step (mB HB.out) hb)
             clear BK380 BK381 BK388 HB
             have HO384 := n0_
             have BK380 := n1_
             have BK381 := n2_
             have BK388 := n3_
             have HB := n4_
             clear n0_ n1_ n2_ n3_ n4_ hb ho13
             refine hK.out _ _ ⟨(blk_cell BK380.out 0).trans rfl, (blk_cell BK380.out 1).trans rfl, (blk_cell BK380.out 2).trans rfl⟩ (fun hHeld => ?_)
             clear hK K
             refine norm_ (a' := ?_) ?_ ?_
             rotate_left
             ·show Act.put _ (some 6) _ = _
              simp only [Act.put, List.setIfInBounds_toArray, List.set_cons_zero, List.set_cons_succ, i64_w, i32_w]
              rfl
             exact norm_ (by first | (simp only [putAll, Act.put, List.setIfInBounds_toArray, List.set_cons_zero, List.set_cons_succ]; done) | (simp only [putAll, Act.put, List.setIfInBounds_toArray, List.set_cons_zero, List.set_cons_succ]; rfl)) (hJ2_5 (v383, gb388) _ ⟨hHeld, (mR HO384.out), (mK BK380.out), (mK BK381.out), (mK BK388.out), GW388.out, GE388.out, NB380_388.out, NB388_380.out, NB381_388.out, NB388_381.out, (mB HB.out)⟩)
            ·skip
             refine Kd.R_make_step Kd.bool _ 4 (by rfl) (N := 7) rfl 36 _ _ rfl 6 rfl rfl Try.underlying36 (.bool false) 1 info4 rfl (by decide) (by omega) false (ok := fun _ => True) (okp := fun _ => True) rfl (fun _ hk => hk) trivial (by omega) (by omega) (Below.refl _ _) (Nat.le_refl _) ?_
             intro v386 w12 ho13 hb hg_ hnew_
             clear hg_ hnew_
             (first | rw [← Ny385.out] at ho13 | (simp only [Int.reduceToNat] at ho13; rw [← Ny385.out] at ho13))
             have n0_ := z0 (Kd.R_lower ho13 (below_size (mB HB.out)))
             have n1_ := z0 (blk_below (g := gb380) (o := .cells #[.int .i64 a0_0, .slice A0_1 l0_1.length c0_1, .slice A0_2 l0_2.length c0_2] 31 (0, 0)) (mK BK380.out) hb)
             have n2_ := z0 (blk_below (g := gb381) (o := .cells #[.slice none 0 0, .slice none 0 0] 38 (0, 0)) (mK BK381.out) hb)
             have n3_ := z0 (blk_below (g := gb388) (o := .cells #[.slice none 0 0, .slice none 0 0] 38 (0, 0)) (mK BK388.out) hb)
             have n4_ := z0 (below_step (mB HB.out) hb)
             clear BK380 BK381 BK388 HB
             have HO387 := n0_
             have BK380 := n1_
             have BK381 := n2_
             have BK388 := n3_
             have HB := n4_
             clear n0_ n1_ n2_ n3_ n4_ hb ho13
             refine hK.out _ _ ⟨(blk_cell BK380.out 0).trans rfl, (blk_cell BK380.out 1).trans rfl, (blk_cell BK380.out 2).trans rfl⟩ (fun hHeld => ?_)
             clear hK K
             refine norm_ (a' := ?_) ?_ ?_
             rotate_left
             ·show Act.put _ (some 7) _ = _
              simp only [Act.put, List.setIfInBounds_toArray, List.set_cons_zero, List.set_cons_succ, i64_w, i32_w]
              rfl
             exact norm_ (by first | (simp only [putAll, Act.put, List.setIfInBounds_toArray, List.set_cons_zero, List.set_cons_succ]; done) | (simp only [putAll, Act.put, List.setIfInBounds_toArray, List.set_cons_zero, List.set_cons_succ]; rfl)) (hJ3_5 (v386, gb388) _ ⟨hHeld, (mR HO387.out), (mK BK380.out), (mK BK381.out), (mK BK388.out), GW388.out, GE388.out, NB380_388.out, NB388_380.out, NB381_388.out, NB388_381.out, (mB HB.out)⟩)
          ·skip
           rintro v386 w12 ⟨hS_, h0_, h1_, h2_, h3_⟩
           have n0_ : Aside0 (Kd.R Kd.bool 4 w12 w.heap.size (fun _ => True) v386 y385) := ⟨h0_⟩
           have n1_ : Aside0 (w12.heap[gb380]? = some (.cells #[.int .i64 a0_0, .slice A0_1 l0_1.length c0_1, .slice A0_2 l0_2.length c0_2] 31 (0, 0))) := ⟨h1_⟩
           have n2_ : Aside0 (w12.heap[gb381]? = some (.cells #[.slice none 0 0, .slice none 0 0] 38 (0, 0))) := ⟨h2_⟩
           have n3_ : Aside0 (Below w.heap.size w w12) := ⟨h3_⟩
           clear BK380 BK381 HB h0_ h1_ h2_ h3_
           have HO387 := n0_
           have BK380 := n1_
           have BK381 := n2_
           have HB := n3_
           clear n0_ n1_ n2_ n3_
           have hHeld : w12.cell? ⟨gb380, 0, none⟩ = some (.int .i64 a0_0) ∧ w12.cell? ⟨gb380, 1, none⟩ = some (.slice A0_1 l0_1.length c0_1) ∧ w12.cell? ⟨gb380, 2, none⟩ = some (.slice A0_2 l0_2.length c0_2) := hS_
           refine norm_ (a' := ?_) ?_ ?_
           rotate_left
           ·simp only [putAll, Act.put, List.setIfInBounds_toArray, List.set_cons_zero, List.set_cons_succ]
            rfl
           refine two_ (i := 2) (j := 5) (Ni := some 6) (Nj := some 3) #[true, true, true, true, false, false, false] #[true, true, false, true, false, true, false] rfl rfl rfl rfl (by kernel_rfl) (by decide) (by decide) (fun K hK => ?_) (fun K hK => ?_)
           ·skip
            refine Kd.R_make_step Kd.bool _ 4 (by rfl) (N := 6) rfl 36 _ _ rfl a0_0 rfl rfl Try.underlying36 (.bool false) 1 info4 rfl (by decide) (by omega) false (ok := fun _ => True) (okp := fun _ => True) rfl (fun _ hk => hk) trivial (of_decide_eq_true (by first | (with_reducible assumption) | assumption)) (Nat.le_trans (Nat.mul_le_mul_right _ (of_decide_eq_true (by first | (with_reducible assumption) | assumption) : a0_0.toNat ≤ 281474976710656)) (by omega)) (Below.refl _ _) (Nat.le_refl _) ?_
            intro v383 w13 ho14 hb hg_ hnew_
            clear hg_ hnew_
            (first | rw [← Ny382.out] at ho14 | (simp only [Int.reduceToNat] at ho14; rw [← Ny382.out] at ho14))
            have n0_ := z0 (Kd.R_elder' (mR HO387.out) (by first | exact Kd.R_base ho14 | exact Kd.R_base ho14) hb)
            have n1_ := z0 (Kd.R_lower (Kd.R_new' ho14 (Kd.R_lt (mR HO387.out))) (below_size (mB HB.out)))
            have n2_ := z0 (blk_below (g := gb380) (o := .cells #[.int .i64 a0_0, .slice A0_1 l0_1.length c0_1, .slice A0_2 l0_2.length c0_2] 31 (0, 0)) (mK BK380.out) hb)
            have n3_ := z0 (blk_below (g := gb381) (o := .cells #[.slice none 0 0, .slice none 0 0] 38 (0, 0)) (mK BK381.out) hb)
            have n4_ := z0 (below_step (mB HB.out) hb)
            clear HO387 BK380 BK381 HB
            have HO387 := n0_
            have HO384 := n1_
            have BK380 := n2_
            have BK381 := n3_
            have HB := n4_
            clear n0_ n1_ n2_ n3_ n4_ hb ho14
            obtain ⟨Ao15, co15, eo15⟩ := Kd.R_slice HO387.out
            (first | subst eo15 | (injection eo15 with f1_ f2_ f3_; have f4_ := f1_.symm; have f5_ := f3_.symm; clear f1_ f2_ f3_; subst f4_; subst f5_))
            obtain ⟨Ao16, co16, eo16⟩ := Kd.R_slice HO384.out
            (first | subst eo16 | (injection eo16 with f1_ f2_ f3_; have f4_ := f1_.symm; have f5_ := f3_.symm; clear f1_ f2_ f3_; subst f4_; subst f5_))
            refine hK.out _ _ ⟨(blk_cell BK380.out 0).trans rfl, (blk_cell BK380.out 1).trans rfl, (blk_cell BK380.out 2).trans rfl⟩ (fun hHeld => ?_)
            clear hK K
            refine norm_ (a' := ?_) ?_ ?_
            rotate_left
            ·show Act.put _ (some 6) _ = _
             simp only [Act.put, List.setIfInBounds_toArray, List.set_cons_zero, List.set_cons_succ, i64_w, i32_w]
             rfl
            refine pure_ (i := 4) (N := some 8) (v := ?_) (a' := ?_) #[true, true, true, true, true, false, false] rfl rfl (by kernel_rfl) (fun _ _ _ h => h) (Or.inl ⟨by rfl, ?_⟩) ?_ ?_
            rotate_left
            ·intro w'
             go_simp
             with_reducible rfl
            rotate_left
            ·simp only [Act.put, List.setIfInBounds_toArray, List.set_cons_zero, List.set_cons_succ, i64_w, i32_w]
             rfl
            exact norm_ (by first | (simp only [putAll, Act.put, List.setIfInBounds_toArray, List.set_cons_zero, List.set_cons_succ]; done) | (simp only [putAll, Act.put, List.setIfInBounds_toArray, List.set_cons_zero, List.set_cons_succ]; rfl)) (hJ2_3 (.slice Ao16 y382.length co16, .slice Ao15 y385.length co15) _ ⟨hHeld, (by (with_reducible repeat (first | apply Kd.R_alloc | apply Kd.R_drewN | apply Kd.R_drew)); exact Kd.R_mono HO384.out (fun _ hk => hk.2)), (by (with_reducible repeat (first | apply Kd.R_alloc | apply Kd.R_drewN | apply Kd.R_drew)); exact Kd.R_mono HO387.out (fun _ hk => hk.2)), (mK BK380.out), (mK BK381.out), (mB HB.out)⟩)
           ·skip
            refine box_step ?hg (N := 3) ?hd (cs := #[.slice none 0 0, .slice none 0 0]) (t := 38) ?hr ?_; (case hd => rfl); (case hg => rfl); (case hr => first | (go_simp; done) | (go_simp; rfl))
            intro gb388 hg w13 hbox hb
            have n0_ := z0 (Kd.R_below (mR HO387.out) hb)
            have n1_ := z0 (blk_below (g := gb380) (o := .cells #[.int .i64 a0_0, .slice A0_1 l0_1.length c0_1, .slice A0_2 l0_2.length c0_2] 31 (0, 0)) (mK BK380.out) hb)
            have n2_ := z0 (blk_below (g := gb381) (o := .cells #[.slice none 0 0, .slice none 0 0] 38 (0, 0)) (mK BK381.out) hb)
            have n3_ := z0 (below_step (mB HB.out) hb)
            have n4_ := z0 (hbox)
            have n5_ := z0 ((by rw [hg]; exact (below_size (mB HB.out)) : w.heap.size ≤ gb388))
            have n6_ := z0 ((by rw [hg]; exact (below_size (mB HB.out)) : w.heap.size ≤ gb388))
            have n7_ := z0 ((by rw [hg]; exact Nat.ne_of_lt (blk_lt (g := gb380) (o := .cells #[.int .i64 a0_0, .slice A0_1 l0_1.length c0_1, .slice A0_2 l0_2.length c0_2] 31 (0, 0)) (mK BK380.out)) : gb380 ≠ gb388))
            have n8_ := z0 ((by rw [hg]; exact Nat.ne_of_gt (blk_lt (g := gb380) (o := .cells #[.int .i64 a0_0, .slice A0_1 l0_1.length c0_1, .slice A0_2 l0_2.length c0_2] 31 (0, 0)) (mK BK380.out)) : gb388 ≠ gb380))
            have n9_ := z0 ((by rw [hg]; exact Nat.ne_of_lt (blk_lt (g := gb381) (o := .cells #[.slice none 0 0, .slice none 0 0] 38 (0, 0)) (mK BK381.out)) : gb381 ≠ gb388))
            have n10_ := z0 ((by rw [hg]; exact Nat.ne_of_gt (blk_lt (g := gb381) (o := .cells #[.slice none 0 0, .slice none 0 0] 38 (0, 0)) (mK BK381.out)) : gb388 ≠ gb381))
            clear HO387 BK380 BK381 HB
            have HO387 := n0_
            have BK380 := n1_
            have BK381 := n2_
            have HB := n3_
            have BK388 := n4_
            have GW388 := n5_
            have GE388 := n6_
            have NB380_388 := n7_
            have NB388_380 := n8_
            have NB381_388 := n9_
            have NB388_381 := n10_
            clear n0_ n1_ n2_ n3_ n4_ n5_ n6_ n7_ n8_ n9_ n10_ hb hbox hg
            refine hK.out _ _ ⟨(blk_cell BK380.out 0).trans rfl, (blk_cell BK380.out 1).trans rfl, (blk_cell BK380.out 2).trans rfl⟩ (fun hHeld => ?_)
            clear hK K
            refine norm_ (a' := ?_) ?_ ?_
            rotate_left
            ·show Act.put _ (some 3) _ = _
             simp only [Act.put, List.setIfInBounds_toArray, List.set_cons_zero, List.set_cons_succ, i64_w, i32_w]
             rfl
            exact norm_ (by first | (simp only [putAll, Act.put, List.setIfInBounds_toArray, List.set_cons_zero, List.set_cons_succ]; done) | (simp only [putAll, Act.put, List.setIfInBounds_toArray, List.set_cons_zero, List.set_cons_succ]; rfl)) (hJ3_5 (v386, gb388) _ ⟨hHeld, (mR HO387.out), (mK BK380.out), (mK BK381.out), (mK BK388.out), GW388.out, GE388.out, NB380_388.out, NB388_380.out, NB381_388.out, NB388_381.out, (mB HB.out)⟩)
         ·skip
          rintro v383 w12 ⟨hS_, h0_, h1_, h2_, h3_⟩
          have n0_ : Aside0 (Kd.R Kd.bool 4 w12 w.heap.size (fun _ => True) v383 y382) := ⟨h0_⟩
          have n1_ : Aside0 (w12.heap[gb380]? = some (.cells #[.int .i64 a0_0, .slice A0_1 l0_1.length c0_1, .slice A0_2 l0_2.length c0_2] 31 (0, 0))) := ⟨h1_⟩
          have n2_ : Aside0 (w12.heap[gb381]? = some (.cells #[.slice none 0 0, .slice none 0 0] 38 (0, 0))) := ⟨h2_⟩
          have n3_ : Aside0 (Below w.heap.size w w12) := ⟨h3_⟩
          clear BK380 BK381 HB h0_ h1_ h2_ h3_
          have HO384 := n0_
          have BK380 := n1_
          have BK381 := n2_
          have HB := n3_
          clear n0_ n1_ n2_ n3_
          have hHeld : w12.cell? ⟨gb380, 0, none⟩ = some (.int .i64 a0_0) ∧ w12.cell? ⟨gb380, 1, none⟩ = some (.slice A0_1 l0_1.length c0_1) ∧ w12.cell? ⟨gb380, 2, none⟩ = some (.slice A0_2 l0_2.length c0_2) := hS_
          refine norm_ (a' := ?_) ?_ ?_
          rotate_left
          ·simp only [putAll, Act.put, List.setIfInBounds_toArray, List.set_cons_zero, List.set_cons_succ]
           rfl
          refine two_ (i := 3) (j := 5) (Ni := some 7) (Nj := some 3) #[true, true, true, true, false, false, false] #[true, true, true, false, false, true, false] rfl rfl rfl rfl (by kernel_rfl) (by decide) (by decide) (fun K hK => ?_) (fun K hK => ?_)
          ·skip
           refine Kd.R_make_step Kd.bool _ 4 (by rfl) (N := 7) rfl 36 _ _ rfl 6 rfl rfl Try.underlying36 (.bool false) 1 info4 rfl (by decide) (by omega) false (ok := fun _ => True) (okp := fun _ => True) rfl (fun _ hk => hk) trivial (by omega) (by omega) (Below.refl _ _) (Nat.le_refl _) ?_
           intro v386 w13 ho14 hb hg_ hnew_
           clear hg_ hnew_
           (first | rw [← Ny385.out] at ho14 | (simp only [Int.reduceToNat] at ho14; rw [← Ny385.out] at ho14))
           have n0_ := z0 (Kd.R_elder' (mR HO384.out) (by first | exact Kd.R_base ho14 | exact Kd.R_base ho14) hb)
           have n1_ := z0 (Kd.R_lower (Kd.R_new' ho14 (Kd.R_lt (mR HO384.out))) (below_size (mB HB.out)))
           have n2_ := z0 (blk_below (g := gb380) (o := .cells #[.int .i64 a0_0, .slice A0_1 l0_1.length c0_1, .slice A0_2 l0_2.length c0_2] 31 (0, 0)) (mK BK380.out) hb)
           have n3_ := z0 (blk_below (g := gb381) (o := .cells #[.slice none 0 0, .slice none 0 0] 38 (0, 0)) (mK BK381.out) hb)
           have n4_ := z0 (below_step (mB HB.out) hb)
           clear HO384 BK380 BK381 HB
           have HO384 := n0_
           have HO387 := n1_
           have BK380 := n2_
           have BK381 := n3_
           have HB := n4_
           clear n0_ n1_ n2_ n3_ n4_ hb ho14
           obtain ⟨Ao15, co15, eo15⟩ := Kd.R_slice HO387.out
           (first | subst eo15 | (injection eo15 with f1_ f2_ f3_; have f4_ := f1_.symm; have f5_ := f3_.symm; clear f1_ f2_ f3_; subst f4_; subst f5_))
           obtain ⟨Ao16, co16, eo16⟩ := Kd.R_slice HO384.out
           (first | subst eo16 | (injection eo16 with f1_ f2_ f3_; have f4_ := f1_.symm; have f5_ := f3_.symm; clear f1_ f2_ f3_; subst f4_; subst f5_))
           refine hK.out _ _ ⟨(blk_cell BK380.out 0).trans rfl, (blk_cell BK380.out 1).trans rfl, (blk_cell BK380.out 2).trans rfl⟩ (fun hHeld => ?_)
           clear hK K
           refine norm_ (a' := ?_) ?_ ?_
           rotate_left
           ·show Act.put _ (some 7) _ = _
            simp only [Act.put, List.setIfInBounds_toArray, List.set_cons_zero, List.set_cons_succ, i64_w, i32_w]
            rfl
           refine pure_ (i := 4) (N := some 8) (v := ?_) (a' := ?_) #[true, true, true, true, true, false, false] rfl rfl (by kernel_rfl) (fun _ _ _ h => h) (Or.inl ⟨by rfl, ?_⟩) ?_ ?_
           rotate_left
           ·intro w'
            go_simp
            with_reducible rfl
           rotate_left
           ·simp only [Act.put, List.setIfInBounds_toArray, List.set_cons_zero, List.set_cons_succ, i64_w, i32_w]
            rfl
           exact norm_ (by first | (simp only [putAll, Act.put, List.setIfInBounds_toArray, List.set_cons_zero, List.set_cons_succ]; done) | (simp only [putAll, Act.put, List.setIfInBounds_toArray, List.set_cons_zero, List.set_cons_succ]; rfl)) (hJ2_3 (.slice Ao16 y382.length co16, .slice Ao15 y385.length co15) _ ⟨hHeld, (by (with_reducible repeat (first | apply Kd.R_alloc | apply Kd.R_drewN | apply Kd.R_drew)); exact Kd.R_mono HO384.out (fun _ hk => hk.2)), (by (with_reducible repeat (first | apply Kd.R_alloc | apply Kd.R_drewN | apply Kd.R_drew)); exact Kd.R_mono HO387.out (fun _ hk => hk.2)), (mK BK380.out), (mK BK381.out), (mB HB.out)⟩)
          ·skip
           refine box_step ?hg (N := 3) ?hd (cs := #[.slice none 0 0, .slice none 0 0]) (t := 38) ?hr ?_; (case hd => rfl); (case hg => rfl); (case hr => first | (go_simp; done) | (go_simp; rfl))
           intro gb388 hg w13 hbox hb
           have n0_ := z0 (Kd.R_below (mR HO384.out) hb)
           have n1_ := z0 (blk_below (g := gb380) (o := .cells #[.int .i64 a0_0, .slice A0_1 l0_1.length c0_1, .slice A0_2 l0_2.length c0_2] 31 (0, 0)) (mK BK380.out) hb)
           have n2_ := z0 (blk_below (g := gb381) (o := .cells #[.slice none 0 0, .slice none 0 0] 38 (0, 0)) (mK BK381.out) hb)
           have n3_ := z0 (below_step (mB HB.out) hb)
           have n4_ := z0 (hbox)
           have n5_ := z0 ((by rw [hg]; exact (below_size (mB HB.out)) : w.heap.size ≤ gb388))
           have n6_ := z0 ((by rw [hg]; exact (below_size (mB HB.out)) : w.heap.size ≤ gb388))
           have n7_ := z0 ((by rw [hg]; exact Nat.ne_of_lt (blk_lt (g := gb380) (o := .cells #[.int .i64 a0_0, .slice A0_1 l0_1.length c0_1, .slice A0_2 l0_2.length c0_2] 31 (0, 0)) (mK BK380.out)) : gb380 ≠ gb388))
           have n8_ := z0 ((by rw [hg]; exact Nat.ne_of_gt (blk_lt (g := gb380) (o := .cells #[.int .i64 a0_0, .slice A0_1 l0_1.length c0_1, .slice A0_2 l0_2.length c0_2] 31 (0, 0)) (mK BK380.out)) : gb388 ≠ gb380))
           have n9_ := z0 ((by rw [hg]; exact Nat.ne_of_lt (blk_lt (g := gb381) (o := .cells #[.slice none 0 0, .slice none 0 0] 38 (0, 0)) (mK BK381.out)) : gb381 ≠ gb388))
           have n10_ := z0 ((by rw [hg]; exact Nat.ne_of_gt (blk_lt (g := gb381) (o := .cells #[.slice none 0 0, .slice none 0 0] 38 (0, 0)) (mK BK381.out)) : gb388 ≠ gb381))
           clear HO384 BK380 BK381 HB
           have HO384 := n0_
           have BK380 := n1_
           have BK381 := n2_
           have HB := n3_
           have BK388 := n4_
           have GW388 := n5_
           have GE388 := n6_
           have NB380_388 := n7_
           have NB388_380 := n8_
           have NB381_388 := n9_
           have NB388_381 := n10_
           clear n0_ n1_ n2_ n3_ n4_ n5_ n6_ n7_ n8_ n9_ n10_ hb hbox hg
           refine hK.out _ _ ⟨(blk_cell BK380.out 0).trans rfl, (blk_cell BK380.out 1).trans rfl, (blk_cell BK380.out 2).trans rfl⟩ (fun hHeld => ?_)
           clear hK K
           refine norm_ (a' := ?_) ?_ ?_
           rotate_left
           ·show Act.put _ (some 3) _ = _
            simp only [Act.put, List.setIfInBounds_toArray, List.set_cons_zero, List.set_cons_succ, i64_w, i32_w]
            rfl
           exact norm_ (by first | (simp only [putAll, Act.put, List.setIfInBounds_toArray, List.set_cons_zero, List.set_cons_succ]; done) | (simp only [putAll, Act.put, List.setIfInBounds_toArray, List.set_cons_zero, List.set_cons_succ]; rfl)) (hJ2_5 (v383, gb388) _ ⟨hHeld, (mR HO384.out), (mK BK380.out), (mK BK381.out), (mK BK388.out), GW388.out, GE388.out, NB380_388.out, NB388_380.out, NB381_388.out, NB388_381.out, (mB HB.out)⟩)
        ·skip
         rintro ⟨v386, gb388⟩ w13 ⟨hS_, h0_, h1_, h2_, h3_, h4_, h5_, h6_, h7_, h8_, h9_, h10_⟩
         have n0_ : Aside0 (Kd.R Kd.bool 4 w13 w.heap.size (fun _ => True) v386 y385) := ⟨h0_⟩
         have n1_ : Aside0 (w13.heap[gb380]? = some (.cells #[.int .i64 a0_0, .slice A0_1 l0_1.length c0_1, .slice A0_2 l0_2.length c0_2] 31 (0, 0))) := ⟨h1_⟩
         have n2_ : Aside0 (w13.heap[gb381]? = some (.cells #[.slice none 0 0, .slice none 0 0] 38 (0, 0))) := ⟨h2_⟩
         have n3_ : Aside0 (w13.heap[gb388]? = some (.cells #[.slice none 0 0, .slice none 0 0] 38 (0, 0))) := ⟨h3_⟩
         have n4_ : Aside0 (w.heap.size ≤ gb388) := ⟨h4_⟩
         have n5_ : Aside0 (w.heap.size ≤ gb388) := ⟨h5_⟩
         have n6_ : Aside0 (gb380 ≠ gb388) := ⟨h6_⟩
         have n7_ : Aside0 (gb388 ≠ gb380) := ⟨h7_⟩
         have n8_ : Aside0 (gb381 ≠ gb388) := ⟨h8_⟩
         have n9_ : Aside0 (gb388 ≠ gb381) := ⟨h9_⟩
         have n10_ : Aside0 (Below w.heap.size w w13) := ⟨h10_⟩
         clear BK380 BK381 HB h0_ h1_ h2_ h3_ h4_ h5_ h6_ h7_ h8_ h9_ h10_
         have HO387 := n0_
         have BK380 := n1_
         have BK381 := n2_
         have BK388 := n3_
         have GW388 := n4_
         have GE388 := n5_
         have NB380_388 := n6_
         have NB388_380 := n7_
         have NB381_388 := n8_
         have NB388_381 := n9_
         have HB := n10_
         clear n0_ n1_ n2_ n3_ n4_ n5_ n6_ n7_ n8_ n9_ n10_
         have hHeld : w13.cell? ⟨gb380, 0, none⟩ = some (.int .i64 a0_0) ∧ w13.cell? ⟨gb380, 1, none⟩ = some (.slice A0_1 l0_1.length c0_1) ∧ w13.cell? ⟨gb380, 2, none⟩ = some (.slice A0_2 l0_2.length c0_2) := hS_
         refine norm_ (a' := ?_) ?_ ?_
         rotate_left
         ·simp only [putAll, Act.put, List.setIfInBounds_toArray, List.set_cons_zero, List.set_cons_succ]
          rfl
         refine one_ (i := 2) (N := some 6) #[true, true, true, true, false, true, false] rfl rfl (by kernel_rfl) (by decide) (fun K hK => ?_)
         refine Kd.R_make_step Kd.bool _ 4 (by rfl) (N := 6) rfl 36 _ _ rfl a0_0 rfl rfl Try.underlying36 (.bool false) 1 info4 rfl (by decide) (by omega) false (ok := fun _ => True) (okp := fun _ => True) rfl (fun _ hk => hk) trivial (of_decide_eq_true (by first | (with_reducible assumption) | assumption)) (Nat.le_trans (Nat.mul_le_mul_right _ (of_decide_eq_true (by first | (with_reducible assumption) | assumption) : a0_0.toNat ≤ 281474976710656)) (by omega)) (Below.refl _ _) (Nat.le_refl _) ?_
         intro v383 w14 ho15 hb hg_ hnew_
         clear hg_ hnew_
         (first | rw [← Ny382.out] at ho15 | (simp only [Int.reduceToNat] at ho15; rw [← Ny382.out] at ho15))
         have n0_ := z0 (Kd.R_elder' (mR HO387.out) (by first | exact Kd.R_base ho15 | exact Kd.R_base ho15) hb)
         have n1_ := z0 (Kd.R_lower (Kd.R_new' ho15 (Kd.R_lt (mR HO387.out))) (below_size (mB HB.out)))
         have n2_ := z0 (blk_below (g := gb380) (o := .cells #[.int .i64 a0_0, .slice A0_1 l0_1.length c0_1, .slice A0_2 l0_2.length c0_2] 31 (0, 0)) (mK BK380.out) hb)
         have n3_ := z0 (blk_below (g := gb381) (o := .cells #[.slice none 0 0, .slice none 0 0] 38 (0, 0)) (mK BK381.out) hb)
         have n4_ := z0 (blk_below (g := gb388) (o := .cells #[.slice none 0 0, .slice none 0 0] 38 (0, 0)) (mK BK388.out) hb)
         have n5_ := z0 (below_step (mB HB.out) hb)
         clear HO387 BK380 BK381 BK388 HB
         have HO387 := n0_
         have HO384 := n1_
         have BK380 := n2_
         have BK381 := n3_
         have BK388 := n4_
         have HB := n5_
         clear n0_ n1_ n2_ n3_ n4_ n5_ hb ho15
         obtain ⟨Ao16, co16, eo16⟩ := Kd.R_slice HO387.out
         (first | subst eo16 | (injection eo16 with f1_ f2_ f3_; have f4_ := f1_.symm; have f5_ := f3_.symm; clear f1_ f2_ f3_; subst f4_; subst f5_))
         obtain ⟨Ao17, co17, eo17⟩ := Kd.R_slice HO384.out
         (first | subst eo17 | (injection eo17 with f1_ f2_ f3_; have f4_ := f1_.symm; have f5_ := f3_.symm; clear f1_ f2_ f3_; subst f4_; subst f5_))
         refine hK.out _ _ ⟨(blk_cell BK380.out 0).trans rfl, (blk_cell BK380.out 1).trans rfl, (blk_cell BK380.out 2).trans rfl⟩ (fun hHeld => ?_)
         clear hK K
         refine norm_ (a' := ?_) ?_ ?_
         rotate_left
         ·show Act.put _ (some 6) _ = _
          simp only [Act.put, List.setIfInBounds_toArray, List.set_cons_zero, List.set_cons_succ, i64_w, i32_w]
          rfl
         refine pure_ (i := 4) (N := some 8) (v := ?_) (a' := ?_) #[true, true, true, true, true, true, false] rfl rfl (by kernel_rfl) (fun _ _ _ h => h) (Or.inl ⟨by rfl, ?_⟩) ?_ ?_
         rotate_left
         ·intro w'
          go_simp
          with_reducible rfl
         rotate_left
         ·simp only [Act.put, List.setIfInBounds_toArray, List.set_cons_zero, List.set_cons_succ, i64_w, i32_w]
          rfl
         exact norm_ (by first | (simp only [putAll, Act.put, List.setIfInBounds_toArray, List.set_cons_zero, List.set_cons_succ]; done) | (simp only [putAll, Act.put, List.setIfInBounds_toArray, List.set_cons_zero, List.set_cons_succ]; rfl)) (hJ2_3_5 (.slice Ao17 y382.length co17, .slice Ao16 y385.length co16, gb388) _ ⟨hHeld, (by (with_reducible repeat (first | apply Kd.R_alloc | apply Kd.R_drewN | apply Kd.R_drew)); exact Kd.R_mono HO384.out (fun _ hk => hk.2)), (by (with_reducible repeat (first | apply Kd.R_alloc | apply Kd.R_drewN | apply Kd.R_drew)); exact Kd.R_mono HO387.out (fun _ hk => hk.2)), (mK BK380.out), (mK BK381.out), (mK BK388.out), GW388.out, GE388.out, NB380_388.out, NB388_380.out, NB381_388.out, NB388_381.out, (mB HB.out)⟩)
       ·skip
        rintro ⟨v383, gb388⟩ w13 ⟨hS_, h0_, h1_, h2_, h3_, h4_, h5_, h6_, h7_, h8_, h9_, h10_⟩
        have n0_ : Aside0 (Kd.R Kd.bool 4 w13 w.heap.size (fun _ => True) v383 y382) := ⟨h0_⟩
        have n1_ : Aside0 (w13.heap[gb380]? = some (.cells #[.int .i64 a0_0, .slice A0_1 l0_1.length c0_1, .slice A0_2 l0_2.length c0_2] 31 (0, 0))) := ⟨h1_⟩
        have n2_ : Aside0 (w13.heap[gb381]? = some (.cells #[.slice none 0 0, .slice none 0 0] 38 (0, 0))) := ⟨h2_⟩
        have n3_ : Aside0 (w13.heap[gb388]? = some (.cells #[.slice none 0 0, .slice none 0 0] 38 (0, 0))) := ⟨h3_⟩
        have n4_ : Aside0 (w.heap.size ≤ gb388) := ⟨h4_⟩
        have n5_ : Aside0 (w.heap.size ≤ gb388) := ⟨h5_⟩
        have n6_ : Aside0 (gb380 ≠ gb388) := ⟨h6_⟩
        have n7_ : Aside0 (gb388 ≠ gb380) := ⟨h7_⟩
        have n8_ : Aside0 (gb381 ≠ gb388) := ⟨h8_⟩
        have n9_ : Aside0 (gb388 ≠ gb381) := ⟨h9_⟩
        have n10_ : Aside0 (Below w.heap.size w w13) := ⟨h10_⟩
        clear BK380 BK381 HB h0_ h1_ h2_ h3_ h4_ h5_ h6_ h7_ h8_ h9_ h10_
        have HO384 := n0_
        have BK380 := n1_
        have BK381 := n2_
        have BK388 := n3_
        have GW388 := n4_
        have GE388 := n5_
        have NB380_388 := n6_
        have NB388_380 := n7_
        have NB381_388 := n8_
        have NB388_381 := n9_
        have HB := n10_
        clear n0_ n1_ n2_ n3_ n4_ n5_ n6_ n7_ n8_ n9_ n10_
        have hHeld : w13.cell? ⟨gb380, 0, none⟩ = some (.int .i64 a0_0) ∧ w13.cell? ⟨gb380, 1, none⟩ = some (.slice A0_1 l0_1.length c0_1) ∧ w13.cell? ⟨gb380, 2, none⟩ = some (.slice A0_2 l0_2.length c0_2) := hS_
        refine norm_ (a' := ?_) ?_ ?_
        rotate_left
        ·simp only [putAll, Act.put, List.setIfInBounds_toArray, List.set_cons_zero, List.set_cons_succ]
         rfl
        refine one_ (i := 3) (N := some 7) #[true, true, true, true, false, true, false] rfl rfl (by kernel_rfl) (by decide) (fun K hK => ?_)
        refine Kd.R_make_step Kd.bool _ 4 (by rfl) (N := 7) rfl 36 _ _ rfl 6 rfl rfl Try.underlying36 (.bool false) 1 info4 rfl (by decide) (by omega) false (ok := fun _ => True) (okp := fun _ => True) rfl (fun _ hk => hk) trivial (by omega) (by omega) (Below.refl _ _) (Nat.le_refl _) ?_
        intro v386 w14 ho15 hb hg_ hnew_
        clear hg_ hnew_
        (first | rw [← Ny385.out] at ho15 | (simp only [Int.reduceToNat] at ho15; rw [← Ny385.out] at ho15))
        have n0_ := z0 (Kd.R_elder' (mR HO384.out) (by first | exact Kd.R_base ho15 | exact Kd.R_base ho15) hb)
        have n1_ := z0 (Kd.R_lower (Kd.R_new' ho15 (Kd.R_lt (mR HO384.out))) (below_size (mB HB.out)))
        have n2_ := z0 (blk_below (g := gb380) (o := .cells #[.int .i64 a0_0, .slice A0_1 l0_1.length c0_1, .slice A0_2 l0_2.length c0_2] 31 (0, 0)) (mK BK380.out) hb)
        have n3_ := z0 (blk_below (g := gb381) (o := .cells #[.slice none 0 0, .slice none 0 0] 38 (0, 0)) (mK BK381.out) hb)
        have n4_ := z0 (blk_below (g := gb388) (o := .cells #[.slice none 0 0, .slice none 0 0] 38 (0, 0)) (mK BK388.out) hb)
        have n5_ := z0 (below_step (mB HB.out) hb)
        clear HO384 BK380 BK381 BK388 HB
        have HO384 := n0_
        have HO387 := n1_
        have BK380 := n2_
        have BK381 := n3_
        have BK388 := n4_
        have HB := n5_
        clear n0_ n1_ n2_ n3_ n4_ n5_ hb ho15
        obtain ⟨Ao16, co16, eo16⟩ := Kd.R_slice HO387.out
        (first | subst eo16 | (injection eo16 with f1_ f2_ f3_; have f4_ := f1_.symm; have f5_ := f3_.symm; clear f1_ f2_ f3_; subst f4_; subst f5_))
        obtain ⟨Ao17, co17, eo17⟩ := Kd.R_slice HO384.out
        (first | subst eo17 | (injection eo17 with f1_ f2_ f3_; have f4_ := f1_.symm; have f5_ := f3_.symm; clear f1_ f2_ f3_; subst f4_; subst f5_))
        refine hK.out _ _ ⟨(blk_cell BK380.out 0).trans rfl, (blk_cell BK380.out 1).trans rfl, (blk_cell BK380.out 2).trans rfl⟩ (fun hHeld => ?_)
        clear hK K
        refine norm_ (a' := ?_) ?_ ?_
        rotate_left
        ·show Act.put _ (some 7) _ = _
         simp only [Act.put, List.setIfInBounds_toArray, List.set_cons_zero, List.set_cons_succ, i64_w, i32_w]
         rfl
        refine pure_ (i := 4) (N := some 8) (v := ?_) (a' := ?_) #[true, true, true, true, true, true, false] rfl rfl (by kernel_rfl) (fun _ _ _ h => h) (Or.inl ⟨by rfl, ?_⟩) ?_ ?_
        rotate_left
        ·intro w'
         go_simp
         with_reducible rfl
        rotate_left
        ·simp only [Act.put, List.setIfInBounds_toArray, List.set_cons_zero, List.set_cons_succ, i64_w, i32_w]
         rfl
        exact norm_ (by first | (simp only [putAll, Act.put, List.setIfInBounds_toArray, List.set_cons_zero, List.set_cons_succ]; done) | (simp only [putAll, Act.put, List.setIfInBounds_toArray, List.set_cons_zero, List.set_cons_succ]; rfl)) (hJ2_3_5 (.slice Ao17 y382.length co17, .slice Ao16 y385.length co16, gb388) _ ⟨hHeld, (by (with_reducible repeat (first | apply Kd.R_alloc | apply Kd.R_drewN | apply Kd.R_drew)); exact Kd.R_mono HO384.out (fun _ hk => hk.2)), (by (with_reducible repeat (first | apply Kd.R_alloc | apply Kd.R_drewN | apply Kd.R_drew)); exact Kd.R_mono HO387.out (fun _ hk => hk.2)), (mK BK380.out), (mK BK381.out), (mK BK388.out), GW388.out, GE388.out, NB380_388.out, NB388_380.out, NB381_388.out, NB388_381.out, (mB HB.out)⟩)
      ·skip
       rintro ⟨v383, v386⟩ w16 ⟨hS_, h0_, h1_, h2_, h3_, h4_⟩
       have n0_ : Aside0 (Kd.R Kd.bool 4 w16 w.heap.size (fun k_ => nB k_ v386) v383 y382) := ⟨h0_⟩
       have n1_ : Aside0 (Kd.R Kd.bool 4 w16 w.heap.size (fun k_ => nB k_ v383) v386 y385) := ⟨h1_⟩
       have n2_ : Aside0 (w16.heap[gb380]? = some (.cells #[.int .i64 a0_0, .slice A0_1 l0_1.length c0_1, .slice A0_2 l0_2.length c0_2] 31 (0, 0))) := ⟨h2_⟩
       have n3_ : Aside0 (w16.heap[gb381]? = some (.cells #[.slice none 0 0, .slice none 0 0] 38 (0, 0))) := ⟨h3_⟩
       have n4_ : Aside0 (Below w.heap.size w w16) := ⟨h4_⟩
       clear BK380 BK381 HB h0_ h1_ h2_ h3_ h4_
       have HO384 := n0_
       have HO387 := n1_
       have BK380 := n2_
       have BK381 := n3_
       have HB := n4_
       clear n0_ n1_ n2_ n3_ n4_
       have hHeld : w16.cell? ⟨gb380, 0, none⟩ = some (.int .i64 a0_0) ∧ w16.cell? ⟨gb380, 1, none⟩ = some (.slice A0_1 l0_1.length c0_1) ∧ w16.cell? ⟨gb380, 2, none⟩ = some (.slice A0_2 l0_2.length c0_2) := hS_
       obtain ⟨Ao17, co17, eo17⟩ := Kd.R_slice HO387.out
       (first | subst eo17 | (injection eo17 with f1_ f2_ f3_; have f4_ := f1_.symm; have f5_ := f3_.symm; clear f1_ f2_ f3_; subst f4_; subst f5_))
       obtain ⟨Ao18, co18, eo18⟩ := Kd.R_slice HO384.out
       (first | subst eo18 | (injection eo18 with f1_ f2_ f3_; have f4_ := f1_.symm; have f5_ := f3_.symm; clear f1_ f2_ f3_; subst f4_; subst f5_))
       refine norm_ (a' := ?_) ?_ ?_
       rotate_left
       ·simp only [putAll, Act.put, List.setIfInBounds_toArray, List.set_cons_zero, List.set_cons_succ]
        rfl
       refine one_ (i := 5) (N := some 3) #[true, true, true, true, true, true, false] rfl rfl (by kernel_rfl) (by decide) (fun K hK => ?_)
       refine box_step ?hg (N := 3) ?hd (cs := #[.slice none 0 0, .slice none 0 0]) (t := 38) ?hr ?_; (case hd => rfl); (case hg => rfl); (case hr => first | (go_simp; done) | (go_simp; rfl))
       intro gb388 hg w19 hbox hb
       have n0_ := z0 (Kd.R_below (mR HO384.out) hb)
       have n1_ := z0 (Kd.R_below (mR HO387.out) hb)
       have n2_ := z0 (blk_below (g := gb380) (o := .cells #[.int .i64 a0_0, .slice A0_1 l0_1.length c0_1, .slice A0_2 l0_2.length c0_2] 31 (0, 0)) (mK BK380.out) hb)
       have n3_ := z0 (blk_below (g := gb381) (o := .cells #[.slice none 0 0, .slice none 0 0] 38 (0, 0)) (mK BK381.out) hb)
       have n4_ := z0 (below_step (mB HB.out) hb)
       have n5_ := z0 (hbox)
       have n6_ := z0 ((by rw [hg]; exact (below_size (mB HB.out)) : w.heap.size ≤ gb388))
       have n7_ := z0 ((by rw [hg]; exact (below_size (mB HB.out)) : w.heap.size ≤ gb388))
       have n8_ := z0 ((by rw [hg]; exact Nat.ne_of_lt (blk_lt (g := gb380) (o := .cells #[.int .i64 a0_0, .slice A0_1 l0_1.length c0_1, .slice A0_2 l0_2.length c0_2] 31 (0, 0)) (mK BK380.out)) : gb380 ≠ gb388))
       have n9_ := z0 ((by rw [hg]; exact Nat.ne_of_gt (blk_lt (g := gb380) (o := .cells #[.int .i64 a0_0, .slice A0_1 l0_1.length c0_1, .slice A0_2 l0_2.length c0_2] 31 (0, 0)) (mK BK380.out)) : gb388 ≠ gb380))
       have n10_ := z0 ((by rw [hg]; exact Nat.ne_of_lt (blk_lt (g := gb381) (o := .cells #[.slice none 0 0, .slice none 0 0] 38 (0, 0)) (mK BK381.out)) : gb381 ≠ gb388))
       have n11_ := z0 ((by rw [hg]; exact Nat.ne_of_gt (blk_lt (g := gb381) (o := .cells #[.slice none 0 0, .slice none 0 0] 38 (0, 0)) (mK BK381.out)) : gb388 ≠ gb381))
       clear HO384 HO387 BK380 BK381 HB
       have HO384 := n0_
       have HO387 := n1_
       have BK380 := n2_
       have BK381 := n3_
       have HB := n4_
       have BK388 := n5_
       have GW388 := n6_
       have GE388 := n7_
       have NB380_388 := n8_
       have NB388_380 := n9_
       have NB381_388 := n10_
       have NB388_381 := n11_
       clear n0_ n1_ n2_ n3_ n4_ n5_ n6_ n7_ n8_ n9_ n10_ n11_ hb hbox hg
       refine hK.out _ _ ⟨(blk_cell BK380.out 0).trans rfl, (blk_cell BK380.out 1).trans rfl, (blk_cell BK380.out 2).trans rfl⟩ (fun hHeld => ?_)
       clear hK K
       refine norm_ (a' := ?_) ?_ ?_
       rotate_left
       ·show Act.put _ (some 3) _ = _
        simp only [Act.put, List.setIfInBounds_toArray, List.set_cons_zero, List.set_cons_succ, i64_w, i32_w]
        rfl
       exact norm_ (by first | (simp only [putAll, Act.put, List.setIfInBounds_toArray, List.set_cons_zero, List.set_cons_succ]; done) | (simp only [putAll, Act.put, List.setIfInBounds_toArray, List.set_cons_zero, List.set_cons_succ]; rfl)) (hJ2_3_5 (.slice Ao18 y382.length co18, .slice Ao17 y385.length co17, gb388) _ ⟨hHeld, (mR HO384.out), (mR HO387.out), (mK BK380.out), (mK BK381.out), (mK BK388.out), GW388.out, GE388.out, NB380_388.out, NB388_380.out, NB381_388.out, NB388_381.out, (mB HB.out)⟩)
     rintro ⟨v383, v386, gb388⟩ w17 ⟨hS_, h0_, h1_, h2_, h3_, h4_, h5_, h6_, h7_, h8_, h9_, h10_, h11_⟩
     have n0_ : Aside0 (Kd.R Kd.bool 4 w17 w.heap.size (fun k_ => nB k_ v386) v383 y382) := ⟨h0_⟩
     have n1_ : Aside0 (Kd.R Kd.bool 4 w17 w.heap.size (fun k_ => nB k_ v383) v386 y385) := ⟨h1_⟩
     have n2_ : Aside0 (w17.heap[gb380]? = some (.cells #[.int .i64 a0_0, .slice A0_1 l0_1.length c0_1, .slice A0_2 l0_2.length c0_2] 31 (0, 0))) := ⟨h2_⟩
     have n3_ : Aside0 (w17.heap[gb381]? = some (.cells #[.slice none 0 0, .slice none 0 0] 38 (0, 0))) := ⟨h3_⟩
     have n4_ : Aside0 (w17.heap[gb388]? = some (.cells #[.slice none 0 0, .slice none 0 0] 38 (0, 0))) := ⟨h4_⟩
     have n5_ : Aside0 (w.heap.size ≤ gb388) := ⟨h5_⟩
     have n6_ : Aside0 (w.heap.size ≤ gb388) := ⟨h6_⟩
     have n7_ : Aside0 (gb380 ≠ gb388) := ⟨h7_⟩
     have n8_ : Aside0 (gb388 ≠ gb380) := ⟨h8_⟩
     have n9_ : Aside0 (gb381 ≠ gb388) := ⟨h9_⟩
     have n10_ : Aside0 (gb388 ≠ gb381) := ⟨h10_⟩
     have n11_ : Aside0 (Below w.heap.size w w17) := ⟨h11_⟩
     clear BK380 BK381 HB h0_ h1_ h2_ h3_ h4_ h5_ h6_ h7_ h8_ h9_ h10_ h11_
     have HO384 := n0_
     have HO387 := n1_
     have BK380 := n2_
     have BK381 := n3_
     have BK388 := n4_
     have GW388 := n5_
     have GE388 := n6_
     have NB380_388 := n7_
     have NB388_380 := n8_
     have NB381_388 := n9_
     have NB388_381 := n10_
     have HB := n11_
     clear n0_ n1_ n2_ n3_ n4_ n5_ n6_ n7_ n8_ n9_ n10_ n11_
     have hHeld : w17.cell? ⟨gb380, 0, none⟩ = some (.int .i64 a0_0) ∧ w17.cell? ⟨gb380, 1, none⟩ = some (.slice A0_1 l0_1.length c0_1) ∧ w17.cell? ⟨gb380, 2, none⟩ = some (.slice A0_2 l0_2.length c0_2) := hS_
     obtain ⟨Ao18, co18, eo18⟩ := Kd.R_slice HO387.out
     (first | subst eo18 | (injection eo18 with f1_ f2_ f3_; have f4_ := f1_.symm; have f5_ := f3_.symm; clear f1_ f2_ f3_; subst f4_; subst f5_))
     obtain ⟨Ao19, co19, eo19⟩ := Kd.R_slice HO384.out
     (first | subst eo19 | (injection eo19 with f1_ f2_ f3_; have f4_ := f1_.symm; have f5_ := f3_.symm; clear f1_ f2_ f3_; subst f4_; subst f5_))
     refine norm_ (a' := ?_) ?_ ?_
     rotate_left
     ·simp only [putAll, Act.put, List.setIfInBounds_toArray, List.set_cons_zero, List.set_cons_succ]
      rfl
     refine one_ (i := 6) (N := none) #[true, true, true, true, true, true, true] rfl rfl (by kernel_rfl) (by decide) (fun K hK => ?_)
     have hs20 : w17.cell? ⟨gb388, 0, none⟩ = some (.slice none 0 0) := (blk_cell BK388.out 0).trans rfl
     have hfs20 := blk_frozen BK388.out 0
     have hns20_0 := NB380_388.out
     have hns20_1 := NB381_388.out
     have hms20_0 := NB388_380.out
     have hms20_1 := NB388_381.out
     have hs21 : w17.cell? ⟨gb388, 1, none⟩ = some (.slice none 0 0) := (blk_cell BK388.out 1).trans rfl
     have hfs21 := blk_frozen BK388.out 1
     have hns21_0 := NB380_388.out
     have hns21_1 := NB381_388.out
     have hms21_0 := NB388_380.out
     have hms21_1 := NB388_381.out
     refine skip_ (w1 := ?_) (by rfl) rfl ?_ ?_
     rotate_left
     ·go_simp
      rfl
     refine hK.out _ _ ⟨((cell_far (p := ⟨gb388, _, none⟩) NB380_388.out _).trans (((cell_far (p := ⟨gb388, _, none⟩) NB380_388.out _).trans (hHeld.1)))), ((cell_far (p := ⟨gb388, _, none⟩) NB380_388.out _).trans (((cell_far (p := ⟨gb388, _, none⟩) NB380_388.out _).trans (hHeld.2.1)))), ((cell_far (p := ⟨gb388, _, none⟩) NB380_388.out _).trans (((cell_far (p := ⟨gb388, _, none⟩) NB380_388.out _).trans (hHeld.2.2))))⟩ (fun hHeld => ?_)
     clear hK K
     refine done_ (by kernel_rfl) ?_
     have n0_ : Aside0 (Kd.R Kd.bool 4 ((w17.setCell ⟨gb388, 0, none⟩ (.slice Ao19 y382.length co19)).setCell ⟨gb388, 1, none⟩ (.slice Ao18 y385.length co18)) w.heap.size (fun k_ => nB k_ (.slice Ao18 y385.length co18)) (.slice Ao19 y382.length co19) y382) := ⟨by (with_reducible repeat (first | apply Kd.R_alloc | apply Kd.R_drewN | apply Kd.R_drew)); exact Kd.R_mono (Kd.R_far (p := ⟨gb388, 1, none⟩) (Kd.R_far (p := ⟨gb388, 0, none⟩) (Kd.R_types HO384.out BK388.out (by decide)) (fun _ hk => hk.2) (.slice Ao19 y382.length co19)) (fun _ hk => hk.2) (.slice Ao18 y385.length co18)) (fun _ hk => hk.1)⟩
     have n1_ : Aside0 (Kd.R Kd.bool 4 ((w17.setCell ⟨gb388, 0, none⟩ (.slice Ao19 y382.length co19)).setCell ⟨gb388, 1, none⟩ (.slice Ao18 y385.length co18)) w.heap.size (fun k_ => nB k_ (.slice Ao19 y382.length co19)) (.slice Ao18 y385.length co18) y385) := ⟨by (with_reducible repeat (first | apply Kd.R_alloc | apply Kd.R_drewN | apply Kd.R_drew)); exact Kd.R_mono (Kd.R_far (p := ⟨gb388, 1, none⟩) (Kd.R_far (p := ⟨gb388, 0, none⟩) (Kd.R_types HO387.out BK388.out (by decide)) (fun _ hk => hk.2) (.slice Ao19 y382.length co19)) (fun _ hk => hk.2) (.slice Ao18 y385.length co18)) (fun _ hk => hk.1)⟩
     have n2_ : Aside0 (((w17.setCell ⟨gb388, 0, none⟩ (.slice Ao19 y382.length co19)).setCell ⟨gb388, 1, none⟩ (.slice Ao18 y385.length co18)).heap[gb380]? = some (.cells #[.int .i64 a0_0, .slice A0_1 l0_1.length c0_1, .slice A0_2 l0_2.length c0_2] 31 (0, 0))) := ⟨by (with_reducible repeat (first | refine blk_drewN ?_ _ | refine blk_drew ?_ | refine blk_alloc ?_ _)); refine blk_far ?_ NB380_388.out _; (with_reducible repeat (first | refine blk_drewN ?_ _ | refine blk_drew ?_ | refine blk_alloc ?_ _)); refine blk_far ?_ NB380_388.out _; (with_reducible repeat (first | refine blk_drewN ?_ _ | refine blk_drew ?_ | refine blk_alloc ?_ _)); exact BK380.out⟩
     have n3_ : Aside0 (((w17.setCell ⟨gb388, 0, none⟩ (.slice Ao19 y382.length co19)).setCell ⟨gb388, 1, none⟩ (.slice Ao18 y385.length co18)).heap[gb381]? = some (.cells #[.slice none 0 0, .slice none 0 0] 38 (0, 0))) := ⟨by (with_reducible repeat (first | refine blk_drewN ?_ _ | refine blk_drew ?_ | refine blk_alloc ?_ _)); refine blk_far ?_ NB381_388.out _; (with_reducible repeat (first | refine blk_drewN ?_ _ | refine blk_drew ?_ | refine blk_alloc ?_ _)); refine blk_far ?_ NB381_388.out _; (with_reducible repeat (first | refine blk_drewN ?_ _ | refine blk_drew ?_ | refine blk_alloc ?_ _)); exact BK381.out⟩
     have n4_ : Aside0 (((w17.setCell ⟨gb388, 0, none⟩ (.slice Ao19 y382.length co19)).setCell ⟨gb388, 1, none⟩ (.slice Ao18 y385.length co18)).heap[gb388]? = some (.cells #[.slice Ao19 y382.length co19, .slice Ao18 y385.length co18] 38 (0, 0))) := ⟨by (with_reducible repeat (first | refine blk_drewN ?_ _ | refine blk_drew ?_ | refine blk_alloc ?_ _)); refine blk_put (cs := #[.slice Ao19 y382.length co19, .slice none 0 0]) ?_ 1 _ rfl; (with_reducible repeat (first | refine blk_drewN ?_ _ | refine blk_drew ?_ | refine blk_alloc ?_ _)); refine blk_put (cs := #[.slice none 0 0, .slice none 0 0]) ?_ 0 _ rfl; (with_reducible repeat (first | refine blk_drewN ?_ _ | refine blk_drew ?_ | refine blk_alloc ?_ _)); exact BK388.out⟩
     have n5_ : Aside0 (Below w.heap.size w ((w17.setCell ⟨gb388, 0, none⟩ (.slice Ao19 y382.length co19)).setCell ⟨gb388, 1, none⟩ (.slice Ao18 y385.length co18))) := ⟨mB HB.out⟩
     (try clear HO384)
     (try clear HO387)
     (try clear BK380)
     (try clear BK381)
     (try clear BK388)
     (try clear HB)
     generalize ((w17.setCell ⟨gb388, 0, none⟩ (.slice Ao19 y382.length co19)).setCell ⟨gb388, 1, none⟩ (.slice Ao18 y385.length co18)) = w22 at n0_ n1_ n2_ n3_ n4_ n5_ ⊢
     have HO384 := n0_
     have HO387 := n1_
     have BK380 := n2_
     have BK381 := n3_
     have BK388 := n4_
     have HB := n5_
     clear n0_ n1_ n2_ n3_ n4_ n5_
     have hnb23 := NB388_380.out
     have hnc23 := NB380_388.out
     have hnb24 := NB388_381.out
     have hnc24 := NB381_388.out
     obtain ⟨hcz25_0, hcz25_1, hfz25_0, hfz25_1⟩ := cel2 BK388.out
     have p6 : 0 ≤ (0 : Int) := (by omega)
     have q6 : (0 : Int) < ((y382.length : Int) : Int) := of_decide_eq_true (by first | (with_reducible assumption) | assumption)
     have qi6 : (0 < y382.length) = True := eq_true (by omega)
     obtain ⟨go6, co6, eo6, gb6, gl6, cl6, HG6⟩ := Kd.R_form HO384.out (by omega)
     (first | cases eo6 | (injection eo6 with ea_ en_ ec_; (first | subst ea_ | (injection ea_ with ea_; subst ea_)); subst ec_; clear en_))
     have GB6 := z0 gb6
     have GG6 := z0 HG6
     clear gb6 gl6 HG6
     obtain ⟨hx6_0, hf6_0⟩ := Kd.R_celln false HO384.out (0 : Int) p6 q6
     (try rw [show ((0 : Int)).toNat = 0 from rfl] at hx6_0)
     (try simp only [Nat.reduceMul, Nat.zero_mul, Nat.zero_add, Nat.reduceAdd] at hx6_0)
     (try rw [show ((0 : Int)).toNat = 0 from rfl] at hf6_0)
     (try simp only [Nat.reduceMul, Nat.zero_mul, Nat.zero_add, Nat.reduceAdd] at hf6_0)
     replace p6 := eq_true p6
     replace q6 := eq_true q6
     obtain ⟨hy26_, hz26_⟩ := Kd.R_celln false HO384.out (0 : Int) (by omega) (of_decide_eq_true (by first | (with_reducible assumption) | assumption))
     (try simp only [Int.reduceToNat, Int.toNat_zero, Int.toNat_ofNat, Nat.reduceMul, Nat.zero_mul, Nat.zero_add] at hy26_ hz26_)
     (try rw [show ((0 : Int)).toNat = 0 from rfl] at hy26_)
     (try rw [show ((0 : Int)).toNat = 0 from rfl] at hz26_)
     have HP26 := Kd.R_putg HO384.out (0 : Int) true
     try go_wp2_with (first | ((with_reducible refine gate_store (t := 4) (p := 11) rfl ?_); refine store_event (t := 4) (p := 11) (v := ?vo_w27) (w1 := (w22.setCell ⟨go6, (0 : Int).toNat, none⟩ (.bool true))) ?hg ?ho ?hn ?hr ?_; (case ho => rfl); (case hg => rfl); (case hn => rfl); (case hr => first | (go_simp; done) | (go_simp; rfl)); intro w27 hw; have hg : w22.grownBy w27 (some go6) := (by rw [hw]; exact HP26.2); have hp_ : Kd.R Kd.bool 4 w27 w.heap.size (fun k_ => nB k_ (.slice Ao18 y385.length co18)) (.slice (some ⟨go6, 0, none⟩) y382.length co19) y389 := (by rw [hw, Ny389.out]; exact HP26.1); clear HP26; have n0_ := z0 (blk_grown (g := gb380) (o := .cells #[.int .i64 a0_0, .slice A0_1 l0_1.length c0_1, .slice A0_2 l0_2.length c0_2] 31 (0, 0)) (mK BK380.out) hg (Kd.R_ne HO384.out BK380.out (by decide))); have n1_ := z0 (blk_grown (g := gb381) (o := .cells #[.slice none 0 0, .slice none 0 0] 38 (0, 0)) (mK BK381.out) hg (Kd.R_ne HO384.out BK381.out (by decide))); have n2_ := z0 (hp_); have n3_ := z0 (Kd.R_after (v := (.slice (some ⟨go6, 0, none⟩) y382.length co19)) (v1 := (.slice (some ⟨go6, 0, none⟩) y382.length co19)) (ok := (fun _ => True)) (by (with_reducible repeat (first | apply Kd.R_alloc | apply Kd.R_drewN | apply Kd.R_drew)); exact Kd.R_mono HO387.out (fun _ hk => ⟨trivial, hk⟩)) hg (.inl rfl)); have n4_ := z0 (blk_grown (g := gb388) (o := .cells #[.slice (some ⟨go6, 0, none⟩) y382.length co19, .slice Ao18 y385.length co18] 38 (0, 0)) (mK BK388.out) hg (Kd.R_ne HO384.out BK388.out (by decide))); have n5_ := z0 ((by rw [hw]; exact below_set (HB.out) GB6.out : Below w.heap.size w w27)); clear BK380; clear BK381; clear HO384; clear HO387; clear BK388; clear HB; have BK380 := n0_; have BK381 := n1_; have HO384 := n2_; have HO387 := n3_; have BK388 := n4_; have HB := n5_; clear n0_ n1_ n2_ n3_ n4_ n5_; clear hg hw hp_; obtain ⟨hcz28_0, hcz28_1, hfz28_0, hfz28_1⟩ := cel2 BK388.out; have hnb29 := NB381_380.out; have hnc29 := NB380_381.out; obtain ⟨hcz30_0, hcz30_1, hfz30_0, hfz30_1⟩ := cel2 BK381.out))
     refine bodyPost_ret (results_cell_row rfl _ _ gb381 38 #[.slice (some ⟨go6, 0, none⟩) y382.length co19, .slice Ao18 y385.length co18] (0, 0) _ rfl (by (with_reducible repeat (first | refine blk_drewN ?_ _ | refine blk_drew ?_ | refine blk_alloc ?_ _)); refine blk_put (cs := #[.slice (some ⟨go6, 0, none⟩) y382.length co19, .slice none 0 0]) ?_ 1 _ rfl; (with_reducible repeat (first | refine blk_drewN ?_ _ | refine blk_drew ?_ | refine blk_alloc ?_ _)); refine blk_put (cs := #[.slice none 0 0, .slice none 0 0]) ?_ 0 _ rfl; (with_reducible repeat (first | refine blk_drewN ?_ _ | refine blk_drew ?_ | refine blk_alloc ?_ _)); exact BK381.out) Try.underlying38 rfl (by kernel_rfl)) rfl ?_
     exact ⟨_, _, rfx, by (with_reducible repeat (first | apply Kd.R_alloc | apply Kd.R_drewN | apply Kd.R_drew)); exact Kd.R_mono (Kd.R_far (p := ⟨gb381, 1, none⟩) (Kd.R_far (p := ⟨gb381, 0, none⟩) (Kd.R_types HO384.out BK381.out (by decide)) (fun _ hk => hk.2) (.slice (some ⟨go6, 0, none⟩) y382.length co19)) (fun _ hk => hk.2) (.slice Ao18 y385.length co18)) (fun _ hk => hk.1), by (with_reducible repeat (first | apply Kd.R_alloc | apply Kd.R_drewN | apply Kd.R_drew)); exact Kd.R_mono (Kd.R_far (p := ⟨gb381, 1, none⟩) (Kd.R_far (p := ⟨gb381, 0, none⟩) (Kd.R_types HO387.out BK381.out (by decide)) (fun _ hk => hk.2) (.slice (some ⟨go6, 0, none⟩) y382.length co19)) (fun _ hk => hk.2) (.slice Ao18 y385.length co18)) (fun _ hk => hk.1.2), mB HB.out⟩
    ·rw [if_neg c5] at H
     exact absurd H (by simp)
   ·rw [if_neg c4] at H
    exact absurd H (by simp)
  ·rw [if_neg c3] at H
   exact absurd H (by simp)
 ·rw [if_neg c2] at H
  exact absurd H (by simp)

end Go.Proofs.Ytlmchfcfkfegaaa.B
namespace Go.Proofs.Ytlmchfcfkfegaaa.B
open Go.RowKit Go.Proofs.YtlmchfcfkfegaaaW.PrintWords Go.Proofs.YtlmchfcfkfegaaaW.PrintLast Go.Proofs.YtlmchfcfkfegaaaW.PrintMore
attribute [local go_sem] max2_int min2_int max_two min_two max_three min_three max_four min_four   -- for this text's walks alone
set_option linter.unusedVariables false
set_option linter.unusedSimpArgs false

/-! ### laws_eqBoolS: function 50 -/
def laws_eqBoolS.l0 : Nat → List Bool → List Bool → Int → Option (Bool)
 | 0, _, _, _ => none
 | k + 1, x0, x1, x5 => if x5 < (x0.length : Int) then (if 0 ≤ x5 then (if x5 < (x1.length : Int) then (if ((rdOf false x0 x5) != (rdOf false x1 x5)) = true then (some false) else (laws_eqBoolS.l0 k x0 x1 (wrap64 (x5 + 1)))) else (none)) else (none)) else (some true)
def laws_eqBoolS.f (k : Nat) (l0 : List Bool) (l1 : List Bool) : Option (Bool) := if (l0.length : Int) = (l1.length : Int) then (laws_eqBoolS.l0 k l0 l1 0) else (some false)
theorem laws_eqBoolS.mono_l : ∀ k, (∀ y0 y1 y2, LeO (laws_eqBoolS.l0 k y0 y1 y2) (laws_eqBoolS.l0 (k + 1) y0 y1 y2))
 | 0 => fun _ _ _ r h => by simp [laws_eqBoolS.l0] at h
 | k + 1 => by
  have ih0 := laws_eqBoolS.mono_l k
  ·intro y0 y1 y2
   unfold laws_eqBoolS.l0
   repeat' first
   | (with_reducible exact ih0 _ _ _)
   | (with_reducible exact LeO.refl _)
   | (with_reducible exact LeO.none _)
   | (with_reducible refine LeO.ite ?_ ?_)
   | (with_reducible refine LeO.bind ?_ (fun _ => ?_))
   | exact ih0 _ _ _
   | exact LeO.none _
   | refine LeO.ite ?_ ?_
   | refine LeO.bind ?_ (fun _ => ?_)
theorem laws_eqBoolS.mono : ∀ a0 a1 k, LeO (laws_eqBoolS.f k a0 a1) (laws_eqBoolS.f (k + 1) a0 a1) := by
 intro a0 a1 k
 have ih0 := laws_eqBoolS.mono_l k
 unfold laws_eqBoolS.f
 repeat' first
   | (with_reducible exact ih0 _ _ _)
   | (with_reducible exact LeO.refl _)
   | (with_reducible exact LeO.none _)
   | (with_reducible refine LeO.ite ?_ ?_)
   | (with_reducible refine LeO.bind ?_ (fun _ => ?_))
   | exact ih0 _ _ _
   | exact LeO.none _
   | refine LeO.ite ?_ ?_
   | refine LeO.bind ?_ (fun _ => ?_)
set_option maxHeartbeats 8000000 in
set_option maxRecDepth 100000 in
theorem laws_eqBoolS.calls (k : Nat) (A0 : Option Addr) (c0 : Nat) (l0 : List Bool) (A1 : Option Addr) (c1 : Nat) (l1 : List Bool) (r : Bool) (w : World) (hr0 : Kd.C Kd.bool w A0 l0.length l0) (hc0 : l0.length ≤ c0) (hr1 : Kd.C Kd.bool w A1 l1.length l1) (hc1 : l1.length ≤ c1) (h : laws_eqBoolS.f k l0 l1 = some r) :
  Calls Try.prog 50 #[.slice A0 l0.length c0, .slice A1 l1.length c1] w fun e w' => e = .returned (.bool r) ∧ Drawn0 w w' := by
 have HR0 := z0 hr0
 have HC0 := z0 hc0
 clear hr0 hc0
 have HR1 := z0 hr1
 have HC1 := z0 hc1
 clear hr1 hc1
 have H : (if (l0.length : Int) = (l1.length : Int) then (laws_eqBoolS.l0 k l0 l1 0) else (some false)) = some r := h
 clear h
 by_cases c3 : (l0.length : Int) = (l1.length : Int)
 ·rw [if_pos c3] at H
  have c3b0 : ((l0.length : Int) == (l1.length : Int)) = true := beq_iff_eq.mpr c3
  have c3b1 : ((l0.length : Int) != (l1.length : Int)) = false := bne_eq_false_iff_eq.mpr c3
  have c3b2 : (l0.length == l1.length) = true := by first | simpa using c3 | (simp at c3 ⊢; omega)
  clear c3
  have H' := z0 H
  clear H
  go_enter Try.func50, Try.ntmps50
  go_wp2
  repeat (go_quiet (fail); try go_wp2)
  go_loopg [5] k (fun kq v5 w' => ∃ (x5_1 : Int), v5 = .int .i64 x5_1 ∧ Aside0 (laws_eqBoolS.l0 kq l0 l1 x5_1 = some r) ∧ Aside0 (kq ≤ k) ∧ Drawn0 w w')
  case atStart => exact ⟨(0), rfy, H', ⟨Nat.le_refl _⟩, by repeat (first | exact Drawn0.refl _ | apply Drawn0.step)⟩
  case round =>
   clear H'
   (try clear c1); (try clear p2); (try clear c3); (try clear c3b0); (try clear c3b1); (try clear c3b2)
   obtain ⟨x5_1, rfl, HA, HK1, ⟨m1, rfl⟩⟩ := hrel
   cases gk with
   | zero => exact absurd HA.out (by simp [laws_eqBoolS.l0])
   | succ k1 =>
    have H := HA.out
    clear HA
    simp only [laws_eqBoolS.l0] at H
    by_cases c4 : x5_1 < (l0.length : Int)
    ·rw [if_pos c4] at H
     have c4b0 : decide (x5_1 < (l0.length : Int)) = true := decide_eq_true c4
     clear c4
     by_cases c5 : 0 ≤ x5_1
     ·rw [if_pos c5] at H
      have c5b0 : decide (0 ≤ x5_1) = true := decide_eq_true c5
      clear c5
      by_cases c6 : x5_1 < (l1.length : Int)
      ·rw [if_pos c6] at H
       have c6b0 : decide (x5_1 < (l1.length : Int)) = true := decide_eq_true c6
       clear c6
       by_cases c7 : ((rdOf false l0 x5_1) != (rdOf false l1 x5_1)) = true
       ·rw [if_pos c7] at H
        have c7b0 : ((rdOf false l0 x5_1) != (rdOf false l1 x5_1)) = true := c7
        (try (have c7b1 : decide ((rdOf false l0 x5_1) = (rdOf false l1 x5_1)) = false := by simpa using c7))
        (try (have c7b2 : ((rdOf false l0 x5_1) == (rdOf false l1 x5_1)) = false := by simpa using c7))
        (try (have c7b3 : ¬ ((rdOf false l0 x5_1) = (rdOf false l1 x5_1)) := by simpa using c7))
        clear c7
        obtain rfl := Option.some.inj H
        have p399 : 0 ≤ (x5_1 : Int) := of_decide_eq_true (by first | (with_reducible assumption) | assumption)
        have q399 : x5_1 < (l0.length : Int) := of_decide_eq_true (by first | (with_reducible assumption) | assumption)
        obtain ⟨ad399, e399, hx399_0⟩ := Kd.at_bool HR0.out x5_1 p399 q399
        cases e399
        replace p399 := eq_true p399
        replace q399 := eq_true q399
        have p400 : 0 ≤ (x5_1 : Int) := of_decide_eq_true (by first | (with_reducible assumption) | assumption)
        have q400 : x5_1 < (l1.length : Int) := of_decide_eq_true (by first | (with_reducible assumption) | assumption)
        obtain ⟨ad400, e400, hx400_0⟩ := Kd.at_bool HR1.out x5_1 p400 q400
        cases e400
        replace p400 := eq_true p400
        replace q400 := eq_true q400
        go_wp2
        repeat (go_quiet (fail); try go_wp2)
        go_ret
        exact ⟨by first | rfl | (simp; done) | (simp [*]; done), by repeat (first | exact Drawn0.refl _ | apply Drawn0.step)⟩
       ·rw [if_neg c7] at H
        have c7b0 : ((rdOf false l0 x5_1) != (rdOf false l1 x5_1)) = false := by simpa using c7
        (try (have c7b1 : decide ((rdOf false l0 x5_1) = (rdOf false l1 x5_1)) = true := by simpa using c7))
        (try (have c7b2 : ((rdOf false l0 x5_1) == (rdOf false l1 x5_1)) = true := by simpa using c7))
        clear c7
        have H' := z0 H
        clear H
        have p399 : 0 ≤ (x5_1 : Int) := of_decide_eq_true (by first | (with_reducible assumption) | assumption)
        have q399 : x5_1 < (l0.length : Int) := of_decide_eq_true (by first | (with_reducible assumption) | assumption)
        obtain ⟨ad399, e399, hx399_0⟩ := Kd.at_bool HR0.out x5_1 p399 q399
        cases e399
        replace p399 := eq_true p399
        replace q399 := eq_true q399
        have p400 : 0 ≤ (x5_1 : Int) := of_decide_eq_true (by first | (with_reducible assumption) | assumption)
        have q400 : x5_1 < (l1.length : Int) := of_decide_eq_true (by first | (with_reducible assumption) | assumption)
        obtain ⟨ad400, e400, hx400_0⟩ := Kd.at_bool HR1.out x5_1 p400 q400
        cases e400
        replace p400 := eq_true p400
        replace q400 := eq_true q400
        go_wp2
        repeat (go_quiet (fail); try go_wp2)
        go_roundg k1
        case measure => have := HK1.out; omega
        case rel => exact ⟨(wrap64 (x5_1 + 1)), rfy, H', ⟨by have := HK1.out; omega⟩, by repeat (first | exact Drawn0.refl _ | apply Drawn0.step)⟩
      ·rw [if_neg c6] at H
       exact absurd H (by simp)
     ·rw [if_neg c5] at H
      exact absurd H (by simp)
    ·rw [if_neg c4] at H
     have c4b0 : decide (x5_1 < (l0.length : Int)) = false := decide_eq_false c4
     clear c4
     obtain rfl := Option.some.inj H
     go_wp2
     repeat (go_quiet (fail); try go_wp2)
     go_ret
     exact ⟨by first | rfl | (simp; done) | (simp [*]; done), by repeat (first | exact Drawn0.refl _ | apply Drawn0.step)⟩
 ·rw [if_neg c3] at H
  have c3b0 : ((l0.length : Int) == (l1.length : Int)) = false := beq_eq_false_iff_ne.mpr c3
  have c3b1 : ((l0.length : Int) != (l1.length : Int)) = true := bne_iff_ne.mpr c3
  have c3b2 : (l0.length == l1.length) = false := by first | simpa using c3 | (simp at c3 ⊢; omega)
  obtain rfl := Option.some.inj H
  go_enter Try.func50, Try.ntmps50
  go_wp2
  repeat (go_quiet (fail); try go_wp2)
  go_ret
  exact ⟨by first | rfl | (simp; done) | (simp [*]; done), by repeat (first | exact Drawn0.refl _ | apply Drawn0.step)⟩

end Go.Proofs.Ytlmchfcfkfegaaa.B
namespace Go.Proofs.Ytlmchfcfkfegaaa.B
open Go.RowKit Go.Proofs.YtlmchfcfkfegaaaW.PrintWords Go.Proofs.YtlmchfcfkfegaaaW.PrintLast Go.Proofs.YtlmchfcfkfegaaaW.PrintMore
attribute [local go_sem] max2_int min2_int max_two min_two max_three min_three max_four min_four   -- for this text's walks alone
set_option linter.unusedVariables false
set_option linter.unusedSimpArgs false

/-! ### laws_eqMarks: function 17 -/
def laws_eqMarks.f (k : Nat) (l0_0 : List Bool) (l0_1 : List Bool) (l1_0 : List Bool) (l1_1 : List Bool) : Option (Bool) := (laws_eqBoolS.f k l0_0 l1_0).bind fun t403 => (if t403 = true then ((laws_eqBoolS.f k l0_1 l1_1).bind fun t404 => (if t404 = true then (some true) else (some false))) else (some false))
set_option maxHeartbeats 8000000 in
set_option maxRecDepth 100000 in
theorem laws_eqMarks.calls (k : Nat) (A0_0 : Option Addr) (c0_0 : Nat) (l0_0 : List Bool) (A0_1 : Option Addr) (c0_1 : Nat) (l0_1 : List Bool) (A1_0 : Option Addr) (c1_0 : Nat) (l1_0 : List Bool) (A1_1 : Option Addr) (c1_1 : Nat) (l1_1 : List Bool) (r : Bool) (w : World) (hr0_0 : Kd.C Kd.bool w A0_0 l0_0.length l0_0) (hc0_0 : l0_0.length ≤ c0_0) (hr0_1 : Kd.C Kd.bool w A0_1 l0_1.length l0_1) (hc0_1 : l0_1.length ≤ c0_1) (hr1_0 : Kd.C Kd.bool w A1_0 l1_0.length l1_0) (hc1_0 : l1_0.length ≤ c1_0) (hr1_1 : Kd.C Kd.bool w A1_1 l1_1.length l1_1) (hc1_1 : l1_1.length ≤ c1_1) (h : laws_eqMarks.f k l0_0 l0_1 l1_0 l1_1 = some r) :
  Calls Try.prog 17 #[.agg #[.slice A0_0 l0_0.length c0_0, .slice A0_1 l0_1.length c0_1], .agg #[.slice A1_0 l1_0.length c1_0, .slice A1_1 l1_1.length c1_1]] w fun e w' => e = .returned (.bool r) ∧ Below w.heap.size w w' := by
 have hu38 := Try.underlying38
 have HR0_0 := z0 hr0_0
 have HC0_0 := z0 hc0_0
 clear hr0_0 hc0_0
 have HR0_1 := z0 hr0_1
 have HC0_1 := z0 hc0_1
 clear hr0_1 hc0_1
 have HR1_0 := z0 hr1_0
 have HC1_0 := z0 hc1_0
 clear hr1_0 hc1_0
 have HR1_1 := z0 hr1_1
 have HC1_1 := z0 hc1_1
 clear hr1_1 hc1_1
 have HB := z0 (Below.refl w.heap.size w)
 have H : ((laws_eqBoolS.f k l0_0 l1_0).bind fun t403 => (if t403 = true then ((laws_eqBoolS.f k l0_1 l1_1).bind fun t404 => (if t404 = true then (some true) else (some false))) else (some false))) = some r := h
 clear h
 replace H := Option.bind_eq_some_iff.mp H
 obtain ⟨t403, A30, H⟩ := H
 replace H : (if t403 = true then ((laws_eqBoolS.f k l0_1 l1_1).bind fun t404 => (if t404 = true then (some true) else (some false))) else (some false)) = some r := H
 have A3 := z0 A30
 clear A30
 have HF4 := z0 H
 clear H
 go_enter Try.func17, Try.ntmps17
 go_upto_if 10 with (first | ((with_reducible refine gate_dst (N := 2) rfl ?_); refine box_event ?hg (N := 2) ?hd (cs := #[.slice A0_0 l0_0.length c0_0, .slice A0_1 l0_1.length c0_1]) (t := 38) ?hr ?_; (case hd => rfl); (case hg => rfl); (case hr => first | (go_simp; done) | (go_simp; rfl)); intro gb401 hg w5 hbox hb; have n0_ := z0 (below_step (mB HB.out) hb); have n1_ := z0 (hbox); have n2_ := z0 ((by rw [hg]; exact (below_size (mB HB.out)) : w.heap.size ≤ gb401)); have n3_ := z0 ((by rw [hg]; exact (below_size (mB HB.out)) : w.heap.size ≤ gb401)); clear HB; have HB := n0_; have BK401 := n1_; have GW401 := n2_; have GE401 := n3_; clear n0_ n1_ n2_ n3_; clear hb hbox hg) | ((with_reducible refine gate_dst (N := 3) rfl ?_); refine box_event ?hg (N := 3) ?hd (cs := #[.slice A1_0 l1_0.length c1_0, .slice A1_1 l1_1.length c1_1]) (t := 38) ?hr ?_; (case hd => rfl); (case hg => rfl); (case hr => first | (go_simp; done) | (go_simp; rfl)); intro gb402 hg w6 hbox hb; have n0_ := z0 (blk_below (g := gb401) (o := .cells #[.slice A0_0 l0_0.length c0_0, .slice A0_1 l0_1.length c0_1] 38 (0, 0)) (mK BK401.out) hb); have n1_ := z0 (below_step (mB HB.out) hb); have n2_ := z0 (hbox); have n3_ := z0 ((by rw [hg]; exact (below_size (mB HB.out)) : w.heap.size ≤ gb402)); have n4_ := z0 ((by rw [hg]; exact (below_size (mB HB.out)) : w.heap.size ≤ gb402)); have n5_ := z0 ((by rw [hg]; exact Nat.ne_of_lt (blk_lt (g := gb401) (o := .cells #[.slice A0_0 l0_0.length c0_0, .slice A0_1 l0_1.length c0_1] 38 (0, 0)) (mK BK401.out)) : gb401 ≠ gb402)); have n6_ := z0 ((by rw [hg]; exact Nat.ne_of_gt (blk_lt (g := gb401) (o := .cells #[.slice A0_0 l0_0.length c0_0, .slice A0_1 l0_1.length c0_1] 38 (0, 0)) (mK BK401.out)) : gb402 ≠ gb401)); clear BK401; clear HB; have BK401 := n0_; have HB := n1_; have BK402 := n2_; have GW402 := n3_; have GE402 := n4_; have NB401_402 := n5_; have NB402_401 := n6_; clear n0_ n1_ n2_ n3_ n4_ n5_ n6_; clear hb hbox hg; have hnb7 := NB401_402.out; have hnc7 := NB402_401.out; obtain ⟨hcz8_0, hcz8_1, hfz8_0, hfz8_1⟩ := cel2 BK401.out; obtain ⟨hcz9_0, hcz9_1, hfz9_0, hfz9_1⟩ := cel2 BK402.out) | ((with_reducible refine gate_callee (f := 50) rfl ?_); refine goesL_ (some 9) rfl rfl Try.func50 (by kernel_rfl) rfl #[.slice A0_0 l0_0.length c0_0, .slice A1_0 l1_0.length c1_0] rfl argx ?_; (with_reducible refine (laws_eqBoolS.calls k _ _ l0_0 _ _ l1_0 t403 _ ?side1 ?side2 ?side3 ?side4 A3.out).mono ?_); (case side1 => exact mC (Kd.C_below HR0_0.out HB.out)); (case side2 => exact HC0_0.out); (case side3 => exact mC (Kd.C_below HR1_0.out HB.out)); (case side4 => exact HC1_0.out); rintro e w' ⟨rfl, ⟨nd, rfl⟩⟩; refine ⟨_, rfl, ?_⟩))
 (try simp only [Act.put, List.setIfInBounds_toArray, List.set_cons_zero, List.set_cons_succ])
 have H := HF4.out
 clear HF4
 (try clear c1); (try clear c5); (try clear c7); (try clear hcz8_0); (try clear hcz8_1); (try clear hcz9_0); (try clear hcz9_1); (try clear hfz8_0); (try clear hfz8_1); (try clear hfz9_0); (try clear hfz9_1)
 by_cases c10 : t403 = true
 ·subst c10
  have H1 : ((laws_eqBoolS.f k l0_1 l1_1).bind fun t404 => (if t404 = true then (some true) else (some false))) = some r := by rw [if_pos rfl] at H; exact H
  clear H
  have H := H1
  clear H1
  replace H := Option.bind_eq_some_iff.mp H
  obtain ⟨t404, A110, H⟩ := H
  replace H : (if t404 = true then (some true) else (some false)) = some r := H
  have A11 := z0 A110
  clear A110
  have HF12 := z0 H
  clear H
  have hnb13 := NB401_402.out
  have hnc13 := NB402_401.out
  obtain ⟨hcz14_0, hcz14_1, hfz14_0, hfz14_1⟩ := cel2 BK401.out
  obtain ⟨hcz15_0, hcz15_1, hfz15_0, hfz15_1⟩ := cel2 BK402.out
  go_upto_if 16 with (first | ((with_reducible refine gate_callee (f := 50) rfl ?_); refine goesL_ (some 15) rfl rfl Try.func50 (by kernel_rfl) rfl #[.slice A0_1 l0_1.length c0_1, .slice A1_1 l1_1.length c1_1] rfl argx ?_; (with_reducible refine (laws_eqBoolS.calls k _ _ l0_1 _ _ l1_1 t404 _ ?side1 ?side2 ?side3 ?side4 A11.out).mono ?_); (case side1 => exact mC (Kd.C_below HR0_1.out HB.out)); (case side2 => exact HC0_1.out); (case side3 => exact mC (Kd.C_below HR1_1.out HB.out)); (case side4 => exact HC1_1.out); rintro e w' ⟨rfl, ⟨nd, rfl⟩⟩; refine ⟨_, rfl, ?_⟩))
  (try simp only [Act.put, List.setIfInBounds_toArray, List.set_cons_zero, List.set_cons_succ])
  have H := HF12.out
  clear HF12
  (try clear c1); (try clear c5); (try clear c7); (try clear c10); (try clear c13); (try clear hcz14_0); (try clear hcz14_1); (try clear hcz15_0); (try clear hcz15_1); (try clear hcz8_0); (try clear hcz8_1); (try clear hcz9_0); (try clear hcz9_1); (try clear hfz14_0); (try clear hfz14_1); (try clear hfz15_0); (try clear hfz15_1); (try clear hfz8_0); (try clear hfz8_1); (try clear hfz9_0); (try clear hfz9_1)
  by_cases c16 : t404 = true
  ·subst c16
   have H1 : (some true) = some r := by rw [if_pos rfl] at H; exact H
   clear H
   have H := H1
   clear H1
   obtain rfl := Option.some.inj H
   go_wp2
   go_ret
   exact ⟨rfx, mB HB.out⟩
  ·replace c16 := Bool.eq_false_iff.mpr c16
   subst c16
   have H1 : (some false) = some r := by rw [if_neg (show ¬ (false = true) by decide)] at H; exact H
   clear H
   have H := H1
   clear H1
   obtain rfl := Option.some.inj H
   go_wp2
   go_ret
   exact ⟨rfx, mB HB.out⟩
 ·replace c10 := Bool.eq_false_iff.mpr c10
  subst c10
  have H1 : (some false) = some r := by rw [if_neg (show ¬ (false = true) by decide)] at H; exact H
  clear H
  have H := H1
  clear H1
  obtain rfl := Option.some.inj H
  go_wp2
  go_ret
  exact ⟨rfx, mB HB.out⟩

end Go.Proofs.Ytlmchfcfkfegaaa.B
