/- Printed functions of this seat, in one text. -/
import Derived.Test.YtendbgedpjcocaaGreatDoorB0
import Derived.Test.YtendbgedpjcocaaGreatDoorSq
namespace Go.Proofs.YtendbgedpjcocaaGreatDoor.B
open Go.RowKit Go.Proofs.YtendbgedpjcocaaGreatDoorW.PrintWords Go.Proofs.YtendbgedpjcocaaGreatDoorW.PrintLast Go.Proofs.YtendbgedpjcocaaGreatDoorW.PrintMore
attribute [local go_sem] max2_int min2_int max_two min_two max_three min_three max_four min_four   -- for this text's walks alone
set_option linter.unusedVariables false
set_option linter.unusedSimpArgs false

theorem eqA24 (d : Nat) (w : World) (x0 y0 : Int) (x1 y1 : Int) :
    (Op.equalIn (d + 2) 24 (.agg #[.int .i64 x0, .int .i64 x1]) (.agg #[.int .i64 y0, .int .i64 y1])).run Tryz.prog w = .ok (x0 == y0 && (x1 == y1)) w := by
  refine eqA_of Tryz.underlying24 (by kernel_rfl) ?_
  refine eqf_cons (by rfl) (by go_simp; rfl) (by go_simp; rfl) (by go_simp) ?_
  exact eqf_last (by rfl) (by go_simp; rfl) (by go_simp; rfl) (by go_simp)
/-! ### impl_isNum: function 66 -/
def impl_isNum.f (a0 : Int) : Option (Bool) := if a0 ≥ (-1000000) then (some (decide (a0 ≤ 1000000))) else (some false)
set_option maxHeartbeats 8000000 in
set_option maxRecDepth 100000 in
theorem impl_isNum.calls (a0 : Int) (r : Bool) (w : World) (h : impl_isNum.f a0 = some r) :
  Calls Tryz.prog 66 #[.int .i64 a0] w fun e w' => e = .returned (.bool r) ∧ Drawn0 w w' := by
 have H : (if a0 ≥ (-1000000) then (some (decide (a0 ≤ 1000000))) else (some false)) = some r := h
 clear h
 by_cases c2 : a0 ≥ (-1000000)
 ·rw [if_pos c2] at H
  have c2b0 : decide ((-1000000) ≤ a0) = true := decide_eq_true c2
  clear c2
  obtain rfl := Option.some.inj H
  go_enter Tryz.func66, Tryz.ntmps66
  go_wp2
  go_ret
  exact ⟨by first | rfl | (simp; done) | (simp [*]; done), by repeat (first | exact Drawn0.refl _ | apply Drawn0.step)⟩
 ·rw [if_neg c2] at H
  have c2b0 : decide ((-1000000) ≤ a0) = false := decide_eq_false c2
  clear c2
  obtain rfl := Option.some.inj H
  go_enter Tryz.func66, Tryz.ntmps66
  go_wp2
  go_ret
  exact ⟨by first | rfl | (simp; done) | (simp [*]; done), by repeat (first | exact Drawn0.refl _ | apply Drawn0.step)⟩

/-! ### impl_AddrOk: function 90 -/
def impl_AddrOk.f (a0_0 : Int) (a0_1 : Int) : Option (Bool) := if a0_0 ≥ 1 then (if a0_0 ≤ 3 then (if a0_1 ≥ 0 then (some (decide (a0_1 < 6))) else (some false)) else (some false)) else (some false)
set_option maxHeartbeats 8000000 in
set_option maxRecDepth 100000 in
theorem impl_AddrOk.calls (a0_0 : Int) (a0_1 : Int) (r : Bool) (w : World) (h : impl_AddrOk.f a0_0 a0_1 = some r) :
  Calls Tryz.prog 90 #[.agg #[.int .i64 a0_0, .int .i64 a0_1]] w fun e w' => e = .returned (.bool r) ∧ Below w.heap.size w w' := by
 have hu24 := Tryz.underlying24
 have HB := z0 (Below.refl w.heap.size w)
 have H : (if a0_0 ≥ 1 then (if a0_0 ≤ 3 then (if a0_1 ≥ 0 then (some (decide (a0_1 < 6))) else (some false)) else (some false)) else (some false)) = some r := h
 clear h
 have HF2 := z0 H
 clear H
 go_enter Tryz.func90, Tryz.ntmps90
 go_upto_region 1 with (first | ((with_reducible refine gate_dst (N := 1) rfl ?_); refine box_event ?hg (N := 1) ?hd (cs := #[.int .i64 a0_0, .int .i64 a0_1]) (t := 24) ?hr ?_; (case hd => rfl); (case hg => rfl); (case hr => first | (go_simp; done) | (go_simp; rfl)); intro gb596 hg w3 hbox hb; have n_ := az (below_step (mB HB.out) hb) <| az (hbox) <| az ((by rw [hg]; exact (below_size (mB HB.out)) : w.heap.size ≤ gb596)) <| z0 ((by rw [hg]; exact (below_size (mB HB.out)) : w.heap.size ≤ gb596)); clear HB; obtain ⟨HB, BK596, GW596, GE596⟩ := n_; clear hb hbox hg))
 (try simp only [Act.put, List.setIfInBounds_toArray, List.set_cons_zero, List.set_cons_succ])
 have H := HF2.out
 clear HF2
 by_cases c4 : a0_0 ≥ 1
 ·rw [if_pos c4] at H
  have c4b0 : decide (1 ≤ a0_0) = true := decide_eq_true c4
  clear c4
  by_cases c5 : a0_0 ≤ 3
  ·rw [if_pos c5] at H
   have c5b0 : decide (a0_0 ≤ 3) = true := decide_eq_true c5
   clear c5
   by_cases c6 : a0_1 ≥ 0
   ·rw [if_pos c6] at H
    have c6b0 : decide (0 ≤ a0_1) = true := decide_eq_true c6
    clear c6
    obtain rfl := Option.some.inj H
    obtain ⟨hcz7_0, hcz7_1, hfz7_0, hfz7_1⟩ := cel2 BK596.out
    go_wp2
    go_ret
    exact ⟨rfx, mB HB.out⟩
   ·rw [if_neg c6] at H
    have c6b0 : decide (0 ≤ a0_1) = false := decide_eq_false c6
    clear c6
    obtain rfl := Option.some.inj H
    obtain ⟨hcz8_0, hcz8_1, hfz8_0, hfz8_1⟩ := cel2 BK596.out
    go_wp2
    go_ret
    exact ⟨rfx, mB HB.out⟩
  ·rw [if_neg c5] at H
   have c5b0 : decide (a0_0 ≤ 3) = false := decide_eq_false c5
   clear c5
   obtain rfl := Option.some.inj H
   obtain ⟨hcz9_0, hcz9_1, hfz9_0, hfz9_1⟩ := cel2 BK596.out
   go_wp2
   go_ret
   exact ⟨rfx, mB HB.out⟩
 ·rw [if_neg c4] at H
  have c4b0 : decide (1 ≤ a0_0) = false := decide_eq_false c4
  clear c4
  obtain rfl := Option.some.inj H
  obtain ⟨hcz10_0, hcz10_1, hfz10_0, hfz10_1⟩ := cel2 BK596.out
  go_wp2
  go_ret
  exact ⟨rfx, mB HB.out⟩

/-! ### spec_AddrOk: function 75 -/
def spec_AddrOk.f (a0_0 : Int) (a0_1 : Int) : Option (Bool) := if a0_0 ≥ 1 then (if a0_0 ≤ 3 then (if a0_1 ≥ 0 then (some (decide (a0_1 < 6))) else (some false)) else (some false)) else (some false)
set_option maxHeartbeats 8000000 in
set_option maxRecDepth 100000 in
theorem spec_AddrOk.calls (a0_0 : Int) (a0_1 : Int) (r : Bool) (w : World) (h : spec_AddrOk.f a0_0 a0_1 = some r) :
  Calls Tryz.prog 75 #[.agg #[.int .i64 a0_0, .int .i64 a0_1]] w fun e w' => e = .returned (.bool r) ∧ Below w.heap.size w w' := by
 have hu24 := Tryz.underlying24
 have HB := z0 (Below.refl w.heap.size w)
 have H : (if a0_0 ≥ 1 then (if a0_0 ≤ 3 then (if a0_1 ≥ 0 then (some (decide (a0_1 < 6))) else (some false)) else (some false)) else (some false)) = some r := h
 clear h
 have HF2 := z0 H
 clear H
 go_enter Tryz.func75, Tryz.ntmps75
 go_upto_region 1 with (first | ((with_reducible refine gate_dst (N := 1) rfl ?_); refine box_event ?hg (N := 1) ?hd (cs := #[.int .i64 a0_0, .int .i64 a0_1]) (t := 24) ?hr ?_; (case hd => rfl); (case hg => rfl); (case hr => first | (go_simp; done) | (go_simp; rfl)); intro gb132 hg w3 hbox hb; have n_ := az (below_step (mB HB.out) hb) <| az (hbox) <| az ((by rw [hg]; exact (below_size (mB HB.out)) : w.heap.size ≤ gb132)) <| z0 ((by rw [hg]; exact (below_size (mB HB.out)) : w.heap.size ≤ gb132)); clear HB; obtain ⟨HB, BK132, GW132, GE132⟩ := n_; clear hb hbox hg))
 (try simp only [Act.put, List.setIfInBounds_toArray, List.set_cons_zero, List.set_cons_succ])
 have H := HF2.out
 clear HF2
 by_cases c4 : a0_0 ≥ 1
 ·rw [if_pos c4] at H
  have c4b0 : decide (1 ≤ a0_0) = true := decide_eq_true c4
  clear c4
  by_cases c5 : a0_0 ≤ 3
  ·rw [if_pos c5] at H
   have c5b0 : decide (a0_0 ≤ 3) = true := decide_eq_true c5
   clear c5
   by_cases c6 : a0_1 ≥ 0
   ·rw [if_pos c6] at H
    have c6b0 : decide (0 ≤ a0_1) = true := decide_eq_true c6
    clear c6
    obtain rfl := Option.some.inj H
    obtain ⟨hcz7_0, hcz7_1, hfz7_0, hfz7_1⟩ := cel2 BK132.out
    go_wp2
    go_ret
    exact ⟨rfx, mB HB.out⟩
   ·rw [if_neg c6] at H
    have c6b0 : decide (0 ≤ a0_1) = false := decide_eq_false c6
    clear c6
    obtain rfl := Option.some.inj H
    obtain ⟨hcz8_0, hcz8_1, hfz8_0, hfz8_1⟩ := cel2 BK132.out
    go_wp2
    go_ret
    exact ⟨rfx, mB HB.out⟩
  ·rw [if_neg c5] at H
   have c5b0 : decide (a0_0 ≤ 3) = false := decide_eq_false c5
   clear c5
   obtain rfl := Option.some.inj H
   obtain ⟨hcz9_0, hcz9_1, hfz9_0, hfz9_1⟩ := cel2 BK132.out
   go_wp2
   go_ret
   exact ⟨rfx, mB HB.out⟩
 ·rw [if_neg c4] at H
  have c4b0 : decide (1 ≤ a0_0) = false := decide_eq_false c4
  clear c4
  obtain rfl := Option.some.inj H
  obtain ⟨hcz10_0, hcz10_1, hfz10_0, hfz10_1⟩ := cel2 BK132.out
  go_wp2
  go_ret
  exact ⟨rfx, mB HB.out⟩

/-! ### spec_l1Max: function 98 -/
def spec_l1Max.f (a0 : Int) (a1 : Int) : Option (Int) := if a0 > a1 then (some a0) else (some a1)
set_option maxHeartbeats 8000000 in
set_option maxRecDepth 100000 in
theorem spec_l1Max.calls (a0 : Int) (a1 : Int) (r : Int) (w : World) (h : spec_l1Max.f a0 a1 = some r) :
  Calls Tryz.prog 98 #[.int .i64 a0, .int .i64 a1] w fun e w' => e = .returned (.int .i64 r) ∧ Drawn0 w w' := by
 have H : (if a0 > a1 then (some a0) else (some a1)) = some r := h
 clear h
 by_cases c3 : a0 > a1
 ·rw [if_pos c3] at H
  have c3b0 : decide (a1 < a0) = true := decide_eq_true c3
  clear c3
  obtain rfl := Option.some.inj H
  go_enter Tryz.func98, Tryz.ntmps98
  go_wp2
  go_ret
  exact ⟨by first | rfl | (simp; done) | (simp [*]; done), by repeat (first | exact Drawn0.refl _ | apply Drawn0.step)⟩
 ·rw [if_neg c3] at H
  have c3b0 : decide (a1 < a0) = false := decide_eq_false c3
  clear c3
  obtain rfl := Option.some.inj H
  go_enter Tryz.func98, Tryz.ntmps98
  go_wp2
  go_ret
  exact ⟨by first | rfl | (simp; done) | (simp [*]; done), by repeat (first | exact Drawn0.refl _ | apply Drawn0.step)⟩

/-! ### spec_l1Min: function 99 -/
def spec_l1Min.f (a0 : Int) (a1 : Int) : Option (Int) := if a0 < a1 then (some a0) else (some a1)
set_option maxHeartbeats 8000000 in
set_option maxRecDepth 100000 in
theorem spec_l1Min.calls (a0 : Int) (a1 : Int) (r : Int) (w : World) (h : spec_l1Min.f a0 a1 = some r) :
  Calls Tryz.prog 99 #[.int .i64 a0, .int .i64 a1] w fun e w' => e = .returned (.int .i64 r) ∧ Drawn0 w w' := by
 have H : (if a0 < a1 then (some a0) else (some a1)) = some r := h
 clear h
 by_cases c3 : a0 < a1
 ·rw [if_pos c3] at H
  have c3b0 : decide (a0 < a1) = true := decide_eq_true c3
  clear c3
  obtain rfl := Option.some.inj H
  go_enter Tryz.func99, Tryz.ntmps99
  go_wp2
  go_ret
  exact ⟨by first | rfl | (simp; done) | (simp [*]; done), by repeat (first | exact Drawn0.refl _ | apply Drawn0.step)⟩
 ·rw [if_neg c3] at H
  have c3b0 : decide (a0 < a1) = false := decide_eq_false c3
  clear c3
  obtain rfl := Option.some.inj H
  go_enter Tryz.func99, Tryz.ntmps99
  go_wp2
  go_ret
  exact ⟨by first | rfl | (simp; done) | (simp [*]; done), by repeat (first | exact Drawn0.refl _ | apply Drawn0.step)⟩

/-! ### spec_NumCut: function 76 -/
def spec_NumCut.f (a0 : Int) : Option (Int) := (spec_l1Min.f 1000000 a0).bind fun t133 => ((spec_l1Max.f (-1000000) t133).bind fun t134 => (some t134))
set_option maxHeartbeats 8000000 in
set_option maxRecDepth 100000 in
theorem spec_NumCut.calls (a0 : Int) (r : Int) (w : World) (h : spec_NumCut.f a0 = some r) :
  Calls Tryz.prog 76 #[.int .i64 a0] w fun e w' => e = .returned (.int .i64 r) ∧ Drawn0 w w' := by
 have H : ((spec_l1Min.f 1000000 a0).bind fun t133 => ((spec_l1Max.f (-1000000) t133).bind fun t134 => (some t134))) = some r := h
 clear h
 replace H := Option.bind_eq_some_iff.mp H
 obtain ⟨t133, A20, H⟩ := H
 try dsimp only at H
 have A2 := z0 A20
 clear A20
 replace H := Option.bind_eq_some_iff.mp H
 obtain ⟨t134, A30, H⟩ := H
 try dsimp only at H
 have A3 := z0 A30
 clear A30
 obtain rfl := Option.some.inj H
 go_enter Tryz.func76, Tryz.ntmps76
 go_wp2_with (first | ((with_reducible refine gate_callee (f := 99) rfl ?_); refine goesL_ (some 4) rfl rfl Tryz.func99 (by kernel_rfl) rfl #[.int .i64 1000000, .int .i64 a0] rfl argx ?_; (with_reducible refine (spec_l1Min.calls 1000000 a0 t133 _ A2.out).mono ?_); rintro e w' ⟨rfl, ⟨nd, rfl⟩⟩; refine ⟨_, rfl, ?_⟩) | ((with_reducible refine gate_callee (f := 98) rfl ?_); refine goesL_ (some 5) rfl rfl Tryz.func98 (by kernel_rfl) rfl #[.int .i64 (-1000000), .int .i64 t133] rfl argx ?_; (with_reducible refine (spec_l1Max.calls (-1000000) t133 t134 _ A3.out).mono ?_); rintro e w' ⟨rfl, ⟨nd, rfl⟩⟩; refine ⟨_, rfl, ?_⟩))
 go_ret
 exact ⟨by first | rfl | (simp; done) | (simp [*]; done), by repeat (first | exact Drawn0.refl _ | apply Drawn0.step)⟩

/-! ### spec_l3Kids: function 89 -/
def spec_l3Kids.j0 : Nat → Int → Bool → Option (Int)
 | 0, _, _ => none
 | k + 1, x0, x3 => if x3 = true then (some 0) else (if x0 = 10 then (some 1) else (if x0 ≥ 3 then (if x0 ≤ 9 then (some 2) else (some (-1))) else (some (-1))))
def spec_l3Kids.f (k : Nat) (a0 : Int) : Option (Int) := if a0 = 1 then (spec_l3Kids.j0 k a0 true) else (spec_l3Kids.j0 k a0 (a0 == 2))
theorem spec_l3Kids.mono_l : ∀ k, (∀ y0 y1, LeO (spec_l3Kids.j0 k y0 y1) (spec_l3Kids.j0 (k + 1) y0 y1))
 | 0 => fun _ _ r h => by simp [spec_l3Kids.j0] at h
 | k + 1 => by
  have ih0 := spec_l3Kids.mono_l k
  ·intro y0 y1
   unfold spec_l3Kids.j0
   repeat' first
   | (with_reducible exact ih0 _ _)
   | (with_reducible exact LeO.refl _)
   | (with_reducible exact LeO.none _)
   | (with_reducible refine LeO.ite ?_ ?_)
   | (with_reducible refine LeO.bind ?_ (fun _ => ?_))
   | exact ih0 _ _
   | exact LeO.none _
   | refine LeO.ite ?_ ?_
   | refine LeO.bind ?_ (fun _ => ?_)
theorem spec_l3Kids.mono : ∀ a0 k, LeO (spec_l3Kids.f k a0) (spec_l3Kids.f (k + 1) a0) := by
 intro a0 k
 have ih0 := spec_l3Kids.mono_l k
 unfold spec_l3Kids.f
 repeat' first
   | (with_reducible exact ih0 _ _)
   | (with_reducible exact LeO.refl _)
   | (with_reducible exact LeO.none _)
   | (with_reducible refine LeO.ite ?_ ?_)
   | (with_reducible refine LeO.bind ?_ (fun _ => ?_))
   | exact ih0 _ _
   | exact LeO.none _
   | refine LeO.ite ?_ ?_
   | refine LeO.bind ?_ (fun _ => ?_)
set_option maxHeartbeats 8000000 in
set_option maxRecDepth 100000 in
theorem spec_l3Kids.calls (k : Nat) (a0 : Int) (r : Int) (w : World) (h : spec_l3Kids.f k a0 = some r) :
  Calls Tryz.prog 89 #[.int .i64 a0] w fun e w' => e = .returned (.int .i64 r) ∧ Drawn0 w w' := by
 have H : (if a0 = 1 then (spec_l3Kids.j0 k a0 true) else (spec_l3Kids.j0 k a0 (a0 == 2))) = some r := h
 clear h
 have HC2 := z0 H
 clear H
 go_enter Tryz.func89, Tryz.ntmps89
 go_upto_region 1 with (fail)
 go_cut [3] (fun v3 wc => ∃ (kq : Nat) (x3_1 : Bool), v3 = .bool x3_1 ∧ Aside0 (spec_l3Kids.j0 kq a0 x3_1 = some r) ∧ Aside0 (kq ≤ k) ∧ Drawn0 w wc)
 case first =>
  have H := HC2.out
  clear HC2
  by_cases c3 : a0 = 1
  ·rw [if_pos c3] at H
   have c3b0 : (a0 == 1) = true := beq_iff_eq.mpr c3
   have c3b1 : (a0 != 1) = false := bne_eq_false_iff_eq.mpr c3
   clear c3
   (first | rw [c3b0] | (simp only [i64_w, i32_w]; rw [c3b0]) | skip)
   have H' := z0 H
   clear H
   go_wp2
   go_meet
   case rel => exact ⟨_, (true), rfy, H', ⟨by first | omega | exact Nat.le_refl _⟩, by repeat (first | exact Drawn0.refl _ | apply Drawn0.step)⟩
  ·rw [if_neg c3] at H
   have c3b0 : (a0 == 1) = false := beq_eq_false_iff_ne.mpr c3
   have c3b1 : (a0 != 1) = true := bne_iff_ne.mpr c3
   (first | rw [c3b0] | (simp only [i64_w, i32_w]; rw [c3b0]) | skip)
   have H' := z0 H
   clear H
   go_wp2
   go_meet
   case rel => exact ⟨_, ((a0 == 2)), rfy, H', ⟨by first | omega | exact Nat.le_refl _⟩, by repeat (first | exact Drawn0.refl _ | apply Drawn0.step)⟩
 case rest =>
  clear HC2
  skip
  obtain ⟨kq, x3_1, rfl, HA, HJ1, ⟨mc1, rfl⟩⟩ := hcut
  cases kq with
  | zero => exact absurd HA.out (by simp [spec_l3Kids.j0])
  | succ kj1 =>
   have H := HA.out
   clear HA
   simp only [spec_l3Kids.j0] at H
   by_cases c4 : x3_1 = true
   ·subst c4
    have H1 : (some 0) = some r := by rw [if_pos rfl] at H; exact H
    clear H
    have H := H1
    clear H1
    obtain rfl := Option.some.inj H
    go_wp2
    go_ret
    exact ⟨by first | rfl | (simp; done) | (simp [*]; done), by repeat (first | exact Drawn0.refl _ | apply Drawn0.step)⟩
   ·replace c4 := Bool.eq_false_iff.mpr c4
    subst c4
    have H1 : (if a0 = 10 then (some 1) else (if a0 ≥ 3 then (if a0 ≤ 9 then (some 2) else (some (-1))) else (some (-1)))) = some r := by rw [if_neg (show ¬ (false = true) by decide)] at H; exact H
    clear H
    have H := H1
    clear H1
    by_cases c5 : a0 = 10
    ·rw [if_pos c5] at H
     have c5b0 : (a0 == 10) = true := beq_iff_eq.mpr c5
     have c5b1 : (a0 != 10) = false := bne_eq_false_iff_eq.mpr c5
     clear c5
     obtain rfl := Option.some.inj H
     go_wp2
     go_ret
     exact ⟨by first | rfl | (simp; done) | (simp [*]; done), by repeat (first | exact Drawn0.refl _ | apply Drawn0.step)⟩
    ·rw [if_neg c5] at H
     have c5b0 : (a0 == 10) = false := beq_eq_false_iff_ne.mpr c5
     have c5b1 : (a0 != 10) = true := bne_iff_ne.mpr c5
     by_cases c6 : a0 ≥ 3
     ·rw [if_pos c6] at H
      have c6b0 : decide (3 ≤ a0) = true := decide_eq_true c6
      clear c6
      by_cases c7 : a0 ≤ 9
      ·rw [if_pos c7] at H
       have c7b0 : decide (a0 ≤ 9) = true := decide_eq_true c7
       clear c7
       obtain rfl := Option.some.inj H
       go_wp2
       go_ret
       exact ⟨by first | rfl | (simp; done) | (simp [*]; done), by repeat (first | exact Drawn0.refl _ | apply Drawn0.step)⟩
      ·rw [if_neg c7] at H
       have c7b0 : decide (a0 ≤ 9) = false := decide_eq_false c7
       clear c7
       obtain rfl := Option.some.inj H
       go_wp2
       go_ret
       exact ⟨by first | rfl | (simp; done) | (simp [*]; done), by repeat (first | exact Drawn0.refl _ | apply Drawn0.step)⟩
     ·rw [if_neg c6] at H
      have c6b0 : decide (3 ≤ a0) = false := decide_eq_false c6
      clear c6
      obtain rfl := Option.some.inj H
      go_wp2
      go_ret
      exact ⟨by first | rfl | (simp; done) | (simp [*]; done), by repeat (first | exact Drawn0.refl _ | apply Drawn0.step)⟩

end Go.Proofs.YtendbgedpjcocaaGreatDoor.B
namespace Go.Proofs.YtendbgedpjcocaaGreatDoor.B
open Go.RowKit Go.Proofs.YtendbgedpjcocaaGreatDoorW.PrintWords Go.Proofs.YtendbgedpjcocaaGreatDoorW.PrintLast Go.Proofs.YtendbgedpjcocaaGreatDoorW.PrintMore
attribute [local go_sem] max2_int min2_int max_two min_two max_three min_three max_four min_four   -- for this text's walks alone
set_option linter.unusedVariables false
set_option linter.unusedSimpArgs false

attribute [local go_sem high] eqA24
/-! ### spec_l3Form: function 57 -/
mutual
def spec_l3Form.j0 : Nat → Int → Bool → Int → Int → Int → Int → List (S27) → Option (Bool)
 | 0, _, _, _, _, _, _, _ => none
 | k + 1, x1, x16, x136000, x136001, x136002, x136003, x136004 => if x16 = true then (some false) else (if x136000 = 1 then ((spec_NumCut.f x136001).bind fun t137 => (if t137 = x136001 then (spec_l3Form.j1 k x1 false x136000 x136001 x136002 x136003 x136004) else (spec_l3Form.j1 k x1 true x136000 x136001 x136002 x136003 x136004))) else (spec_l3Form.j1 k x1 (x136001 != 0) x136000 x136001 x136002 x136003 x136004))
def spec_l3Form.j1 : Nat → Int → Bool → Int → Int → Int → Int → List (S27) → Option (Bool)
 | 0, _, _, _, _, _, _, _ => none
 | k + 1, x1, x37, x136000, x136001, x136002, x136003, x136004 => if x37 = true then (some false) else (if x136000 = 2 then ((spec_AddrOk.f x136002 x136003).bind fun t138 => (if t138 = true then (spec_l3Form.j2 k x1 false x136000 x136001 x136002 x136003 x136004) else (spec_l3Form.j2 k x1 true x136000 x136001 x136002 x136003 x136004))) else (spec_l3Form.j2 k x1 (!(x136002 == 0) || (!(x136003 == 0))) x136000 x136001 x136002 x136003 x136004))
def spec_l3Form.j2 : Nat → Int → Bool → Int → Int → Int → Int → List (S27) → Option (Bool)
 | 0, _, _, _, _, _, _, _ => none
 | k + 1, x1, x57, x136000, x136001, x136002, x136003, x136004 => if x57 = true then (some false) else (spec_l3Form.l0 k x1 0 x136000 x136001 x136002 x136003 x136004)
def spec_l3Form.l0 : Nat → Int → Int → Int → Int → Int → Int → List (S27) → Option (Bool)
 | 0, _, _, _, _, _, _, _ => none
 | k + 1, x1, x5, x136000, x136001, x136002, x136003, x136004 => if x5 < (x136004.length : Int) then (if 0 ≤ x5 then ((spec_l3Form.f k ((rd_T27 x136004 x5).f0) ((rd_T27 x136004 x5).f1) ((rd_T27 x136004 x5).f2.f0) ((rd_T27 x136004 x5).f2.f1) ((rd_T27 x136004 x5).f3) (wrap64 (x1 - 1))).bind fun t140 => (if t140 = true then (spec_l3Form.l0 k x1 (wrap64 (x5 + 1)) x136000 x136001 x136002 x136003 x136004) else (some false))) else (none)) else (some true)
def spec_l3Form.f : Nat → Int → Int → Int → Int → List (S27) → Int → Option (Bool)
 | 0, _, _, _, _, _, _ => none
 | k + 1, a0_0, a0_1, a0_2, a0_3, l0_4, a1 => if a1 < 1 then (spec_l3Form.j0 k a1 true a0_0 a0_1 a0_2 a0_3 l0_4) else ((spec_l3Kids.f k a0_0).bind fun t136 => (spec_l3Form.j0 k a1 (t136 != (l0_4.length : Int)) a0_0 a0_1 a0_2 a0_3 l0_4))
end
theorem spec_l3Form.mono_l : ∀ k, (∀ y0 y1 y2 y3 y4 y5, LeO (spec_l3Form.f k y0 y1 y2 y3 y4 y5) (spec_l3Form.f (k + 1) y0 y1 y2 y3 y4 y5)) ∧ (∀ y0 y1 y2 y3 y4 y5 y6, LeO (spec_l3Form.j0 k y0 y1 y2 y3 y4 y5 y6) (spec_l3Form.j0 (k + 1) y0 y1 y2 y3 y4 y5 y6)) ∧ (∀ y0 y1 y2 y3 y4 y5 y6, LeO (spec_l3Form.j1 k y0 y1 y2 y3 y4 y5 y6) (spec_l3Form.j1 (k + 1) y0 y1 y2 y3 y4 y5 y6)) ∧ (∀ y0 y1 y2 y3 y4 y5 y6, LeO (spec_l3Form.j2 k y0 y1 y2 y3 y4 y5 y6) (spec_l3Form.j2 (k + 1) y0 y1 y2 y3 y4 y5 y6)) ∧ (∀ y0 y1 y2 y3 y4 y5 y6, LeO (spec_l3Form.l0 k y0 y1 y2 y3 y4 y5 y6) (spec_l3Form.l0 (k + 1) y0 y1 y2 y3 y4 y5 y6))
 | 0 => ⟨fun _ _ _ _ _ _ r h => by simp [spec_l3Form.f] at h, fun _ _ _ _ _ _ _ r h => by simp [spec_l3Form.j0] at h, fun _ _ _ _ _ _ _ r h => by simp [spec_l3Form.j1] at h, fun _ _ _ _ _ _ _ r h => by simp [spec_l3Form.j2] at h, fun _ _ _ _ _ _ _ r h => by simp [spec_l3Form.l0] at h⟩
 | k + 1 => by
  obtain ⟨ih0, ih1, ih2, ih3, ih4⟩ := spec_l3Form.mono_l k
  refine ⟨?_, ?_, ?_, ?_, ?_⟩
  ·intro y0 y1 y2 y3 y4 y5
   unfold spec_l3Form.f
   repeat' first
   | (with_reducible exact ih0 _ _ _ _ _ _)
   | (with_reducible exact ih1 _ _ _ _ _ _ _)
   | (with_reducible exact ih2 _ _ _ _ _ _ _)
   | (with_reducible exact ih3 _ _ _ _ _ _ _)
   | (with_reducible exact ih4 _ _ _ _ _ _ _)
   | (with_reducible exact spec_l3Kids.mono _ _)
   | (with_reducible exact LeO.refl _)
   | (with_reducible exact LeO.none _)
   | (with_reducible refine LeO.ite ?_ ?_)
   | (with_reducible refine LeO.bind ?_ (fun _ => ?_))
   | exact ih0 _ _ _ _ _ _
   | exact ih1 _ _ _ _ _ _ _
   | exact ih2 _ _ _ _ _ _ _
   | exact ih3 _ _ _ _ _ _ _
   | exact ih4 _ _ _ _ _ _ _
   | exact spec_l3Kids.mono _ _
   | exact LeO.none _
   | refine LeO.ite ?_ ?_
   | refine LeO.bind ?_ (fun _ => ?_)
  ·intro y0 y1 y2 y3 y4 y5 y6
   unfold spec_l3Form.j0
   repeat' first
   | (with_reducible exact ih0 _ _ _ _ _ _)
   | (with_reducible exact ih1 _ _ _ _ _ _ _)
   | (with_reducible exact ih2 _ _ _ _ _ _ _)
   | (with_reducible exact ih3 _ _ _ _ _ _ _)
   | (with_reducible exact ih4 _ _ _ _ _ _ _)
   | (with_reducible exact spec_l3Kids.mono _ _)
   | (with_reducible exact LeO.refl _)
   | (with_reducible exact LeO.none _)
   | (with_reducible refine LeO.ite ?_ ?_)
   | (with_reducible refine LeO.bind ?_ (fun _ => ?_))
   | exact ih0 _ _ _ _ _ _
   | exact ih1 _ _ _ _ _ _ _
   | exact ih2 _ _ _ _ _ _ _
   | exact ih3 _ _ _ _ _ _ _
   | exact ih4 _ _ _ _ _ _ _
   | exact spec_l3Kids.mono _ _
   | exact LeO.none _
   | refine LeO.ite ?_ ?_
   | refine LeO.bind ?_ (fun _ => ?_)
  ·intro y0 y1 y2 y3 y4 y5 y6
   unfold spec_l3Form.j1
   repeat' first
   | (with_reducible exact ih0 _ _ _ _ _ _)
   | (with_reducible exact ih1 _ _ _ _ _ _ _)
   | (with_reducible exact ih2 _ _ _ _ _ _ _)
   | (with_reducible exact ih3 _ _ _ _ _ _ _)
   | (with_reducible exact ih4 _ _ _ _ _ _ _)
   | (with_reducible exact spec_l3Kids.mono _ _)
   | (with_reducible exact LeO.refl _)
   | (with_reducible exact LeO.none _)
   | (with_reducible refine LeO.ite ?_ ?_)
   | (with_reducible refine LeO.bind ?_ (fun _ => ?_))
   | exact ih0 _ _ _ _ _ _
   | exact ih1 _ _ _ _ _ _ _
   | exact ih2 _ _ _ _ _ _ _
   | exact ih3 _ _ _ _ _ _ _
   | exact ih4 _ _ _ _ _ _ _
   | exact spec_l3Kids.mono _ _
   | exact LeO.none _
   | refine LeO.ite ?_ ?_
   | refine LeO.bind ?_ (fun _ => ?_)
  ·intro y0 y1 y2 y3 y4 y5 y6
   unfold spec_l3Form.j2
   repeat' first
   | (with_reducible exact ih0 _ _ _ _ _ _)
   | (with_reducible exact ih1 _ _ _ _ _ _ _)
   | (with_reducible exact ih2 _ _ _ _ _ _ _)
   | (with_reducible exact ih3 _ _ _ _ _ _ _)
   | (with_reducible exact ih4 _ _ _ _ _ _ _)
   | (with_reducible exact spec_l3Kids.mono _ _)
   | (with_reducible exact LeO.refl _)
   | (with_reducible exact LeO.none _)
   | (with_reducible refine LeO.ite ?_ ?_)
   | (with_reducible refine LeO.bind ?_ (fun _ => ?_))
   | exact ih0 _ _ _ _ _ _
   | exact ih1 _ _ _ _ _ _ _
   | exact ih2 _ _ _ _ _ _ _
   | exact ih3 _ _ _ _ _ _ _
   | exact ih4 _ _ _ _ _ _ _
   | exact spec_l3Kids.mono _ _
   | exact LeO.none _
   | refine LeO.ite ?_ ?_
   | refine LeO.bind ?_ (fun _ => ?_)
  ·intro y0 y1 y2 y3 y4 y5 y6
   unfold spec_l3Form.l0
   repeat' first
   | (with_reducible exact ih0 _ _ _ _ _ _)
   | (with_reducible exact ih1 _ _ _ _ _ _ _)
   | (with_reducible exact ih2 _ _ _ _ _ _ _)
   | (with_reducible exact ih3 _ _ _ _ _ _ _)
   | (with_reducible exact ih4 _ _ _ _ _ _ _)
   | (with_reducible exact spec_l3Kids.mono _ _)
   | (with_reducible exact LeO.refl _)
   | (with_reducible exact LeO.none _)
   | (with_reducible refine LeO.ite ?_ ?_)
   | (with_reducible refine LeO.bind ?_ (fun _ => ?_))
   | exact ih0 _ _ _ _ _ _
   | exact ih1 _ _ _ _ _ _ _
   | exact ih2 _ _ _ _ _ _ _
   | exact ih3 _ _ _ _ _ _ _
   | exact ih4 _ _ _ _ _ _ _
   | exact spec_l3Kids.mono _ _
   | exact LeO.none _
   | refine LeO.ite ?_ ?_
   | refine LeO.bind ?_ (fun _ => ?_)
theorem spec_l3Form.mono : ∀ a0 a1 a2 a3 a4 a5 k, LeO (spec_l3Form.f k a0 a1 a2 a3 a4 a5) (spec_l3Form.f (k + 1) a0 a1 a2 a3 a4 a5) := by
 intro a0 a1 a2 a3 a4 a5 k
 obtain ⟨ih0, ih1, ih2, ih3, ih4⟩ := spec_l3Form.mono_l k
 exact ih0 a0 a1 a2 a3 a4 a5
theorem q57_1 {p : Prop} (h : p := by have := HJ2.out; have := HJ8.out; have := HJ16.out; have := HK4.out; omega) : p := h
set_option maxHeartbeats 8000000 in
set_option maxRecDepth 100000 in
theorem spec_l3Form.calls (k : Nat) : ∀ (a0_0 : Int) (a0_1 : Int) (a0_2 : Int) (a0_3 : Int) (A0_4 : Option Addr) (c0_4 : Nat) (l0_4 : List (S27)) (a1 : Int) (r : Bool) (w : World) (hr0_4 : Kd.C k27 w A0_4 l0_4.length l0_4) (hc0_4 : l0_4.length ≤ c0_4) (h : spec_l3Form.f k a0_0 a0_1 a0_2 a0_3 l0_4 a1 = some r),
  Calls Tryz.prog 57 #[.agg #[.int .i64 a0_0, .int .i64 a0_1, .int .i64 a0_2, .int .i64 a0_3, .slice A0_4 l0_4.length c0_4], .int .i64 a1] w fun e w' => e = .returned (.bool r) ∧ Below w.heap.size w w' := by
 induction k using Nat.strongRecOn with
 | _ k ih =>
 intro a0_0 a0_1 a0_2 a0_3 A0_4 c0_4 l0_4 a1 r w hr0_4 hc0_4 h
 cases k with
 | zero => exact absurd h (by simp [spec_l3Form.f])
 | succ k =>
 simp only [spec_l3Form.f] at h
 have hu27 := Tryz.underlying27
 have hu24 := Tryz.underlying24
 have HR0_4 := z0 hr0_4
 have HC0_4 := z0 hc0_4
 clear hr0_4 hc0_4
 have HB := z0 (Below.refl w.heap.size w)
 have H : (if a1 < 1 then (spec_l3Form.j0 k a1 true a0_0 a0_1 a0_2 a0_3 l0_4) else ((spec_l3Kids.f k a0_0).bind fun t136 => (spec_l3Form.j0 k a1 (t136 != (l0_4.length : Int)) a0_0 a0_1 a0_2 a0_3 l0_4))) = some r := h
 clear h
 have HC3 := z0 H
 clear H
 go_enter Tryz.func57, Tryz.ntmps57
 go_upto_region 1 with (first | ((with_reducible refine gate_dst (N := 2) rfl ?_); (try (refine gate_guard (by rfl) ?_; dsimp only)); refine box_event ?hg (N := 2) ?hd (cs := #[.int .i64 a0_0, .int .i64 a0_1, .int .i64 a0_2, .int .i64 a0_3, .slice A0_4 l0_4.length c0_4]) (t := 27) ?hr ?_; (case hd => rfl); (case hg => rfl); (case hr => first | (go_simp; done) | (go_simp; rfl)); intro gb135 hg w4 hbox hb; have n_ := az (below_step (mB HB.out) hb) <| az (hbox) <| az ((by rw [hg]; exact (below_size (mB HB.out)) : w.heap.size ≤ gb135)) <| z0 ((by rw [hg]; exact (below_size (mB HB.out)) : w.heap.size ≤ gb135)); clear HB; obtain ⟨HB, BK135, GW135, GE135⟩ := n_; clear hb hbox hg))
 repeat (go_quiet (first | ((with_reducible refine gate_dst (N := 2) rfl ?_); (try (refine gate_guard (by rfl) ?_; dsimp only)); refine box_event ?hg (N := 2) ?hd (cs := #[.int .i64 a0_0, .int .i64 a0_1, .int .i64 a0_2, .int .i64 a0_3, .slice A0_4 l0_4.length c0_4]) (t := 27) ?hr ?_; (case hd => rfl); (case hg => rfl); (case hr => first | (go_simp; done) | (go_simp; rfl)); intro gb135 hg w4 hbox hb; have n_ := az (below_step (mB HB.out) hb) <| az (hbox) <| az ((by rw [hg]; exact (below_size (mB HB.out)) : w.heap.size ≤ gb135)) <| z0 ((by rw [hg]; exact (below_size (mB HB.out)) : w.heap.size ≤ gb135)); clear HB; obtain ⟨HB, BK135, GW135, GE135⟩ := n_; clear hb hbox hg)); go_upto_region 1 with (first | ((with_reducible refine gate_dst (N := 2) rfl ?_); (try (refine gate_guard (by rfl) ?_; dsimp only)); refine box_event ?hg (N := 2) ?hd (cs := #[.int .i64 a0_0, .int .i64 a0_1, .int .i64 a0_2, .int .i64 a0_3, .slice A0_4 l0_4.length c0_4]) (t := 27) ?hr ?_; (case hd => rfl); (case hg => rfl); (case hr => first | (go_simp; done) | (go_simp; rfl)); intro gb135 hg w4 hbox hb; have n_ := az (below_step (mB HB.out) hb) <| az (hbox) <| az ((by rw [hg]; exact (below_size (mB HB.out)) : w.heap.size ≤ gb135)) <| z0 ((by rw [hg]; exact (below_size (mB HB.out)) : w.heap.size ≤ gb135)); clear HB; obtain ⟨HB, BK135, GW135, GE135⟩ := n_; clear hb hbox hg)))
 (try simp only [Act.put, List.setIfInBounds_toArray, List.set_cons_zero, List.set_cons_succ])
 go_cut [16] (fun v16 wc => ∃ (kq : Nat) (x16_2 : Bool), v16 = .bool x16_2 ∧ Aside0 (spec_l3Form.j0 kq a1 x16_2 a0_0 a0_1 a0_2 a0_3 l0_4 = some r) ∧ Aside0 (kq ≤ k) ∧ Aside0 (wc.heap[gb135]? = some (.cells #[.int .i64 a0_0, .int .i64 a0_1, .int .i64 a0_2, .int .i64 a0_3, (.slice A0_4 l0_4.length c0_4)] 27 (0, 0))) ∧ Aside0 (Below w.heap.size w wc))
 case first =>
  have H := HC3.out
  clear HC3
  by_cases c5 : a1 < 1
  ·rw [if_pos c5] at H
   have c5b0 : decide (a1 < 1) = true := decide_eq_true c5
   clear c5
   (first | rw [c5b0] | (simp only [i64_w, i32_w]; rw [c5b0]) | skip)
   have H' := z0 H
   clear H
   go_wp2
   repeat (go_quiet (fail); try go_wp2)
   go_meet
   case rel => exact ⟨_, (true), rfy, H', ⟨by first | omega | exact Nat.le_refl _⟩, ⟨mK BK135.out⟩, ⟨mB HB.out⟩⟩
  ·rw [if_neg c5] at H
   have c5b0 : decide (a1 < 1) = false := decide_eq_false c5
   clear c5
   (first | rw [c5b0] | (simp only [i64_w, i32_w]; rw [c5b0]) | skip)
   replace H := Option.bind_eq_some_iff.mp H
   obtain ⟨t136, A60, H⟩ := H
   try dsimp only at H
   have A6 := z0 A60
   clear A60
   have H' := z0 H
   clear H
   obtain ⟨hcz7_0, hcz7_1, hcz7_2, hcz7_3, hcz7_4, hfz7_0, hfz7_1, hfz7_2, hfz7_3, hfz7_4⟩ := cel5 BK135.out
   go_wp2_with (first | (go_at_call 89; (with_reducible refine (spec_l3Kids.calls k a0_0 t136 _ A6.out).mono ?_); rintro e w' ⟨rfl, ⟨nd, rfl⟩⟩; (try first | exact ⟨rfl, _, World.drewN_drewN _ _ _⟩ | exact ⟨rfl, _, Eq.trans (World.drewN_drewN _ _ _) (congrArg (World.drewN _) (Nat.add_assoc _ _ _))⟩)))
   repeat (go_quiet (first | (go_at_call 89; (with_reducible refine (spec_l3Kids.calls k a0_0 t136 _ A6.out).mono ?_); rintro e w' ⟨rfl, ⟨nd, rfl⟩⟩; (try first | exact ⟨rfl, _, World.drewN_drewN _ _ _⟩ | exact ⟨rfl, _, Eq.trans (World.drewN_drewN _ _ _) (congrArg (World.drewN _) (Nat.add_assoc _ _ _))⟩))); try go_wp2_with (first | (go_at_call 89; (with_reducible refine (spec_l3Kids.calls k a0_0 t136 _ A6.out).mono ?_); rintro e w' ⟨rfl, ⟨nd, rfl⟩⟩; (try first | exact ⟨rfl, _, World.drewN_drewN _ _ _⟩ | exact ⟨rfl, _, Eq.trans (World.drewN_drewN _ _ _) (congrArg (World.drewN _) (Nat.add_assoc _ _ _))⟩))))
   go_meet
   case rel => exact ⟨_, ((t136 != (l0_4.length : Int))), rfy, H', ⟨by first | omega | exact Nat.le_refl _⟩, ⟨mK BK135.out⟩, ⟨mB HB.out⟩⟩
 case rest =>
  clear HC3
  skip
  obtain ⟨kq, x16_2, rfl, HA, HJ2, BK135, HB⟩ := hcut
  cases kq with
  | zero => exact absurd HA.out (by simp [spec_l3Form.j0])
  | succ kj2 =>
   have H := HA.out
   clear HA
   simp only [spec_l3Form.j0] at H
   by_cases c8 : x16_2 = true
   ·subst c8
    have H1 : (some false) = some r := by rw [if_pos rfl] at H; exact H
    clear H
    have H := H1
    clear H1
    obtain rfl := Option.some.inj H
    go_wp2
    repeat (go_quiet (fail); try go_wp2)
    go_ret
    exact ⟨rfx, mB HB.out⟩
   ·replace c8 := Bool.eq_false_iff.mpr c8
    subst c8
    have H1 : (if a0_0 = 1 then ((spec_NumCut.f a0_1).bind fun t137 => (if t137 = a0_1 then (spec_l3Form.j1 kj2 a1 false a0_0 a0_1 a0_2 a0_3 l0_4) else (spec_l3Form.j1 kj2 a1 true a0_0 a0_1 a0_2 a0_3 l0_4))) else (spec_l3Form.j1 kj2 a1 (a0_1 != 0) a0_0 a0_1 a0_2 a0_3 l0_4)) = some r := by rw [if_neg (show ¬ (false = true) by decide)] at H; exact H
    clear H
    have H := H1
    clear H1
    have HC9 := z0 H
    clear H
    go_upto_region 3 with (fail)
    repeat (go_quiet (fail); go_upto_region 3 with (fail))
    go_cut [37] (fun v37 wc => ∃ (kq : Nat) (x37_8 : Bool), v37 = .bool x37_8 ∧ Aside0 (spec_l3Form.j1 kq a1 x37_8 a0_0 a0_1 a0_2 a0_3 l0_4 = some r) ∧ Aside0 (kq ≤ kj2) ∧ Aside0 (wc.heap[gb135]? = some (.cells #[.int .i64 a0_0, .int .i64 a0_1, .int .i64 a0_2, .int .i64 a0_3, (.slice A0_4 l0_4.length c0_4)] 27 (0, 0))) ∧ Aside0 (Below w.heap.size w wc))
    case first =>
     have H := HC9.out
     clear HC9
     by_cases c10 : a0_0 = 1
     ·rw [if_pos c10] at H
      have c10b0 : (a0_0 == 1) = true := beq_iff_eq.mpr c10
      have c10b1 : (a0_0 != 1) = false := bne_eq_false_iff_eq.mpr c10
      clear c10
      (first | rw [c10b0] | (simp only [i64_w, i32_w]; rw [c10b0]) | skip)
      replace H := Option.bind_eq_some_iff.mp H
      obtain ⟨t137, A110, H⟩ := H
      try dsimp only at H
      have A11 := z0 A110
      clear A110
      by_cases c12 : t137 = a0_1
      ·rw [if_pos c12] at H
       have c12b0 : (t137 == a0_1) = true := beq_iff_eq.mpr c12
       have c12b1 : (t137 != a0_1) = false := bne_eq_false_iff_eq.mpr c12
       clear c12
       have H' := z0 H
       clear H
       obtain ⟨hcz13_0, hcz13_1, hcz13_2, hcz13_3, hcz13_4, hfz13_0, hfz13_1, hfz13_2, hfz13_3, hfz13_4⟩ := cel5 BK135.out
       go_wp2_with (first | (go_at_call 76; (with_reducible refine (spec_NumCut.calls a0_1 t137 _ A11.out).mono ?_); rintro e w' ⟨rfl, ⟨nd, rfl⟩⟩; (try first | exact ⟨rfl, _, World.drewN_drewN _ _ _⟩ | exact ⟨rfl, _, Eq.trans (World.drewN_drewN _ _ _) (congrArg (World.drewN _) (Nat.add_assoc _ _ _))⟩)))
       repeat (go_quiet (first | (go_at_call 76; (with_reducible refine (spec_NumCut.calls a0_1 t137 _ A11.out).mono ?_); rintro e w' ⟨rfl, ⟨nd, rfl⟩⟩; (try first | exact ⟨rfl, _, World.drewN_drewN _ _ _⟩ | exact ⟨rfl, _, Eq.trans (World.drewN_drewN _ _ _) (congrArg (World.drewN _) (Nat.add_assoc _ _ _))⟩))); try go_wp2_with (first | (go_at_call 76; (with_reducible refine (spec_NumCut.calls a0_1 t137 _ A11.out).mono ?_); rintro e w' ⟨rfl, ⟨nd, rfl⟩⟩; (try first | exact ⟨rfl, _, World.drewN_drewN _ _ _⟩ | exact ⟨rfl, _, Eq.trans (World.drewN_drewN _ _ _) (congrArg (World.drewN _) (Nat.add_assoc _ _ _))⟩))))
       go_meet
       case rel => exact ⟨_, (false), rfy, H', ⟨by have := HJ2.out; first | omega | exact Nat.le_refl _⟩, ⟨mK BK135.out⟩, ⟨mB HB.out⟩⟩
      ·rw [if_neg c12] at H
       have c12b0 : (t137 == a0_1) = false := beq_eq_false_iff_ne.mpr c12
       have c12b1 : (t137 != a0_1) = true := bne_iff_ne.mpr c12
       have H' := z0 H
       clear H
       obtain ⟨hcz14_0, hcz14_1, hcz14_2, hcz14_3, hcz14_4, hfz14_0, hfz14_1, hfz14_2, hfz14_3, hfz14_4⟩ := cel5 BK135.out
       go_wp2_with (first | (go_at_call 76; (with_reducible refine (spec_NumCut.calls a0_1 t137 _ A11.out).mono ?_); rintro e w' ⟨rfl, ⟨nd, rfl⟩⟩; (try first | exact ⟨rfl, _, World.drewN_drewN _ _ _⟩ | exact ⟨rfl, _, Eq.trans (World.drewN_drewN _ _ _) (congrArg (World.drewN _) (Nat.add_assoc _ _ _))⟩)))
       repeat (go_quiet (first | (go_at_call 76; (with_reducible refine (spec_NumCut.calls a0_1 t137 _ A11.out).mono ?_); rintro e w' ⟨rfl, ⟨nd, rfl⟩⟩; (try first | exact ⟨rfl, _, World.drewN_drewN _ _ _⟩ | exact ⟨rfl, _, Eq.trans (World.drewN_drewN _ _ _) (congrArg (World.drewN _) (Nat.add_assoc _ _ _))⟩))); try go_wp2_with (first | (go_at_call 76; (with_reducible refine (spec_NumCut.calls a0_1 t137 _ A11.out).mono ?_); rintro e w' ⟨rfl, ⟨nd, rfl⟩⟩; (try first | exact ⟨rfl, _, World.drewN_drewN _ _ _⟩ | exact ⟨rfl, _, Eq.trans (World.drewN_drewN _ _ _) (congrArg (World.drewN _) (Nat.add_assoc _ _ _))⟩))))
       go_meet
       case rel => exact ⟨_, (true), rfy, H', ⟨by have := HJ2.out; first | omega | exact Nat.le_refl _⟩, ⟨mK BK135.out⟩, ⟨mB HB.out⟩⟩
     ·rw [if_neg c10] at H
      have c10b0 : (a0_0 == 1) = false := beq_eq_false_iff_ne.mpr c10
      have c10b1 : (a0_0 != 1) = true := bne_iff_ne.mpr c10
      (first | rw [c10b0] | (simp only [i64_w, i32_w]; rw [c10b0]) | skip)
      have H' := z0 H
      clear H
      obtain ⟨hcz15_0, hcz15_1, hcz15_2, hcz15_3, hcz15_4, hfz15_0, hfz15_1, hfz15_2, hfz15_3, hfz15_4⟩ := cel5 BK135.out
      go_wp2
      repeat (go_quiet (fail); try go_wp2)
      go_meet
      case rel => exact ⟨_, ((a0_1 != 0)), rfy, H', ⟨by have := HJ2.out; first | omega | exact Nat.le_refl _⟩, ⟨mK BK135.out⟩, ⟨mB HB.out⟩⟩
    case rest =>
     clear HC9
     (try clear c8)
     obtain ⟨kq, x37_8, rfl, HA, HJ8, BK135, HB⟩ := hcut
     cases kq with
     | zero => exact absurd HA.out (by simp [spec_l3Form.j1])
     | succ kj8 =>
      have H := HA.out
      clear HA
      simp only [spec_l3Form.j1] at H
      by_cases c16 : x37_8 = true
      ·subst c16
       have H1 : (some false) = some r := by rw [if_pos rfl] at H; exact H
       clear H
       have H := H1
       clear H1
       obtain rfl := Option.some.inj H
       go_wp2
       repeat (go_quiet (fail); try go_wp2)
       go_ret
       exact ⟨rfx, mB HB.out⟩
      ·replace c16 := Bool.eq_false_iff.mpr c16
       subst c16
       have H1 : (if a0_0 = 2 then ((spec_AddrOk.f a0_2 a0_3).bind fun t138 => (if t138 = true then (spec_l3Form.j2 kj8 a1 false a0_0 a0_1 a0_2 a0_3 l0_4) else (spec_l3Form.j2 kj8 a1 true a0_0 a0_1 a0_2 a0_3 l0_4))) else (spec_l3Form.j2 kj8 a1 (!(a0_2 == 0) || (!(a0_3 == 0))) a0_0 a0_1 a0_2 a0_3 l0_4)) = some r := by rw [if_neg (show ¬ (false = true) by decide)] at H; exact H
       clear H
       have H := H1
       clear H1
       have HC17 := z0 H
       clear H
       go_upto_region 5 with (fail)
       repeat (go_quiet (fail); go_upto_region 5 with (fail))
       go_cut [57] (fun v57 wc => ∃ (kq : Nat) (x57_16 : Bool), v57 = .bool x57_16 ∧ Aside0 (spec_l3Form.j2 kq a1 x57_16 a0_0 a0_1 a0_2 a0_3 l0_4 = some r) ∧ Aside0 (kq ≤ kj8) ∧ Aside0 (wc.heap[gb135]? = some (.cells #[.int .i64 a0_0, .int .i64 a0_1, .int .i64 a0_2, .int .i64 a0_3, (.slice A0_4 l0_4.length c0_4)] 27 (0, 0))) ∧ Aside0 (Below w.heap.size w wc))
       case first =>
        have H := HC17.out
        clear HC17
        by_cases c18 : a0_0 = 2
        ·rw [if_pos c18] at H
         have c18b0 : (a0_0 == 2) = true := beq_iff_eq.mpr c18
         have c18b1 : (a0_0 != 2) = false := bne_eq_false_iff_eq.mpr c18
         clear c18
         (first | rw [c18b0] | (simp only [i64_w, i32_w]; rw [c18b0]) | skip)
         replace H := Option.bind_eq_some_iff.mp H
         obtain ⟨t138, A190, H⟩ := H
         try dsimp only at H
         have A19 := z0 A190
         clear A190
         by_cases c20 : t138 = true
         ·subst c20
          have H1 : (spec_l3Form.j2 kj8 a1 false a0_0 a0_1 a0_2 a0_3 l0_4) = some r := by rw [if_pos rfl] at H; exact H
          clear H
          have H := H1
          clear H1
          have H' := z0 H
          clear H
          obtain ⟨hcz21_0, hcz21_1, hcz21_2, hcz21_3, hcz21_4, hfz21_0, hfz21_1, hfz21_2, hfz21_3, hfz21_4⟩ := cel5 BK135.out
          go_wp2_with (first | (go_at_call 75; (with_reducible refine (spec_AddrOk.calls a0_2 a0_3 true _ A19.out).mono ?_); rintro e w22 ⟨rfl, hb⟩; have n_ := az (bB BK135.out hb) <| z0 (below_step (mB HB.out) hb); clear BK135 HB; obtain ⟨BK135, HB⟩ := n_; clear hb; obtain ⟨hcz23_0, hcz23_1, hcz23_2, hcz23_3, hcz23_4, hfz23_0, hfz23_1, hfz23_2, hfz23_3, hfz23_4⟩ := cel5 BK135.out))
          repeat (go_quiet (first | (go_at_call 75; (with_reducible refine (spec_AddrOk.calls a0_2 a0_3 true _ A19.out).mono ?_); rintro e w22 ⟨rfl, hb⟩; have n_ := az (bB BK135.out hb) <| z0 (below_step (mB HB.out) hb); clear BK135 HB; obtain ⟨BK135, HB⟩ := n_; clear hb; obtain ⟨hcz23_0, hcz23_1, hcz23_2, hcz23_3, hcz23_4, hfz23_0, hfz23_1, hfz23_2, hfz23_3, hfz23_4⟩ := cel5 BK135.out)); try go_wp2_with (first | (go_at_call 75; (with_reducible refine (spec_AddrOk.calls a0_2 a0_3 true _ A19.out).mono ?_); rintro e w22 ⟨rfl, hb⟩; have n_ := az (bB BK135.out hb) <| z0 (below_step (mB HB.out) hb); clear BK135 HB; obtain ⟨BK135, HB⟩ := n_; clear hb; obtain ⟨hcz23_0, hcz23_1, hcz23_2, hcz23_3, hcz23_4, hfz23_0, hfz23_1, hfz23_2, hfz23_3, hfz23_4⟩ := cel5 BK135.out)))
          go_meet
          case rel => exact ⟨_, (false), rfy, H', ⟨by have := HJ2.out; have := HJ8.out; first | omega | exact Nat.le_refl _⟩, ⟨mK BK135.out⟩, ⟨mB HB.out⟩⟩
         ·replace c20 := Bool.eq_false_iff.mpr c20
          subst c20
          have H1 : (spec_l3Form.j2 kj8 a1 true a0_0 a0_1 a0_2 a0_3 l0_4) = some r := by rw [if_neg (show ¬ (false = true) by decide)] at H; exact H
          clear H
          have H := H1
          clear H1
          have H' := z0 H
          clear H
          obtain ⟨hcz24_0, hcz24_1, hcz24_2, hcz24_3, hcz24_4, hfz24_0, hfz24_1, hfz24_2, hfz24_3, hfz24_4⟩ := cel5 BK135.out
          go_wp2_with (first | (go_at_call 75; (with_reducible refine (spec_AddrOk.calls a0_2 a0_3 false _ A19.out).mono ?_); rintro e w25 ⟨rfl, hb⟩; have n_ := az (bB BK135.out hb) <| z0 (below_step (mB HB.out) hb); clear BK135 HB; obtain ⟨BK135, HB⟩ := n_; clear hb))
          repeat (go_quiet (first | (go_at_call 75; (with_reducible refine (spec_AddrOk.calls a0_2 a0_3 false _ A19.out).mono ?_); rintro e w25 ⟨rfl, hb⟩; have n_ := az (bB BK135.out hb) <| z0 (below_step (mB HB.out) hb); clear BK135 HB; obtain ⟨BK135, HB⟩ := n_; clear hb)); try go_wp2_with (first | (go_at_call 75; (with_reducible refine (spec_AddrOk.calls a0_2 a0_3 false _ A19.out).mono ?_); rintro e w25 ⟨rfl, hb⟩; have n_ := az (bB BK135.out hb) <| z0 (below_step (mB HB.out) hb); clear BK135 HB; obtain ⟨BK135, HB⟩ := n_; clear hb)))
          go_meet
          case rel => exact ⟨_, (true), rfy, H', ⟨by have := HJ2.out; have := HJ8.out; first | omega | exact Nat.le_refl _⟩, ⟨mK BK135.out⟩, ⟨mB HB.out⟩⟩
        ·rw [if_neg c18] at H
         have c18b0 : (a0_0 == 2) = false := beq_eq_false_iff_ne.mpr c18
         have c18b1 : (a0_0 != 2) = true := bne_iff_ne.mpr c18
         (first | rw [c18b0] | (simp only [i64_w, i32_w]; rw [c18b0]) | skip)
         have H' := z0 H
         clear H
         obtain ⟨hcz26_0, hcz26_1, hcz26_2, hcz26_3, hcz26_4, hfz26_0, hfz26_1, hfz26_2, hfz26_3, hfz26_4⟩ := cel5 BK135.out
         go_wp2
         repeat (go_quiet (fail); try go_wp2)
         go_meet
         case rel => exact ⟨_, ((!(a0_2 == 0) || (!(a0_3 == 0)))), rfy, H', ⟨by have := HJ2.out; have := HJ8.out; first | omega | exact Nat.le_refl _⟩, ⟨mK BK135.out⟩, ⟨mB HB.out⟩⟩
       case rest =>
        clear HC17
        (try clear c8); (try clear c16)
        obtain ⟨kq, x57_16, rfl, HA, HJ16, BK135, HB⟩ := hcut
        cases kq with
        | zero => exact absurd HA.out (by simp [spec_l3Form.j2])
        | succ kj16 =>
         have H := HA.out
         clear HA
         simp only [spec_l3Form.j2] at H
         by_cases c27 : x57_16 = true
         ·subst c27
          have H1 : (some false) = some r := by rw [if_pos rfl] at H; exact H
          clear H
          have H := H1
          clear H1
          obtain rfl := Option.some.inj H
          go_wp2
          repeat (go_quiet (fail); try go_wp2)
          go_ret
          exact ⟨rfx, mB HB.out⟩
         ·replace c27 := Bool.eq_false_iff.mpr c27
          subst c27
          have H1 : (spec_l3Form.l0 kj16 a1 0 a0_0 a0_1 a0_2 a0_3 l0_4) = some r := by rw [if_neg (show ¬ (false = true) by decide)] at H; exact H
          clear H
          have H := H1
          clear H1
          have H' := z0 H
          clear H
          go_wp2
          repeat (go_quiet (fail); try go_wp2)
          go_loopg [5] kj16 (fun kq v5 w' => ∃ (x5_4 : Int), v5 = .int .i64 x5_4 ∧ Aside0 (spec_l3Form.l0 kq a1 x5_4 a0_0 a0_1 a0_2 a0_3 l0_4 = some r) ∧ Aside0 (kq ≤ kj16) ∧ Aside0 (w'.heap[gb135]? = some (.cells #[.int .i64 a0_0, .int .i64 a0_1, .int .i64 a0_2, .int .i64 a0_3, (.slice A0_4 l0_4.length c0_4)] 27 (0, 0))) ∧ Aside0 (Below w.heap.size w w'))
          case atStart => exact ⟨(0), rfy, H', ⟨Nat.le_refl _⟩, ⟨mK BK135.out⟩, ⟨mB HB.out⟩⟩
          case round =>
           clear H'
           (try clear c8); (try clear c16); (try clear c27)
           obtain ⟨x5_4, rfl, HA, HK4, BK135, HB⟩ := hrel
           cases gk with
           | zero => exact absurd HA.out (by simp [spec_l3Form.l0])
           | succ k4 =>
            have H := HA.out
            clear HA
            simp only [spec_l3Form.l0] at H
            by_cases c28 : x5_4 < (l0_4.length : Int)
            ·rw [if_pos c28] at H
             have c28b0 : decide (x5_4 < (l0_4.length : Int)) = true := decide_eq_true c28
             clear c28
             by_cases c29 : 0 ≤ x5_4
             ·rw [if_pos c29] at H
              have c29b0 : decide (0 ≤ x5_4) = true := decide_eq_true c29
              clear c29
              replace H := Option.bind_eq_some_iff.mp H
              obtain ⟨t140, A300, H⟩ := H
              try dsimp only at H
              have A30 := z0 A300
              clear A300
              by_cases c31 : t140 = true
              ·subst c31
               have H1 : (spec_l3Form.l0 k4 a1 (wrap64 (x5_4 + 1)) a0_0 a0_1 a0_2 a0_3 l0_4) = some r := by rw [if_pos rfl] at H; exact H
               clear H
               have H := H1
               clear H1
               have H' := z0 H
               clear H
               obtain ⟨hcz32_0, hcz32_1, hcz32_2, hcz32_3, hcz32_4, hfz32_0, hfz32_1, hfz32_2, hfz32_3, hfz32_4⟩ := cel5 BK135.out
               have p139 : 0 ≤ (x5_4 : Int) := of_decide_eq_true (by first | (with_reducible assumption) | assumption)
               have q139 : x5_4 < (l0_4.length : Int) := of_decide_eq_true (by first | (with_reducible assumption) | assumption)
               obtain ⟨ad139, A139_4, c139_4, e139, hx139_0, hx139_1, hx139_2, hx139_3, hx139_4, hl139_4, hi139_4⟩ := at_T27 HR0_4.out x5_4 p139 q139
               cases e139
               replace hx139_0 := (HB.out.cell (World.block_lt_of_cell? w _ hx139_0)).trans hx139_0
               replace hx139_1 := (HB.out.cell (World.block_lt_of_cell? w _ hx139_1)).trans hx139_1
               replace hx139_2 := (HB.out.cell (World.block_lt_of_cell? w _ hx139_2)).trans hx139_2
               replace hx139_3 := (HB.out.cell (World.block_lt_of_cell? w _ hx139_3)).trans hx139_3
               replace hx139_4 := (HB.out.cell (World.block_lt_of_cell? w _ hx139_4)).trans hx139_4
               have HR139_4 := z0 hi139_4
               have HC139_4 := z0 hl139_4
               clear hi139_4 hl139_4
               replace p139 := eq_true p139
               replace q139 := eq_true q139
               go_wp2_with (first | (go_at_call 57; (with_reducible refine (ih k4 q57_1 ((rd_T27 l0_4 x5_4).f0) ((rd_T27 l0_4 x5_4).f1) ((rd_T27 l0_4 x5_4).f2.f0) ((rd_T27 l0_4 x5_4).f2.f1) _ _ ((rd_T27 l0_4 x5_4).f3) (wrap64 (a1 - 1)) true _ ?side1 ?side2 A30.out).mono ?_); (case side1 => exact mC (Kd.C_below HR139_4.out HB.out)); (case side2 => exact HC139_4.out); rintro e w33 ⟨rfl, hb⟩; have n_ := az (bB BK135.out hb) <| z0 (below_step (mB HB.out) hb); clear BK135 HB; obtain ⟨BK135, HB⟩ := n_; clear hb))
               repeat (go_quiet (first | (go_at_call 57; (with_reducible refine (ih k4 q57_1 ((rd_T27 l0_4 x5_4).f0) ((rd_T27 l0_4 x5_4).f1) ((rd_T27 l0_4 x5_4).f2.f0) ((rd_T27 l0_4 x5_4).f2.f1) _ _ ((rd_T27 l0_4 x5_4).f3) (wrap64 (a1 - 1)) true _ ?side1 ?side2 A30.out).mono ?_); (case side1 => exact mC (Kd.C_below HR139_4.out HB.out)); (case side2 => exact HC139_4.out); rintro e w33 ⟨rfl, hb⟩; have n_ := az (bB BK135.out hb) <| z0 (below_step (mB HB.out) hb); clear BK135 HB; obtain ⟨BK135, HB⟩ := n_; clear hb)); try go_wp2_with (first | (go_at_call 57; (with_reducible refine (ih k4 q57_1 ((rd_T27 l0_4 x5_4).f0) ((rd_T27 l0_4 x5_4).f1) ((rd_T27 l0_4 x5_4).f2.f0) ((rd_T27 l0_4 x5_4).f2.f1) _ _ ((rd_T27 l0_4 x5_4).f3) (wrap64 (a1 - 1)) true _ ?side1 ?side2 A30.out).mono ?_); (case side1 => exact mC (Kd.C_below HR139_4.out HB.out)); (case side2 => exact HC139_4.out); rintro e w33 ⟨rfl, hb⟩; have n_ := az (bB BK135.out hb) <| z0 (below_step (mB HB.out) hb); clear BK135 HB; obtain ⟨BK135, HB⟩ := n_; clear hb)))
               go_roundg k4
               case measure => have := HJ2.out; have := HJ8.out; have := HJ16.out; have := HK4.out; omega
               case rel => exact ⟨(wrap64 (x5_4 + 1)), rfy, H', ⟨by have := HJ2.out; have := HJ8.out; have := HJ16.out; have := HK4.out; omega⟩, ⟨mK BK135.out⟩, ⟨mB HB.out⟩⟩
              ·replace c31 := Bool.eq_false_iff.mpr c31
               subst c31
               have H1 : (some false) = some r := by rw [if_neg (show ¬ (false = true) by decide)] at H; exact H
               clear H
               have H := H1
               clear H1
               obtain rfl := Option.some.inj H
               obtain ⟨hcz34_0, hcz34_1, hcz34_2, hcz34_3, hcz34_4, hfz34_0, hfz34_1, hfz34_2, hfz34_3, hfz34_4⟩ := cel5 BK135.out
               have p139 : 0 ≤ (x5_4 : Int) := of_decide_eq_true (by first | (with_reducible assumption) | assumption)
               have q139 : x5_4 < (l0_4.length : Int) := of_decide_eq_true (by first | (with_reducible assumption) | assumption)
               obtain ⟨ad139, A139_4, c139_4, e139, hx139_0, hx139_1, hx139_2, hx139_3, hx139_4, hl139_4, hi139_4⟩ := at_T27 HR0_4.out x5_4 p139 q139
               cases e139
               replace hx139_0 := (HB.out.cell (World.block_lt_of_cell? w _ hx139_0)).trans hx139_0
               replace hx139_1 := (HB.out.cell (World.block_lt_of_cell? w _ hx139_1)).trans hx139_1
               replace hx139_2 := (HB.out.cell (World.block_lt_of_cell? w _ hx139_2)).trans hx139_2
               replace hx139_3 := (HB.out.cell (World.block_lt_of_cell? w _ hx139_3)).trans hx139_3
               replace hx139_4 := (HB.out.cell (World.block_lt_of_cell? w _ hx139_4)).trans hx139_4
               have HR139_4 := z0 hi139_4
               have HC139_4 := z0 hl139_4
               clear hi139_4 hl139_4
               replace p139 := eq_true p139
               replace q139 := eq_true q139
               go_wp2_with (first | (go_at_call 57; (with_reducible refine (ih k4 q57_1 ((rd_T27 l0_4 x5_4).f0) ((rd_T27 l0_4 x5_4).f1) ((rd_T27 l0_4 x5_4).f2.f0) ((rd_T27 l0_4 x5_4).f2.f1) _ _ ((rd_T27 l0_4 x5_4).f3) (wrap64 (a1 - 1)) false _ ?side1 ?side2 A30.out).mono ?_); (case side1 => exact mC (Kd.C_below HR139_4.out HB.out)); (case side2 => exact HC139_4.out); rintro e w35 ⟨rfl, hb⟩; have n_ := az (bB BK135.out hb) <| z0 (below_step (mB HB.out) hb); clear BK135 HB; obtain ⟨BK135, HB⟩ := n_; clear hb))
               repeat (go_quiet (first | (go_at_call 57; (with_reducible refine (ih k4 q57_1 ((rd_T27 l0_4 x5_4).f0) ((rd_T27 l0_4 x5_4).f1) ((rd_T27 l0_4 x5_4).f2.f0) ((rd_T27 l0_4 x5_4).f2.f1) _ _ ((rd_T27 l0_4 x5_4).f3) (wrap64 (a1 - 1)) false _ ?side1 ?side2 A30.out).mono ?_); (case side1 => exact mC (Kd.C_below HR139_4.out HB.out)); (case side2 => exact HC139_4.out); rintro e w35 ⟨rfl, hb⟩; have n_ := az (bB BK135.out hb) <| z0 (below_step (mB HB.out) hb); clear BK135 HB; obtain ⟨BK135, HB⟩ := n_; clear hb)); try go_wp2_with (first | (go_at_call 57; (with_reducible refine (ih k4 q57_1 ((rd_T27 l0_4 x5_4).f0) ((rd_T27 l0_4 x5_4).f1) ((rd_T27 l0_4 x5_4).f2.f0) ((rd_T27 l0_4 x5_4).f2.f1) _ _ ((rd_T27 l0_4 x5_4).f3) (wrap64 (a1 - 1)) false _ ?side1 ?side2 A30.out).mono ?_); (case side1 => exact mC (Kd.C_below HR139_4.out HB.out)); (case side2 => exact HC139_4.out); rintro e w35 ⟨rfl, hb⟩; have n_ := az (bB BK135.out hb) <| z0 (below_step (mB HB.out) hb); clear BK135 HB; obtain ⟨BK135, HB⟩ := n_; clear hb)))
               go_ret
               exact ⟨rfx, mB HB.out⟩
             ·rw [if_neg c29] at H
              exact absurd H (by simp)
            ·rw [if_neg c28] at H
             have c28b0 : decide (x5_4 < (l0_4.length : Int)) = false := decide_eq_false c28
             clear c28
             obtain rfl := Option.some.inj H
             obtain ⟨hcz36_0, hcz36_1, hcz36_2, hcz36_3, hcz36_4, hfz36_0, hfz36_1, hfz36_2, hfz36_3, hfz36_4⟩ := cel5 BK135.out
             go_wp2
             repeat (go_quiet (fail); try go_wp2)
             go_ret
             exact ⟨rfx, mB HB.out⟩

end Go.Proofs.YtendbgedpjcocaaGreatDoor.B
namespace Go.Proofs.YtendbgedpjcocaaGreatDoor.B
open Go.RowKit Go.Proofs.YtendbgedpjcocaaGreatDoorW.PrintWords Go.Proofs.YtendbgedpjcocaaGreatDoorW.PrintLast Go.Proofs.YtendbgedpjcocaaGreatDoorW.PrintMore
attribute [local go_sem] max2_int min2_int max_two min_two max_three min_three max_four min_four   -- for this text's walks alone
set_option linter.unusedVariables false
set_option linter.unusedSimpArgs false

/-! ### spec_l3Many: function 58 -/
mutual
def spec_l3Many.l0 : Nat → Int → Int → Int → Int → Int → Int → Int → List (S27) → Option (Int)
 | 0, _, _, _, _, _, _, _, _ => none
 | k + 1, x1, x5, x6, x142000, x142001, x142002, x142003, x142004 => if x6 < (x142004.length : Int) then (if x1 > 0 then (if 0 ≤ x6 then ((spec_l3Many.f k ((rd_T27 x142004 x6).f0) ((rd_T27 x142004 x6).f1) ((rd_T27 x142004 x6).f2.f0) ((rd_T27 x142004 x6).f2.f1) ((rd_T27 x142004 x6).f3) (wrap64 (x1 - 1))).bind fun t143 => (spec_l3Many.l0 k x1 (wrap64 (x5 + t143)) (wrap64 (x6 + 1)) x142000 x142001 x142002 x142003 x142004)) else (none)) else (some x5)) else (some x5)
def spec_l3Many.f : Nat → Int → Int → Int → Int → List (S27) → Int → Option (Int)
 | 0, _, _, _, _, _, _ => none
 | k + 1, a0_0, a0_1, a0_2, a0_3, l0_4, a1 => spec_l3Many.l0 k a1 1 0 a0_0 a0_1 a0_2 a0_3 l0_4
end
theorem spec_l3Many.mono_l : ∀ k, (∀ y0 y1 y2 y3 y4 y5, LeO (spec_l3Many.f k y0 y1 y2 y3 y4 y5) (spec_l3Many.f (k + 1) y0 y1 y2 y3 y4 y5)) ∧ (∀ y0 y1 y2 y3 y4 y5 y6 y7, LeO (spec_l3Many.l0 k y0 y1 y2 y3 y4 y5 y6 y7) (spec_l3Many.l0 (k + 1) y0 y1 y2 y3 y4 y5 y6 y7))
 | 0 => ⟨fun _ _ _ _ _ _ r h => by simp [spec_l3Many.f] at h, fun _ _ _ _ _ _ _ _ r h => by simp [spec_l3Many.l0] at h⟩
 | k + 1 => by
  obtain ⟨ih0, ih1⟩ := spec_l3Many.mono_l k
  refine ⟨?_, ?_⟩
  ·intro y0 y1 y2 y3 y4 y5
   unfold spec_l3Many.f
   repeat' first
   | (with_reducible exact ih0 _ _ _ _ _ _)
   | (with_reducible exact ih1 _ _ _ _ _ _ _ _)
   | (with_reducible exact LeO.refl _)
   | (with_reducible exact LeO.none _)
   | (with_reducible refine LeO.ite ?_ ?_)
   | (with_reducible refine LeO.bind ?_ (fun _ => ?_))
   | exact ih0 _ _ _ _ _ _
   | exact ih1 _ _ _ _ _ _ _ _
   | exact LeO.none _
   | refine LeO.ite ?_ ?_
   | refine LeO.bind ?_ (fun _ => ?_)
  ·intro y0 y1 y2 y3 y4 y5 y6 y7
   unfold spec_l3Many.l0
   repeat' first
   | (with_reducible exact ih0 _ _ _ _ _ _)
   | (with_reducible exact ih1 _ _ _ _ _ _ _ _)
   | (with_reducible exact LeO.refl _)
   | (with_reducible exact LeO.none _)
   | (with_reducible refine LeO.ite ?_ ?_)
   | (with_reducible refine LeO.bind ?_ (fun _ => ?_))
   | exact ih0 _ _ _ _ _ _
   | exact ih1 _ _ _ _ _ _ _ _
   | exact LeO.none _
   | refine LeO.ite ?_ ?_
   | refine LeO.bind ?_ (fun _ => ?_)
theorem spec_l3Many.mono : ∀ a0 a1 a2 a3 a4 a5 k, LeO (spec_l3Many.f k a0 a1 a2 a3 a4 a5) (spec_l3Many.f (k + 1) a0 a1 a2 a3 a4 a5) := by
 intro a0 a1 a2 a3 a4 a5 k
 obtain ⟨ih0, ih1⟩ := spec_l3Many.mono_l k
 exact ih0 a0 a1 a2 a3 a4 a5
set_option maxHeartbeats 8000000 in
set_option maxRecDepth 100000 in
theorem spec_l3Many.calls (k : Nat) : ∀ (a0_0 : Int) (a0_1 : Int) (a0_2 : Int) (a0_3 : Int) (A0_4 : Option Addr) (c0_4 : Nat) (l0_4 : List (S27)) (a1 : Int) (r : Int) (w : World) (hr0_4 : Kd.C k27 w A0_4 l0_4.length l0_4) (hc0_4 : l0_4.length ≤ c0_4) (h : spec_l3Many.f k a0_0 a0_1 a0_2 a0_3 l0_4 a1 = some r),
  Calls Tryz.prog 58 #[.agg #[.int .i64 a0_0, .int .i64 a0_1, .int .i64 a0_2, .int .i64 a0_3, .slice A0_4 l0_4.length c0_4], .int .i64 a1] w fun e w' => e = .returned (.int .i64 r) ∧ Below w.heap.size w w' := by
 induction k using Nat.strongRecOn with
 | _ k ih =>
 intro a0_0 a0_1 a0_2 a0_3 A0_4 c0_4 l0_4 a1 r w hr0_4 hc0_4 h
 cases k with
 | zero => exact absurd h (by simp [spec_l3Many.f])
 | succ k =>
 simp only [spec_l3Many.f] at h
 have hu27 := Tryz.underlying27
 have HR0_4 := z0 hr0_4
 have HC0_4 := z0 hc0_4
 clear hr0_4 hc0_4
 have HB := z0 (Below.refl w.heap.size w)
 have H : (spec_l3Many.l0 k a1 1 0 a0_0 a0_1 a0_2 a0_3 l0_4) = some r := h
 clear h
 have H' := z0 H
 clear H
 go_enter Tryz.func58, Tryz.ntmps58
 go_wp2_with (first | ((with_reducible refine gate_dst (N := 2) rfl ?_); refine box_event ?hg (N := 2) ?hd (cs := #[.int .i64 a0_0, .int .i64 a0_1, .int .i64 a0_2, .int .i64 a0_3, .slice A0_4 l0_4.length c0_4]) (t := 27) ?hr ?_; (case hd => rfl); (case hg => rfl); (case hr => first | (go_simp; done) | (go_simp; rfl)); intro gb141 hg w3 hbox hb; have n_ := az (below_step (mB HB.out) hb) <| az (hbox) <| az ((by rw [hg]; exact (below_size (mB HB.out)) : w.heap.size ≤ gb141)) <| z0 ((by rw [hg]; exact (below_size (mB HB.out)) : w.heap.size ≤ gb141)); clear HB; obtain ⟨HB, BK141, GW141, GE141⟩ := n_; clear hb hbox hg))
 go_loopg [5, 6] k (fun kq v5 v6 w' => ∃ (x5_1 : Int) (x6_1 : Int), v5 = .int .i64 x5_1 ∧ v6 = .int .i64 x6_1 ∧ Aside0 (spec_l3Many.l0 kq a1 x5_1 x6_1 a0_0 a0_1 a0_2 a0_3 l0_4 = some r) ∧ Aside0 (kq ≤ k) ∧ Aside0 (w'.heap[gb141]? = some (.cells #[.int .i64 a0_0, .int .i64 a0_1, .int .i64 a0_2, .int .i64 a0_3, (.slice A0_4 l0_4.length c0_4)] 27 (0, 0))) ∧ Aside0 (Below w.heap.size w w'))
 case atStart => exact ⟨(1), (0), rfy, rfy, H', ⟨Nat.le_refl _⟩, ⟨mK BK141.out⟩, ⟨mB HB.out⟩⟩
 case round =>
  clear H'
  try clear p2
  obtain ⟨x5_1, x6_1, rfl, rfl, HA, HK1, BK141, HB⟩ := hrel
  cases gk with
  | zero => exact absurd HA.out (by simp [spec_l3Many.l0])
  | succ k1 =>
   have H := HA.out
   clear HA
   simp only [spec_l3Many.l0] at H
   by_cases c4 : x6_1 < (l0_4.length : Int)
   ·rw [if_pos c4] at H
    have c4b0 : decide (x6_1 < (l0_4.length : Int)) = true := decide_eq_true c4
    clear c4
    by_cases c5 : a1 > 0
    ·rw [if_pos c5] at H
     have c5b0 : decide (0 < a1) = true := decide_eq_true c5
     clear c5
     by_cases c6 : 0 ≤ x6_1
     ·rw [if_pos c6] at H
      have c6b0 : decide (0 ≤ x6_1) = true := decide_eq_true c6
      clear c6
      replace H := Option.bind_eq_some_iff.mp H
      obtain ⟨t143, A70, H⟩ := H
      try dsimp only at H
      have A7 := z0 A70
      clear A70
      have H' := z0 H
      clear H
      obtain ⟨hcz8_0, hcz8_1, hcz8_2, hcz8_3, hcz8_4, hfz8_0, hfz8_1, hfz8_2, hfz8_3, hfz8_4⟩ := cel5 BK141.out
      have p142 : 0 ≤ (x6_1 : Int) := of_decide_eq_true (by first | (with_reducible assumption) | assumption)
      have q142 : x6_1 < (l0_4.length : Int) := of_decide_eq_true (by first | (with_reducible assumption) | assumption)
      obtain ⟨ad142, A142_4, c142_4, e142, hx142_0, hx142_1, hx142_2, hx142_3, hx142_4, hl142_4, hi142_4⟩ := at_T27 HR0_4.out x6_1 p142 q142
      cases e142
      replace hx142_0 := (HB.out.cell (World.block_lt_of_cell? w _ hx142_0)).trans hx142_0
      replace hx142_1 := (HB.out.cell (World.block_lt_of_cell? w _ hx142_1)).trans hx142_1
      replace hx142_2 := (HB.out.cell (World.block_lt_of_cell? w _ hx142_2)).trans hx142_2
      replace hx142_3 := (HB.out.cell (World.block_lt_of_cell? w _ hx142_3)).trans hx142_3
      replace hx142_4 := (HB.out.cell (World.block_lt_of_cell? w _ hx142_4)).trans hx142_4
      have HR142_4 := z0 hi142_4
      have HC142_4 := z0 hl142_4
      clear hi142_4 hl142_4
      replace p142 := eq_true p142
      replace q142 := eq_true q142
      go_wp2_with (first | ((with_reducible refine gate_callee (f := 58) rfl ?_); refine goesL_ (some 26) rfl rfl Tryz.func58 (by kernel_rfl) rfl #[.agg #[.int .i64 ((rd_T27 l0_4 x6_1).f0), .int .i64 ((rd_T27 l0_4 x6_1).f1), .int .i64 ((rd_T27 l0_4 x6_1).f2.f0), .int .i64 ((rd_T27 l0_4 x6_1).f2.f1), .slice A142_4 ((rd_T27 l0_4 x6_1).f3).length c142_4], .int .i64 (wrap64 (a1 - 1))] rfl argx ?_; (with_reducible refine (ih k1 (by have := HK1.out; omega) ((rd_T27 l0_4 x6_1).f0) ((rd_T27 l0_4 x6_1).f1) ((rd_T27 l0_4 x6_1).f2.f0) ((rd_T27 l0_4 x6_1).f2.f1) _ _ ((rd_T27 l0_4 x6_1).f3) (wrap64 (a1 - 1)) t143 _ ?side1 ?side2 A7.out).mono ?_); (case side1 => exact mC (Kd.C_below HR142_4.out HB.out)); (case side2 => exact HC142_4.out); rintro e w9 ⟨rfl, hb⟩; refine ⟨_, rfl, ?_⟩; have n_ := az (bB BK141.out hb) <| z0 (below_step (mB HB.out) hb); clear BK141 HB; obtain ⟨BK141, HB⟩ := n_; clear hb))
      go_roundg k1
      case measure => have := HK1.out; omega
      case rel => exact ⟨(wrap64 (x5_1 + t143)), (wrap64 (x6_1 + 1)), rfy, rfy, H', ⟨by have := HK1.out; omega⟩, ⟨mK BK141.out⟩, ⟨mB HB.out⟩⟩
     ·rw [if_neg c6] at H
      exact absurd H (by simp)
    ·rw [if_neg c5] at H
     have c5b0 : decide (0 < a1) = false := decide_eq_false c5
     clear c5
     obtain rfl := Option.some.inj H
     obtain ⟨hcz10_0, hcz10_1, hcz10_2, hcz10_3, hcz10_4, hfz10_0, hfz10_1, hfz10_2, hfz10_3, hfz10_4⟩ := cel5 BK141.out
     go_wp2
     go_ret
     exact ⟨rfx, mB HB.out⟩
   ·rw [if_neg c4] at H
    have c4b0 : decide (x6_1 < (l0_4.length : Int)) = false := decide_eq_false c4
    clear c4
    obtain rfl := Option.some.inj H
    obtain ⟨hcz11_0, hcz11_1, hcz11_2, hcz11_3, hcz11_4, hfz11_0, hfz11_1, hfz11_2, hfz11_3, hfz11_4⟩ := cel5 BK141.out
    go_wp2
    go_ret
    exact ⟨rfx, mB HB.out⟩

/-! ### spec_ExprOk: function 30 -/
def spec_ExprOk.f (k : Nat) (a0_0 : Int) (a0_1 : Int) (a0_2 : Int) (a0_3 : Int) (l0_4 : List (S27)) : Option (Bool) := (spec_l3Form.f k a0_0 a0_1 a0_2 a0_3 l0_4 6).bind fun t145 => (if t145 = true then ((spec_l3Many.f k a0_0 a0_1 a0_2 a0_3 l0_4 6).bind fun t146 => (some (decide (t146 ≤ 14)))) else (some false))
theorem spec_ExprOk.mono : ∀ a0 a1 a2 a3 a4 k, LeO (spec_ExprOk.f k a0 a1 a2 a3 a4) (spec_ExprOk.f (k + 1) a0 a1 a2 a3 a4) := by
 intro a0 a1 a2 a3 a4 k
 unfold spec_ExprOk.f
 repeat' first
   | (with_reducible exact spec_l3Form.mono _ _ _ _ _ _ _)
   | (with_reducible exact spec_l3Many.mono _ _ _ _ _ _ _)
   | (with_reducible exact LeO.refl _)
   | (with_reducible exact LeO.none _)
   | (with_reducible refine LeO.ite ?_ ?_)
   | (with_reducible refine LeO.bind ?_ (fun _ => ?_))
   | exact spec_l3Form.mono _ _ _ _ _ _ _
   | exact spec_l3Many.mono _ _ _ _ _ _ _
   | exact LeO.none _
   | refine LeO.ite ?_ ?_
   | refine LeO.bind ?_ (fun _ => ?_)
set_option maxHeartbeats 8000000 in
set_option maxRecDepth 100000 in
theorem spec_ExprOk.calls (k : Nat) (a0_0 : Int) (a0_1 : Int) (a0_2 : Int) (a0_3 : Int) (A0_4 : Option Addr) (c0_4 : Nat) (l0_4 : List (S27)) (r : Bool) (w : World) (hr0_4 : Kd.C k27 w A0_4 l0_4.length l0_4) (hc0_4 : l0_4.length ≤ c0_4) (h : spec_ExprOk.f k a0_0 a0_1 a0_2 a0_3 l0_4 = some r) :
  Calls Tryz.prog 30 #[.agg #[.int .i64 a0_0, .int .i64 a0_1, .int .i64 a0_2, .int .i64 a0_3, .slice A0_4 l0_4.length c0_4]] w fun e w' => e = .returned (.bool r) ∧ Below w.heap.size w w' := by
 have hu27 := Tryz.underlying27
 have HR0_4 := z0 hr0_4
 have HC0_4 := z0 hc0_4
 clear hr0_4 hc0_4
 have HB := z0 (Below.refl w.heap.size w)
 have H : ((spec_l3Form.f k a0_0 a0_1 a0_2 a0_3 l0_4 6).bind fun t145 => (if t145 = true then ((spec_l3Many.f k a0_0 a0_1 a0_2 a0_3 l0_4 6).bind fun t146 => (some (decide (t146 ≤ 14)))) else (some false))) = some r := h
 clear h
 have HF2 := z0 H
 clear H
 go_enter Tryz.func30, Tryz.ntmps30
 go_upto_region 1 with (first | ((with_reducible refine gate_dst (N := 1) rfl ?_); refine box_event ?hg (N := 1) ?hd (cs := #[.int .i64 a0_0, .int .i64 a0_1, .int .i64 a0_2, .int .i64 a0_3, .slice A0_4 l0_4.length c0_4]) (t := 27) ?hr ?_; (case hd => rfl); (case hg => rfl); (case hr => first | (go_simp; done) | (go_simp; rfl)); intro gb144 hg w3 hbox hb; have n_ := az (below_step (mB HB.out) hb) <| az (hbox) <| az ((by rw [hg]; exact (below_size (mB HB.out)) : w.heap.size ≤ gb144)) <| z0 ((by rw [hg]; exact (below_size (mB HB.out)) : w.heap.size ≤ gb144)); clear HB; obtain ⟨HB, BK144, GW144, GE144⟩ := n_; clear hb hbox hg))
 (try simp only [Act.put, List.setIfInBounds_toArray, List.set_cons_zero, List.set_cons_succ])
 have H := HF2.out
 clear HF2
 try clear c3
 replace H := Option.bind_eq_some_iff.mp H
 obtain ⟨t145, A40, H⟩ := H
 try dsimp only at H
 have A4 := z0 A40
 clear A40
 by_cases c5 : t145 = true
 ·subst c5
  have H1 : ((spec_l3Many.f k a0_0 a0_1 a0_2 a0_3 l0_4 6).bind fun t146 => (some (decide (t146 ≤ 14)))) = some r := by rw [if_pos rfl] at H; exact H
  clear H
  have H := H1
  clear H1
  replace H := Option.bind_eq_some_iff.mp H
  obtain ⟨t146, A60, H⟩ := H
  try dsimp only at H
  have A6 := z0 A60
  clear A60
  obtain rfl := Option.some.inj H
  obtain ⟨hcz7_0, hcz7_1, hcz7_2, hcz7_3, hcz7_4, hfz7_0, hfz7_1, hfz7_2, hfz7_3, hfz7_4⟩ := cel5 BK144.out
  go_wp2_with (first | ((with_reducible refine gate_callee (f := 57) rfl ?_); refine goesL_ (some 4) rfl rfl Tryz.func57 (by kernel_rfl) rfl #[.agg #[.int .i64 a0_0, .int .i64 a0_1, .int .i64 a0_2, .int .i64 a0_3, .slice A0_4 l0_4.length c0_4], .int .i64 6] rfl argx ?_; (with_reducible refine (spec_l3Form.calls k a0_0 a0_1 a0_2 a0_3 _ _ l0_4 6 true _ ?side1 ?side2 A4.out).mono ?_); (case side1 => exact mC (Kd.C_below HR0_4.out HB.out)); (case side2 => exact HC0_4.out); rintro e w8 ⟨rfl, hb⟩; refine ⟨_, rfl, ?_⟩; have n_ := az (bB BK144.out hb) <| z0 (below_step (mB HB.out) hb); clear BK144 HB; obtain ⟨BK144, HB⟩ := n_; clear hb; obtain ⟨hcz9_0, hcz9_1, hcz9_2, hcz9_3, hcz9_4, hfz9_0, hfz9_1, hfz9_2, hfz9_3, hfz9_4⟩ := cel5 BK144.out) | (go_at_call 58; (with_reducible refine (spec_l3Many.calls k a0_0 a0_1 a0_2 a0_3 _ _ l0_4 6 t146 _ ?side1 ?side2 A6.out).mono ?_); (case side1 => exact mC (Kd.C_below HR0_4.out HB.out)); (case side2 => exact HC0_4.out); rintro e w10 ⟨rfl, hb⟩; have n_ := az (bB BK144.out hb) <| z0 (below_step (mB HB.out) hb); clear BK144 HB; obtain ⟨BK144, HB⟩ := n_; clear hb))
  go_ret
  exact ⟨rfx, mB HB.out⟩
 ·replace c5 := Bool.eq_false_iff.mpr c5
  subst c5
  have H1 : (some false) = some r := by rw [if_neg (show ¬ (false = true) by decide)] at H; exact H
  clear H
  have H := H1
  clear H1
  obtain rfl := Option.some.inj H
  obtain ⟨hcz11_0, hcz11_1, hcz11_2, hcz11_3, hcz11_4, hfz11_0, hfz11_1, hfz11_2, hfz11_3, hfz11_4⟩ := cel5 BK144.out
  go_wp2_with (first | ((with_reducible refine gate_callee (f := 57) rfl ?_); refine goesL_ (some 4) rfl rfl Tryz.func57 (by kernel_rfl) rfl #[.agg #[.int .i64 a0_0, .int .i64 a0_1, .int .i64 a0_2, .int .i64 a0_3, .slice A0_4 l0_4.length c0_4], .int .i64 6] rfl argx ?_; (with_reducible refine (spec_l3Form.calls k a0_0 a0_1 a0_2 a0_3 _ _ l0_4 6 false _ ?side1 ?side2 A4.out).mono ?_); (case side1 => exact mC (Kd.C_below HR0_4.out HB.out)); (case side2 => exact HC0_4.out); rintro e w12 ⟨rfl, hb⟩; refine ⟨_, rfl, ?_⟩; have n_ := az (bB BK144.out hb) <| z0 (below_step (mB HB.out) hb); clear BK144 HB; obtain ⟨BK144, HB⟩ := n_; clear hb))
  go_ret
  exact ⟨rfx, mB HB.out⟩

/-! ### impl_puts: function 77 -/
def impl_puts.f (a0_0 : Int) (a0_1 : Int) : Option (Bool) := (impl_AddrOk.f a0_0 a0_1).bind fun t598 => (if t598 = true then (some (a0_0 != 1)) else (some false))
set_option maxHeartbeats 8000000 in
set_option maxRecDepth 100000 in
theorem impl_puts.calls (a0_0 : Int) (a0_1 : Int) (r : Bool) (w : World) (h : impl_puts.f a0_0 a0_1 = some r) :
  Calls Tryz.prog 77 #[.agg #[.int .i64 a0_0, .int .i64 a0_1]] w fun e w' => e = .returned (.bool r) ∧ Below w.heap.size w w' := by
 have hu24 := Tryz.underlying24
 have HB := z0 (Below.refl w.heap.size w)
 have H : ((impl_AddrOk.f a0_0 a0_1).bind fun t598 => (if t598 = true then (some (a0_0 != 1)) else (some false))) = some r := h
 clear h
 have HF2 := z0 H
 clear H
 go_enter Tryz.func77, Tryz.ntmps77
 go_upto_region 1 with (first | ((with_reducible refine gate_dst (N := 1) rfl ?_); refine box_event ?hg (N := 1) ?hd (cs := #[.int .i64 a0_0, .int .i64 a0_1]) (t := 24) ?hr ?_; (case hd => rfl); (case hg => rfl); (case hr => first | (go_simp; done) | (go_simp; rfl)); intro gb597 hg w3 hbox hb; have n_ := az (below_step (mB HB.out) hb) <| az (hbox) <| az ((by rw [hg]; exact (below_size (mB HB.out)) : w.heap.size ≤ gb597)) <| z0 ((by rw [hg]; exact (below_size (mB HB.out)) : w.heap.size ≤ gb597)); clear HB; obtain ⟨HB, BK597, GW597, GE597⟩ := n_; clear hb hbox hg))
 (try simp only [Act.put, List.setIfInBounds_toArray, List.set_cons_zero, List.set_cons_succ])
 have H := HF2.out
 clear HF2
 replace H := Option.bind_eq_some_iff.mp H
 obtain ⟨t598, A40, H⟩ := H
 try dsimp only at H
 have A4 := z0 A40
 clear A40
 by_cases c5 : t598 = true
 ·subst c5
  have H1 : (some (a0_0 != 1)) = some r := by rw [if_pos rfl] at H; exact H
  clear H
  have H := H1
  clear H1
  obtain rfl := Option.some.inj H
  obtain ⟨hcz6_0, hcz6_1, hfz6_0, hfz6_1⟩ := cel2 BK597.out
  go_wp2_with (first | ((with_reducible refine gate_callee (f := 90) rfl ?_); refine goesL_ (some 4) rfl rfl Tryz.func90 (by kernel_rfl) rfl #[.agg #[.int .i64 a0_0, .int .i64 a0_1]] rfl argx ?_; (with_reducible refine (impl_AddrOk.calls a0_0 a0_1 true _ A4.out).mono ?_); rintro e w7 ⟨rfl, hb⟩; refine ⟨_, rfl, ?_⟩; have n_ := az (bB BK597.out hb) <| z0 (below_step (mB HB.out) hb); clear BK597 HB; obtain ⟨BK597, HB⟩ := n_; clear hb; obtain ⟨hcz8_0, hcz8_1, hfz8_0, hfz8_1⟩ := cel2 BK597.out))
  go_ret
  exact ⟨rfx, mB HB.out⟩
 ·replace c5 := Bool.eq_false_iff.mpr c5
  subst c5
  have H1 : (some false) = some r := by rw [if_neg (show ¬ (false = true) by decide)] at H; exact H
  clear H
  have H := H1
  clear H1
  obtain rfl := Option.some.inj H
  obtain ⟨hcz9_0, hcz9_1, hfz9_0, hfz9_1⟩ := cel2 BK597.out
  go_wp2_with (first | ((with_reducible refine gate_callee (f := 90) rfl ?_); refine goesL_ (some 4) rfl rfl Tryz.func90 (by kernel_rfl) rfl #[.agg #[.int .i64 a0_0, .int .i64 a0_1]] rfl argx ?_; (with_reducible refine (impl_AddrOk.calls a0_0 a0_1 false _ A4.out).mono ?_); rintro e w10 ⟨rfl, hb⟩; refine ⟨_, rfl, ?_⟩; have n_ := az (bB BK597.out hb) <| z0 (below_step (mB HB.out) hb); clear BK597 HB; obtain ⟨BK597, HB⟩ := n_; clear hb))
  go_ret
  exact ⟨rfx, mB HB.out⟩

/-! ### impl_setDoing_plain: function 126 -/
def impl_setDoing_plain.f (a0_0 : Int) (a0_1 : Int) (a0_2 : Int) (a0_3 : Int) (a0_4 : Int) (a0_5 : Int) (l0_6 : List (S27)) (a1_0 : Int) (a1_1 : Int) (a1_2 : Int) (a1_3 : Int) (a1_4 : Int) (a1_5 : Int) (a1_6 : Int) (l1_7 : List (S27)) (l1_8 : List (S35)) (l1_9 : List (S35)) : Option (Bool) := (impl_puts.f a1_1 a1_2).bind fun t1372 => (if t1372 = true then (if (l1_8.length : Int) = 0 then (some ((l1_9.length : Int) == 0)) else (some false)) else (some false))
set_option maxHeartbeats 8000000 in
set_option maxRecDepth 100000 in
theorem impl_setDoing_plain.calls (a0_0 : Int) (a0_1 : Int) (a0_2 : Int) (a0_3 : Int) (a0_4 : Int) (a0_5 : Int) (A0_6 : Option Addr) (c0_6 : Nat) (l0_6 : List (S27)) (a1_0 : Int) (a1_1 : Int) (a1_2 : Int) (a1_3 : Int) (a1_4 : Int) (a1_5 : Int) (a1_6 : Int) (A1_7 : Option Addr) (c1_7 : Nat) (l1_7 : List (S27)) (A1_8 : Option Addr) (c1_8 : Nat) (l1_8 : List (S35)) (A1_9 : Option Addr) (c1_9 : Nat) (l1_9 : List (S35)) (r : Bool) (w : World) (hr0_6 : Kd.C k27 w A0_6 l0_6.length l0_6) (hc0_6 : l0_6.length ≤ c0_6) (hr1_7 : Kd.C k27 w A1_7 l1_7.length l1_7) (hc1_7 : l1_7.length ≤ c1_7) (hr1_8 : Kd.C k35 w A1_8 l1_8.length l1_8) (hc1_8 : l1_8.length ≤ c1_8) (hr1_9 : Kd.C k35 w A1_9 l1_9.length l1_9) (hc1_9 : l1_9.length ≤ c1_9) (h : impl_setDoing_plain.f a0_0 a0_1 a0_2 a0_3 a0_4 a0_5 l0_6 a1_0 a1_1 a1_2 a1_3 a1_4 a1_5 a1_6 l1_7 l1_8 l1_9 = some r) :
  Calls Tryz.prog 126 #[.agg #[.int .i64 a0_0, .int .i64 a0_1, .int .i64 a0_2, .int .i64 a0_3, .int .i64 a0_4, .int .i64 a0_5, .slice A0_6 l0_6.length c0_6], .agg #[.int .i64 a1_0, .int .i64 a1_1, .int .i64 a1_2, .int .i64 a1_3, .int .i64 a1_4, .int .i64 a1_5, .int .i64 a1_6, .slice A1_7 l1_7.length c1_7, .slice A1_8 l1_8.length c1_8, .slice A1_9 l1_9.length c1_9]] w fun e w' => e = .returned (.bool r) ∧ Below w.heap.size w w' := by
 have hu124 := Tryz.underlying124
 have hu35 := Tryz.underlying35
 have hu24 := Tryz.underlying24
 have HR0_6 := z0 hr0_6
 have HC0_6 := z0 hc0_6
 clear hr0_6 hc0_6
 have HR1_7 := z0 hr1_7
 have HC1_7 := z0 hc1_7
 clear hr1_7 hc1_7
 have HR1_8 := z0 hr1_8
 have HC1_8 := z0 hc1_8
 clear hr1_8 hc1_8
 have HR1_9 := z0 hr1_9
 have HC1_9 := z0 hc1_9
 clear hr1_9 hc1_9
 have HB := z0 (Below.refl w.heap.size w)
 have H : ((impl_puts.f a1_1 a1_2).bind fun t1372 => (if t1372 = true then (if (l1_8.length : Int) = 0 then (some ((l1_9.length : Int) == 0)) else (some false)) else (some false))) = some r := h
 clear h
 have HF3 := z0 H
 clear H
 go_enter Tryz.func126, Tryz.ntmps126
 go_upto_region 1 with (first | ((with_reducible refine gate_dst (N := 2) rfl ?_); (try (refine gate_guard (by rfl) ?_; dsimp only)); refine box_event ?hg (N := 2) ?hd (cs := #[.int .i64 a0_0, .int .i64 a0_1, .int .i64 a0_2, .int .i64 a0_3, .int .i64 a0_4, .int .i64 a0_5, .slice A0_6 l0_6.length c0_6]) (t := 124) ?hr ?_; (case hd => rfl); (case hg => rfl); (case hr => first | (go_simp; done) | (go_simp; rfl)); intro gb1370 hg w4 hbox hb; have n_ := az (below_step (mB HB.out) hb) <| az (hbox) <| az ((by rw [hg]; exact (below_size (mB HB.out)) : w.heap.size ≤ gb1370)) <| z0 ((by rw [hg]; exact (below_size (mB HB.out)) : w.heap.size ≤ gb1370)); clear HB; obtain ⟨HB, BK1370, GW1370, GE1370⟩ := n_; clear hb hbox hg) | ((with_reducible refine gate_dst (N := 3) rfl ?_); (try (refine gate_guard (by rfl) ?_; dsimp only)); refine box_event ?hg (N := 3) ?hd (cs := #[.int .i64 a1_0, .int .i64 a1_1, .int .i64 a1_2, .int .i64 a1_3, .int .i64 a1_4, .int .i64 a1_5, .int .i64 a1_6, .slice A1_7 l1_7.length c1_7, .slice A1_8 l1_8.length c1_8, .slice A1_9 l1_9.length c1_9]) (t := 35) ?hr ?_; (case hd => rfl); (case hg => rfl); (case hr => first | (go_simp; done) | (go_simp; rfl)); intro gb1371 hg w5 hbox hb; have n_ := az (bB BK1370.out hb) <| az (below_step (mB HB.out) hb) <| az (hbox) <| az ((by rw [hg]; exact (below_size (mB HB.out)) : w.heap.size ≤ gb1371)) <| az ((by rw [hg]; exact (below_size (mB HB.out)) : w.heap.size ≤ gb1371)) <| az ((nL hg BK1370.out)) <| z0 ((nG hg BK1370.out)); clear BK1370 HB; obtain ⟨BK1370, HB, BK1371, GW1371, GE1371, NB1370_1371, NB1371_1370⟩ := n_; clear hb hbox hg))
 (try simp only [Act.put, List.setIfInBounds_toArray, List.set_cons_zero, List.set_cons_succ])
 have H := HF3.out
 clear HF3
 try clear c1
 replace H := Option.bind_eq_some_iff.mp H
 obtain ⟨t1372, A60, H⟩ := H
 try dsimp only at H
 have A6 := z0 A60
 clear A60
 by_cases c7 : t1372 = true
 ·subst c7
  have H1 : (if (l1_8.length : Int) = 0 then (some ((l1_9.length : Int) == 0)) else (some false)) = some r := by rw [if_pos rfl] at H; exact H
  clear H
  have H := H1
  clear H1
  by_cases c8 : (l1_8.length : Int) = 0
  ·rw [if_pos c8] at H
   have c8b0 : ((l1_8.length : Int) == 0) = true := beq_iff_eq.mpr c8
   have c8b1 : ((l1_8.length : Int) != 0) = false := bne_eq_false_iff_eq.mpr c8
   clear c8
   obtain rfl := Option.some.inj H
   have hnb9 := NB1371_1370.out
   have hnc9 := NB1370_1371.out
   obtain ⟨hcz10_0, hcz10_1, hcz10_2, hcz10_3, hcz10_4, hcz10_5, hcz10_6, hcz10_7, hcz10_8, hcz10_9, hfz10_0, hfz10_1, hfz10_2, hfz10_3, hfz10_4, hfz10_5, hfz10_6, hfz10_7, hfz10_8, hfz10_9⟩ := cel10 BK1371.out
   go_wp2_with (first | ((with_reducible refine gate_callee (f := 77) rfl ?_); refine goesL_ (some 7) rfl rfl Tryz.func77 (by kernel_rfl) rfl #[.agg #[.int .i64 a1_1, .int .i64 a1_2]] rfl argx ?_; (with_reducible refine (impl_puts.calls a1_1 a1_2 true _ A6.out).mono ?_); rintro e w11 ⟨rfl, hb⟩; refine ⟨_, rfl, ?_⟩; have n_ := az (bB BK1370.out hb) <| az (bB BK1371.out hb) <| z0 (below_step (mB HB.out) hb); clear BK1370 BK1371 HB; obtain ⟨BK1370, BK1371, HB⟩ := n_; clear hb; obtain ⟨hcz12_0, hcz12_1, hcz12_2, hcz12_3, hcz12_4, hcz12_5, hcz12_6, hcz12_7, hcz12_8, hcz12_9, hfz12_0, hfz12_1, hfz12_2, hfz12_3, hfz12_4, hfz12_5, hfz12_6, hfz12_7, hfz12_8, hfz12_9⟩ := cel10 BK1371.out))
   go_ret
   exact ⟨rfx, mB HB.out⟩
  ·rw [if_neg c8] at H
   have c8b0 : ((l1_8.length : Int) == 0) = false := beq_eq_false_iff_ne.mpr c8
   have c8b1 : ((l1_8.length : Int) != 0) = true := bne_iff_ne.mpr c8
   have c8b2 : ¬ (l1_8 = []) := fun h_ => c8 (by rw [h_]; rfl)
   obtain rfl := Option.some.inj H
   have hnb13 := NB1371_1370.out
   have hnc13 := NB1370_1371.out
   obtain ⟨hcz14_0, hcz14_1, hcz14_2, hcz14_3, hcz14_4, hcz14_5, hcz14_6, hcz14_7, hcz14_8, hcz14_9, hfz14_0, hfz14_1, hfz14_2, hfz14_3, hfz14_4, hfz14_5, hfz14_6, hfz14_7, hfz14_8, hfz14_9⟩ := cel10 BK1371.out
   go_wp2_with (first | ((with_reducible refine gate_callee (f := 77) rfl ?_); refine goesL_ (some 7) rfl rfl Tryz.func77 (by kernel_rfl) rfl #[.agg #[.int .i64 a1_1, .int .i64 a1_2]] rfl argx ?_; (with_reducible refine (impl_puts.calls a1_1 a1_2 true _ A6.out).mono ?_); rintro e w15 ⟨rfl, hb⟩; refine ⟨_, rfl, ?_⟩; have n_ := az (bB BK1370.out hb) <| az (bB BK1371.out hb) <| z0 (below_step (mB HB.out) hb); clear BK1370 BK1371 HB; obtain ⟨BK1370, BK1371, HB⟩ := n_; clear hb; obtain ⟨hcz16_0, hcz16_1, hcz16_2, hcz16_3, hcz16_4, hcz16_5, hcz16_6, hcz16_7, hcz16_8, hcz16_9, hfz16_0, hfz16_1, hfz16_2, hfz16_3, hfz16_4, hfz16_5, hfz16_6, hfz16_7, hfz16_8, hfz16_9⟩ := cel10 BK1371.out))
   go_ret
   exact ⟨rfx, mB HB.out⟩
 ·replace c7 := Bool.eq_false_iff.mpr c7
  subst c7
  have H1 : (some false) = some r := by rw [if_neg (show ¬ (false = true) by decide)] at H; exact H
  clear H
  have H := H1
  clear H1
  obtain rfl := Option.some.inj H
  have hnb17 := NB1371_1370.out
  have hnc17 := NB1370_1371.out
  obtain ⟨hcz18_0, hcz18_1, hcz18_2, hcz18_3, hcz18_4, hcz18_5, hcz18_6, hcz18_7, hcz18_8, hcz18_9, hfz18_0, hfz18_1, hfz18_2, hfz18_3, hfz18_4, hfz18_5, hfz18_6, hfz18_7, hfz18_8, hfz18_9⟩ := cel10 BK1371.out
  go_wp2_with (first | ((with_reducible refine gate_callee (f := 77) rfl ?_); refine goesL_ (some 7) rfl rfl Tryz.func77 (by kernel_rfl) rfl #[.agg #[.int .i64 a1_1, .int .i64 a1_2]] rfl argx ?_; (with_reducible refine (impl_puts.calls a1_1 a1_2 false _ A6.out).mono ?_); rintro e w19 ⟨rfl, hb⟩; refine ⟨_, rfl, ?_⟩; have n_ := az (bB BK1370.out hb) <| az (bB BK1371.out hb) <| z0 (below_step (mB HB.out) hb); clear BK1370 BK1371 HB; obtain ⟨BK1370, BK1371, HB⟩ := n_; clear hb))
  go_ret
  exact ⟨rfx, mB HB.out⟩

end Go.Proofs.YtendbgedpjcocaaGreatDoor.B
namespace Go.Proofs.YtendbgedpjcocaaGreatDoor.B
open Go.RowKit Go.Proofs.YtendbgedpjcocaaGreatDoorW.PrintWords Go.Proofs.YtendbgedpjcocaaGreatDoorW.PrintLast Go.Proofs.YtendbgedpjcocaaGreatDoorW.PrintMore
attribute [local go_sem] max2_int min2_int max_two min_two max_three min_three max_four min_four   -- for this text's walks alone
set_option linter.unusedVariables false
set_option linter.unusedSimpArgs false

attribute [local go_sem high] eqA24
/-! ### impl_ifDoing_plain: function 129 -/
def impl_ifDoing_plain.f (a0_0 : Int) (a0_1 : Int) (a0_2 : Int) (a0_3 : Int) (l0_4 : List (S27)) (l0_5 : List (S35)) (l0_6 : List (S35)) (a1_0 : Int) (a1_1 : Int) (a1_2 : Int) (a1_3 : Int) (a1_4 : Int) (a1_5 : Int) (a1_6 : Int) (l1_7 : List (S27)) (l1_8 : List (S35)) (l1_9 : List (S35)) : Option (Bool) := some (a1_1 == 0 && (a1_2 == 0))
set_option maxHeartbeats 8000000 in
set_option maxRecDepth 100000 in
theorem impl_ifDoing_plain.calls (a0_0 : Int) (a0_1 : Int) (a0_2 : Int) (a0_3 : Int) (A0_4 : Option Addr) (c0_4 : Nat) (l0_4 : List (S27)) (A0_5 : Option Addr) (c0_5 : Nat) (l0_5 : List (S35)) (A0_6 : Option Addr) (c0_6 : Nat) (l0_6 : List (S35)) (a1_0 : Int) (a1_1 : Int) (a1_2 : Int) (a1_3 : Int) (a1_4 : Int) (a1_5 : Int) (a1_6 : Int) (A1_7 : Option Addr) (c1_7 : Nat) (l1_7 : List (S27)) (A1_8 : Option Addr) (c1_8 : Nat) (l1_8 : List (S35)) (A1_9 : Option Addr) (c1_9 : Nat) (l1_9 : List (S35)) (r : Bool) (w : World) (hr0_4 : Kd.C k27 w A0_4 l0_4.length l0_4) (hc0_4 : l0_4.length ≤ c0_4) (hr0_5 : Kd.C k35 w A0_5 l0_5.length l0_5) (hc0_5 : l0_5.length ≤ c0_5) (hr0_6 : Kd.C k35 w A0_6 l0_6.length l0_6) (hc0_6 : l0_6.length ≤ c0_6) (hr1_7 : Kd.C k27 w A1_7 l1_7.length l1_7) (hc1_7 : l1_7.length ≤ c1_7) (hr1_8 : Kd.C k35 w A1_8 l1_8.length l1_8) (hc1_8 : l1_8.length ≤ c1_8) (hr1_9 : Kd.C k35 w A1_9 l1_9.length l1_9) (hc1_9 : l1_9.length ≤ c1_9) (h : impl_ifDoing_plain.f a0_0 a0_1 a0_2 a0_3 l0_4 l0_5 l0_6 a1_0 a1_1 a1_2 a1_3 a1_4 a1_5 a1_6 l1_7 l1_8 l1_9 = some r) :
  Calls Tryz.prog 129 #[.agg #[.int .i64 a0_0, .int .i64 a0_1, .int .i64 a0_2, .int .i64 a0_3, .slice A0_4 l0_4.length c0_4, .slice A0_5 l0_5.length c0_5, .slice A0_6 l0_6.length c0_6], .agg #[.int .i64 a1_0, .int .i64 a1_1, .int .i64 a1_2, .int .i64 a1_3, .int .i64 a1_4, .int .i64 a1_5, .int .i64 a1_6, .slice A1_7 l1_7.length c1_7, .slice A1_8 l1_8.length c1_8, .slice A1_9 l1_9.length c1_9]] w fun e w' => e = .returned (.bool r) ∧ Below w.heap.size w w' := by
 have hu126 := Tryz.underlying126
 have hu35 := Tryz.underlying35
 have hu24 := Tryz.underlying24
 have HR0_4 := z0 hr0_4
 have HC0_4 := z0 hc0_4
 clear hr0_4 hc0_4
 have HR0_5 := z0 hr0_5
 have HC0_5 := z0 hc0_5
 clear hr0_5 hc0_5
 have HR0_6 := z0 hr0_6
 have HC0_6 := z0 hc0_6
 clear hr0_6 hc0_6
 have HR1_7 := z0 hr1_7
 have HC1_7 := z0 hc1_7
 clear hr1_7 hc1_7
 have HR1_8 := z0 hr1_8
 have HC1_8 := z0 hc1_8
 clear hr1_8 hc1_8
 have HR1_9 := z0 hr1_9
 have HC1_9 := z0 hc1_9
 clear hr1_9 hc1_9
 have HB := z0 (Below.refl w.heap.size w)
 have H : (some (a1_1 == 0 && (a1_2 == 0))) = some r := h
 clear h
 obtain rfl := Option.some.inj H
 go_enter Tryz.func129, Tryz.ntmps129
 go_wp2_with (first | ((with_reducible refine gate_dst (N := 2) rfl ?_); refine box_event ?hg (N := 2) ?hd (cs := #[.int .i64 a0_0, .int .i64 a0_1, .int .i64 a0_2, .int .i64 a0_3, .slice A0_4 l0_4.length c0_4, .slice A0_5 l0_5.length c0_5, .slice A0_6 l0_6.length c0_6]) (t := 126) ?hr ?_; (case hd => rfl); (case hg => rfl); (case hr => first | (go_simp; done) | (go_simp; rfl)); intro gb1373 hg w3 hbox hb; have n_ := az (below_step (mB HB.out) hb) <| az (hbox) <| az ((by rw [hg]; exact (below_size (mB HB.out)) : w.heap.size ≤ gb1373)) <| z0 ((by rw [hg]; exact (below_size (mB HB.out)) : w.heap.size ≤ gb1373)); clear HB; obtain ⟨HB, BK1373, GW1373, GE1373⟩ := n_; clear hb hbox hg) | ((with_reducible refine gate_dst (N := 3) rfl ?_); refine box_event ?hg (N := 3) ?hd (cs := #[.int .i64 a1_0, .int .i64 a1_1, .int .i64 a1_2, .int .i64 a1_3, .int .i64 a1_4, .int .i64 a1_5, .int .i64 a1_6, .slice A1_7 l1_7.length c1_7, .slice A1_8 l1_8.length c1_8, .slice A1_9 l1_9.length c1_9]) (t := 35) ?hr ?_; (case hd => rfl); (case hg => rfl); (case hr => first | (go_simp; done) | (go_simp; rfl)); intro gb1374 hg w4 hbox hb; have n_ := az (bB BK1373.out hb) <| az (below_step (mB HB.out) hb) <| az (hbox) <| az ((by rw [hg]; exact (below_size (mB HB.out)) : w.heap.size ≤ gb1374)) <| az ((by rw [hg]; exact (below_size (mB HB.out)) : w.heap.size ≤ gb1374)) <| az ((nL hg BK1373.out)) <| z0 ((nG hg BK1373.out)); clear BK1373 HB; obtain ⟨BK1373, HB, BK1374, GW1374, GE1374, NB1373_1374, NB1374_1373⟩ := n_; clear hb hbox hg; have hnb5 := NB1374_1373.out; have hnc5 := NB1373_1374.out; obtain ⟨hcz6_0, hcz6_1, hcz6_2, hcz6_3, hcz6_4, hcz6_5, hcz6_6, hcz6_7, hcz6_8, hcz6_9, hfz6_0, hfz6_1, hfz6_2, hfz6_3, hfz6_4, hfz6_5, hfz6_6, hfz6_7, hfz6_8, hfz6_9⟩ := cel10 BK1374.out))
 go_ret
 exact ⟨rfx, mB HB.out⟩

/-! ### impl_whileDoing_plain: function 132 -/
def impl_whileDoing_plain.f (a0_0 : Int) (a0_1 : Int) (a0_2 : Int) (a0_3 : Int) (l0_4 : List (S27)) (l0_5 : List (S35)) (a1_0 : Int) (a1_1 : Int) (a1_2 : Int) (a1_3 : Int) (a1_4 : Int) (a1_5 : Int) (a1_6 : Int) (l1_7 : List (S27)) (l1_8 : List (S35)) (l1_9 : List (S35)) : Option (Bool) := if (a1_1 == 0 && (a1_2 == 0)) = true then (some ((l1_9.length : Int) == 0)) else (some false)
set_option maxHeartbeats 8000000 in
set_option maxRecDepth 100000 in
theorem impl_whileDoing_plain.calls (a0_0 : Int) (a0_1 : Int) (a0_2 : Int) (a0_3 : Int) (A0_4 : Option Addr) (c0_4 : Nat) (l0_4 : List (S27)) (A0_5 : Option Addr) (c0_5 : Nat) (l0_5 : List (S35)) (a1_0 : Int) (a1_1 : Int) (a1_2 : Int) (a1_3 : Int) (a1_4 : Int) (a1_5 : Int) (a1_6 : Int) (A1_7 : Option Addr) (c1_7 : Nat) (l1_7 : List (S27)) (A1_8 : Option Addr) (c1_8 : Nat) (l1_8 : List (S35)) (A1_9 : Option Addr) (c1_9 : Nat) (l1_9 : List (S35)) (r : Bool) (w : World) (hr0_4 : Kd.C k27 w A0_4 l0_4.length l0_4) (hc0_4 : l0_4.length ≤ c0_4) (hr0_5 : Kd.C k35 w A0_5 l0_5.length l0_5) (hc0_5 : l0_5.length ≤ c0_5) (hr1_7 : Kd.C k27 w A1_7 l1_7.length l1_7) (hc1_7 : l1_7.length ≤ c1_7) (hr1_8 : Kd.C k35 w A1_8 l1_8.length l1_8) (hc1_8 : l1_8.length ≤ c1_8) (hr1_9 : Kd.C k35 w A1_9 l1_9.length l1_9) (hc1_9 : l1_9.length ≤ c1_9) (h : impl_whileDoing_plain.f a0_0 a0_1 a0_2 a0_3 l0_4 l0_5 a1_0 a1_1 a1_2 a1_3 a1_4 a1_5 a1_6 l1_7 l1_8 l1_9 = some r) :
  Calls Tryz.prog 132 #[.agg #[.int .i64 a0_0, .int .i64 a0_1, .int .i64 a0_2, .int .i64 a0_3, .slice A0_4 l0_4.length c0_4, .slice A0_5 l0_5.length c0_5], .agg #[.int .i64 a1_0, .int .i64 a1_1, .int .i64 a1_2, .int .i64 a1_3, .int .i64 a1_4, .int .i64 a1_5, .int .i64 a1_6, .slice A1_7 l1_7.length c1_7, .slice A1_8 l1_8.length c1_8, .slice A1_9 l1_9.length c1_9]] w fun e w' => e = .returned (.bool r) ∧ Below w.heap.size w w' := by
 have hu128 := Tryz.underlying128
 have hu35 := Tryz.underlying35
 have hu24 := Tryz.underlying24
 have HR0_4 := z0 hr0_4
 have HC0_4 := z0 hc0_4
 clear hr0_4 hc0_4
 have HR0_5 := z0 hr0_5
 have HC0_5 := z0 hc0_5
 clear hr0_5 hc0_5
 have HR1_7 := z0 hr1_7
 have HC1_7 := z0 hc1_7
 clear hr1_7 hc1_7
 have HR1_8 := z0 hr1_8
 have HC1_8 := z0 hc1_8
 clear hr1_8 hc1_8
 have HR1_9 := z0 hr1_9
 have HC1_9 := z0 hc1_9
 clear hr1_9 hc1_9
 have HB := z0 (Below.refl w.heap.size w)
 have H : (if (a1_1 == 0 && (a1_2 == 0)) = true then (some ((l1_9.length : Int) == 0)) else (some false)) = some r := h
 clear h
 have HF3 := z0 H
 clear H
 go_enter Tryz.func132, Tryz.ntmps132
 go_upto_region 1 with (first | ((with_reducible refine gate_dst (N := 2) rfl ?_); (try (refine gate_guard (by rfl) ?_; dsimp only)); refine box_event ?hg (N := 2) ?hd (cs := #[.int .i64 a0_0, .int .i64 a0_1, .int .i64 a0_2, .int .i64 a0_3, .slice A0_4 l0_4.length c0_4, .slice A0_5 l0_5.length c0_5]) (t := 128) ?hr ?_; (case hd => rfl); (case hg => rfl); (case hr => first | (go_simp; done) | (go_simp; rfl)); intro gb1375 hg w4 hbox hb; have n_ := az (below_step (mB HB.out) hb) <| az (hbox) <| az ((by rw [hg]; exact (below_size (mB HB.out)) : w.heap.size ≤ gb1375)) <| z0 ((by rw [hg]; exact (below_size (mB HB.out)) : w.heap.size ≤ gb1375)); clear HB; obtain ⟨HB, BK1375, GW1375, GE1375⟩ := n_; clear hb hbox hg) | ((with_reducible refine gate_dst (N := 3) rfl ?_); (try (refine gate_guard (by rfl) ?_; dsimp only)); refine box_event ?hg (N := 3) ?hd (cs := #[.int .i64 a1_0, .int .i64 a1_1, .int .i64 a1_2, .int .i64 a1_3, .int .i64 a1_4, .int .i64 a1_5, .int .i64 a1_6, .slice A1_7 l1_7.length c1_7, .slice A1_8 l1_8.length c1_8, .slice A1_9 l1_9.length c1_9]) (t := 35) ?hr ?_; (case hd => rfl); (case hg => rfl); (case hr => first | (go_simp; done) | (go_simp; rfl)); intro gb1376 hg w5 hbox hb; have n_ := az (bB BK1375.out hb) <| az (below_step (mB HB.out) hb) <| az (hbox) <| az ((by rw [hg]; exact (below_size (mB HB.out)) : w.heap.size ≤ gb1376)) <| az ((by rw [hg]; exact (below_size (mB HB.out)) : w.heap.size ≤ gb1376)) <| az ((nL hg BK1375.out)) <| z0 ((nG hg BK1375.out)); clear BK1375 HB; obtain ⟨BK1375, HB, BK1376, GW1376, GE1376, NB1375_1376, NB1376_1375⟩ := n_; clear hb hbox hg))
 (try simp only [Act.put, List.setIfInBounds_toArray, List.set_cons_zero, List.set_cons_succ])
 have H := HF3.out
 clear HF3
 try clear c1
 by_cases c6 : (a1_1 == 0 && (a1_2 == 0)) = true
 ·rw [if_pos c6] at H
  have c6b0 : (a1_1 == 0 && (a1_2 == 0)) = true := c6
  (try (have c6b1 : decide (a1_1 = 0 && (a1_2 == 0)) = true := by simpa using c6))
  (try (have c6b2 : (a1_1 == 0 && (a1_2 == 0)) = true := by simpa using c6))
  clear c6
  obtain rfl := Option.some.inj H
  have hnb7 := NB1376_1375.out
  have hnc7 := NB1375_1376.out
  obtain ⟨hcz8_0, hcz8_1, hcz8_2, hcz8_3, hcz8_4, hcz8_5, hcz8_6, hcz8_7, hcz8_8, hcz8_9, hfz8_0, hfz8_1, hfz8_2, hfz8_3, hfz8_4, hfz8_5, hfz8_6, hfz8_7, hfz8_8, hfz8_9⟩ := cel10 BK1376.out
  go_wp2
  go_ret
  exact ⟨rfx, mB HB.out⟩
 ·rw [if_neg c6] at H
  have c6b0 : (a1_1 == 0 && (a1_2 == 0)) = false := by simpa using c6
  (try (have c6b1 : decide (a1_1 = 0 && (a1_2 == 0)) = false := by simpa using c6))
  (try (have c6b2 : (a1_1 == 0 && (a1_2 == 0)) = false := by simpa using c6))
  (try (have c6b3 : ¬ (a1_1 = 0 && (a1_2 == 0)) := by simpa using c6))
  clear c6
  obtain rfl := Option.some.inj H
  have hnb9 := NB1376_1375.out
  have hnc9 := NB1375_1376.out
  obtain ⟨hcz10_0, hcz10_1, hcz10_2, hcz10_3, hcz10_4, hcz10_5, hcz10_6, hcz10_7, hcz10_8, hcz10_9, hfz10_0, hfz10_1, hfz10_2, hfz10_3, hfz10_4, hfz10_5, hfz10_6, hfz10_7, hfz10_8, hfz10_9⟩ := cel10 BK1376.out
  go_wp2
  go_ret
  exact ⟨rfx, mB HB.out⟩

end Go.Proofs.YtendbgedpjcocaaGreatDoor.B
namespace Go.Proofs.YtendbgedpjcocaaGreatDoor.B
open Go.RowKit Go.Proofs.YtendbgedpjcocaaGreatDoorW.PrintWords Go.Proofs.YtendbgedpjcocaaGreatDoorW.PrintLast Go.Proofs.YtendbgedpjcocaaGreatDoorW.PrintMore
attribute [local go_sem] max2_int min2_int max_two min_two max_three min_three max_four min_four   -- for this text's walks alone
set_option linter.unusedVariables false
set_option linter.unusedSimpArgs false

/-! ### spec_l4Many: function 43 -/
mutual
def spec_l4Many.l0 : Nat → List (S35) → Int → Int → Int → Option (Int)
 | 0, _, _, _, _ => none
 | k + 1, x0, x1, x5, x6 => if x6 < (x0.length : Int) then (spec_l4Many.j1 k x0 x1 x5 x6 (decide (x1 > 0))) else (spec_l4Many.j1 k x0 x1 x5 x6 false)
def spec_l4Many.j1 : Nat → List (S35) → Int → Int → Int → Bool → Option (Int)
 | 0, _, _, _, _, _ => none
 | k + 1, x0, x1, x5, x6, x16 => if x16 = true then (if 0 ≤ x6 then (if x6 < (x0.length : Int) then ((spec_l4Many.f k ((rd_T35 x0 x6).f3) (wrap64 (x1 - 1))).bind fun t328 => ((spec_l4Many.f k ((rd_T35 x0 x6).f4) (wrap64 (x1 - 1))).bind fun t330 => (spec_l4Many.l0 k x0 x1 (wrap64 ((wrap64 (x5 + t328)) + t330)) (wrap64 (x6 + 1))))) else (none)) else (none)) else (some x5)
def spec_l4Many.f : Nat → List (S35) → Int → Option (Int)
 | 0, _, _ => none
 | k + 1, l0, a1 => spec_l4Many.l0 k l0 a1 (l0.length : Int) 0
end
def spec_l4Many.T5 : Bool × List (List Nat × List Nat) := (true, [([], []), ([], []), ([], []), ([1, 2], [1, 2]), ([3], [3]), ([4], [4]), ([], []), ([6], [6]), ([5, 7], [5, 7]), ([0, 8], [0, 8]), ([], []), ([], []), ([10, 11], [10, 11]), ([12], [12]), ([13], [13]), ([], []), ([15], [15]), ([14, 16, 8], [14, 16]), ([9, 17], [9, 17]), ([18, 17, 0, 1, 2, 3, 4, 5, 6, 7, 8, 9, 10, 11, 12, 13, 14, 15, 16, 17, 18], [0, 18])])
def spec_l4Many.B5 : List Nat := [0, 0, 0, 6, 14, 30, 0, 64, 254, 511, 0, 0, 3072, 7168, 15360, 0, 32768, 130558, 262143, 524287]
theorem spec_l4Many.tab5 : rtab .any (opsOf Tryz.f43 5) = spec_l4Many.T5 := by kernel_rfl
theorem spec_l4Many.bits5 : waitsOk spec_l4Many.T5.2 spec_l4Many.B5 = true := by kernel_rfl
set_option maxHeartbeats 8000000 in
set_option maxRecDepth 100000 in
theorem spec_l4Many.calls (k : Nat) : ∀ (A0 : Option Addr) (c0 : Nat) (l0 : List (S35)) (a1 : Int) (r : Int) (w : World) (hr0 : Kd.C k35 w A0 l0.length l0) (hc0 : l0.length ≤ c0) (h : spec_l4Many.f k l0 a1 = some r),
  Calls Tryz.prog 43 #[.slice A0 l0.length c0, .int .i64 a1] w fun e w' => e = .returned (.int .i64 r) ∧ Below w.heap.size w w' := by
 induction k using Nat.strongRecOn with
 | _ k ih =>
 intro A0 c0 l0 a1 r w hr0 hc0 h
 cases k with
 | zero => exact absurd h (by simp [spec_l4Many.f])
 | succ k =>
 simp only [spec_l4Many.f] at h
 have HR0 := z0 hr0
 have HC0 := z0 hc0
 clear hr0 hc0
 have HB := z0 (Below.refl w.heap.size w)
 have H : (spec_l4Many.l0 k l0 a1 (l0.length : Int) 0) = some r := h
 clear h
 have H' := z0 H
 clear H
 go_enter Tryz.func43, Tryz.ntmps43
 go_wp2
 go_loopg [5, 6] k (fun kq v5 v6 w' => ∃ (x5_1 : Int) (x6_1 : Int), v5 = .int .i64 x5_1 ∧ v6 = .int .i64 x6_1 ∧ Aside0 (spec_l4Many.l0 kq l0 a1 x5_1 x6_1 = some r) ∧ Aside0 (kq ≤ k) ∧ Aside0 (Below w.heap.size w w'))
 case atStart => exact ⟨((l0.length : Int)), (0), rfy, rfy, H', ⟨Nat.le_refl _⟩, ⟨mB HB.out⟩⟩
 case round =>
  clear H'
  try clear p2
  obtain ⟨x5_1, x6_1, rfl, rfl, HA, HK1, HB⟩ := hrel
  cases gk with
  | zero => exact absurd HA.out (by simp [spec_l4Many.l0])
  | succ k1 =>
   have H := HA.out
   clear HA
   simp only [spec_l4Many.l0] at H
   have HC3 := z0 H
   clear H
   go_upto_region 3 with (fail)
   go_cut [16] (fun v16 wc => ∃ (kq : Nat) (x16_2 : Bool), v16 = .bool x16_2 ∧ Aside0 (spec_l4Many.j1 kq l0 a1 x5_1 x6_1 x16_2 = some r) ∧ Aside0 (kq ≤ k1) ∧ Aside0 (Below w.heap.size w wc))
   case first =>
    have H := HC3.out
    clear HC3
    by_cases c4 : x6_1 < (l0.length : Int)
    ·rw [if_pos c4] at H
     have c4b0 : decide (x6_1 < (l0.length : Int)) = true := decide_eq_true c4
     clear c4
     (first | rw [c4b0] | (simp only [i64_w, i32_w]; rw [c4b0]) | skip)
     have H' := z0 H
     clear H
     go_wp2
     go_meet
     case rel => exact ⟨_, (decide (a1 > 0)), rfy, H', ⟨by have := HK1.out; first | omega | exact Nat.le_refl _⟩, ⟨mB HB.out⟩⟩
    ·rw [if_neg c4] at H
     have c4b0 : decide (x6_1 < (l0.length : Int)) = false := decide_eq_false c4
     clear c4
     (first | rw [c4b0] | (simp only [i64_w, i32_w]; rw [c4b0]) | skip)
     have H' := z0 H
     clear H
     go_wp2
     go_meet
     case rel => exact ⟨_, (false), rfy, H', ⟨by have := HK1.out; first | omega | exact Nat.le_refl _⟩, ⟨mB HB.out⟩⟩
   case rest =>
    clear HC3
    (try clear p2); (try clear p2)
    obtain ⟨kq, x16_2, rfl, HA, HJ2, HB⟩ := hcut
    cases kq with
    | zero => exact absurd HA.out (by simp [spec_l4Many.j1])
    | succ kj2 =>
     have H := HA.out
     clear HA
     simp only [spec_l4Many.j1] at H
     by_cases c5 : x16_2 = true
     ·subst c5
      have H1 : (if 0 ≤ x6_1 then (if x6_1 < (l0.length : Int) then ((spec_l4Many.f kj2 ((rd_T35 l0 x6_1).f3) (wrap64 (a1 - 1))).bind fun t328 => ((spec_l4Many.f kj2 ((rd_T35 l0 x6_1).f4) (wrap64 (a1 - 1))).bind fun t330 => (spec_l4Many.l0 kj2 l0 a1 (wrap64 ((wrap64 (x5_1 + t328)) + t330)) (wrap64 (x6_1 + 1))))) else (none)) else (none)) = some r := by rw [if_pos rfl] at H; exact H
      clear H
      have H := H1
      clear H1
      by_cases c6 : 0 ≤ x6_1
      ·rw [if_pos c6] at H
       have c6b0 : decide (0 ≤ x6_1) = true := decide_eq_true c6
       clear c6
       by_cases c7 : x6_1 < (l0.length : Int)
       ·rw [if_pos c7] at H
        have c7b0 : decide (x6_1 < (l0.length : Int)) = true := decide_eq_true c7
        clear c7
        replace H := Option.bind_eq_some_iff.mp H
        obtain ⟨t328, A80, H⟩ := H
        try dsimp only at H
        have A8 := z0 A80
        clear A80
        replace H := Option.bind_eq_some_iff.mp H
        obtain ⟨t330, A90, H⟩ := H
        try dsimp only at H
        have A9 := z0 A90
        clear A90
        have H' := z0 H
        clear H
        try go_wp2
        have n0_ := z0 (below_drew1 HB.out)
        clear HB
        have HB := n0_
        clear n0_
        have p327 : 0 ≤ (x6_1 : Int) := of_decide_eq_true (by first | (with_reducible assumption) | assumption)
        have q327 : x6_1 < (l0.length : Int) := of_decide_eq_true (by first | (with_reducible assumption) | assumption)
        obtain ⟨ad327, A327_7, c327_7, A327_8, c327_8, A327_9, c327_9, e327, hx327_0, hx327_1, hx327_2, hx327_3, hx327_4, hx327_5, hx327_6, hx327_7, hx327_8, hx327_9, hl327_7, hi327_7, hl327_8, hi327_8, hl327_9, hi327_9⟩ := at_T35 HR0.out x6_1 p327 q327
        have hw327_9 := hx327_9
        have hw327_8 := hx327_8
        have hw327_7 := hx327_7
        have hw327_6 := hx327_6
        have hw327_5 := hx327_5
        have hw327_4 := hx327_4
        have hw327_3 := hx327_3
        have hw327_2 := hx327_2
        have hw327_1 := hx327_1
        have hw327_0 := hx327_0
        cases e327
        replace hx327_0 := (HB.out.cell (World.block_lt_of_cell? w _ hx327_0)).trans hx327_0
        replace hx327_1 := (HB.out.cell (World.block_lt_of_cell? w _ hx327_1)).trans hx327_1
        replace hx327_2 := (HB.out.cell (World.block_lt_of_cell? w _ hx327_2)).trans hx327_2
        replace hx327_3 := (HB.out.cell (World.block_lt_of_cell? w _ hx327_3)).trans hx327_3
        replace hx327_4 := (HB.out.cell (World.block_lt_of_cell? w _ hx327_4)).trans hx327_4
        replace hx327_5 := (HB.out.cell (World.block_lt_of_cell? w _ hx327_5)).trans hx327_5
        replace hx327_6 := (HB.out.cell (World.block_lt_of_cell? w _ hx327_6)).trans hx327_6
        replace hx327_7 := (HB.out.cell (World.block_lt_of_cell? w _ hx327_7)).trans hx327_7
        replace hx327_8 := (HB.out.cell (World.block_lt_of_cell? w _ hx327_8)).trans hx327_8
        replace hx327_9 := (HB.out.cell (World.block_lt_of_cell? w _ hx327_9)).trans hx327_9
        have HR327_7 := z0 hi327_7
        have HC327_7 := z0 hl327_7
        clear hi327_7 hl327_7
        have HR327_8 := z0 hi327_8
        have HC327_8 := z0 hl327_8
        clear hi327_8 hl327_8
        have HR327_9 := z0 hi327_9
        have HC327_9 := z0 hl327_9
        clear hi327_9 hl327_9
        replace p327 := eq_true p327
        replace q327 := eq_true q327
        have p329 : 0 ≤ (x6_1 : Int) := of_decide_eq_true (by first | (with_reducible assumption) | assumption)
        have q329 : x6_1 < (l0.length : Int) := of_decide_eq_true (by first | (with_reducible assumption) | assumption)
        obtain ⟨ad329, A329_7, c329_7, A329_8, c329_8, A329_9, c329_9, e329, hx329_0, hx329_1, hx329_2, hx329_3, hx329_4, hx329_5, hx329_6, hx329_7, hx329_8, hx329_9, hl329_7, hi329_7, hl329_8, hi329_8, hl329_9, hi329_9⟩ := at_T35 HR0.out x6_1 p329 q329
        have hw329_9 := hx329_9
        have hw329_8 := hx329_8
        have hw329_7 := hx329_7
        have hw329_6 := hx329_6
        have hw329_5 := hx329_5
        have hw329_4 := hx329_4
        have hw329_3 := hx329_3
        have hw329_2 := hx329_2
        have hw329_1 := hx329_1
        have hw329_0 := hx329_0
        obtain rfl : ad327 = ad329 := (by injection e329)
        replace hx329_0 := (HB.out.cell (World.block_lt_of_cell? w _ hx329_0)).trans hx329_0
        replace hx329_1 := (HB.out.cell (World.block_lt_of_cell? w _ hx329_1)).trans hx329_1
        replace hx329_2 := (HB.out.cell (World.block_lt_of_cell? w _ hx329_2)).trans hx329_2
        replace hx329_3 := (HB.out.cell (World.block_lt_of_cell? w _ hx329_3)).trans hx329_3
        replace hx329_4 := (HB.out.cell (World.block_lt_of_cell? w _ hx329_4)).trans hx329_4
        replace hx329_5 := (HB.out.cell (World.block_lt_of_cell? w _ hx329_5)).trans hx329_5
        replace hx329_6 := (HB.out.cell (World.block_lt_of_cell? w _ hx329_6)).trans hx329_6
        replace hx329_7 := (HB.out.cell (World.block_lt_of_cell? w _ hx329_7)).trans hx329_7
        replace hx329_8 := (HB.out.cell (World.block_lt_of_cell? w _ hx329_8)).trans hx329_8
        replace hx329_9 := (HB.out.cell (World.block_lt_of_cell? w _ hx329_9)).trans hx329_9
        have HR329_7 := z0 hi329_7
        have HC329_7 := z0 hl329_7
        clear hi329_7 hl329_7
        have HR329_8 := z0 hi329_8
        have HC329_8 := z0 hl329_8
        clear hi329_8 hl329_8
        have HR329_9 := z0 hi329_9
        have HC329_9 := z0 hl329_9
        clear hi329_9 hl329_9
        replace p329 := eq_true p329
        replace q329 := eq_true q329
        have ea_ := Option.some.inj (hx327_7.symm.trans hx329_7)
        injection ea_ with ea_ en_ ec_
        subst ea_
        subst ec_
        clear en_
        have ea_ := Option.some.inj (hx327_8.symm.trans hx329_8)
        injection ea_ with ea_ en_ ec_
        subst ea_
        subst ec_
        clear en_
        have ea_ := Option.some.inj (hx327_9.symm.trans hx329_9)
        injection ea_ with ea_ en_ ec_
        subst ea_
        subst ec_
        clear en_
        refine start_ (n := 20) (S := fun w' => w'.cell? (ad327.add ((x6_1).toNat * 10)) = some (.int .i64 ((rd_T35 l0 x6_1).f0)) ∧ w'.cell? ⟨(ad327.add ((x6_1).toNat * 10)).block, (ad327.add ((x6_1).toNat * 10)).off + 1, none⟩ = some (.int .i64 ((rd_T35 l0 x6_1).f1.f0)) ∧ w'.cell? ⟨(ad327.add ((x6_1).toNat * 10)).block, (ad327.add ((x6_1).toNat * 10)).off + 2, none⟩ = some (.int .i64 ((rd_T35 l0 x6_1).f1.f1)) ∧ w'.cell? ⟨(ad327.add ((x6_1).toNat * 10)).block, (ad327.add ((x6_1).toNat * 10)).off + 3, none⟩ = some (.int .i64 ((rd_T35 l0 x6_1).f2.f0)) ∧ w'.cell? ⟨(ad327.add ((x6_1).toNat * 10)).block, (ad327.add ((x6_1).toNat * 10)).off + 4, none⟩ = some (.int .i64 ((rd_T35 l0 x6_1).f2.f1)) ∧ w'.cell? ⟨(ad327.add ((x6_1).toNat * 10)).block, (ad327.add ((x6_1).toNat * 10)).off + 5, none⟩ = some (.int .i64 ((rd_T35 l0 x6_1).f2.f2.f0)) ∧ w'.cell? ⟨(ad327.add ((x6_1).toNat * 10)).block, (ad327.add ((x6_1).toNat * 10)).off + 6, none⟩ = some (.int .i64 ((rd_T35 l0 x6_1).f2.f2.f1)) ∧ w'.cell? ⟨(ad327.add ((x6_1).toNat * 10)).block, (ad327.add ((x6_1).toNat * 10)).off + 7, none⟩ = some (.slice A327_7 ((rd_T35 l0 x6_1).f2.f3).length c327_7) ∧ w'.cell? ⟨(ad327.add ((x6_1).toNat * 10)).block, (ad327.add ((x6_1).toNat * 10)).off + 8, none⟩ = some (.slice A327_8 ((rd_T35 l0 x6_1).f3).length c327_8) ∧ w'.cell? ⟨(ad327.add ((x6_1).toNat * 10)).block, (ad327.add ((x6_1).toNat * 10)).off + 9, none⟩ = some (.slice A327_9 ((rd_T35 l0 x6_1).f4).length c327_9) ∧ w'.cell? (ad327.add ((x6_1).toNat * 10)) = some (.int .i64 ((rd_T35 l0 x6_1).f0)) ∧ w'.cell? ⟨(ad327.add ((x6_1).toNat * 10)).block, (ad327.add ((x6_1).toNat * 10)).off + 1, none⟩ = some (.int .i64 ((rd_T35 l0 x6_1).f1.f0)) ∧ w'.cell? ⟨(ad327.add ((x6_1).toNat * 10)).block, (ad327.add ((x6_1).toNat * 10)).off + 2, none⟩ = some (.int .i64 ((rd_T35 l0 x6_1).f1.f1)) ∧ w'.cell? ⟨(ad327.add ((x6_1).toNat * 10)).block, (ad327.add ((x6_1).toNat * 10)).off + 3, none⟩ = some (.int .i64 ((rd_T35 l0 x6_1).f2.f0)) ∧ w'.cell? ⟨(ad327.add ((x6_1).toNat * 10)).block, (ad327.add ((x6_1).toNat * 10)).off + 4, none⟩ = some (.int .i64 ((rd_T35 l0 x6_1).f2.f1)) ∧ w'.cell? ⟨(ad327.add ((x6_1).toNat * 10)).block, (ad327.add ((x6_1).toNat * 10)).off + 5, none⟩ = some (.int .i64 ((rd_T35 l0 x6_1).f2.f2.f0)) ∧ w'.cell? ⟨(ad327.add ((x6_1).toNat * 10)).block, (ad327.add ((x6_1).toNat * 10)).off + 6, none⟩ = some (.int .i64 ((rd_T35 l0 x6_1).f2.f2.f1)) ∧ w'.cell? ⟨(ad327.add ((x6_1).toNat * 10)).block, (ad327.add ((x6_1).toNat * 10)).off + 7, none⟩ = some (.slice A327_7 ((rd_T35 l0 x6_1).f2.f3).length c327_7) ∧ w'.cell? ⟨(ad327.add ((x6_1).toNat * 10)).block, (ad327.add ((x6_1).toNat * 10)).off + 8, none⟩ = some (.slice A327_8 ((rd_T35 l0 x6_1).f3).length c327_8) ∧ w'.cell? ⟨(ad327.add ((x6_1).toNat * 10)).block, (ad327.add ((x6_1).toNat * 10)).off + 9, none⟩ = some (.slice A327_9 ((rd_T35 l0 x6_1).f4).length c327_9)) (ds := []) #[false, false, false, false, false, false, false, false, false, false, false, false, false, false, false, false, false, false, false, false] (by kernel_rfl) rfl rfl ⟨((HB.out.cell (World.block_lt_of_cell? w _ hw327_0)).trans hw327_0), ((HB.out.cell (World.block_lt_of_cell? w _ hw327_1)).trans hw327_1), ((HB.out.cell (World.block_lt_of_cell? w _ hw327_2)).trans hw327_2), ((HB.out.cell (World.block_lt_of_cell? w _ hw327_3)).trans hw327_3), ((HB.out.cell (World.block_lt_of_cell? w _ hw327_4)).trans hw327_4), ((HB.out.cell (World.block_lt_of_cell? w _ hw327_5)).trans hw327_5), ((HB.out.cell (World.block_lt_of_cell? w _ hw327_6)).trans hw327_6), ((HB.out.cell (World.block_lt_of_cell? w _ hw327_7)).trans hw327_7), ((HB.out.cell (World.block_lt_of_cell? w _ hw327_8)).trans hw327_8), ((HB.out.cell (World.block_lt_of_cell? w _ hw327_9)).trans hw327_9), ((HB.out.cell (World.block_lt_of_cell? w _ hw329_0)).trans hw329_0), ((HB.out.cell (World.block_lt_of_cell? w _ hw329_1)).trans hw329_1), ((HB.out.cell (World.block_lt_of_cell? w _ hw329_2)).trans hw329_2), ((HB.out.cell (World.block_lt_of_cell? w _ hw329_3)).trans hw329_3), ((HB.out.cell (World.block_lt_of_cell? w _ hw329_4)).trans hw329_4), ((HB.out.cell (World.block_lt_of_cell? w _ hw329_5)).trans hw329_5), ((HB.out.cell (World.block_lt_of_cell? w _ hw329_6)).trans hw329_6), ((HB.out.cell (World.block_lt_of_cell? w _ hw329_7)).trans hw329_7), ((HB.out.cell (World.block_lt_of_cell? w _ hw329_8)).trans hw329_8), ((HB.out.cell (World.block_lt_of_cell? w _ hw329_9)).trans hw329_9)⟩ (fun hHeld => ?_); refine with_tabW spec_l4Many.tab5 spec_l4Many.bits5 (fun HT_ HW_ => ?_)
        generalize wc.drew = w10 at HB HR327_7 HR327_8 HR327_9 HR329_7 HR329_8 HR329_9 hx327_0 hx327_1 hx327_2 hx327_3 hx327_4 hx327_5 hx327_6 hx327_7 hx327_8 hx327_9 hx329_0 hx329_1 hx329_2 hx329_3 hx329_4 hx329_5 hx329_6 hx329_7 hx329_8 hx329_9 hHeld ⊢
        refine pure_ (i := 0) (N := some 19) (v := ?_) (a' := ?_) #[true, false, false, false, false, false, false, false, false, false, false, false, false, false, false, false, false, false, false, false] rfl rfl (any_of HT_.out (by kernel_rfl)) (fun _ _ _ h => h) (Or.inl ⟨by rfl, ?_⟩) ?_ ?_
        rotate_left
        ·intro w'
         go_simp
         with_reducible rfl
        rotate_left
        ·simp only [Act.put, List.setIfInBounds_toArray, List.set_cons_zero, List.set_cons_succ, i64_w, i32_w]
         rfl
        refine pure_ (i := 1) (N := some 20) (v := ?_) (a' := ?_) #[true, true, false, false, false, false, false, false, false, false, false, false, false, false, false, false, false, false, false, false] rfl rfl (any_of HT_.out (by kernel_rfl)) (fun _ _ _ h => h) (Or.inl ⟨by rfl, ?_⟩) ?_ ?_
        rotate_left
        ·intro w'
         go_simp
         with_reducible rfl
        rotate_left
        ·simp only [Act.put, List.setIfInBounds_toArray, List.set_cons_zero, List.set_cons_succ, i64_w, i32_w]
         rfl
        refine pure_ (i := 2) (N := some 21) (v := ?_) (a' := ?_) #[true, true, true, false, false, false, false, false, false, false, false, false, false, false, false, false, false, false, false, false] rfl rfl (any_of HT_.out (by kernel_rfl)) (fun _ _ _ h => h) (Or.inl ⟨by rfl, ?_⟩) ?_ ?_
        rotate_left
        ·intro w'
         go_simp
         with_reducible rfl
        rotate_left
        ·simp only [Act.put, List.setIfInBounds_toArray, List.set_cons_zero, List.set_cons_succ, i64_w, i32_w]
         rfl
        refine pure_ (i := 3) (N := some 22) (v := ?_) (a' := ?_) #[true, true, true, true, false, false, false, false, false, false, false, false, false, false, false, false, false, false, false, false] rfl rfl (any_of HT_.out (by kernel_rfl)) (fun _ _ _ h => h) (Or.inl ⟨by rfl, ?_⟩) ?_ ?_
        rotate_left
        ·intro w'
         go_simp
         with_reducible rfl
        rotate_left
        ·simp only [Act.put, List.setIfInBounds_toArray, List.set_cons_zero, List.set_cons_succ, i64_w, i32_w]
         rfl
        refine pure_ (i := 4) (N := some 23) (v := ?_) (a' := ?_) #[true, true, true, true, true, false, false, false, false, false, false, false, false, false, false, false, false, false, false, false] rfl rfl (any_of HT_.out (by kernel_rfl)) (fun _ _ _ h => h) (Or.inl ⟨by rfl, ?_⟩) ?_ ?_
        rotate_left
        ·intro w'
         go_simp
         with_reducible rfl
        rotate_left
        ·simp only [Act.put, List.setIfInBounds_toArray, List.set_cons_zero, List.set_cons_succ, i64_w, i32_w]
         rfl
        refine pure_ (i := 6) (N := some 25) (v := ?_) (a' := ?_) #[true, true, true, true, true, false, true, false, false, false, false, false, false, false, false, false, false, false, false, false] rfl rfl (any_of HT_.out (by kernel_rfl)) (fun _ _ _ h => h) (Or.inl ⟨by rfl, ?_⟩) ?_ ?_
        rotate_left
        ·intro w'
         go_simp
         with_reducible rfl
        rotate_left
        ·simp only [Act.put, List.setIfInBounds_toArray, List.set_cons_zero, List.set_cons_succ, i64_w, i32_w]
         rfl
        refine pure_ (i := 7) (N := some 26) (v := ?_) (a' := ?_) #[true, true, true, true, true, false, true, true, false, false, false, false, false, false, false, false, false, false, false, false] rfl rfl (any_of HT_.out (by kernel_rfl)) (fun _ _ _ h => h) (Or.inl ⟨by rfl, ?_⟩) ?_ ?_
        rotate_left
        ·intro w'
         go_simp
         with_reducible rfl
        rotate_left
        ·simp only [Act.put, List.setIfInBounds_toArray, List.set_cons_zero, List.set_cons_succ, i64_w, i32_w]
         rfl
        refine pure_ (i := 10) (N := some 29) (v := ?_) (a' := ?_) #[true, true, true, true, true, false, true, true, false, false, true, false, false, false, false, false, false, false, false, false] rfl rfl (any_of HT_.out (by kernel_rfl)) (fun _ _ _ h => h) (Or.inl ⟨by rfl, ?_⟩) ?_ ?_
        rotate_left
        ·intro w'
         go_simp
         with_reducible rfl
        rotate_left
        ·simp only [Act.put, List.setIfInBounds_toArray, List.set_cons_zero, List.set_cons_succ, i64_w, i32_w]
         rfl
        refine pure_ (i := 11) (N := some 30) (v := ?_) (a' := ?_) #[true, true, true, true, true, false, true, true, false, false, true, true, false, false, false, false, false, false, false, false] rfl rfl (any_of HT_.out (by kernel_rfl)) (fun _ _ _ h => h) (Or.inl ⟨by rfl, ?_⟩) ?_ ?_
        rotate_left
        ·intro w'
         go_simp
         with_reducible rfl
        rotate_left
        ·simp only [Act.put, List.setIfInBounds_toArray, List.set_cons_zero, List.set_cons_succ, i64_w, i32_w]
         rfl
        refine pure_ (i := 12) (N := some 31) (v := ?_) (a' := ?_) #[true, true, true, true, true, false, true, true, false, false, true, true, true, false, false, false, false, false, false, false] rfl rfl (any_of HT_.out (by kernel_rfl)) (fun _ _ _ h => h) (Or.inl ⟨by rfl, ?_⟩) ?_ ?_
        rotate_left
        ·intro w'
         go_simp
         with_reducible rfl
        rotate_left
        ·simp only [Act.put, List.setIfInBounds_toArray, List.set_cons_zero, List.set_cons_succ, i64_w, i32_w]
         rfl
        refine pure_ (i := 13) (N := some 32) (v := ?_) (a' := ?_) #[true, true, true, true, true, false, true, true, false, false, true, true, true, true, false, false, false, false, false, false] rfl rfl (any_of HT_.out (by kernel_rfl)) (fun _ _ _ h => h) (Or.inl ⟨by rfl, ?_⟩) ?_ ?_
        rotate_left
        ·intro w'
         go_simp
         with_reducible rfl
        rotate_left
        ·simp only [Act.put, List.setIfInBounds_toArray, List.set_cons_zero, List.set_cons_succ, i64_w, i32_w]
         rfl
        refine pure_ (i := 15) (N := some 34) (v := ?_) (a' := ?_) #[true, true, true, true, true, false, true, true, false, false, true, true, true, true, false, true, false, false, false, false] rfl rfl (any_of HT_.out (by kernel_rfl)) (fun _ _ _ h => h) (Or.inl ⟨by rfl, ?_⟩) ?_ ?_
        rotate_left
        ·intro w'
         go_simp
         with_reducible rfl
        rotate_left
        ·simp only [Act.put, List.setIfInBounds_toArray, List.set_cons_zero, List.set_cons_succ, i64_w, i32_w]
         rfl
        refine pure_ (i := 16) (N := some 35) (v := ?_) (a' := ?_) #[true, true, true, true, true, false, true, true, false, false, true, true, true, true, false, true, true, false, false, false] rfl rfl (any_of HT_.out (by kernel_rfl)) (fun _ _ _ h => h) (Or.inl ⟨by rfl, ?_⟩) ?_ ?_
        rotate_left
        ·intro w'
         go_simp
         with_reducible rfl
        rotate_left
        ·simp only [Act.put, List.setIfInBounds_toArray, List.set_cons_zero, List.set_cons_succ, i64_w, i32_w]
         rfl
        refine take_ (i := 5) (N := some 24) (v := ?_) (a' := ?_) #[true, true, true, true, true, true, true, true, false, false, true, true, true, true, false, true, true, false, false, false] rfl rfl (take_ofW HT_.out HW_.out (by kernel_rfl)) (fun _ _ _ h => h) (Or.inl ⟨by rfl, ?_⟩) hHeld ?_ ?_
        rotate_left
        ·rintro w' ⟨s0, s1, s2, s3, s4, s5, s6, s7, s8, s9, s10, s11, s12, s13, s14, s15, s16, s17, s18, s19⟩
         go_simp
         with_reducible rfl
        rotate_left
        ·simp only [Act.put, List.setIfInBounds_toArray, List.set_cons_zero, List.set_cons_succ, i64_w, i32_w]
         rfl
        refine take_ (i := 14) (N := some 33) (v := ?_) (a' := ?_) #[true, true, true, true, true, true, true, true, false, false, true, true, true, true, true, true, true, false, false, false] rfl rfl (take_ofW HT_.out HW_.out (by kernel_rfl)) (fun _ _ _ h => h) (Or.inl ⟨by rfl, ?_⟩) hHeld ?_ ?_
        rotate_left
        ·rintro w' ⟨s0, s1, s2, s3, s4, s5, s6, s7, s8, s9, s10, s11, s12, s13, s14, s15, s16, s17, s18, s19⟩
         go_simp
         with_reducible rfl
        rotate_left
        ·simp only [Act.put, List.setIfInBounds_toArray, List.set_cons_zero, List.set_cons_succ, i64_w, i32_w]
         rfl
        refine one_ (i := 8) (N := some 27) #[true, true, true, true, true, true, true, true, true, false, true, true, true, true, true, true, true, false, false, false] rfl rfl (one_of HT_.out (by kernel_rfl)) (by decide) (fun K hK => ?_)
        refine goes_ Tryz.func43 (by kernel_rfl) rfl #[.slice A327_8 ((rd_T35 l0 x6_1).f3).length c327_8, .int .i64 (wrap64 (a1 - 1))] (by rfl) rfl rfl argx ?_
        with_reducible refine (ih kj2 (by have := HK1.out; have := HJ2.out; omega) _ _ ((rd_T35 l0 x6_1).f3) (wrap64 (a1 - 1)) t328 _ ?side1 ?side2 A8.out).mono ?_
        (case side1 => exact mC (Kd.C_below HR327_8.out HB.out))
        (case side2 => exact HC327_8.out)
        rintro e w11 ⟨rfl, hb⟩
        refine ⟨_, rfl, ?_⟩
        have n0_ := z0 (below_step (mB HB.out) hb)
        clear HB
        have HB := n0_
        clear n0_
        (try clear hb)
        (try clear hb2)
        (try clear hk)
        (try clear hi)
        refine hK.out _ _ ⟨((HB.out.cell (World.block_lt_of_cell? w _ hw327_0)).trans hw327_0), ((HB.out.cell (World.block_lt_of_cell? w _ hw327_1)).trans hw327_1), ((HB.out.cell (World.block_lt_of_cell? w _ hw327_2)).trans hw327_2), ((HB.out.cell (World.block_lt_of_cell? w _ hw327_3)).trans hw327_3), ((HB.out.cell (World.block_lt_of_cell? w _ hw327_4)).trans hw327_4), ((HB.out.cell (World.block_lt_of_cell? w _ hw327_5)).trans hw327_5), ((HB.out.cell (World.block_lt_of_cell? w _ hw327_6)).trans hw327_6), ((HB.out.cell (World.block_lt_of_cell? w _ hw327_7)).trans hw327_7), ((HB.out.cell (World.block_lt_of_cell? w _ hw327_8)).trans hw327_8), ((HB.out.cell (World.block_lt_of_cell? w _ hw327_9)).trans hw327_9), ((HB.out.cell (World.block_lt_of_cell? w _ hw329_0)).trans hw329_0), ((HB.out.cell (World.block_lt_of_cell? w _ hw329_1)).trans hw329_1), ((HB.out.cell (World.block_lt_of_cell? w _ hw329_2)).trans hw329_2), ((HB.out.cell (World.block_lt_of_cell? w _ hw329_3)).trans hw329_3), ((HB.out.cell (World.block_lt_of_cell? w _ hw329_4)).trans hw329_4), ((HB.out.cell (World.block_lt_of_cell? w _ hw329_5)).trans hw329_5), ((HB.out.cell (World.block_lt_of_cell? w _ hw329_6)).trans hw329_6), ((HB.out.cell (World.block_lt_of_cell? w _ hw329_7)).trans hw329_7), ((HB.out.cell (World.block_lt_of_cell? w _ hw329_8)).trans hw329_8), ((HB.out.cell (World.block_lt_of_cell? w _ hw329_9)).trans hw329_9)⟩ (fun hHeld => ?_)
        clear hK K
        refine norm_ (a' := ?_) ?_ ?_
        rotate_left
        ·show Act.put _ (some 27) _ = _
         simp only [Act.put, List.setIfInBounds_toArray, List.set_cons_zero, List.set_cons_succ, i64_w, i32_w]
         rfl
        refine pure_ (i := 9) (N := some 28) (v := ?_) (a' := ?_) #[true, true, true, true, true, true, true, true, true, true, true, true, true, true, true, true, true, false, false, false] rfl rfl (any_of HT_.out (by kernel_rfl)) (fun _ _ _ h => h) (Or.inl ⟨by rfl, ?_⟩) ?_ ?_
        rotate_left
        ·intro w'
         go_simp
         with_reducible rfl
        rotate_left
        ·simp only [Act.put, List.setIfInBounds_toArray, List.set_cons_zero, List.set_cons_succ, i64_w, i32_w]
         rfl
        refine one_ (i := 17) (N := some 36) #[true, true, true, true, true, true, true, true, true, true, true, true, true, true, true, true, true, true, false, false] rfl rfl (one_of HT_.out (by kernel_rfl)) (by decide) (fun K hK => ?_)
        refine goes_ Tryz.func43 (by kernel_rfl) rfl #[.slice A327_9 ((rd_T35 l0 x6_1).f4).length c327_9, .int .i64 (wrap64 (a1 - 1))] (by rfl) rfl rfl argx ?_
        with_reducible refine (ih kj2 (by have := HK1.out; have := HJ2.out; omega) _ _ ((rd_T35 l0 x6_1).f4) (wrap64 (a1 - 1)) t330 _ ?side1 ?side2 A9.out).mono ?_
        (case side1 => exact mC (Kd.C_below HR329_9.out HB.out))
        (case side2 => exact HC329_9.out)
        rintro e w12 ⟨rfl, hb⟩
        refine ⟨_, rfl, ?_⟩
        have n0_ := z0 (below_step (mB HB.out) hb)
        clear HB
        have HB := n0_
        clear n0_
        (try clear hb)
        (try clear hb2)
        (try clear hk)
        (try clear hi)
        refine hK.out _ _ ⟨((HB.out.cell (World.block_lt_of_cell? w _ hw327_0)).trans hw327_0), ((HB.out.cell (World.block_lt_of_cell? w _ hw327_1)).trans hw327_1), ((HB.out.cell (World.block_lt_of_cell? w _ hw327_2)).trans hw327_2), ((HB.out.cell (World.block_lt_of_cell? w _ hw327_3)).trans hw327_3), ((HB.out.cell (World.block_lt_of_cell? w _ hw327_4)).trans hw327_4), ((HB.out.cell (World.block_lt_of_cell? w _ hw327_5)).trans hw327_5), ((HB.out.cell (World.block_lt_of_cell? w _ hw327_6)).trans hw327_6), ((HB.out.cell (World.block_lt_of_cell? w _ hw327_7)).trans hw327_7), ((HB.out.cell (World.block_lt_of_cell? w _ hw327_8)).trans hw327_8), ((HB.out.cell (World.block_lt_of_cell? w _ hw327_9)).trans hw327_9), ((HB.out.cell (World.block_lt_of_cell? w _ hw329_0)).trans hw329_0), ((HB.out.cell (World.block_lt_of_cell? w _ hw329_1)).trans hw329_1), ((HB.out.cell (World.block_lt_of_cell? w _ hw329_2)).trans hw329_2), ((HB.out.cell (World.block_lt_of_cell? w _ hw329_3)).trans hw329_3), ((HB.out.cell (World.block_lt_of_cell? w _ hw329_4)).trans hw329_4), ((HB.out.cell (World.block_lt_of_cell? w _ hw329_5)).trans hw329_5), ((HB.out.cell (World.block_lt_of_cell? w _ hw329_6)).trans hw329_6), ((HB.out.cell (World.block_lt_of_cell? w _ hw329_7)).trans hw329_7), ((HB.out.cell (World.block_lt_of_cell? w _ hw329_8)).trans hw329_8), ((HB.out.cell (World.block_lt_of_cell? w _ hw329_9)).trans hw329_9)⟩ (fun hHeld => ?_)
        clear hK K
        refine norm_ (a' := ?_) ?_ ?_
        rotate_left
        ·show Act.put _ (some 36) _ = _
         simp only [Act.put, List.setIfInBounds_toArray, List.set_cons_zero, List.set_cons_succ, i64_w, i32_w]
         rfl
        refine pure_ (i := 18) (N := some 37) (v := ?_) (a' := ?_) #[true, true, true, true, true, true, true, true, true, true, true, true, true, true, true, true, true, true, true, false] rfl rfl (any_of HT_.out (by kernel_rfl)) (fun _ _ _ h => h) (Or.inl ⟨by rfl, ?_⟩) ?_ ?_
        rotate_left
        ·intro w'
         go_simp
         with_reducible rfl
        rotate_left
        ·simp only [Act.put, List.setIfInBounds_toArray, List.set_cons_zero, List.set_cons_succ, i64_w, i32_w]
         rfl
        refine pure_ (i := 19) (N := some 5) (v := ?_) (a' := ?_) #[true, true, true, true, true, true, true, true, true, true, true, true, true, true, true, true, true, true, true, true] rfl rfl (any_of HT_.out (by kernel_rfl)) (fun _ _ _ h => h) (Or.inl ⟨by rfl, ?_⟩) ?_ ?_
        rotate_left
        ·intro w'
         go_simp
         with_reducible rfl
        rotate_left
        ·simp only [Act.put, List.setIfInBounds_toArray, List.set_cons_zero, List.set_cons_succ, i64_w, i32_w]
         rfl
        refine done_ (done_of HT_.out (by kernel_rfl)) ?_
        try go_wp2
        go_roundg kj2
        case measure => have := HK1.out; have := HJ2.out; omega
        case rel => exact ⟨(wrap64 ((wrap64 (x5_1 + t328)) + t330)), (wrap64 (x6_1 + 1)), rfy, rfy, H', ⟨by have := HK1.out; have := HJ2.out; omega⟩, ⟨mB HB.out⟩⟩
       ·rw [if_neg c7] at H
        exact absurd H (by simp)
      ·rw [if_neg c6] at H
       exact absurd H (by simp)
     ·replace c5 := Bool.eq_false_iff.mpr c5
      subst c5
      have H1 : (some x5_1) = some r := by rw [if_neg (show ¬ (false = true) by decide)] at H; exact H
      clear H
      have H := H1
      clear H1
      obtain rfl := Option.some.inj H
      go_wp2
      go_ret
      exact ⟨rfx, mB HB.out⟩

end Go.Proofs.YtendbgedpjcocaaGreatDoor.B
namespace Go.Proofs.YtendbgedpjcocaaGreatDoor.B
open Go.RowKit Go.Proofs.YtendbgedpjcocaaGreatDoorW.PrintWords Go.Proofs.YtendbgedpjcocaaGreatDoorW.PrintLast Go.Proofs.YtendbgedpjcocaaGreatDoorW.PrintMore
attribute [local go_sem] max2_int min2_int max_two min_two max_three min_three max_four min_four   -- for this text's walks alone
set_option linter.unusedVariables false
set_option linter.unusedSimpArgs false

attribute [local go_sem high] eqA24
/-! ### spec_l4Form: function 44 -/
mutual
def spec_l4Form.j0 : Nat → List (S35) → Int → Bool → Option (Bool)
 | 0, _, _, _ => none
 | k + 1, x0, x1, x14 => if x14 = true then (some false) else (spec_l4Form.l0 k x0 x1 0)
def spec_l4Form.l0 : Nat → List (S35) → Int → Int → Option (Bool)
 | 0, _, _, _ => none
 | k + 1, x0, x1, x5 => if x5 < (x0.length : Int) then (if 0 ≤ x5 then (if ((rd_T35 x0 x5).f0) = 1 then ((spec_AddrOk.f ((rd_T35 x0 x5).f1.f0) ((rd_T35 x0 x5).f1.f1)).bind fun t333 => (if t333 = true then (if ((rd_T35 x0 x5).f1.f0) = 1 then (spec_l4Form.j2 k x0 x1 x5 false ((rd_T35 x0 x5).f0) ((rd_T35 x0 x5).f1.f0) ((rd_T35 x0 x5).f1.f1) ((rd_T35 x0 x5).f2.f0) ((rd_T35 x0 x5).f2.f1) ((rd_T35 x0 x5).f2.f2.f0) ((rd_T35 x0 x5).f2.f2.f1) ((rd_T35 x0 x5).f2.f3) ((rd_T35 x0 x5).f3) ((rd_T35 x0 x5).f4)) else (if (((rd_T35 x0 x5).f3).length : Int) = 0 then (spec_l4Form.j2 k x0 x1 x5 ((((rd_T35 x0 x5).f4).length : Int) == 0) ((rd_T35 x0 x5).f0) ((rd_T35 x0 x5).f1.f0) ((rd_T35 x0 x5).f1.f1) ((rd_T35 x0 x5).f2.f0) ((rd_T35 x0 x5).f2.f1) ((rd_T35 x0 x5).f2.f2.f0) ((rd_T35 x0 x5).f2.f2.f1) ((rd_T35 x0 x5).f2.f3) ((rd_T35 x0 x5).f3) ((rd_T35 x0 x5).f4)) else (spec_l4Form.j2 k x0 x1 x5 false ((rd_T35 x0 x5).f0) ((rd_T35 x0 x5).f1.f0) ((rd_T35 x0 x5).f1.f1) ((rd_T35 x0 x5).f2.f0) ((rd_T35 x0 x5).f2.f1) ((rd_T35 x0 x5).f2.f2.f0) ((rd_T35 x0 x5).f2.f2.f1) ((rd_T35 x0 x5).f2.f3) ((rd_T35 x0 x5).f3) ((rd_T35 x0 x5).f4)))) else (spec_l4Form.j2 k x0 x1 x5 false ((rd_T35 x0 x5).f0) ((rd_T35 x0 x5).f1.f0) ((rd_T35 x0 x5).f1.f1) ((rd_T35 x0 x5).f2.f0) ((rd_T35 x0 x5).f2.f1) ((rd_T35 x0 x5).f2.f2.f0) ((rd_T35 x0 x5).f2.f2.f1) ((rd_T35 x0 x5).f2.f3) ((rd_T35 x0 x5).f3) ((rd_T35 x0 x5).f4)))) else (if ((rd_T35 x0 x5).f0) = 2 then (spec_l4Form.j2 k x0 x1 x5 (((rd_T35 x0 x5).f1.f0) == 0 && (((rd_T35 x0 x5).f1.f1) == 0)) ((rd_T35 x0 x5).f0) ((rd_T35 x0 x5).f1.f0) ((rd_T35 x0 x5).f1.f1) ((rd_T35 x0 x5).f2.f0) ((rd_T35 x0 x5).f2.f1) ((rd_T35 x0 x5).f2.f2.f0) ((rd_T35 x0 x5).f2.f2.f1) ((rd_T35 x0 x5).f2.f3) ((rd_T35 x0 x5).f3) ((rd_T35 x0 x5).f4)) else (if ((rd_T35 x0 x5).f0) = 3 then (if (((rd_T35 x0 x5).f1.f0) == 0 && (((rd_T35 x0 x5).f1.f1) == 0)) = true then (spec_l4Form.j2 k x0 x1 x5 ((((rd_T35 x0 x5).f4).length : Int) == 0) ((rd_T35 x0 x5).f0) ((rd_T35 x0 x5).f1.f0) ((rd_T35 x0 x5).f1.f1) ((rd_T35 x0 x5).f2.f0) ((rd_T35 x0 x5).f2.f1) ((rd_T35 x0 x5).f2.f2.f0) ((rd_T35 x0 x5).f2.f2.f1) ((rd_T35 x0 x5).f2.f3) ((rd_T35 x0 x5).f3) ((rd_T35 x0 x5).f4)) else (spec_l4Form.j2 k x0 x1 x5 false ((rd_T35 x0 x5).f0) ((rd_T35 x0 x5).f1.f0) ((rd_T35 x0 x5).f1.f1) ((rd_T35 x0 x5).f2.f0) ((rd_T35 x0 x5).f2.f1) ((rd_T35 x0 x5).f2.f2.f0) ((rd_T35 x0 x5).f2.f2.f1) ((rd_T35 x0 x5).f2.f3) ((rd_T35 x0 x5).f3) ((rd_T35 x0 x5).f4))) else (spec_l4Form.j2 k x0 x1 x5 false ((rd_T35 x0 x5).f0) ((rd_T35 x0 x5).f1.f0) ((rd_T35 x0 x5).f1.f1) ((rd_T35 x0 x5).f2.f0) ((rd_T35 x0 x5).f2.f1) ((rd_T35 x0 x5).f2.f2.f0) ((rd_T35 x0 x5).f2.f2.f1) ((rd_T35 x0 x5).f2.f3) ((rd_T35 x0 x5).f3) ((rd_T35 x0 x5).f4))))) else (none)) else (some true)
def spec_l4Form.j2 : Nat → List (S35) → Int → Int → Bool → Int → Int → Int → Int → Int → Int → Int → List (S27) → List (S35) → List (S35) → Option (Bool)
 | 0, _, _, _, _, _, _, _, _, _, _, _, _, _, _ => none
 | k + 1, x0, x1, x5, x7, x333000, x333001, x333002, x333003, x333004, x333005, x333006, x333007, x333008, x333009 => if x7 = true then ((spec_ExprOk.f k x333003 x333004 x333005 x333006 x333007).bind fun t334 => (if t334 = true then ((spec_l4Form.f k x333008 (wrap64 (x1 - 1))).bind fun t335 => (if t335 = true then ((spec_l4Form.f k x333009 (wrap64 (x1 - 1))).bind fun t336 => (if t336 = true then (spec_l4Form.l0 k x0 x1 (wrap64 (x5 + 1))) else (some false))) else (some false))) else (some false))) else (some false)
def spec_l4Form.f : Nat → List (S35) → Int → Option (Bool)
 | 0, _, _ => none
 | k + 1, l0, a1 => if (l0.length : Int) > 0 then (spec_l4Form.j0 k l0 a1 (decide (a1 < 1))) else (spec_l4Form.j0 k l0 a1 false)
end
theorem q44_1 {p : Prop} (h : p := by (with_reducible repeat (first | refine blk_drewN ?_ _ | refine blk_drew ?_ | refine blk_alloc ?_ _)); refine blk_put (cs := #[.int .i64 ((rd_T35 l0 x5_2).f0), .int .i64 ((rd_T35 l0 x5_2).f1.f0), .int .i64 ((rd_T35 l0 x5_2).f1.f1), .int .i64 ((rd_T35 l0 x5_2).f2.f0), .int .i64 ((rd_T35 l0 x5_2).f2.f1), .int .i64 ((rd_T35 l0 x5_2).f2.f2.f0), .int .i64 ((rd_T35 l0 x5_2).f2.f2.f1), .slice A331_7 ((rd_T35 l0 x5_2).f2.f3).length c331_7, .slice A331_8 ((rd_T35 l0 x5_2).f3).length c331_8, .slice none 0 0]) ?_ 9 _ rfl; (with_reducible repeat (first | refine blk_drewN ?_ _ | refine blk_drew ?_ | refine blk_alloc ?_ _)); refine blk_put (cs := #[.int .i64 ((rd_T35 l0 x5_2).f0), .int .i64 ((rd_T35 l0 x5_2).f1.f0), .int .i64 ((rd_T35 l0 x5_2).f1.f1), .int .i64 ((rd_T35 l0 x5_2).f2.f0), .int .i64 ((rd_T35 l0 x5_2).f2.f1), .int .i64 ((rd_T35 l0 x5_2).f2.f2.f0), .int .i64 ((rd_T35 l0 x5_2).f2.f2.f1), .slice A331_7 ((rd_T35 l0 x5_2).f2.f3).length c331_7, .slice none 0 0, .slice none 0 0]) ?_ 8 _ rfl; (with_reducible repeat (first | refine blk_drewN ?_ _ | refine blk_drew ?_ | refine blk_alloc ?_ _)); refine blk_put (cs := #[.int .i64 ((rd_T35 l0 x5_2).f0), .int .i64 ((rd_T35 l0 x5_2).f1.f0), .int .i64 ((rd_T35 l0 x5_2).f1.f1), .int .i64 ((rd_T35 l0 x5_2).f2.f0), .int .i64 ((rd_T35 l0 x5_2).f2.f1), .int .i64 ((rd_T35 l0 x5_2).f2.f2.f0), .int .i64 ((rd_T35 l0 x5_2).f2.f2.f1), .slice none 0 0, .slice none 0 0, .slice none 0 0]) ?_ 7 _ rfl; (with_reducible repeat (first | refine blk_drewN ?_ _ | refine blk_drew ?_ | refine blk_alloc ?_ _)); refine blk_put (cs := #[.int .i64 ((rd_T35 l0 x5_2).f0), .int .i64 ((rd_T35 l0 x5_2).f1.f0), .int .i64 ((rd_T35 l0 x5_2).f1.f1), .int .i64 ((rd_T35 l0 x5_2).f2.f0), .int .i64 ((rd_T35 l0 x5_2).f2.f1), .int .i64 ((rd_T35 l0 x5_2).f2.f2.f0), .int .i64 0, .slice none 0 0, .slice none 0 0, .slice none 0 0]) ?_ 6 _ rfl; (with_reducible repeat (first | refine blk_drewN ?_ _ | refine blk_drew ?_ | refine blk_alloc ?_ _)); refine blk_put (cs := #[.int .i64 ((rd_T35 l0 x5_2).f0), .int .i64 ((rd_T35 l0 x5_2).f1.f0), .int .i64 ((rd_T35 l0 x5_2).f1.f1), .int .i64 ((rd_T35 l0 x5_2).f2.f0), .int .i64 ((rd_T35 l0 x5_2).f2.f1), .int .i64 0, .int .i64 0, .slice none 0 0, .slice none 0 0, .slice none 0 0]) ?_ 5 _ rfl; (with_reducible repeat (first | refine blk_drewN ?_ _ | refine blk_drew ?_ | refine blk_alloc ?_ _)); refine blk_put (cs := #[.int .i64 ((rd_T35 l0 x5_2).f0), .int .i64 ((rd_T35 l0 x5_2).f1.f0), .int .i64 ((rd_T35 l0 x5_2).f1.f1), .int .i64 ((rd_T35 l0 x5_2).f2.f0), .int .i64 0, .int .i64 0, .int .i64 0, .slice none 0 0, .slice none 0 0, .slice none 0 0]) ?_ 4 _ rfl; (with_reducible repeat (first | refine blk_drewN ?_ _ | refine blk_drew ?_ | refine blk_alloc ?_ _)); refine blk_put (cs := #[.int .i64 ((rd_T35 l0 x5_2).f0), .int .i64 ((rd_T35 l0 x5_2).f1.f0), .int .i64 ((rd_T35 l0 x5_2).f1.f1), .int .i64 0, .int .i64 0, .int .i64 0, .int .i64 0, .slice none 0 0, .slice none 0 0, .slice none 0 0]) ?_ 3 _ rfl; (with_reducible repeat (first | refine blk_drewN ?_ _ | refine blk_drew ?_ | refine blk_alloc ?_ _)); refine blk_put (cs := #[.int .i64 ((rd_T35 l0 x5_2).f0), .int .i64 ((rd_T35 l0 x5_2).f1.f0), .int .i64 0, .int .i64 0, .int .i64 0, .int .i64 0, .int .i64 0, .slice none 0 0, .slice none 0 0, .slice none 0 0]) ?_ 2 _ rfl; (with_reducible repeat (first | refine blk_drewN ?_ _ | refine blk_drew ?_ | refine blk_alloc ?_ _)); refine blk_put (cs := #[.int .i64 ((rd_T35 l0 x5_2).f0), .int .i64 0, .int .i64 0, .int .i64 0, .int .i64 0, .int .i64 0, .int .i64 0, .slice none 0 0, .slice none 0 0, .slice none 0 0]) ?_ 1 _ rfl; (with_reducible repeat (first | refine blk_drewN ?_ _ | refine blk_drew ?_ | refine blk_alloc ?_ _)); refine blk_put (cs := #[.int .i64 0, .int .i64 0, .int .i64 0, .int .i64 0, .int .i64 0, .int .i64 0, .int .i64 0, .slice none 0 0, .slice none 0 0, .slice none 0 0]) ?_ 0 _ rfl; (with_reducible repeat (first | refine blk_drewN ?_ _ | refine blk_drew ?_ | refine blk_alloc ?_ _)); exact BK332.out) : p := h
set_option maxHeartbeats 8000000 in
set_option maxRecDepth 100000 in
theorem spec_l4Form.calls (k : Nat) : ∀ (A0 : Option Addr) (c0 : Nat) (l0 : List (S35)) (a1 : Int) (r : Bool) (w : World) (hr0 : Kd.C k35 w A0 l0.length l0) (hc0 : l0.length ≤ c0) (h : spec_l4Form.f k l0 a1 = some r),
  Calls Tryz.prog 44 #[.slice A0 l0.length c0, .int .i64 a1] w fun e w' => e = .returned (.bool r) ∧ Below w.heap.size w w' := by
 induction k using Nat.strongRecOn with
 | _ k ih =>
 intro A0 c0 l0 a1 r w hr0 hc0 h
 cases k with
 | zero => exact absurd h (by simp [spec_l4Form.f])
 | succ k =>
 simp only [spec_l4Form.f] at h
 have hu35 := Tryz.underlying35
 have hu24 := Tryz.underlying24
 have hu27 := Tryz.underlying27
 have HR0 := z0 hr0
 have HC0 := z0 hc0
 clear hr0 hc0
 have HB := z0 (Below.refl w.heap.size w)
 have H : (if (l0.length : Int) > 0 then (spec_l4Form.j0 k l0 a1 (decide (a1 < 1))) else (spec_l4Form.j0 k l0 a1 false)) = some r := h
 clear h
 have HC3 := z0 H
 clear H
 go_enter Tryz.func44, Tryz.ntmps44
 go_upto_region 1 with (fail)
 go_cut [14] (fun v14 wc => ∃ (kq : Nat) (x14_2 : Bool), v14 = .bool x14_2 ∧ Aside0 (spec_l4Form.j0 kq l0 a1 x14_2 = some r) ∧ Aside0 (kq ≤ k) ∧ Aside0 (Below w.heap.size w wc))
 case first =>
  have H := HC3.out
  clear HC3
  by_cases c4 : (l0.length : Int) > 0
  ·rw [if_pos c4] at H
   have c4b0 : decide (0 < (l0.length : Int)) = true := decide_eq_true c4
   have c4b1 : decide (0 < l0.length) = true := decide_eq_true (by omega)
   clear c4
   (first | rw [c4b0] | (simp only [i64_w, i32_w]; rw [c4b0]) | skip)
   have H' := z0 H
   clear H
   go_wp2
   go_meet
   case rel => exact ⟨_, (decide (a1 < 1)), rfy, H', ⟨by first | omega | exact Nat.le_refl _⟩, ⟨mB HB.out⟩⟩
  ·rw [if_neg c4] at H
   have c4b0 : decide (0 < (l0.length : Int)) = false := decide_eq_false c4
   have c4b1 : decide (0 < l0.length) = false := decide_eq_false (by omega)
   clear c4
   (first | rw [c4b0] | (simp only [i64_w, i32_w]; rw [c4b0]) | skip)
   have H' := z0 H
   clear H
   go_wp2
   go_meet
   case rel => exact ⟨_, (false), rfy, H', ⟨by first | omega | exact Nat.le_refl _⟩, ⟨mB HB.out⟩⟩
 case rest =>
  clear HC3
  skip
  obtain ⟨kq, x14_2, rfl, HA, HJ2, HB⟩ := hcut
  cases kq with
  | zero => exact absurd HA.out (by simp [spec_l4Form.j0])
  | succ kj2 =>
   have H := HA.out
   clear HA
   simp only [spec_l4Form.j0] at H
   by_cases c5 : x14_2 = true
   ·subst c5
    have H1 : (some false) = some r := by rw [if_pos rfl] at H; exact H
    clear H
    have H := H1
    clear H1
    obtain rfl := Option.some.inj H
    go_wp2
    go_ret
    exact ⟨rfx, mB HB.out⟩
   ·replace c5 := Bool.eq_false_iff.mpr c5
    subst c5
    have H1 : (spec_l4Form.l0 kj2 l0 a1 0) = some r := by rw [if_neg (show ¬ (false = true) by decide)] at H; exact H
    clear H
    have H := H1
    clear H1
    have H' := z0 H
    clear H
    go_wp2
    go_loopg [5] kj2 (fun kq v5 w' => ∃ (x5_2 : Int), v5 = .int .i64 x5_2 ∧ Aside0 (spec_l4Form.l0 kq l0 a1 x5_2 = some r) ∧ Aside0 (kq ≤ kj2) ∧ Aside0 (Below w.heap.size w w'))
    case atStart => exact ⟨(0), rfy, H', ⟨Nat.le_refl _⟩, ⟨mB HB.out⟩⟩
    case round =>
     clear H'
     (try clear c5)
     obtain ⟨x5_2, rfl, HA, HK2, HB⟩ := hrel
     cases gk with
     | zero => exact absurd HA.out (by simp [spec_l4Form.l0])
     | succ k2 =>
      have H := HA.out
      clear HA
      simp only [spec_l4Form.l0] at H
      by_cases c6 : x5_2 < (l0.length : Int)
      ·rw [if_pos c6] at H
       have c6b0 : decide (x5_2 < (l0.length : Int)) = true := decide_eq_true c6
       clear c6
       by_cases c7 : 0 ≤ x5_2
       ·rw [if_pos c7] at H
        have c7b0 : decide (0 ≤ x5_2) = true := decide_eq_true c7
        clear c7
        have HC8 := z0 H
        clear H
        have p331 : 0 ≤ (x5_2 : Int) := of_decide_eq_true (by first | (with_reducible assumption) | assumption)
        have q331 : x5_2 < (l0.length : Int) := of_decide_eq_true (by first | (with_reducible assumption) | assumption)
        obtain ⟨ad331, A331_7, c331_7, A331_8, c331_8, A331_9, c331_9, e331, hx331_0, hx331_1, hx331_2, hx331_3, hx331_4, hx331_5, hx331_6, hx331_7, hx331_8, hx331_9, hl331_7, hi331_7, hl331_8, hi331_8, hl331_9, hi331_9⟩ := at_T35 HR0.out x5_2 p331 q331
        cases e331
        replace hx331_0 := (HB.out.cell (World.block_lt_of_cell? w _ hx331_0)).trans hx331_0
        replace hx331_1 := (HB.out.cell (World.block_lt_of_cell? w _ hx331_1)).trans hx331_1
        replace hx331_2 := (HB.out.cell (World.block_lt_of_cell? w _ hx331_2)).trans hx331_2
        replace hx331_3 := (HB.out.cell (World.block_lt_of_cell? w _ hx331_3)).trans hx331_3
        replace hx331_4 := (HB.out.cell (World.block_lt_of_cell? w _ hx331_4)).trans hx331_4
        replace hx331_5 := (HB.out.cell (World.block_lt_of_cell? w _ hx331_5)).trans hx331_5
        replace hx331_6 := (HB.out.cell (World.block_lt_of_cell? w _ hx331_6)).trans hx331_6
        replace hx331_7 := (HB.out.cell (World.block_lt_of_cell? w _ hx331_7)).trans hx331_7
        replace hx331_8 := (HB.out.cell (World.block_lt_of_cell? w _ hx331_8)).trans hx331_8
        replace hx331_9 := (HB.out.cell (World.block_lt_of_cell? w _ hx331_9)).trans hx331_9
        have HR331_7 := z0 hi331_7
        have HC331_7 := z0 hl331_7
        clear hi331_7 hl331_7
        have HR331_8 := z0 hi331_8
        have HC331_8 := z0 hl331_8
        clear hi331_8 hl331_8
        have HR331_9 := z0 hi331_9
        have HC331_9 := z0 hl331_9
        clear hi331_9 hl331_9
        replace p331 := eq_true p331
        replace q331 := eq_true q331
        go_upto_block 2 with (first | ((with_reducible refine gate_dst (N := 6) rfl ?_); (try (refine gate_guard (by rfl) ?_; dsimp only)); refine box_event ?hg (N := 6) ?hd (cs := #[.int .i64 0, .int .i64 0, .int .i64 0, .int .i64 0, .int .i64 0, .int .i64 0, .int .i64 0, .slice none 0 0, .slice none 0 0, .slice none 0 0]) (t := 35) ?hr ?_; (case hd => rfl); (case hg => rfl); (case hr => first | (go_simp; done) | (go_simp; rfl)); intro gb332 hg w9 hbox hb; have n_ := az (below_step (mB HB.out) hb) <| az (hbox) <| az ((by rw [hg]; exact (below_size (mB HB.out)) : w.heap.size ≤ gb332)) <| z0 ((by rw [hg]; exact (below_size (mB HB.out)) : w.heap.size ≤ gb332)); clear HB; obtain ⟨HB, BK332, GW332, GE332⟩ := n_; clear hb hbox hg; obtain ⟨hcz10_0, hcz10_1, hcz10_2, hcz10_3, hcz10_4, hcz10_5, hcz10_6, hcz10_7, hcz10_8, hcz10_9, hfz10_0, hfz10_1, hfz10_2, hfz10_3, hfz10_4, hfz10_5, hfz10_6, hfz10_7, hfz10_8, hfz10_9⟩ := cel10 BK332.out))
        (try simp only [Act.put, List.setIfInBounds_toArray, List.set_cons_zero, List.set_cons_succ])
        go_cut [7] (fun v7 wc => ∃ (kq : Nat) (x7_7 : Bool), v7 = .bool x7_7 ∧ Aside0 (spec_l4Form.j2 kq l0 a1 x5_2 x7_7 ((rd_T35 l0 x5_2).f0) ((rd_T35 l0 x5_2).f1.f0) ((rd_T35 l0 x5_2).f1.f1) ((rd_T35 l0 x5_2).f2.f0) ((rd_T35 l0 x5_2).f2.f1) ((rd_T35 l0 x5_2).f2.f2.f0) ((rd_T35 l0 x5_2).f2.f2.f1) ((rd_T35 l0 x5_2).f2.f3) ((rd_T35 l0 x5_2).f3) ((rd_T35 l0 x5_2).f4) = some r) ∧ Aside0 (kq ≤ k2) ∧ Aside0 (wc.heap[gb332]? = some (.cells #[.int .i64 ((rd_T35 l0 x5_2).f0), .int .i64 ((rd_T35 l0 x5_2).f1.f0), .int .i64 ((rd_T35 l0 x5_2).f1.f1), .int .i64 ((rd_T35 l0 x5_2).f2.f0), .int .i64 ((rd_T35 l0 x5_2).f2.f1), .int .i64 ((rd_T35 l0 x5_2).f2.f2.f0), .int .i64 ((rd_T35 l0 x5_2).f2.f2.f1), (.slice A331_7 ((rd_T35 l0 x5_2).f2.f3).length c331_7), (.slice A331_8 ((rd_T35 l0 x5_2).f3).length c331_8), (.slice A331_9 ((rd_T35 l0 x5_2).f4).length c331_9)] 35 (0, 0))) ∧ Aside0 (Below w.heap.size w wc))
        case first =>
         have H := HC8.out
         clear HC8
         by_cases c11 : ((rd_T35 l0 x5_2).f0) = 1
         ·rw [if_pos c11] at H
          have c11b0 : (((rd_T35 l0 x5_2).f0) == 1) = true := beq_iff_eq.mpr c11
          have c11b1 : (((rd_T35 l0 x5_2).f0) != 1) = false := bne_eq_false_iff_eq.mpr c11
          clear c11
          (first | rw [c11b0] | (simp only [i64_w, i32_w]; rw [c11b0]) | skip)
          replace H := Option.bind_eq_some_iff.mp H
          obtain ⟨t333, A120, H⟩ := H
          try dsimp only at H
          have A12 := z0 A120
          clear A120
          by_cases c13 : t333 = true
          ·subst c13
           have H1 : (if ((rd_T35 l0 x5_2).f1.f0) = 1 then (spec_l4Form.j2 k2 l0 a1 x5_2 false ((rd_T35 l0 x5_2).f0) ((rd_T35 l0 x5_2).f1.f0) ((rd_T35 l0 x5_2).f1.f1) ((rd_T35 l0 x5_2).f2.f0) ((rd_T35 l0 x5_2).f2.f1) ((rd_T35 l0 x5_2).f2.f2.f0) ((rd_T35 l0 x5_2).f2.f2.f1) ((rd_T35 l0 x5_2).f2.f3) ((rd_T35 l0 x5_2).f3) ((rd_T35 l0 x5_2).f4)) else (if (((rd_T35 l0 x5_2).f3).length : Int) = 0 then (spec_l4Form.j2 k2 l0 a1 x5_2 ((((rd_T35 l0 x5_2).f4).length : Int) == 0) ((rd_T35 l0 x5_2).f0) ((rd_T35 l0 x5_2).f1.f0) ((rd_T35 l0 x5_2).f1.f1) ((rd_T35 l0 x5_2).f2.f0) ((rd_T35 l0 x5_2).f2.f1) ((rd_T35 l0 x5_2).f2.f2.f0) ((rd_T35 l0 x5_2).f2.f2.f1) ((rd_T35 l0 x5_2).f2.f3) ((rd_T35 l0 x5_2).f3) ((rd_T35 l0 x5_2).f4)) else (spec_l4Form.j2 k2 l0 a1 x5_2 false ((rd_T35 l0 x5_2).f0) ((rd_T35 l0 x5_2).f1.f0) ((rd_T35 l0 x5_2).f1.f1) ((rd_T35 l0 x5_2).f2.f0) ((rd_T35 l0 x5_2).f2.f1) ((rd_T35 l0 x5_2).f2.f2.f0) ((rd_T35 l0 x5_2).f2.f2.f1) ((rd_T35 l0 x5_2).f2.f3) ((rd_T35 l0 x5_2).f3) ((rd_T35 l0 x5_2).f4)))) = some r := by rw [if_pos rfl] at H; exact H
           clear H
           have H := H1
           clear H1
           by_cases c14 : ((rd_T35 l0 x5_2).f1.f0) = 1
           ·rw [if_pos c14] at H
            have c14b0 : (((rd_T35 l0 x5_2).f1.f0) == 1) = true := beq_iff_eq.mpr c14
            have c14b1 : (((rd_T35 l0 x5_2).f1.f0) != 1) = false := bne_eq_false_iff_eq.mpr c14
            clear c14
            have H' := z0 H
            clear H
            obtain ⟨hcz15_0, hcz15_1, hcz15_2, hcz15_3, hcz15_4, hcz15_5, hcz15_6, hcz15_7, hcz15_8, hcz15_9, hfz15_0, hfz15_1, hfz15_2, hfz15_3, hfz15_4, hfz15_5, hfz15_6, hfz15_7, hfz15_8, hfz15_9⟩ := cel10 BK332.out
            go_wp2_with (first | ((with_reducible refine gate_callee (f := 75) rfl ?_); refine goesL_ (some 31) rfl rfl Tryz.func75 (by kernel_rfl) rfl #[.agg #[.int .i64 ((rd_T35 l0 x5_2).f1.f0), .int .i64 ((rd_T35 l0 x5_2).f1.f1)]] rfl argx ?_; (with_reducible refine (spec_AddrOk.calls ((rd_T35 l0 x5_2).f1.f0) ((rd_T35 l0 x5_2).f1.f1) true _ A12.out).mono ?_); rintro e w16 ⟨rfl, hb⟩; refine ⟨_, rfl, ?_⟩; have n_ := az (blk_below (g := gb332) (o := .cells #[.int .i64 ((rd_T35 l0 x5_2).f0), .int .i64 ((rd_T35 l0 x5_2).f1.f0), .int .i64 ((rd_T35 l0 x5_2).f1.f1), .int .i64 ((rd_T35 l0 x5_2).f2.f0), .int .i64 ((rd_T35 l0 x5_2).f2.f1), .int .i64 ((rd_T35 l0 x5_2).f2.f2.f0), .int .i64 ((rd_T35 l0 x5_2).f2.f2.f1), .slice A331_7 ((rd_T35 l0 x5_2).f2.f3).length c331_7, .slice A331_8 ((rd_T35 l0 x5_2).f3).length c331_8, .slice A331_9 ((rd_T35 l0 x5_2).f4).length c331_9] 35 (0, 0)) q44_1 hb) <| z0 (below_step (mB HB.out) hb); clear BK332 HB; obtain ⟨BK332, HB⟩ := n_; clear hb; obtain ⟨hcz17_0, hcz17_1, hcz17_2, hcz17_3, hcz17_4, hcz17_5, hcz17_6, hcz17_7, hcz17_8, hcz17_9, hfz17_0, hfz17_1, hfz17_2, hfz17_3, hfz17_4, hfz17_5, hfz17_6, hfz17_7, hfz17_8, hfz17_9⟩ := cel10 BK332.out))
            go_meet
            case rel => exact ⟨_, (false), rfy, H', ⟨by have := HJ2.out; have := HK2.out; first | omega | exact Nat.le_refl _⟩, ⟨mK BK332.out⟩, ⟨mB HB.out⟩⟩
           ·rw [if_neg c14] at H
            have c14b0 : (((rd_T35 l0 x5_2).f1.f0) == 1) = false := beq_eq_false_iff_ne.mpr c14
            have c14b1 : (((rd_T35 l0 x5_2).f1.f0) != 1) = true := bne_iff_ne.mpr c14
            by_cases c18 : (((rd_T35 l0 x5_2).f3).length : Int) = 0
            ·rw [if_pos c18] at H
             have c18b0 : ((((rd_T35 l0 x5_2).f3).length : Int) == 0) = true := beq_iff_eq.mpr c18
             have c18b1 : ((((rd_T35 l0 x5_2).f3).length : Int) != 0) = false := bne_eq_false_iff_eq.mpr c18
             clear c18
             have H' := z0 H
             clear H
             obtain ⟨hcz19_0, hcz19_1, hcz19_2, hcz19_3, hcz19_4, hcz19_5, hcz19_6, hcz19_7, hcz19_8, hcz19_9, hfz19_0, hfz19_1, hfz19_2, hfz19_3, hfz19_4, hfz19_5, hfz19_6, hfz19_7, hfz19_8, hfz19_9⟩ := cel10 BK332.out
             go_wp2_with (first | ((with_reducible refine gate_callee (f := 75) rfl ?_); refine goesL_ (some 31) rfl rfl Tryz.func75 (by kernel_rfl) rfl #[.agg #[.int .i64 ((rd_T35 l0 x5_2).f1.f0), .int .i64 ((rd_T35 l0 x5_2).f1.f1)]] rfl argx ?_; (with_reducible refine (spec_AddrOk.calls ((rd_T35 l0 x5_2).f1.f0) ((rd_T35 l0 x5_2).f1.f1) true _ A12.out).mono ?_); rintro e w20 ⟨rfl, hb⟩; refine ⟨_, rfl, ?_⟩; have n_ := az (blk_below (g := gb332) (o := .cells #[.int .i64 ((rd_T35 l0 x5_2).f0), .int .i64 ((rd_T35 l0 x5_2).f1.f0), .int .i64 ((rd_T35 l0 x5_2).f1.f1), .int .i64 ((rd_T35 l0 x5_2).f2.f0), .int .i64 ((rd_T35 l0 x5_2).f2.f1), .int .i64 ((rd_T35 l0 x5_2).f2.f2.f0), .int .i64 ((rd_T35 l0 x5_2).f2.f2.f1), .slice A331_7 ((rd_T35 l0 x5_2).f2.f3).length c331_7, .slice A331_8 ((rd_T35 l0 x5_2).f3).length c331_8, .slice A331_9 ((rd_T35 l0 x5_2).f4).length c331_9] 35 (0, 0)) q44_1 hb) <| z0 (below_step (mB HB.out) hb); clear BK332 HB; obtain ⟨BK332, HB⟩ := n_; clear hb; obtain ⟨hcz21_0, hcz21_1, hcz21_2, hcz21_3, hcz21_4, hcz21_5, hcz21_6, hcz21_7, hcz21_8, hcz21_9, hfz21_0, hfz21_1, hfz21_2, hfz21_3, hfz21_4, hfz21_5, hfz21_6, hfz21_7, hfz21_8, hfz21_9⟩ := cel10 BK332.out))
             go_meet
             case rel => exact ⟨_, (((((rd_T35 l0 x5_2).f4).length : Int) == 0)), rfy, H', ⟨by have := HJ2.out; have := HK2.out; first | omega | exact Nat.le_refl _⟩, ⟨mK BK332.out⟩, ⟨mB HB.out⟩⟩
            ·rw [if_neg c18] at H
             have c18b0 : ((((rd_T35 l0 x5_2).f3).length : Int) == 0) = false := beq_eq_false_iff_ne.mpr c18
             have c18b1 : ((((rd_T35 l0 x5_2).f3).length : Int) != 0) = true := bne_iff_ne.mpr c18
             have c18b2 : ¬ (((rd_T35 l0 x5_2).f3) = []) := fun h_ => c18 (by rw [h_]; rfl)
             have H' := z0 H
             clear H
             obtain ⟨hcz22_0, hcz22_1, hcz22_2, hcz22_3, hcz22_4, hcz22_5, hcz22_6, hcz22_7, hcz22_8, hcz22_9, hfz22_0, hfz22_1, hfz22_2, hfz22_3, hfz22_4, hfz22_5, hfz22_6, hfz22_7, hfz22_8, hfz22_9⟩ := cel10 BK332.out
             go_wp2_with (first | ((with_reducible refine gate_callee (f := 75) rfl ?_); refine goesL_ (some 31) rfl rfl Tryz.func75 (by kernel_rfl) rfl #[.agg #[.int .i64 ((rd_T35 l0 x5_2).f1.f0), .int .i64 ((rd_T35 l0 x5_2).f1.f1)]] rfl argx ?_; (with_reducible refine (spec_AddrOk.calls ((rd_T35 l0 x5_2).f1.f0) ((rd_T35 l0 x5_2).f1.f1) true _ A12.out).mono ?_); rintro e w23 ⟨rfl, hb⟩; refine ⟨_, rfl, ?_⟩; have n_ := az (blk_below (g := gb332) (o := .cells #[.int .i64 ((rd_T35 l0 x5_2).f0), .int .i64 ((rd_T35 l0 x5_2).f1.f0), .int .i64 ((rd_T35 l0 x5_2).f1.f1), .int .i64 ((rd_T35 l0 x5_2).f2.f0), .int .i64 ((rd_T35 l0 x5_2).f2.f1), .int .i64 ((rd_T35 l0 x5_2).f2.f2.f0), .int .i64 ((rd_T35 l0 x5_2).f2.f2.f1), .slice A331_7 ((rd_T35 l0 x5_2).f2.f3).length c331_7, .slice A331_8 ((rd_T35 l0 x5_2).f3).length c331_8, .slice A331_9 ((rd_T35 l0 x5_2).f4).length c331_9] 35 (0, 0)) q44_1 hb) <| z0 (below_step (mB HB.out) hb); clear BK332 HB; obtain ⟨BK332, HB⟩ := n_; clear hb; obtain ⟨hcz24_0, hcz24_1, hcz24_2, hcz24_3, hcz24_4, hcz24_5, hcz24_6, hcz24_7, hcz24_8, hcz24_9, hfz24_0, hfz24_1, hfz24_2, hfz24_3, hfz24_4, hfz24_5, hfz24_6, hfz24_7, hfz24_8, hfz24_9⟩ := cel10 BK332.out))
             go_meet
             case rel => exact ⟨_, (false), rfy, H', ⟨by have := HJ2.out; have := HK2.out; first | omega | exact Nat.le_refl _⟩, ⟨mK BK332.out⟩, ⟨mB HB.out⟩⟩
          ·replace c13 := Bool.eq_false_iff.mpr c13
           subst c13
           have H1 : (spec_l4Form.j2 k2 l0 a1 x5_2 false ((rd_T35 l0 x5_2).f0) ((rd_T35 l0 x5_2).f1.f0) ((rd_T35 l0 x5_2).f1.f1) ((rd_T35 l0 x5_2).f2.f0) ((rd_T35 l0 x5_2).f2.f1) ((rd_T35 l0 x5_2).f2.f2.f0) ((rd_T35 l0 x5_2).f2.f2.f1) ((rd_T35 l0 x5_2).f2.f3) ((rd_T35 l0 x5_2).f3) ((rd_T35 l0 x5_2).f4)) = some r := by rw [if_neg (show ¬ (false = true) by decide)] at H; exact H
           clear H
           have H := H1
           clear H1
           have H' := z0 H
           clear H
           obtain ⟨hcz25_0, hcz25_1, hcz25_2, hcz25_3, hcz25_4, hcz25_5, hcz25_6, hcz25_7, hcz25_8, hcz25_9, hfz25_0, hfz25_1, hfz25_2, hfz25_3, hfz25_4, hfz25_5, hfz25_6, hfz25_7, hfz25_8, hfz25_9⟩ := cel10 BK332.out
           go_wp2_with (first | ((with_reducible refine gate_callee (f := 75) rfl ?_); refine goesL_ (some 31) rfl rfl Tryz.func75 (by kernel_rfl) rfl #[.agg #[.int .i64 ((rd_T35 l0 x5_2).f1.f0), .int .i64 ((rd_T35 l0 x5_2).f1.f1)]] rfl argx ?_; (with_reducible refine (spec_AddrOk.calls ((rd_T35 l0 x5_2).f1.f0) ((rd_T35 l0 x5_2).f1.f1) false _ A12.out).mono ?_); rintro e w26 ⟨rfl, hb⟩; refine ⟨_, rfl, ?_⟩; have n_ := az (blk_below (g := gb332) (o := .cells #[.int .i64 ((rd_T35 l0 x5_2).f0), .int .i64 ((rd_T35 l0 x5_2).f1.f0), .int .i64 ((rd_T35 l0 x5_2).f1.f1), .int .i64 ((rd_T35 l0 x5_2).f2.f0), .int .i64 ((rd_T35 l0 x5_2).f2.f1), .int .i64 ((rd_T35 l0 x5_2).f2.f2.f0), .int .i64 ((rd_T35 l0 x5_2).f2.f2.f1), .slice A331_7 ((rd_T35 l0 x5_2).f2.f3).length c331_7, .slice A331_8 ((rd_T35 l0 x5_2).f3).length c331_8, .slice A331_9 ((rd_T35 l0 x5_2).f4).length c331_9] 35 (0, 0)) q44_1 hb) <| z0 (below_step (mB HB.out) hb); clear BK332 HB; obtain ⟨BK332, HB⟩ := n_; clear hb))
           go_meet
           case rel => exact ⟨_, (false), rfy, H', ⟨by have := HJ2.out; have := HK2.out; first | omega | exact Nat.le_refl _⟩, ⟨mK BK332.out⟩, ⟨mB HB.out⟩⟩
         ·rw [if_neg c11] at H
          have c11b0 : (((rd_T35 l0 x5_2).f0) == 1) = false := beq_eq_false_iff_ne.mpr c11
          have c11b1 : (((rd_T35 l0 x5_2).f0) != 1) = true := bne_iff_ne.mpr c11
          (first | rw [c11b0] | (simp only [i64_w, i32_w]; rw [c11b0]) | skip)
          by_cases c27 : ((rd_T35 l0 x5_2).f0) = 2
          ·rw [if_pos c27] at H
           have c27b0 : (((rd_T35 l0 x5_2).f0) == 2) = true := beq_iff_eq.mpr c27
           have c27b1 : (((rd_T35 l0 x5_2).f0) != 2) = false := bne_eq_false_iff_eq.mpr c27
           clear c27
           have H' := z0 H
           clear H
           obtain ⟨hcz28_0, hcz28_1, hcz28_2, hcz28_3, hcz28_4, hcz28_5, hcz28_6, hcz28_7, hcz28_8, hcz28_9, hfz28_0, hfz28_1, hfz28_2, hfz28_3, hfz28_4, hfz28_5, hfz28_6, hfz28_7, hfz28_8, hfz28_9⟩ := cel10 BK332.out
           go_wp2
           go_meet
           case rel => exact ⟨_, ((((rd_T35 l0 x5_2).f1.f0) == 0 && (((rd_T35 l0 x5_2).f1.f1) == 0))), rfy, H', ⟨by have := HJ2.out; have := HK2.out; first | omega | exact Nat.le_refl _⟩, ⟨by (with_reducible repeat (first | refine blk_drewN ?_ _ | refine blk_drew ?_ | refine blk_alloc ?_ _)); refine blk_put (cs := #[.int .i64 ((rd_T35 l0 x5_2).f0), .int .i64 ((rd_T35 l0 x5_2).f1.f0), .int .i64 ((rd_T35 l0 x5_2).f1.f1), .int .i64 ((rd_T35 l0 x5_2).f2.f0), .int .i64 ((rd_T35 l0 x5_2).f2.f1), .int .i64 ((rd_T35 l0 x5_2).f2.f2.f0), .int .i64 ((rd_T35 l0 x5_2).f2.f2.f1), .slice A331_7 ((rd_T35 l0 x5_2).f2.f3).length c331_7, .slice A331_8 ((rd_T35 l0 x5_2).f3).length c331_8, .slice none 0 0]) ?_ 9 _ rfl; (with_reducible repeat (first | refine blk_drewN ?_ _ | refine blk_drew ?_ | refine blk_alloc ?_ _)); refine blk_put (cs := #[.int .i64 ((rd_T35 l0 x5_2).f0), .int .i64 ((rd_T35 l0 x5_2).f1.f0), .int .i64 ((rd_T35 l0 x5_2).f1.f1), .int .i64 ((rd_T35 l0 x5_2).f2.f0), .int .i64 ((rd_T35 l0 x5_2).f2.f1), .int .i64 ((rd_T35 l0 x5_2).f2.f2.f0), .int .i64 ((rd_T35 l0 x5_2).f2.f2.f1), .slice A331_7 ((rd_T35 l0 x5_2).f2.f3).length c331_7, .slice none 0 0, .slice none 0 0]) ?_ 8 _ rfl; (with_reducible repeat (first | refine blk_drewN ?_ _ | refine blk_drew ?_ | refine blk_alloc ?_ _)); refine blk_put (cs := #[.int .i64 ((rd_T35 l0 x5_2).f0), .int .i64 ((rd_T35 l0 x5_2).f1.f0), .int .i64 ((rd_T35 l0 x5_2).f1.f1), .int .i64 ((rd_T35 l0 x5_2).f2.f0), .int .i64 ((rd_T35 l0 x5_2).f2.f1), .int .i64 ((rd_T35 l0 x5_2).f2.f2.f0), .int .i64 ((rd_T35 l0 x5_2).f2.f2.f1), .slice none 0 0, .slice none 0 0, .slice none 0 0]) ?_ 7 _ rfl; (with_reducible repeat (first | refine blk_drewN ?_ _ | refine blk_drew ?_ | refine blk_alloc ?_ _)); refine blk_put (cs := #[.int .i64 ((rd_T35 l0 x5_2).f0), .int .i64 ((rd_T35 l0 x5_2).f1.f0), .int .i64 ((rd_T35 l0 x5_2).f1.f1), .int .i64 ((rd_T35 l0 x5_2).f2.f0), .int .i64 ((rd_T35 l0 x5_2).f2.f1), .int .i64 ((rd_T35 l0 x5_2).f2.f2.f0), .int .i64 0, .slice none 0 0, .slice none 0 0, .slice none 0 0]) ?_ 6 _ rfl; (with_reducible repeat (first | refine blk_drewN ?_ _ | refine blk_drew ?_ | refine blk_alloc ?_ _)); refine blk_put (cs := #[.int .i64 ((rd_T35 l0 x5_2).f0), .int .i64 ((rd_T35 l0 x5_2).f1.f0), .int .i64 ((rd_T35 l0 x5_2).f1.f1), .int .i64 ((rd_T35 l0 x5_2).f2.f0), .int .i64 ((rd_T35 l0 x5_2).f2.f1), .int .i64 0, .int .i64 0, .slice none 0 0, .slice none 0 0, .slice none 0 0]) ?_ 5 _ rfl; (with_reducible repeat (first | refine blk_drewN ?_ _ | refine blk_drew ?_ | refine blk_alloc ?_ _)); refine blk_put (cs := #[.int .i64 ((rd_T35 l0 x5_2).f0), .int .i64 ((rd_T35 l0 x5_2).f1.f0), .int .i64 ((rd_T35 l0 x5_2).f1.f1), .int .i64 ((rd_T35 l0 x5_2).f2.f0), .int .i64 0, .int .i64 0, .int .i64 0, .slice none 0 0, .slice none 0 0, .slice none 0 0]) ?_ 4 _ rfl; (with_reducible repeat (first | refine blk_drewN ?_ _ | refine blk_drew ?_ | refine blk_alloc ?_ _)); refine blk_put (cs := #[.int .i64 ((rd_T35 l0 x5_2).f0), .int .i64 ((rd_T35 l0 x5_2).f1.f0), .int .i64 ((rd_T35 l0 x5_2).f1.f1), .int .i64 0, .int .i64 0, .int .i64 0, .int .i64 0, .slice none 0 0, .slice none 0 0, .slice none 0 0]) ?_ 3 _ rfl; (with_reducible repeat (first | refine blk_drewN ?_ _ | refine blk_drew ?_ | refine blk_alloc ?_ _)); refine blk_put (cs := #[.int .i64 ((rd_T35 l0 x5_2).f0), .int .i64 ((rd_T35 l0 x5_2).f1.f0), .int .i64 0, .int .i64 0, .int .i64 0, .int .i64 0, .int .i64 0, .slice none 0 0, .slice none 0 0, .slice none 0 0]) ?_ 2 _ rfl; (with_reducible repeat (first | refine blk_drewN ?_ _ | refine blk_drew ?_ | refine blk_alloc ?_ _)); refine blk_put (cs := #[.int .i64 ((rd_T35 l0 x5_2).f0), .int .i64 0, .int .i64 0, .int .i64 0, .int .i64 0, .int .i64 0, .int .i64 0, .slice none 0 0, .slice none 0 0, .slice none 0 0]) ?_ 1 _ rfl; (with_reducible repeat (first | refine blk_drewN ?_ _ | refine blk_drew ?_ | refine blk_alloc ?_ _)); refine blk_put (cs := #[.int .i64 0, .int .i64 0, .int .i64 0, .int .i64 0, .int .i64 0, .int .i64 0, .int .i64 0, .slice none 0 0, .slice none 0 0, .slice none 0 0]) ?_ 0 _ rfl; (with_reducible repeat (first | refine blk_drewN ?_ _ | refine blk_drew ?_ | refine blk_alloc ?_ _)); exact BK332.out⟩, ⟨mB HB.out⟩⟩
          ·rw [if_neg c27] at H
           have c27b0 : (((rd_T35 l0 x5_2).f0) == 2) = false := beq_eq_false_iff_ne.mpr c27
           have c27b1 : (((rd_T35 l0 x5_2).f0) != 2) = true := bne_iff_ne.mpr c27
           by_cases c29 : ((rd_T35 l0 x5_2).f0) = 3
           ·rw [if_pos c29] at H
            have c29b0 : (((rd_T35 l0 x5_2).f0) == 3) = true := beq_iff_eq.mpr c29
            have c29b1 : (((rd_T35 l0 x5_2).f0) != 3) = false := bne_eq_false_iff_eq.mpr c29
            clear c29
            by_cases c30 : (((rd_T35 l0 x5_2).f1.f0) == 0 && (((rd_T35 l0 x5_2).f1.f1) == 0)) = true
            ·rw [if_pos c30] at H
             have c30b0 : (((rd_T35 l0 x5_2).f1.f0) == 0 && (((rd_T35 l0 x5_2).f1.f1) == 0)) = true := c30
             (try (have c30b1 : decide (((rd_T35 l0 x5_2).f1.f0) = 0 && (((rd_T35 l0 x5_2).f1.f1) == 0)) = true := by simpa using c30))
             (try (have c30b2 : (((rd_T35 l0 x5_2).f1.f0) == 0 && (((rd_T35 l0 x5_2).f1.f1) == 0)) = true := by simpa using c30))
             clear c30
             have H' := z0 H
             clear H
             obtain ⟨hcz31_0, hcz31_1, hcz31_2, hcz31_3, hcz31_4, hcz31_5, hcz31_6, hcz31_7, hcz31_8, hcz31_9, hfz31_0, hfz31_1, hfz31_2, hfz31_3, hfz31_4, hfz31_5, hfz31_6, hfz31_7, hfz31_8, hfz31_9⟩ := cel10 BK332.out
             go_wp2
             go_meet
             case rel => exact ⟨_, (((((rd_T35 l0 x5_2).f4).length : Int) == 0)), rfy, H', ⟨by have := HJ2.out; have := HK2.out; first | omega | exact Nat.le_refl _⟩, ⟨by (with_reducible repeat (first | refine blk_drewN ?_ _ | refine blk_drew ?_ | refine blk_alloc ?_ _)); refine blk_put (cs := #[.int .i64 ((rd_T35 l0 x5_2).f0), .int .i64 ((rd_T35 l0 x5_2).f1.f0), .int .i64 ((rd_T35 l0 x5_2).f1.f1), .int .i64 ((rd_T35 l0 x5_2).f2.f0), .int .i64 ((rd_T35 l0 x5_2).f2.f1), .int .i64 ((rd_T35 l0 x5_2).f2.f2.f0), .int .i64 ((rd_T35 l0 x5_2).f2.f2.f1), .slice A331_7 ((rd_T35 l0 x5_2).f2.f3).length c331_7, .slice A331_8 ((rd_T35 l0 x5_2).f3).length c331_8, .slice none 0 0]) ?_ 9 _ rfl; (with_reducible repeat (first | refine blk_drewN ?_ _ | refine blk_drew ?_ | refine blk_alloc ?_ _)); refine blk_put (cs := #[.int .i64 ((rd_T35 l0 x5_2).f0), .int .i64 ((rd_T35 l0 x5_2).f1.f0), .int .i64 ((rd_T35 l0 x5_2).f1.f1), .int .i64 ((rd_T35 l0 x5_2).f2.f0), .int .i64 ((rd_T35 l0 x5_2).f2.f1), .int .i64 ((rd_T35 l0 x5_2).f2.f2.f0), .int .i64 ((rd_T35 l0 x5_2).f2.f2.f1), .slice A331_7 ((rd_T35 l0 x5_2).f2.f3).length c331_7, .slice none 0 0, .slice none 0 0]) ?_ 8 _ rfl; (with_reducible repeat (first | refine blk_drewN ?_ _ | refine blk_drew ?_ | refine blk_alloc ?_ _)); refine blk_put (cs := #[.int .i64 ((rd_T35 l0 x5_2).f0), .int .i64 ((rd_T35 l0 x5_2).f1.f0), .int .i64 ((rd_T35 l0 x5_2).f1.f1), .int .i64 ((rd_T35 l0 x5_2).f2.f0), .int .i64 ((rd_T35 l0 x5_2).f2.f1), .int .i64 ((rd_T35 l0 x5_2).f2.f2.f0), .int .i64 ((rd_T35 l0 x5_2).f2.f2.f1), .slice none 0 0, .slice none 0 0, .slice none 0 0]) ?_ 7 _ rfl; (with_reducible repeat (first | refine blk_drewN ?_ _ | refine blk_drew ?_ | refine blk_alloc ?_ _)); refine blk_put (cs := #[.int .i64 ((rd_T35 l0 x5_2).f0), .int .i64 ((rd_T35 l0 x5_2).f1.f0), .int .i64 ((rd_T35 l0 x5_2).f1.f1), .int .i64 ((rd_T35 l0 x5_2).f2.f0), .int .i64 ((rd_T35 l0 x5_2).f2.f1), .int .i64 ((rd_T35 l0 x5_2).f2.f2.f0), .int .i64 0, .slice none 0 0, .slice none 0 0, .slice none 0 0]) ?_ 6 _ rfl; (with_reducible repeat (first | refine blk_drewN ?_ _ | refine blk_drew ?_ | refine blk_alloc ?_ _)); refine blk_put (cs := #[.int .i64 ((rd_T35 l0 x5_2).f0), .int .i64 ((rd_T35 l0 x5_2).f1.f0), .int .i64 ((rd_T35 l0 x5_2).f1.f1), .int .i64 ((rd_T35 l0 x5_2).f2.f0), .int .i64 ((rd_T35 l0 x5_2).f2.f1), .int .i64 0, .int .i64 0, .slice none 0 0, .slice none 0 0, .slice none 0 0]) ?_ 5 _ rfl; (with_reducible repeat (first | refine blk_drewN ?_ _ | refine blk_drew ?_ | refine blk_alloc ?_ _)); refine blk_put (cs := #[.int .i64 ((rd_T35 l0 x5_2).f0), .int .i64 ((rd_T35 l0 x5_2).f1.f0), .int .i64 ((rd_T35 l0 x5_2).f1.f1), .int .i64 ((rd_T35 l0 x5_2).f2.f0), .int .i64 0, .int .i64 0, .int .i64 0, .slice none 0 0, .slice none 0 0, .slice none 0 0]) ?_ 4 _ rfl; (with_reducible repeat (first | refine blk_drewN ?_ _ | refine blk_drew ?_ | refine blk_alloc ?_ _)); refine blk_put (cs := #[.int .i64 ((rd_T35 l0 x5_2).f0), .int .i64 ((rd_T35 l0 x5_2).f1.f0), .int .i64 ((rd_T35 l0 x5_2).f1.f1), .int .i64 0, .int .i64 0, .int .i64 0, .int .i64 0, .slice none 0 0, .slice none 0 0, .slice none 0 0]) ?_ 3 _ rfl; (with_reducible repeat (first | refine blk_drewN ?_ _ | refine blk_drew ?_ | refine blk_alloc ?_ _)); refine blk_put (cs := #[.int .i64 ((rd_T35 l0 x5_2).f0), .int .i64 ((rd_T35 l0 x5_2).f1.f0), .int .i64 0, .int .i64 0, .int .i64 0, .int .i64 0, .int .i64 0, .slice none 0 0, .slice none 0 0, .slice none 0 0]) ?_ 2 _ rfl; (with_reducible repeat (first | refine blk_drewN ?_ _ | refine blk_drew ?_ | refine blk_alloc ?_ _)); refine blk_put (cs := #[.int .i64 ((rd_T35 l0 x5_2).f0), .int .i64 0, .int .i64 0, .int .i64 0, .int .i64 0, .int .i64 0, .int .i64 0, .slice none 0 0, .slice none 0 0, .slice none 0 0]) ?_ 1 _ rfl; (with_reducible repeat (first | refine blk_drewN ?_ _ | refine blk_drew ?_ | refine blk_alloc ?_ _)); refine blk_put (cs := #[.int .i64 0, .int .i64 0, .int .i64 0, .int .i64 0, .int .i64 0, .int .i64 0, .int .i64 0, .slice none 0 0, .slice none 0 0, .slice none 0 0]) ?_ 0 _ rfl; (with_reducible repeat (first | refine blk_drewN ?_ _ | refine blk_drew ?_ | refine blk_alloc ?_ _)); exact BK332.out⟩, ⟨mB HB.out⟩⟩
            ·rw [if_neg c30] at H
             have c30b0 : (((rd_T35 l0 x5_2).f1.f0) == 0 && (((rd_T35 l0 x5_2).f1.f1) == 0)) = false := by simpa using c30
             (try (have c30b1 : decide (((rd_T35 l0 x5_2).f1.f0) = 0 && (((rd_T35 l0 x5_2).f1.f1) == 0)) = false := by simpa using c30))
             (try (have c30b2 : (((rd_T35 l0 x5_2).f1.f0) == 0 && (((rd_T35 l0 x5_2).f1.f1) == 0)) = false := by simpa using c30))
             (try (have c30b3 : ¬ (((rd_T35 l0 x5_2).f1.f0) = 0 && (((rd_T35 l0 x5_2).f1.f1) == 0)) := by simpa using c30))
             clear c30
             have H' := z0 H
             clear H
             obtain ⟨hcz32_0, hcz32_1, hcz32_2, hcz32_3, hcz32_4, hcz32_5, hcz32_6, hcz32_7, hcz32_8, hcz32_9, hfz32_0, hfz32_1, hfz32_2, hfz32_3, hfz32_4, hfz32_5, hfz32_6, hfz32_7, hfz32_8, hfz32_9⟩ := cel10 BK332.out
             go_wp2
             go_meet
             case rel => exact ⟨_, (false), rfy, H', ⟨by have := HJ2.out; have := HK2.out; first | omega | exact Nat.le_refl _⟩, ⟨by (with_reducible repeat (first | refine blk_drewN ?_ _ | refine blk_drew ?_ | refine blk_alloc ?_ _)); refine blk_put (cs := #[.int .i64 ((rd_T35 l0 x5_2).f0), .int .i64 ((rd_T35 l0 x5_2).f1.f0), .int .i64 ((rd_T35 l0 x5_2).f1.f1), .int .i64 ((rd_T35 l0 x5_2).f2.f0), .int .i64 ((rd_T35 l0 x5_2).f2.f1), .int .i64 ((rd_T35 l0 x5_2).f2.f2.f0), .int .i64 ((rd_T35 l0 x5_2).f2.f2.f1), .slice A331_7 ((rd_T35 l0 x5_2).f2.f3).length c331_7, .slice A331_8 ((rd_T35 l0 x5_2).f3).length c331_8, .slice none 0 0]) ?_ 9 _ rfl; (with_reducible repeat (first | refine blk_drewN ?_ _ | refine blk_drew ?_ | refine blk_alloc ?_ _)); refine blk_put (cs := #[.int .i64 ((rd_T35 l0 x5_2).f0), .int .i64 ((rd_T35 l0 x5_2).f1.f0), .int .i64 ((rd_T35 l0 x5_2).f1.f1), .int .i64 ((rd_T35 l0 x5_2).f2.f0), .int .i64 ((rd_T35 l0 x5_2).f2.f1), .int .i64 ((rd_T35 l0 x5_2).f2.f2.f0), .int .i64 ((rd_T35 l0 x5_2).f2.f2.f1), .slice A331_7 ((rd_T35 l0 x5_2).f2.f3).length c331_7, .slice none 0 0, .slice none 0 0]) ?_ 8 _ rfl; (with_reducible repeat (first | refine blk_drewN ?_ _ | refine blk_drew ?_ | refine blk_alloc ?_ _)); refine blk_put (cs := #[.int .i64 ((rd_T35 l0 x5_2).f0), .int .i64 ((rd_T35 l0 x5_2).f1.f0), .int .i64 ((rd_T35 l0 x5_2).f1.f1), .int .i64 ((rd_T35 l0 x5_2).f2.f0), .int .i64 ((rd_T35 l0 x5_2).f2.f1), .int .i64 ((rd_T35 l0 x5_2).f2.f2.f0), .int .i64 ((rd_T35 l0 x5_2).f2.f2.f1), .slice none 0 0, .slice none 0 0, .slice none 0 0]) ?_ 7 _ rfl; (with_reducible repeat (first | refine blk_drewN ?_ _ | refine blk_drew ?_ | refine blk_alloc ?_ _)); refine blk_put (cs := #[.int .i64 ((rd_T35 l0 x5_2).f0), .int .i64 ((rd_T35 l0 x5_2).f1.f0), .int .i64 ((rd_T35 l0 x5_2).f1.f1), .int .i64 ((rd_T35 l0 x5_2).f2.f0), .int .i64 ((rd_T35 l0 x5_2).f2.f1), .int .i64 ((rd_T35 l0 x5_2).f2.f2.f0), .int .i64 0, .slice none 0 0, .slice none 0 0, .slice none 0 0]) ?_ 6 _ rfl; (with_reducible repeat (first | refine blk_drewN ?_ _ | refine blk_drew ?_ | refine blk_alloc ?_ _)); refine blk_put (cs := #[.int .i64 ((rd_T35 l0 x5_2).f0), .int .i64 ((rd_T35 l0 x5_2).f1.f0), .int .i64 ((rd_T35 l0 x5_2).f1.f1), .int .i64 ((rd_T35 l0 x5_2).f2.f0), .int .i64 ((rd_T35 l0 x5_2).f2.f1), .int .i64 0, .int .i64 0, .slice none 0 0, .slice none 0 0, .slice none 0 0]) ?_ 5 _ rfl; (with_reducible repeat (first | refine blk_drewN ?_ _ | refine blk_drew ?_ | refine blk_alloc ?_ _)); refine blk_put (cs := #[.int .i64 ((rd_T35 l0 x5_2).f0), .int .i64 ((rd_T35 l0 x5_2).f1.f0), .int .i64 ((rd_T35 l0 x5_2).f1.f1), .int .i64 ((rd_T35 l0 x5_2).f2.f0), .int .i64 0, .int .i64 0, .int .i64 0, .slice none 0 0, .slice none 0 0, .slice none 0 0]) ?_ 4 _ rfl; (with_reducible repeat (first | refine blk_drewN ?_ _ | refine blk_drew ?_ | refine blk_alloc ?_ _)); refine blk_put (cs := #[.int .i64 ((rd_T35 l0 x5_2).f0), .int .i64 ((rd_T35 l0 x5_2).f1.f0), .int .i64 ((rd_T35 l0 x5_2).f1.f1), .int .i64 0, .int .i64 0, .int .i64 0, .int .i64 0, .slice none 0 0, .slice none 0 0, .slice none 0 0]) ?_ 3 _ rfl; (with_reducible repeat (first | refine blk_drewN ?_ _ | refine blk_drew ?_ | refine blk_alloc ?_ _)); refine blk_put (cs := #[.int .i64 ((rd_T35 l0 x5_2).f0), .int .i64 ((rd_T35 l0 x5_2).f1.f0), .int .i64 0, .int .i64 0, .int .i64 0, .int .i64 0, .int .i64 0, .slice none 0 0, .slice none 0 0, .slice none 0 0]) ?_ 2 _ rfl; (with_reducible repeat (first | refine blk_drewN ?_ _ | refine blk_drew ?_ | refine blk_alloc ?_ _)); refine blk_put (cs := #[.int .i64 ((rd_T35 l0 x5_2).f0), .int .i64 0, .int .i64 0, .int .i64 0, .int .i64 0, .int .i64 0, .int .i64 0, .slice none 0 0, .slice none 0 0, .slice none 0 0]) ?_ 1 _ rfl; (with_reducible repeat (first | refine blk_drewN ?_ _ | refine blk_drew ?_ | refine blk_alloc ?_ _)); refine blk_put (cs := #[.int .i64 0, .int .i64 0, .int .i64 0, .int .i64 0, .int .i64 0, .int .i64 0, .int .i64 0, .slice none 0 0, .slice none 0 0, .slice none 0 0]) ?_ 0 _ rfl; (with_reducible repeat (first | refine blk_drewN ?_ _ | refine blk_drew ?_ | refine blk_alloc ?_ _)); exact BK332.out⟩, ⟨mB HB.out⟩⟩
           ·rw [if_neg c29] at H
            have c29b0 : (((rd_T35 l0 x5_2).f0) == 3) = false := beq_eq_false_iff_ne.mpr c29
            have c29b1 : (((rd_T35 l0 x5_2).f0) != 3) = true := bne_iff_ne.mpr c29
            have H' := z0 H
            clear H
            go_wp2
            go_meet
            case rel => exact ⟨_, (false), rfy, H', ⟨by have := HJ2.out; have := HK2.out; first | omega | exact Nat.le_refl _⟩, ⟨by (with_reducible repeat (first | refine blk_drewN ?_ _ | refine blk_drew ?_ | refine blk_alloc ?_ _)); refine blk_put (cs := #[.int .i64 ((rd_T35 l0 x5_2).f0), .int .i64 ((rd_T35 l0 x5_2).f1.f0), .int .i64 ((rd_T35 l0 x5_2).f1.f1), .int .i64 ((rd_T35 l0 x5_2).f2.f0), .int .i64 ((rd_T35 l0 x5_2).f2.f1), .int .i64 ((rd_T35 l0 x5_2).f2.f2.f0), .int .i64 ((rd_T35 l0 x5_2).f2.f2.f1), .slice A331_7 ((rd_T35 l0 x5_2).f2.f3).length c331_7, .slice A331_8 ((rd_T35 l0 x5_2).f3).length c331_8, .slice none 0 0]) ?_ 9 _ rfl; (with_reducible repeat (first | refine blk_drewN ?_ _ | refine blk_drew ?_ | refine blk_alloc ?_ _)); refine blk_put (cs := #[.int .i64 ((rd_T35 l0 x5_2).f0), .int .i64 ((rd_T35 l0 x5_2).f1.f0), .int .i64 ((rd_T35 l0 x5_2).f1.f1), .int .i64 ((rd_T35 l0 x5_2).f2.f0), .int .i64 ((rd_T35 l0 x5_2).f2.f1), .int .i64 ((rd_T35 l0 x5_2).f2.f2.f0), .int .i64 ((rd_T35 l0 x5_2).f2.f2.f1), .slice A331_7 ((rd_T35 l0 x5_2).f2.f3).length c331_7, .slice none 0 0, .slice none 0 0]) ?_ 8 _ rfl; (with_reducible repeat (first | refine blk_drewN ?_ _ | refine blk_drew ?_ | refine blk_alloc ?_ _)); refine blk_put (cs := #[.int .i64 ((rd_T35 l0 x5_2).f0), .int .i64 ((rd_T35 l0 x5_2).f1.f0), .int .i64 ((rd_T35 l0 x5_2).f1.f1), .int .i64 ((rd_T35 l0 x5_2).f2.f0), .int .i64 ((rd_T35 l0 x5_2).f2.f1), .int .i64 ((rd_T35 l0 x5_2).f2.f2.f0), .int .i64 ((rd_T35 l0 x5_2).f2.f2.f1), .slice none 0 0, .slice none 0 0, .slice none 0 0]) ?_ 7 _ rfl; (with_reducible repeat (first | refine blk_drewN ?_ _ | refine blk_drew ?_ | refine blk_alloc ?_ _)); refine blk_put (cs := #[.int .i64 ((rd_T35 l0 x5_2).f0), .int .i64 ((rd_T35 l0 x5_2).f1.f0), .int .i64 ((rd_T35 l0 x5_2).f1.f1), .int .i64 ((rd_T35 l0 x5_2).f2.f0), .int .i64 ((rd_T35 l0 x5_2).f2.f1), .int .i64 ((rd_T35 l0 x5_2).f2.f2.f0), .int .i64 0, .slice none 0 0, .slice none 0 0, .slice none 0 0]) ?_ 6 _ rfl; (with_reducible repeat (first | refine blk_drewN ?_ _ | refine blk_drew ?_ | refine blk_alloc ?_ _)); refine blk_put (cs := #[.int .i64 ((rd_T35 l0 x5_2).f0), .int .i64 ((rd_T35 l0 x5_2).f1.f0), .int .i64 ((rd_T35 l0 x5_2).f1.f1), .int .i64 ((rd_T35 l0 x5_2).f2.f0), .int .i64 ((rd_T35 l0 x5_2).f2.f1), .int .i64 0, .int .i64 0, .slice none 0 0, .slice none 0 0, .slice none 0 0]) ?_ 5 _ rfl; (with_reducible repeat (first | refine blk_drewN ?_ _ | refine blk_drew ?_ | refine blk_alloc ?_ _)); refine blk_put (cs := #[.int .i64 ((rd_T35 l0 x5_2).f0), .int .i64 ((rd_T35 l0 x5_2).f1.f0), .int .i64 ((rd_T35 l0 x5_2).f1.f1), .int .i64 ((rd_T35 l0 x5_2).f2.f0), .int .i64 0, .int .i64 0, .int .i64 0, .slice none 0 0, .slice none 0 0, .slice none 0 0]) ?_ 4 _ rfl; (with_reducible repeat (first | refine blk_drewN ?_ _ | refine blk_drew ?_ | refine blk_alloc ?_ _)); refine blk_put (cs := #[.int .i64 ((rd_T35 l0 x5_2).f0), .int .i64 ((rd_T35 l0 x5_2).f1.f0), .int .i64 ((rd_T35 l0 x5_2).f1.f1), .int .i64 0, .int .i64 0, .int .i64 0, .int .i64 0, .slice none 0 0, .slice none 0 0, .slice none 0 0]) ?_ 3 _ rfl; (with_reducible repeat (first | refine blk_drewN ?_ _ | refine blk_drew ?_ | refine blk_alloc ?_ _)); refine blk_put (cs := #[.int .i64 ((rd_T35 l0 x5_2).f0), .int .i64 ((rd_T35 l0 x5_2).f1.f0), .int .i64 0, .int .i64 0, .int .i64 0, .int .i64 0, .int .i64 0, .slice none 0 0, .slice none 0 0, .slice none 0 0]) ?_ 2 _ rfl; (with_reducible repeat (first | refine blk_drewN ?_ _ | refine blk_drew ?_ | refine blk_alloc ?_ _)); refine blk_put (cs := #[.int .i64 ((rd_T35 l0 x5_2).f0), .int .i64 0, .int .i64 0, .int .i64 0, .int .i64 0, .int .i64 0, .int .i64 0, .slice none 0 0, .slice none 0 0, .slice none 0 0]) ?_ 1 _ rfl; (with_reducible repeat (first | refine blk_drewN ?_ _ | refine blk_drew ?_ | refine blk_alloc ?_ _)); refine blk_put (cs := #[.int .i64 0, .int .i64 0, .int .i64 0, .int .i64 0, .int .i64 0, .int .i64 0, .int .i64 0, .slice none 0 0, .slice none 0 0, .slice none 0 0]) ?_ 0 _ rfl; (with_reducible repeat (first | refine blk_drewN ?_ _ | refine blk_drew ?_ | refine blk_alloc ?_ _)); exact BK332.out⟩, ⟨mB HB.out⟩⟩
        case rest =>
         clear HC8
         (try clear c5); (try clear c6); (try clear c6b0); (try clear c7); (try clear c7b0); (try clear hcz10_0); (try clear hcz10_1); (try clear hcz10_2); (try clear hcz10_3); (try clear hcz10_4); (try clear hcz10_5); (try clear hcz10_6); (try clear hcz10_7); (try clear hcz10_8); (try clear hcz10_9); (try clear hfz10_0); (try clear hfz10_1); (try clear hfz10_2); (try clear hfz10_3); (try clear hfz10_4); (try clear hfz10_5); (try clear hfz10_6); (try clear hfz10_7); (try clear hfz10_8); (try clear hfz10_9); (try clear hx331_0); (try clear hx331_1); (try clear hx331_2); (try clear hx331_3); (try clear hx331_4); (try clear hx331_5); (try clear hx331_6); (try clear hx331_7); (try clear hx331_8); (try clear hx331_9); (try clear p331); (try clear q331)
         obtain ⟨kq, x7_7, rfl, HA, HJ7, BK332, HB⟩ := hcut
         cases kq with
         | zero => exact absurd HA.out (by simp [spec_l4Form.j2])
         | succ kj7 =>
          have H := HA.out
          clear HA
          simp only [spec_l4Form.j2] at H
          by_cases c33 : x7_7 = true
          ·subst c33
           have H1 : ((spec_ExprOk.f kj7 ((rd_T35 l0 x5_2).f2.f0) ((rd_T35 l0 x5_2).f2.f1) ((rd_T35 l0 x5_2).f2.f2.f0) ((rd_T35 l0 x5_2).f2.f2.f1) ((rd_T35 l0 x5_2).f2.f3)).bind fun t334 => (if t334 = true then ((spec_l4Form.f kj7 ((rd_T35 l0 x5_2).f3) (wrap64 (a1 - 1))).bind fun t335 => (if t335 = true then ((spec_l4Form.f kj7 ((rd_T35 l0 x5_2).f4) (wrap64 (a1 - 1))).bind fun t336 => (if t336 = true then (spec_l4Form.l0 kj7 l0 a1 (wrap64 (x5_2 + 1))) else (some false))) else (some false))) else (some false))) = some r := by rw [if_pos rfl] at H; exact H
           clear H
           have H := H1
           clear H1
           replace H := Option.bind_eq_some_iff.mp H
           obtain ⟨t334, A340, H⟩ := H
           try dsimp only at H
           have A34 := z0 A340
           clear A340
           by_cases c35 : t334 = true
           ·subst c35
            have H1 : ((spec_l4Form.f kj7 ((rd_T35 l0 x5_2).f3) (wrap64 (a1 - 1))).bind fun t335 => (if t335 = true then ((spec_l4Form.f kj7 ((rd_T35 l0 x5_2).f4) (wrap64 (a1 - 1))).bind fun t336 => (if t336 = true then (spec_l4Form.l0 kj7 l0 a1 (wrap64 (x5_2 + 1))) else (some false))) else (some false))) = some r := by rw [if_pos rfl] at H; exact H
            clear H
            have H := H1
            clear H1
            replace H := Option.bind_eq_some_iff.mp H
            obtain ⟨t335, A360, H⟩ := H
            try dsimp only at H
            have A36 := z0 A360
            clear A360
            by_cases c37 : t335 = true
            ·subst c37
             have H1 : ((spec_l4Form.f kj7 ((rd_T35 l0 x5_2).f4) (wrap64 (a1 - 1))).bind fun t336 => (if t336 = true then (spec_l4Form.l0 kj7 l0 a1 (wrap64 (x5_2 + 1))) else (some false))) = some r := by rw [if_pos rfl] at H; exact H
             clear H
             have H := H1
             clear H1
             replace H := Option.bind_eq_some_iff.mp H
             obtain ⟨t336, A380, H⟩ := H
             try dsimp only at H
             have A38 := z0 A380
             clear A380
             have HF39 := z0 H
             clear H
             obtain ⟨hcz40_0, hcz40_1, hcz40_2, hcz40_3, hcz40_4, hcz40_5, hcz40_6, hcz40_7, hcz40_8, hcz40_9, hfz40_0, hfz40_1, hfz40_2, hfz40_3, hfz40_4, hfz40_5, hfz40_6, hfz40_7, hfz40_8, hfz40_9⟩ := cel10 BK332.out
             go_upto_if 91 with (first | (go_at_call 30; (with_reducible refine (spec_ExprOk.calls kj7 ((rd_T35 l0 x5_2).f2.f0) ((rd_T35 l0 x5_2).f2.f1) ((rd_T35 l0 x5_2).f2.f2.f0) ((rd_T35 l0 x5_2).f2.f2.f1) _ _ ((rd_T35 l0 x5_2).f2.f3) true _ ?side1 ?side2 A34.out).mono ?_); (case side1 => exact mC (Kd.C_below HR331_7.out HB.out)); (case side2 => exact HC331_7.out); rintro e w41 ⟨rfl, hb⟩; have n_ := az (bB BK332.out hb) <| z0 (below_step (mB HB.out) hb); clear BK332 HB; obtain ⟨BK332, HB⟩ := n_; clear hb; obtain ⟨hcz42_0, hcz42_1, hcz42_2, hcz42_3, hcz42_4, hcz42_5, hcz42_6, hcz42_7, hcz42_8, hcz42_9, hfz42_0, hfz42_1, hfz42_2, hfz42_3, hfz42_4, hfz42_5, hfz42_6, hfz42_7, hfz42_8, hfz42_9⟩ := cel10 BK332.out) | (go_at_call 44; (with_reducible refine (ih kj7 (by have := HJ2.out; have := HK2.out; have := HJ7.out; omega) _ _ ((rd_T35 l0 x5_2).f3) (wrap64 (a1 - 1)) true _ ?side1 ?side2 A36.out).mono ?_); (case side1 => exact mC (Kd.C_below HR331_8.out HB.out)); (case side2 => exact HC331_8.out); rintro e w43 ⟨rfl, hb⟩; have n_ := az (bB BK332.out hb) <| z0 (below_step (mB HB.out) hb); clear BK332 HB; obtain ⟨BK332, HB⟩ := n_; clear hb; obtain ⟨hcz44_0, hcz44_1, hcz44_2, hcz44_3, hcz44_4, hcz44_5, hcz44_6, hcz44_7, hcz44_8, hcz44_9, hfz44_0, hfz44_1, hfz44_2, hfz44_3, hfz44_4, hfz44_5, hfz44_6, hfz44_7, hfz44_8, hfz44_9⟩ := cel10 BK332.out) | (go_at_call 44; (with_reducible refine (ih kj7 (by have := HJ2.out; have := HK2.out; have := HJ7.out; omega) _ _ ((rd_T35 l0 x5_2).f4) (wrap64 (a1 - 1)) t336 _ ?side1 ?side2 A38.out).mono ?_); (case side1 => exact mC (Kd.C_below HR331_9.out HB.out)); (case side2 => exact HC331_9.out); rintro e w45 ⟨rfl, hb⟩; have n_ := az (bB BK332.out hb) <| z0 (below_step (mB HB.out) hb); clear BK332 HB; obtain ⟨BK332, HB⟩ := n_; clear hb))
             (try simp only [Act.put, List.setIfInBounds_toArray, List.set_cons_zero, List.set_cons_succ])
             have H := HF39.out
             clear HF39
             (try clear c5); (try clear c6); (try clear c6b0); (try clear c7); (try clear c7b0); (try clear c33); (try clear c35); (try clear c37); (try clear hcz10_0); (try clear hcz10_1); (try clear hcz10_2); (try clear hcz10_3); (try clear hcz10_4); (try clear hcz10_5); (try clear hcz10_6); (try clear hcz10_7); (try clear hcz10_8); (try clear hcz10_9); (try clear hcz40_0); (try clear hcz40_1); (try clear hcz40_2); (try clear hcz40_3); (try clear hcz40_4); (try clear hcz40_5); (try clear hcz40_6); (try clear hcz40_7); (try clear hcz40_8); (try clear hcz40_9); (try clear hcz42_0); (try clear hcz42_1); (try clear hcz42_2); (try clear hcz42_3); (try clear hcz42_4); (try clear hcz42_5); (try clear hcz42_6); (try clear hcz42_7); (try clear hcz42_8); (try clear hcz42_9); (try clear hcz44_0); (try clear hcz44_1); (try clear hcz44_2); (try clear hcz44_3); (try clear hcz44_4); (try clear hcz44_5); (try clear hcz44_6); (try clear hcz44_7); (try clear hcz44_8); (try clear hcz44_9); (try clear hfz10_0); (try clear hfz10_1); (try clear hfz10_2); (try clear hfz10_3); (try clear hfz10_4); (try clear hfz10_5); (try clear hfz10_6); (try clear hfz10_7); (try clear hfz10_8); (try clear hfz10_9); (try clear hfz40_0); (try clear hfz40_1); (try clear hfz40_2); (try clear hfz40_3); (try clear hfz40_4); (try clear hfz40_5); (try clear hfz40_6); (try clear hfz40_7); (try clear hfz40_8); (try clear hfz40_9); (try clear hfz42_0); (try clear hfz42_1); (try clear hfz42_2); (try clear hfz42_3); (try clear hfz42_4); (try clear hfz42_5); (try clear hfz42_6); (try clear hfz42_7); (try clear hfz42_8); (try clear hfz42_9); (try clear hfz44_0); (try clear hfz44_1); (try clear hfz44_2); (try clear hfz44_3); (try clear hfz44_4); (try clear hfz44_5); (try clear hfz44_6); (try clear hfz44_7); (try clear hfz44_8); (try clear hfz44_9); (try clear hx331_0); (try clear hx331_1); (try clear hx331_2); (try clear hx331_3); (try clear hx331_4); (try clear hx331_5); (try clear hx331_6); (try clear hx331_7); (try clear hx331_8); (try clear hx331_9); (try clear p331); (try clear q331)
             by_cases c46 : t336 = true
             ·subst c46
              have H1 : (spec_l4Form.l0 kj7 l0 a1 (wrap64 (x5_2 + 1))) = some r := by rw [if_pos rfl] at H; exact H
              clear H
              have H := H1
              clear H1
              have H' := z0 H
              clear H
              go_wp2
              go_roundg kj7
              case measure => have := HJ2.out; have := HK2.out; have := HJ7.out; omega
              case rel => exact ⟨(wrap64 (x5_2 + 1)), rfy, H', ⟨by have := HJ2.out; have := HK2.out; have := HJ7.out; omega⟩, ⟨mB HB.out⟩⟩
             ·replace c46 := Bool.eq_false_iff.mpr c46
              subst c46
              have H1 : (some false) = some r := by rw [if_neg (show ¬ (false = true) by decide)] at H; exact H
              clear H
              have H := H1
              clear H1
              obtain rfl := Option.some.inj H
              go_wp2
              go_ret
              exact ⟨rfx, mB HB.out⟩
            ·replace c37 := Bool.eq_false_iff.mpr c37
             subst c37
             have H1 : (some false) = some r := by rw [if_neg (show ¬ (false = true) by decide)] at H; exact H
             clear H
             have H := H1
             clear H1
             obtain rfl := Option.some.inj H
             obtain ⟨hcz47_0, hcz47_1, hcz47_2, hcz47_3, hcz47_4, hcz47_5, hcz47_6, hcz47_7, hcz47_8, hcz47_9, hfz47_0, hfz47_1, hfz47_2, hfz47_3, hfz47_4, hfz47_5, hfz47_6, hfz47_7, hfz47_8, hfz47_9⟩ := cel10 BK332.out
             go_wp2_with (first | (go_at_call 30; (with_reducible refine (spec_ExprOk.calls kj7 ((rd_T35 l0 x5_2).f2.f0) ((rd_T35 l0 x5_2).f2.f1) ((rd_T35 l0 x5_2).f2.f2.f0) ((rd_T35 l0 x5_2).f2.f2.f1) _ _ ((rd_T35 l0 x5_2).f2.f3) true _ ?side1 ?side2 A34.out).mono ?_); (case side1 => exact mC (Kd.C_below HR331_7.out HB.out)); (case side2 => exact HC331_7.out); rintro e w48 ⟨rfl, hb⟩; have n_ := az (bB BK332.out hb) <| z0 (below_step (mB HB.out) hb); clear BK332 HB; obtain ⟨BK332, HB⟩ := n_; clear hb; obtain ⟨hcz49_0, hcz49_1, hcz49_2, hcz49_3, hcz49_4, hcz49_5, hcz49_6, hcz49_7, hcz49_8, hcz49_9, hfz49_0, hfz49_1, hfz49_2, hfz49_3, hfz49_4, hfz49_5, hfz49_6, hfz49_7, hfz49_8, hfz49_9⟩ := cel10 BK332.out) | (go_at_call 44; (with_reducible refine (ih kj7 (by have := HJ2.out; have := HK2.out; have := HJ7.out; omega) _ _ ((rd_T35 l0 x5_2).f3) (wrap64 (a1 - 1)) false _ ?side1 ?side2 A36.out).mono ?_); (case side1 => exact mC (Kd.C_below HR331_8.out HB.out)); (case side2 => exact HC331_8.out); rintro e w50 ⟨rfl, hb⟩; have n_ := az (bB BK332.out hb) <| z0 (below_step (mB HB.out) hb); clear BK332 HB; obtain ⟨BK332, HB⟩ := n_; clear hb))
             go_ret
             exact ⟨rfx, mB HB.out⟩
           ·replace c35 := Bool.eq_false_iff.mpr c35
            subst c35
            have H1 : (some false) = some r := by rw [if_neg (show ¬ (false = true) by decide)] at H; exact H
            clear H
            have H := H1
            clear H1
            obtain rfl := Option.some.inj H
            obtain ⟨hcz51_0, hcz51_1, hcz51_2, hcz51_3, hcz51_4, hcz51_5, hcz51_6, hcz51_7, hcz51_8, hcz51_9, hfz51_0, hfz51_1, hfz51_2, hfz51_3, hfz51_4, hfz51_5, hfz51_6, hfz51_7, hfz51_8, hfz51_9⟩ := cel10 BK332.out
            go_wp2_with (first | (go_at_call 30; (with_reducible refine (spec_ExprOk.calls kj7 ((rd_T35 l0 x5_2).f2.f0) ((rd_T35 l0 x5_2).f2.f1) ((rd_T35 l0 x5_2).f2.f2.f0) ((rd_T35 l0 x5_2).f2.f2.f1) _ _ ((rd_T35 l0 x5_2).f2.f3) false _ ?side1 ?side2 A34.out).mono ?_); (case side1 => exact mC (Kd.C_below HR331_7.out HB.out)); (case side2 => exact HC331_7.out); rintro e w52 ⟨rfl, hb⟩; have n_ := az (bB BK332.out hb) <| z0 (below_step (mB HB.out) hb); clear BK332 HB; obtain ⟨BK332, HB⟩ := n_; clear hb))
            go_ret
            exact ⟨rfx, mB HB.out⟩
          ·replace c33 := Bool.eq_false_iff.mpr c33
           subst c33
           have H1 : (some false) = some r := by rw [if_neg (show ¬ (false = true) by decide)] at H; exact H
           clear H
           have H := H1
           clear H1
           obtain rfl := Option.some.inj H
           go_wp2
           go_ret
           exact ⟨rfx, mB HB.out⟩
       ·rw [if_neg c7] at H
        exact absurd H (by simp)
      ·rw [if_neg c6] at H
       have c6b0 : decide (x5_2 < (l0.length : Int)) = false := decide_eq_false c6
       clear c6
       obtain rfl := Option.some.inj H
       go_wp2
       go_ret
       exact ⟨rfx, mB HB.out⟩

end Go.Proofs.YtendbgedpjcocaaGreatDoor.B
namespace Go.Proofs.YtendbgedpjcocaaGreatDoor.B
open Go.RowKit Go.Proofs.YtendbgedpjcocaaGreatDoorW.PrintWords Go.Proofs.YtendbgedpjcocaaGreatDoorW.PrintLast Go.Proofs.YtendbgedpjcocaaGreatDoorW.PrintMore
attribute [local go_sem] max2_int min2_int max_two min_two max_three min_three max_four min_four   -- for this text's walks alone
set_option linter.unusedVariables false
set_option linter.unusedSimpArgs false

/-! ### spec_StmtsOk: function 16 -/
def spec_StmtsOk.f (k : Nat) (l0 : List (S35)) : Option (Bool) := (spec_l4Many.f k l0 4).bind fun t337 => (if t337 ≤ 16 then ((spec_l4Form.f k l0 4).bind fun t338 => (some t338)) else (some false))
set_option maxHeartbeats 8000000 in
set_option maxRecDepth 100000 in
theorem spec_StmtsOk.calls (k : Nat) (A0 : Option Addr) (c0 : Nat) (l0 : List (S35)) (r : Bool) (w : World) (hr0 : Kd.C k35 w A0 l0.length l0) (hc0 : l0.length ≤ c0) (h : spec_StmtsOk.f k l0 = some r) :
  Calls Tryz.prog 16 #[.slice A0 l0.length c0] w fun e w' => e = .returned (.bool r) ∧ Below w.heap.size w w' := by
 have HR0 := z0 hr0
 have HC0 := z0 hc0
 clear hr0 hc0
 have HB := z0 (Below.refl w.heap.size w)
 have H : ((spec_l4Many.f k l0 4).bind fun t337 => (if t337 ≤ 16 then ((spec_l4Form.f k l0 4).bind fun t338 => (some t338)) else (some false))) = some r := h
 clear h
 replace H := Option.bind_eq_some_iff.mp H
 obtain ⟨t337, A20, H⟩ := H
 try dsimp only at H
 have A2 := z0 A20
 clear A20
 by_cases c3 : t337 ≤ 16
 ·rw [if_pos c3] at H
  have c3b0 : decide (t337 ≤ 16) = true := decide_eq_true c3
  clear c3
  replace H := Option.bind_eq_some_iff.mp H
  obtain ⟨t338, A40, H⟩ := H
  try dsimp only at H
  have A4 := z0 A40
  clear A40
  obtain rfl := Option.some.inj H
  go_enter Tryz.func16, Tryz.ntmps16
  go_wp2_with (first | ((with_reducible refine gate_callee (f := 43) rfl ?_); refine goesL_ (some 4) rfl rfl Tryz.func43 (by kernel_rfl) rfl #[.slice A0 l0.length c0, .int .i64 4] rfl argx ?_; (with_reducible refine (spec_l4Many.calls k _ _ l0 4 t337 _ ?side1 ?side2 A2.out).mono ?_); (case side1 => exact mC HR0.out); (case side2 => exact HC0.out); rintro e w5 ⟨rfl, hb⟩; refine ⟨_, rfl, ?_⟩; have n0_ := z0 (below_step (mB HB.out) hb); clear HB; have HB := n0_; clear n0_; (try clear hb); (try clear hb2); (try clear hk); (try clear hi)) | (go_at_call 44; (with_reducible refine (spec_l4Form.calls k _ _ l0 4 t338 _ ?side1 ?side2 A4.out).mono ?_); (case side1 => exact mC (Kd.C_below HR0.out HB.out)); (case side2 => exact HC0.out); rintro e w6 ⟨rfl, hb⟩; have n0_ := z0 (below_step (mB HB.out) hb); clear HB; have HB := n0_; clear n0_; (try clear hb); (try clear hb2); (try clear hk); (try clear hi)))
  go_ret
  exact ⟨rfx, mB HB.out⟩
 ·rw [if_neg c3] at H
  have c3b0 : decide (t337 ≤ 16) = false := decide_eq_false c3
  clear c3
  obtain rfl := Option.some.inj H
  go_enter Tryz.func16, Tryz.ntmps16
  go_wp2_with (first | ((with_reducible refine gate_callee (f := 43) rfl ?_); refine goesL_ (some 4) rfl rfl Tryz.func43 (by kernel_rfl) rfl #[.slice A0 l0.length c0, .int .i64 4] rfl argx ?_; (with_reducible refine (spec_l4Many.calls k _ _ l0 4 t337 _ ?side1 ?side2 A2.out).mono ?_); (case side1 => exact mC HR0.out); (case side2 => exact HC0.out); rintro e w7 ⟨rfl, hb⟩; refine ⟨_, rfl, ?_⟩; have n0_ := z0 (below_step (mB HB.out) hb); clear HB; have HB := n0_; clear n0_; (try clear hb); (try clear hb2); (try clear hk); (try clear hi)))
  go_ret
  exact ⟨rfx, mB HB.out⟩

/-! ### impl_NumOn: function 22 -/
def impl_NumOn.f (a0 : Int) : Option (Bool) := some (a0 != 0)
set_option maxHeartbeats 8000000 in
set_option maxRecDepth 100000 in
theorem impl_NumOn.calls (a0 : Int) (r : Bool) (w : World) (h : impl_NumOn.f a0 = some r) :
  Calls Tryz.prog 22 #[.int .i64 a0] w fun e w' => e = .returned (.bool r) ∧ Drawn0 w w' := by
 have H : (some (a0 != 0)) = some r := h
 clear h
 obtain rfl := Option.some.inj H
 go_enter Tryz.func22, Tryz.ntmps22
 go_wp2
 go_ret
 exact ⟨by first | rfl | (simp; done) | (simp [*]; done), by repeat (first | exact Drawn0.refl _ | apply Drawn0.step)⟩

/-! ### impl_NumCut: function 78 -/
def impl_NumCut.f (a0 : Int) : Option (Int) := some (mn (mx a0 (-1000000)) 1000000)
set_option maxHeartbeats 8000000 in
set_option maxRecDepth 100000 in
theorem impl_NumCut.calls (a0 : Int) (r : Int) (w : World) (h : impl_NumCut.f a0 = some r) :
  Calls Tryz.prog 78 #[.int .i64 a0] w fun e w' => e = .returned (.int .i64 r) ∧ Below w.heap.size w w' := by
 have HB := z0 (Below.refl w.heap.size w)
 have H : (some (mn (mx a0 (-1000000)) 1000000)) = some r := h
 clear h
 obtain ⟨ji2, hji2⟩ : ∃ j_ : Int, (mx a0 (-1000000)) = j_ := ⟨_, rfl⟩
 replace H : (some (mn (ji2) 1000000)) = some r := by first | (rw [hji2] at H; exact H) | (simp only [hji2] at H ⊢; exact H)
 have hji2_ : (if a0 < (-1000000) then (-1000000) else a0) = ji2 := hji2
 obtain ⟨ji3, hji3⟩ : ∃ j_ : Int, (mn (ji2) 1000000) = j_ := ⟨_, rfl⟩
 replace H : (some ji3) = some r := by first | (rw [hji3] at H; exact H) | (simp only [hji3] at H ⊢; exact H)
 have hji3_ : (if 1000000 < (ji2) then 1000000 else (ji2)) = ji3 := hji3
 obtain rfl := Option.some.inj H
 go_enter Tryz.func78, Tryz.ntmps78
 go_wp2
 go_ret
 exact ⟨by first | rfl | (simp [errW_none, errW_some] <;> rfl) | (simp only [← hji2, ← hji3]; first | rfl | (simp [errW_none, errW_some] <;> rfl)) | (simp [*, errW_none, errW_some] <;> rfl), mB HB.out⟩

/-! ### impl_maker_of: function 151 -/
def impl_maker_of.f (a0 : Int) (a1 : Int) (a2 : Int) : Option (Int) := (impl_NumCut.f a1).bind fun t1377 => ((impl_NumCut.f a2).bind fun t1378 => (if a0 = 0 then ((impl_NumCut.f (wrap64 (t1377 + t1378))).bind fun t1379 => (some t1379)) else (if a0 = 1 then ((impl_NumCut.f (wrap64 (t1377 - t1378))).bind fun t1380 => (some t1380)) else ((impl_NumCut.f (wrap64 (t1377 * t1378))).bind fun t1381 => (some t1381)))))
set_option maxHeartbeats 8000000 in
set_option maxRecDepth 100000 in
theorem impl_maker_of.calls (a0 : Int) (a1 : Int) (a2 : Int) (r : Int) (w : World) (h : impl_maker_of.f a0 a1 a2 = some r) :
  Calls Tryz.prog 151 #[.int .i64 a0, .int .i64 a1, .int .i64 a2] w fun e w' => e = .returned (.int .i64 r) ∧ Below w.heap.size w w' := by
 have HB := z0 (Below.refl w.heap.size w)
 have H : ((impl_NumCut.f a1).bind fun t1377 => ((impl_NumCut.f a2).bind fun t1378 => (if a0 = 0 then ((impl_NumCut.f (wrap64 (t1377 + t1378))).bind fun t1379 => (some t1379)) else (if a0 = 1 then ((impl_NumCut.f (wrap64 (t1377 - t1378))).bind fun t1380 => (some t1380)) else ((impl_NumCut.f (wrap64 (t1377 * t1378))).bind fun t1381 => (some t1381)))))) = some r := h
 clear h
 replace H := Option.bind_eq_some_iff.mp H
 obtain ⟨t1377, A40, H⟩ := H
 try dsimp only at H
 have A4 := z0 A40
 clear A40
 replace H := Option.bind_eq_some_iff.mp H
 obtain ⟨t1378, A50, H⟩ := H
 try dsimp only at H
 have A5 := z0 A50
 clear A50
 have HF6 := z0 H
 clear H
 go_enter Tryz.func151, Tryz.ntmps151
 go_upto_if 12 with (first | ((with_reducible refine gate_callee (f := 78) rfl ?_); refine goesL_ (some 8) rfl rfl Tryz.func78 (by kernel_rfl) rfl #[.int .i64 a1] rfl argx ?_; (with_reducible refine (impl_NumCut.calls a1 t1377 _ A4.out).mono ?_); rintro e w7 ⟨rfl, hb⟩; refine ⟨_, rfl, ?_⟩; have n0_ := z0 (below_step (mB HB.out) hb); clear HB; have HB := n0_; clear n0_; (try clear hb); (try clear hb2); (try clear hk); (try clear hi)) | ((with_reducible refine gate_callee (f := 78) rfl ?_); refine goesL_ (some 10) rfl rfl Tryz.func78 (by kernel_rfl) rfl #[.int .i64 a2] rfl argx ?_; (with_reducible refine (impl_NumCut.calls a2 t1378 _ A5.out).mono ?_); rintro e w8 ⟨rfl, hb⟩; refine ⟨_, rfl, ?_⟩; have n0_ := z0 (below_step (mB HB.out) hb); clear HB; have HB := n0_; clear n0_; (try clear hb); (try clear hb2); (try clear hk); (try clear hi)))
 (try simp only [Act.put, List.setIfInBounds_toArray, List.set_cons_zero, List.set_cons_succ])
 have H := HF6.out
 clear HF6
 skip
 by_cases c9 : a0 = 0
 ·rw [if_pos c9] at H
  have c9b0 : (a0 == 0) = true := beq_iff_eq.mpr c9
  have c9b1 : (a0 != 0) = false := bne_eq_false_iff_eq.mpr c9
  clear c9
  (first | rw [c9b0] | (simp only [i64_w, i32_w]; rw [c9b0]) | skip)
  replace H := Option.bind_eq_some_iff.mp H
  obtain ⟨t1379, A100, H⟩ := H
  try dsimp only at H
  have A10 := z0 A100
  clear A100
  obtain rfl := Option.some.inj H
  go_wp2_with (first | ((with_reducible refine gate_callee (f := 78) rfl ?_); refine goesL_ (some 17) rfl rfl Tryz.func78 (by kernel_rfl) rfl #[.int .i64 (wrap64 (t1377 + t1378))] rfl argx ?_; (with_reducible refine (impl_NumCut.calls (wrap64 (t1377 + t1378)) t1379 _ A10.out).mono ?_); rintro e w11 ⟨rfl, hb⟩; refine ⟨_, rfl, ?_⟩; have n0_ := z0 (below_step (mB HB.out) hb); clear HB; have HB := n0_; clear n0_; (try clear hb); (try clear hb2); (try clear hk); (try clear hi)))
  go_ret
  exact ⟨rfx, mB HB.out⟩
 ·rw [if_neg c9] at H
  have c9b0 : (a0 == 0) = false := beq_eq_false_iff_ne.mpr c9
  have c9b1 : (a0 != 0) = true := bne_iff_ne.mpr c9
  (first | rw [c9b0] | (simp only [i64_w, i32_w]; rw [c9b0]) | skip)
  by_cases c12 : a0 = 1
  ·rw [if_pos c12] at H
   have c12b0 : (a0 == 1) = true := beq_iff_eq.mpr c12
   have c12b1 : (a0 != 1) = false := bne_eq_false_iff_eq.mpr c12
   clear c12
   replace H := Option.bind_eq_some_iff.mp H
   obtain ⟨t1380, A130, H⟩ := H
   try dsimp only at H
   have A13 := z0 A130
   clear A130
   obtain rfl := Option.some.inj H
   go_wp2_with (first | ((with_reducible refine gate_callee (f := 78) rfl ?_); refine goesL_ (some 23) rfl rfl Tryz.func78 (by kernel_rfl) rfl #[.int .i64 (wrap64 (t1377 - t1378))] rfl argx ?_; (with_reducible refine (impl_NumCut.calls (wrap64 (t1377 - t1378)) t1380 _ A13.out).mono ?_); rintro e w14 ⟨rfl, hb⟩; refine ⟨_, rfl, ?_⟩; have n0_ := z0 (below_step (mB HB.out) hb); clear HB; have HB := n0_; clear n0_; (try clear hb); (try clear hb2); (try clear hk); (try clear hi)))
   go_ret
   exact ⟨rfx, mB HB.out⟩
  ·rw [if_neg c12] at H
   have c12b0 : (a0 == 1) = false := beq_eq_false_iff_ne.mpr c12
   have c12b1 : (a0 != 1) = true := bne_iff_ne.mpr c12
   replace H := Option.bind_eq_some_iff.mp H
   obtain ⟨t1381, A150, H⟩ := H
   try dsimp only at H
   have A15 := z0 A150
   clear A150
   obtain rfl := Option.some.inj H
   go_wp2_with (first | ((with_reducible refine gate_callee (f := 78) rfl ?_); refine goesL_ (some 27) rfl rfl Tryz.func78 (by kernel_rfl) rfl #[.int .i64 (wrap64 (t1377 * t1378))] rfl argx ?_; (with_reducible refine (impl_NumCut.calls (wrap64 (t1377 * t1378)) t1381 _ A15.out).mono ?_); rintro e w16 ⟨rfl, hb⟩; refine ⟨_, rfl, ?_⟩; have n0_ := z0 (below_step (mB HB.out) hb); clear HB; have HB := n0_; clear n0_; (try clear hb); (try clear hb2); (try clear hk); (try clear hi)))
   go_ret
   exact ⟨rfx, mB HB.out⟩

/-! ### impl_NumAdd: function 147 -/
def impl_NumAdd.f (a0 : Int) (a1 : Int) : Option (Int) := (impl_maker_of.f 0 a0 a1).bind fun t1382 => (some t1382)
set_option maxHeartbeats 8000000 in
set_option maxRecDepth 100000 in
theorem impl_NumAdd.calls (a0 : Int) (a1 : Int) (r : Int) (w : World) (h : impl_NumAdd.f a0 a1 = some r) :
  Calls Tryz.prog 147 #[.int .i64 a0, .int .i64 a1] w fun e w' => e = .returned (.int .i64 r) ∧ Below w.heap.size w w' := by
 have HB := z0 (Below.refl w.heap.size w)
 have H : ((impl_maker_of.f 0 a0 a1).bind fun t1382 => (some t1382)) = some r := h
 clear h
 replace H := Option.bind_eq_some_iff.mp H
 obtain ⟨t1382, A30, H⟩ := H
 try dsimp only at H
 have A3 := z0 A30
 clear A30
 obtain rfl := Option.some.inj H
 go_enter Tryz.func147, Tryz.ntmps147
 go_wp2_with (first | ((with_reducible refine gate_callee (f := 151) rfl ?_); refine goesL_ (some 7) rfl rfl Tryz.func151 (by kernel_rfl) rfl #[.int .i64 0, .int .i64 a0, .int .i64 a1] rfl argx ?_; (with_reducible refine (impl_maker_of.calls 0 a0 a1 t1382 _ A3.out).mono ?_); rintro e w4 ⟨rfl, hb⟩; refine ⟨_, rfl, ?_⟩; have n0_ := z0 (below_step (mB HB.out) hb); clear HB; have HB := n0_; clear n0_; (try clear hb); (try clear hb2); (try clear hk); (try clear hi)))
 go_ret
 exact ⟨rfx, mB HB.out⟩

/-! ### impl_NumSub: function 148 -/
def impl_NumSub.f (a0 : Int) (a1 : Int) : Option (Int) := (impl_maker_of.f 1 a0 a1).bind fun t1383 => (some t1383)
set_option maxHeartbeats 8000000 in
set_option maxRecDepth 100000 in
theorem impl_NumSub.calls (a0 : Int) (a1 : Int) (r : Int) (w : World) (h : impl_NumSub.f a0 a1 = some r) :
  Calls Tryz.prog 148 #[.int .i64 a0, .int .i64 a1] w fun e w' => e = .returned (.int .i64 r) ∧ Below w.heap.size w w' := by
 have HB := z0 (Below.refl w.heap.size w)
 have H : ((impl_maker_of.f 1 a0 a1).bind fun t1383 => (some t1383)) = some r := h
 clear h
 replace H := Option.bind_eq_some_iff.mp H
 obtain ⟨t1383, A30, H⟩ := H
 try dsimp only at H
 have A3 := z0 A30
 clear A30
 obtain rfl := Option.some.inj H
 go_enter Tryz.func148, Tryz.ntmps148
 go_wp2_with (first | ((with_reducible refine gate_callee (f := 151) rfl ?_); refine goesL_ (some 7) rfl rfl Tryz.func151 (by kernel_rfl) rfl #[.int .i64 1, .int .i64 a0, .int .i64 a1] rfl argx ?_; (with_reducible refine (impl_maker_of.calls 1 a0 a1 t1383 _ A3.out).mono ?_); rintro e w4 ⟨rfl, hb⟩; refine ⟨_, rfl, ?_⟩; have n0_ := z0 (below_step (mB HB.out) hb); clear HB; have HB := n0_; clear n0_; (try clear hb); (try clear hb2); (try clear hk); (try clear hi)))
 go_ret
 exact ⟨rfx, mB HB.out⟩

/-! ### impl_NumMul: function 149 -/
def impl_NumMul.f (a0 : Int) (a1 : Int) : Option (Int) := (impl_maker_of.f 2 a0 a1).bind fun t1384 => (some t1384)
set_option maxHeartbeats 8000000 in
set_option maxRecDepth 100000 in
theorem impl_NumMul.calls (a0 : Int) (a1 : Int) (r : Int) (w : World) (h : impl_NumMul.f a0 a1 = some r) :
  Calls Tryz.prog 149 #[.int .i64 a0, .int .i64 a1] w fun e w' => e = .returned (.int .i64 r) ∧ Below w.heap.size w w' := by
 have HB := z0 (Below.refl w.heap.size w)
 have H : ((impl_maker_of.f 2 a0 a1).bind fun t1384 => (some t1384)) = some r := h
 clear h
 replace H := Option.bind_eq_some_iff.mp H
 obtain ⟨t1384, A30, H⟩ := H
 try dsimp only at H
 have A3 := z0 A30
 clear A30
 obtain rfl := Option.some.inj H
 go_enter Tryz.func149, Tryz.ntmps149
 go_wp2_with (first | ((with_reducible refine gate_callee (f := 151) rfl ?_); refine goesL_ (some 7) rfl rfl Tryz.func151 (by kernel_rfl) rfl #[.int .i64 2, .int .i64 a0, .int .i64 a1] rfl argx ?_; (with_reducible refine (impl_maker_of.calls 2 a0 a1 t1384 _ A3.out).mono ?_); rintro e w4 ⟨rfl, hb⟩; refine ⟨_, rfl, ?_⟩; have n0_ := z0 (below_step (mB HB.out) hb); clear HB; have HB := n0_; clear n0_; (try clear hb); (try clear hb2); (try clear hk); (try clear hi)))
 go_ret
 exact ⟨rfx, mB HB.out⟩

/-! ### impl_NumIs: function 150 -/
def impl_NumIs.f (a0 : Bool) : Option (Int) := if a0 = true then (some 1) else (some 0)
set_option maxHeartbeats 8000000 in
set_option maxRecDepth 100000 in
theorem impl_NumIs.calls (a0 : Bool) (r : Int) (w : World) (h : impl_NumIs.f a0 = some r) :
  Calls Tryz.prog 150 #[.bool a0] w fun e w' => e = .returned (.int .i64 r) ∧ Drawn0 w w' := by
 have H : (if a0 = true then (some 1) else (some 0)) = some r := h
 clear h
 by_cases c2 : a0 = true
 ·subst c2
  have H1 : (some 1) = some r := by rw [if_pos rfl] at H; exact H
  clear H
  have H := H1
  clear H1
  obtain rfl := Option.some.inj H
  go_enter Tryz.func150, Tryz.ntmps150
  go_wp2
  go_ret
  exact ⟨by first | rfl | (simp; done) | (simp [*]; done), by repeat (first | exact Drawn0.refl _ | apply Drawn0.step)⟩
 ·replace c2 := Bool.eq_false_iff.mpr c2
  subst c2
  have H1 : (some 0) = some r := by rw [if_neg (show ¬ (false = true) by decide)] at H; exact H
  clear H
  have H := H1
  clear H1
  obtain rfl := Option.some.inj H
  go_enter Tryz.func150, Tryz.ntmps150
  go_wp2
  go_ret
  exact ⟨by first | rfl | (simp; done) | (simp [*]; done), by repeat (first | exact Drawn0.refl _ | apply Drawn0.step)⟩

/-! ### impl_two: function 146 -/
def impl_two.f (a0 : Int) (a1 : Int) (a2 : Int) : Option (Int) := if a0 = 3 then ((impl_NumAdd.f a1 a2).bind fun t1385 => (some t1385)) else (if a0 = 4 then ((impl_NumSub.f a1 a2).bind fun t1386 => (some t1386)) else (if a0 = 5 then ((impl_NumMul.f a1 a2).bind fun t1387 => (some t1387)) else (if a0 = 6 then ((impl_NumIs.f (decide (a1 < a2))).bind fun t1388 => (some t1388)) else (if a0 = 7 then ((impl_NumIs.f (a1 == a2)).bind fun t1389 => (some t1389)) else (if a0 = 8 then ((impl_NumOn.f a1).bind fun t1390 => (if t1390 = true then ((impl_NumOn.f a2).bind fun t1391 => ((impl_NumIs.f t1391).bind fun t1392 => (some t1392))) else ((impl_NumIs.f false).bind fun t1393 => (some t1393)))) else ((impl_NumOn.f a1).bind fun t1394 => (if t1394 = true then ((impl_NumIs.f true).bind fun t1395 => (some t1395)) else ((impl_NumOn.f a2).bind fun t1396 => ((impl_NumIs.f t1396).bind fun t1397 => (some t1397))))))))))
set_option maxHeartbeats 8000000 in
set_option maxRecDepth 100000 in
theorem impl_two.calls (a0 : Int) (a1 : Int) (a2 : Int) (r : Int) (w : World) (h : impl_two.f a0 a1 a2 = some r) :
  Calls Tryz.prog 146 #[.int .i64 a0, .int .i64 a1, .int .i64 a2] w fun e w' => e = .returned (.int .i64 r) ∧ Below w.heap.size w w' := by
 have HB := z0 (Below.refl w.heap.size w)
 have H : (if a0 = 3 then ((impl_NumAdd.f a1 a2).bind fun t1385 => (some t1385)) else (if a0 = 4 then ((impl_NumSub.f a1 a2).bind fun t1386 => (some t1386)) else (if a0 = 5 then ((impl_NumMul.f a1 a2).bind fun t1387 => (some t1387)) else (if a0 = 6 then ((impl_NumIs.f (decide (a1 < a2))).bind fun t1388 => (some t1388)) else (if a0 = 7 then ((impl_NumIs.f (a1 == a2)).bind fun t1389 => (some t1389)) else (if a0 = 8 then ((impl_NumOn.f a1).bind fun t1390 => (if t1390 = true then ((impl_NumOn.f a2).bind fun t1391 => ((impl_NumIs.f t1391).bind fun t1392 => (some t1392))) else ((impl_NumIs.f false).bind fun t1393 => (some t1393)))) else ((impl_NumOn.f a1).bind fun t1394 => (if t1394 = true then ((impl_NumIs.f true).bind fun t1395 => (some t1395)) else ((impl_NumOn.f a2).bind fun t1396 => ((impl_NumIs.f t1396).bind fun t1397 => (some t1397))))))))))) = some r := h
 clear h
 by_cases c4 : a0 = 3
 ·rw [if_pos c4] at H
  have c4b0 : (a0 == 3) = true := beq_iff_eq.mpr c4
  have c4b1 : (a0 != 3) = false := bne_eq_false_iff_eq.mpr c4
  clear c4
  replace H := Option.bind_eq_some_iff.mp H
  obtain ⟨t1385, A50, H⟩ := H
  try dsimp only at H
  have A5 := z0 A50
  clear A50
  obtain rfl := Option.some.inj H
  go_enter Tryz.func146, Tryz.ntmps146
  go_wp2_with (first | ((with_reducible refine gate_callee (f := 147) rfl ?_); refine goesL_ (some 12) rfl rfl Tryz.func147 (by kernel_rfl) rfl #[.int .i64 a1, .int .i64 a2] rfl argx ?_; (with_reducible refine (impl_NumAdd.calls a1 a2 t1385 _ A5.out).mono ?_); rintro e w6 ⟨rfl, hb⟩; refine ⟨_, rfl, ?_⟩; have n0_ := z0 (below_step (mB HB.out) hb); clear HB; have HB := n0_; clear n0_; (try clear hb); (try clear hb2); (try clear hk); (try clear hi)))
  go_ret
  exact ⟨rfx, mB HB.out⟩
 ·rw [if_neg c4] at H
  have c4b0 : (a0 == 3) = false := beq_eq_false_iff_ne.mpr c4
  have c4b1 : (a0 != 3) = true := bne_iff_ne.mpr c4
  by_cases c7 : a0 = 4
  ·rw [if_pos c7] at H
   have c7b0 : (a0 == 4) = true := beq_iff_eq.mpr c7
   have c7b1 : (a0 != 4) = false := bne_eq_false_iff_eq.mpr c7
   clear c7
   replace H := Option.bind_eq_some_iff.mp H
   obtain ⟨t1386, A80, H⟩ := H
   try dsimp only at H
   have A8 := z0 A80
   clear A80
   obtain rfl := Option.some.inj H
   go_enter Tryz.func146, Tryz.ntmps146
   go_wp2_with (first | ((with_reducible refine gate_callee (f := 148) rfl ?_); refine goesL_ (some 17) rfl rfl Tryz.func148 (by kernel_rfl) rfl #[.int .i64 a1, .int .i64 a2] rfl argx ?_; (with_reducible refine (impl_NumSub.calls a1 a2 t1386 _ A8.out).mono ?_); rintro e w9 ⟨rfl, hb⟩; refine ⟨_, rfl, ?_⟩; have n0_ := z0 (below_step (mB HB.out) hb); clear HB; have HB := n0_; clear n0_; (try clear hb); (try clear hb2); (try clear hk); (try clear hi)))
   go_ret
   exact ⟨rfx, mB HB.out⟩
  ·rw [if_neg c7] at H
   have c7b0 : (a0 == 4) = false := beq_eq_false_iff_ne.mpr c7
   have c7b1 : (a0 != 4) = true := bne_iff_ne.mpr c7
   by_cases c10 : a0 = 5
   ·rw [if_pos c10] at H
    have c10b0 : (a0 == 5) = true := beq_iff_eq.mpr c10
    have c10b1 : (a0 != 5) = false := bne_eq_false_iff_eq.mpr c10
    clear c10
    replace H := Option.bind_eq_some_iff.mp H
    obtain ⟨t1387, A110, H⟩ := H
    try dsimp only at H
    have A11 := z0 A110
    clear A110
    obtain rfl := Option.some.inj H
    go_enter Tryz.func146, Tryz.ntmps146
    go_wp2_with (first | ((with_reducible refine gate_callee (f := 149) rfl ?_); refine goesL_ (some 22) rfl rfl Tryz.func149 (by kernel_rfl) rfl #[.int .i64 a1, .int .i64 a2] rfl argx ?_; (with_reducible refine (impl_NumMul.calls a1 a2 t1387 _ A11.out).mono ?_); rintro e w12 ⟨rfl, hb⟩; refine ⟨_, rfl, ?_⟩; have n0_ := z0 (below_step (mB HB.out) hb); clear HB; have HB := n0_; clear n0_; (try clear hb); (try clear hb2); (try clear hk); (try clear hi)))
    go_ret
    exact ⟨rfx, mB HB.out⟩
   ·rw [if_neg c10] at H
    have c10b0 : (a0 == 5) = false := beq_eq_false_iff_ne.mpr c10
    have c10b1 : (a0 != 5) = true := bne_iff_ne.mpr c10
    by_cases c13 : a0 = 6
    ·rw [if_pos c13] at H
     have c13b0 : (a0 == 6) = true := beq_iff_eq.mpr c13
     have c13b1 : (a0 != 6) = false := bne_eq_false_iff_eq.mpr c13
     clear c13
     replace H := Option.bind_eq_some_iff.mp H
     obtain ⟨t1388, A140, H⟩ := H
     try dsimp only at H
     have A14 := z0 A140
     clear A140
     obtain rfl := Option.some.inj H
     go_enter Tryz.func146, Tryz.ntmps146
     go_wp2_with (first | ((with_reducible refine gate_callee (f := 150) rfl ?_); refine goesL_ (some 28) rfl rfl Tryz.func150 (by kernel_rfl) rfl #[.bool (decide (a1 < a2))] rfl argx ?_; (with_reducible refine (impl_NumIs.calls (decide (a1 < a2)) t1388 _ A14.out).mono ?_); rintro e w' ⟨rfl, ⟨nd, rfl⟩⟩; refine ⟨_, rfl, ?_⟩))
     go_ret
     exact ⟨rfx, mB HB.out⟩
    ·rw [if_neg c13] at H
     have c13b0 : (a0 == 6) = false := beq_eq_false_iff_ne.mpr c13
     have c13b1 : (a0 != 6) = true := bne_iff_ne.mpr c13
     by_cases c15 : a0 = 7
     ·rw [if_pos c15] at H
      have c15b0 : (a0 == 7) = true := beq_iff_eq.mpr c15
      have c15b1 : (a0 != 7) = false := bne_eq_false_iff_eq.mpr c15
      clear c15
      replace H := Option.bind_eq_some_iff.mp H
      obtain ⟨t1389, A160, H⟩ := H
      try dsimp only at H
      have A16 := z0 A160
      clear A160
      obtain rfl := Option.some.inj H
      go_enter Tryz.func146, Tryz.ntmps146
      go_wp2_with (first | ((with_reducible refine gate_callee (f := 150) rfl ?_); refine goesL_ (some 34) rfl rfl Tryz.func150 (by kernel_rfl) rfl #[.bool (a1 == a2)] rfl argx ?_; (with_reducible refine (impl_NumIs.calls (a1 == a2) t1389 _ A16.out).mono ?_); rintro e w' ⟨rfl, ⟨nd, rfl⟩⟩; refine ⟨_, rfl, ?_⟩))
      go_ret
      exact ⟨rfx, mB HB.out⟩
     ·rw [if_neg c15] at H
      have c15b0 : (a0 == 7) = false := beq_eq_false_iff_ne.mpr c15
      have c15b1 : (a0 != 7) = true := bne_iff_ne.mpr c15
      by_cases c17 : a0 = 8
      ·rw [if_pos c17] at H
       have c17b0 : (a0 == 8) = true := beq_iff_eq.mpr c17
       have c17b1 : (a0 != 8) = false := bne_eq_false_iff_eq.mpr c17
       clear c17
       replace H := Option.bind_eq_some_iff.mp H
       obtain ⟨t1390, A180, H⟩ := H
       try dsimp only at H
       have A18 := z0 A180
       clear A180
       by_cases c19 : t1390 = true
       ·subst c19
        have H1 : ((impl_NumOn.f a2).bind fun t1391 => ((impl_NumIs.f t1391).bind fun t1392 => (some t1392))) = some r := by rw [if_pos rfl] at H; exact H
        clear H
        have H := H1
        clear H1
        replace H := Option.bind_eq_some_iff.mp H
        obtain ⟨t1391, A200, H⟩ := H
        try dsimp only at H
        have A20 := z0 A200
        clear A200
        replace H := Option.bind_eq_some_iff.mp H
        obtain ⟨t1392, A210, H⟩ := H
        try dsimp only at H
        have A21 := z0 A210
        clear A210
        obtain rfl := Option.some.inj H
        go_enter Tryz.func146, Tryz.ntmps146
        go_wp2_with (first | ((with_reducible refine gate_callee (f := 22) rfl ?_); refine goesL_ (some 38) rfl rfl Tryz.func22 (by kernel_rfl) rfl #[.int .i64 a1] rfl argx ?_; (with_reducible refine (impl_NumOn.calls a1 true _ A18.out).mono ?_); rintro e w' ⟨rfl, ⟨nd, rfl⟩⟩; refine ⟨_, rfl, ?_⟩) | (go_at_call 22; (with_reducible refine (impl_NumOn.calls a2 t1391 _ A20.out).mono ?_); rintro e w' ⟨rfl, ⟨nd, rfl⟩⟩) | ((with_reducible refine gate_callee (f := 150) rfl ?_); refine goesL_ (some 43) rfl rfl Tryz.func150 (by kernel_rfl) rfl #[.bool t1391] rfl argx ?_; (with_reducible refine (impl_NumIs.calls t1391 t1392 _ A21.out).mono ?_); rintro e w' ⟨rfl, ⟨nd, rfl⟩⟩; refine ⟨_, rfl, ?_⟩))
        go_ret
        exact ⟨rfx, mB HB.out⟩
       ·replace c19 := Bool.eq_false_iff.mpr c19
        subst c19
        have H1 : ((impl_NumIs.f false).bind fun t1393 => (some t1393)) = some r := by rw [if_neg (show ¬ (false = true) by decide)] at H; exact H
        clear H
        have H := H1
        clear H1
        replace H := Option.bind_eq_some_iff.mp H
        obtain ⟨t1393, A220, H⟩ := H
        try dsimp only at H
        have A22 := z0 A220
        clear A220
        obtain rfl := Option.some.inj H
        go_enter Tryz.func146, Tryz.ntmps146
        go_wp2_with (first | ((with_reducible refine gate_callee (f := 22) rfl ?_); refine goesL_ (some 38) rfl rfl Tryz.func22 (by kernel_rfl) rfl #[.int .i64 a1] rfl argx ?_; (with_reducible refine (impl_NumOn.calls a1 false _ A18.out).mono ?_); rintro e w' ⟨rfl, ⟨nd, rfl⟩⟩; refine ⟨_, rfl, ?_⟩) | ((with_reducible refine gate_callee (f := 150) rfl ?_); refine goesL_ (some 43) rfl rfl Tryz.func150 (by kernel_rfl) rfl #[.bool false] rfl argx ?_; (with_reducible refine (impl_NumIs.calls false t1393 _ A22.out).mono ?_); rintro e w' ⟨rfl, ⟨nd, rfl⟩⟩; refine ⟨_, rfl, ?_⟩))
        go_ret
        exact ⟨rfx, mB HB.out⟩
      ·rw [if_neg c17] at H
       have c17b0 : (a0 == 8) = false := beq_eq_false_iff_ne.mpr c17
       have c17b1 : (a0 != 8) = true := bne_iff_ne.mpr c17
       replace H := Option.bind_eq_some_iff.mp H
       obtain ⟨t1394, A230, H⟩ := H
       try dsimp only at H
       have A23 := z0 A230
       clear A230
       by_cases c24 : t1394 = true
       ·subst c24
        have H1 : ((impl_NumIs.f true).bind fun t1395 => (some t1395)) = some r := by rw [if_pos rfl] at H; exact H
        clear H
        have H := H1
        clear H1
        replace H := Option.bind_eq_some_iff.mp H
        obtain ⟨t1395, A250, H⟩ := H
        try dsimp only at H
        have A25 := z0 A250
        clear A250
        obtain rfl := Option.some.inj H
        go_enter Tryz.func146, Tryz.ntmps146
        go_wp2_with (first | ((with_reducible refine gate_callee (f := 22) rfl ?_); refine goesL_ (some 45) rfl rfl Tryz.func22 (by kernel_rfl) rfl #[.int .i64 a1] rfl argx ?_; (with_reducible refine (impl_NumOn.calls a1 true _ A23.out).mono ?_); rintro e w' ⟨rfl, ⟨nd, rfl⟩⟩; refine ⟨_, rfl, ?_⟩) | ((with_reducible refine gate_callee (f := 150) rfl ?_); refine goesL_ (some 50) rfl rfl Tryz.func150 (by kernel_rfl) rfl #[.bool true] rfl argx ?_; (with_reducible refine (impl_NumIs.calls true t1395 _ A25.out).mono ?_); rintro e w' ⟨rfl, ⟨nd, rfl⟩⟩; refine ⟨_, rfl, ?_⟩))
        go_ret
        exact ⟨rfx, mB HB.out⟩
       ·replace c24 := Bool.eq_false_iff.mpr c24
        subst c24
        have H1 : ((impl_NumOn.f a2).bind fun t1396 => ((impl_NumIs.f t1396).bind fun t1397 => (some t1397))) = some r := by rw [if_neg (show ¬ (false = true) by decide)] at H; exact H
        clear H
        have H := H1
        clear H1
        replace H := Option.bind_eq_some_iff.mp H
        obtain ⟨t1396, A260, H⟩ := H
        try dsimp only at H
        have A26 := z0 A260
        clear A260
        replace H := Option.bind_eq_some_iff.mp H
        obtain ⟨t1397, A270, H⟩ := H
        try dsimp only at H
        have A27 := z0 A270
        clear A270
        obtain rfl := Option.some.inj H
        go_enter Tryz.func146, Tryz.ntmps146
        go_wp2_with (first | ((with_reducible refine gate_callee (f := 22) rfl ?_); refine goesL_ (some 45) rfl rfl Tryz.func22 (by kernel_rfl) rfl #[.int .i64 a1] rfl argx ?_; (with_reducible refine (impl_NumOn.calls a1 false _ A23.out).mono ?_); rintro e w' ⟨rfl, ⟨nd, rfl⟩⟩; refine ⟨_, rfl, ?_⟩) | (go_at_call 22; (with_reducible refine (impl_NumOn.calls a2 t1396 _ A26.out).mono ?_); rintro e w' ⟨rfl, ⟨nd, rfl⟩⟩) | ((with_reducible refine gate_callee (f := 150) rfl ?_); refine goesL_ (some 50) rfl rfl Tryz.func150 (by kernel_rfl) rfl #[.bool t1396] rfl argx ?_; (with_reducible refine (impl_NumIs.calls t1396 t1397 _ A27.out).mono ?_); rintro e w' ⟨rfl, ⟨nd, rfl⟩⟩; refine ⟨_, rfl, ?_⟩))
        go_ret
        exact ⟨rfx, mB HB.out⟩

/-- A state of type 93 at block g of W; what its slices lead to came in by w0. -/
def IsS93 (w0 W : World) (g : Nat) (f0 : List Int) (f1 : Int) : Prop := ∃ A0 c0, W.heap[g]? = some (.cells #[.slice A0 f0.length c0, .int .i64 f1] 93 (0, 0)) ∧ w0.heap.size ≤ g ∧ Kd.C (Kd.int .u8) w0 A0 f0.length f0
theorem IsS93.grown {w0 W : World} {g : Nat} {f0 : List Int} {f1 : Int} {W1 : World} {row : Option Nat} (h : IsS93 w0 W g f0 f1) (hw : W.grownBy W1 row) (hne : some g ≠ row) : IsS93 w0 W1 g f0 f1 := by
  obtain ⟨A0, c0, hb, hg, hr0⟩ := h
  exact ⟨A0, c0, blk_grown hb hw hne, hg, hr0⟩
theorem IsS93.kept {w0 W : World} {g : Nat} {f0 : List Int} {f1 : Int} {W1 : World} {S : Nat → Prop} (h : IsS93 w0 W g f0 f1) (hk : Kept W W1 S) (hne : ¬ S g) : IsS93 w0 W1 g f0 f1 := by
  obtain ⟨A0, c0, hb, hg, hr0⟩ := h
  exact ⟨A0, c0, blk_kept hb hk hne, hg, hr0⟩
theorem IsS93.below {w0 W : World} {g : Nat} {f0 : List Int} {f1 : Int} {W1 : World} (h : IsS93 w0 W g f0 f1) (hw : Below W.heap.size W W1) : IsS93 w0 W1 g f0 f1 := h.grown (grown_of_below hw none) (by simp)
theorem IsS93.alloc {w0 W : World} {g : Nat} {f0 : List Int} {f1 : Int} (h : IsS93 w0 W g f0 f1) (o : Obj) : IsS93 w0 (W.alloc o) g f0 f1 := h.below (below_alloc (Below.refl _ _) o)
theorem IsS93.drewN {w0 W : World} {g : Nat} {f0 : List Int} {f1 : Int} (h : IsS93 w0 W g f0 f1) (m : Nat) : IsS93 w0 (W.drewN m) g f0 f1 := h
theorem IsS93.drew {w0 W : World} {g : Nat} {f0 : List Int} {f1 : Int} (h : IsS93 w0 W g f0 f1) : IsS93 w0 W.drew g f0 f1 := h
theorem IsS93.apart {w0 W : World} {g : Nat} {f0 : List Int} {f1 : Int} {α : Type} {d : Kd α} {e : Nat} {base : Nat} {ok : Nat → Prop} {v : Value} {xs : List α} (h : IsS93 w0 W g f0 f1) (ho : d.R e W base ok v xs) (ht : ∀ q, q ∈ e :: d.E → q ≠ 93) : d.R e W base (fun k => ok k ∧ k ≠ g) v xs := by
  obtain ⟨A0, c0, hb, hg, hr0⟩ := h
  exact Kd.R_types ho hb ht
theorem IsS93.own_ne {w0 W : World} {g : Nat} {f0 : List Int} {f1 : Int} {α : Type} {d : Kd α} {e : Nat} {base : Nat} {ok : Nat → Prop} {v : Value} {xs : List α} (h : IsS93 w0 W g f0 f1) (ho : d.R e W base ok v xs) (ht : e ≠ 93) : some g ≠ v.ownBlock := by
  obtain ⟨A0, c0, hb, hg, hr0⟩ := h
  exact Kd.R_ne ho hb ht
theorem IsS93.lt {w0 W : World} {g : Nat} {f0 : List Int} {f1 : Int} (h : IsS93 w0 W g f0 f1) : g < W.heap.size := by
  obtain ⟨A0, c0, hb, hg, hr0⟩ := h
  exact blk_lt hb
theorem IsS93.ge {w0 W : World} {g : Nat} {f0 : List Int} {f1 : Int} (h : IsS93 w0 W g f0 f1) : w0.heap.size ≤ g := by
  obtain ⟨A0, c0, hb, hg, hr0⟩ := h
  exact hg
theorem IsS93.ne_blk {w0 W : World} {g : Nat} {f0 : List Int} {f1 : Int} {a : Nat} {cs : Array Value} {t : TypeId} {fr : Nat × Nat} (h : IsS93 w0 W g f0 f1) (hb2 : W.heap[a]? = some (.cells cs t fr)) (ht : t ≠ 93) : g ≠ a := by
  obtain ⟨A0, c0, hb, hg, hr0⟩ := h
  rintro rfl
  rw [hb] at hb2
  injection hb2 with hb2
  injection hb2 with _ ht2
  exact ht ht2.symm
theorem IsS93.far {w0 W : World} {g : Nat} {f0 : List Int} {f1 : Int} {p : Addr} (h : IsS93 w0 W g f0 f1) (hne : g ≠ p.block) (u : Value) : IsS93 w0 (W.setCell p u) g f0 f1 := by
  obtain ⟨A0, c0, hb, hg, hr0⟩ := h
  exact ⟨A0, c0, blk_far hb hne u, hg, hr0⟩
theorem cellS93_0 {W : World} {g : Nat} {A0 : Option Addr} {c0 : Nat} {f0 : List Int} {f1 : Int} (h : W.heap[g]? = some (.cells #[.slice A0 f0.length c0, .int .i64 f1] 93 (0, 0))) : W.cell? ⟨g, 0, none⟩ = some (.slice A0 f0.length c0) := (blk_cell h 0).trans rfl
theorem cellS93_1 {W : World} {g : Nat} {A0 : Option Addr} {c0 : Nat} {f0 : List Int} {f1 : Int} (h : W.heap[g]? = some (.cells #[.slice A0 f0.length c0, .int .i64 f1] 93 (0, 0))) : W.cell? ⟨g, 1, none⟩ = some (.int .i64 f1) := (blk_cell h 1).trans rfl
theorem IsS93.set_1 {w0 W : World} {g : Nat} {f0 : List Int} {f1 : Int} (h : IsS93 w0 W g f0 f1) (x : Int) : IsS93 w0 (W.setCell ⟨g, 1, none⟩ (.int .i64 x)) g f0 x := by
  obtain ⟨A0, c0, hb, hg, hr0⟩ := h
  exact ⟨A0, c0, by simpa using blk_set hb 1 (.int .i64 x), hg, hr0⟩
theorem IsS93.new (w0 W : World) (A0 : Option Addr) (c0 : Nat) (f0 : List Int) (f1 : Int) (hB : Below w0.heap.size w0 W) (hr0 : Kd.C (Kd.int .u8) w0 A0 f0.length f0) : IsS93 w0 (W.alloc (.cells #[.slice A0 f0.length c0, .int .i64 f1] 93)) W.heap.size f0 f1 := ⟨A0, c0, by simpa using heap_alloc_new W _, hB.size, hr0⟩

/-! ### spec_l12Open: function 32 -/
def spec_l12Open.f (l0 : List Int) : Option (List Int × Int) := if (l0.length : Int) > 2000 then (if 2000 ≤ (l0.length : Int) then (some (l0.take 2000, 0)) else (none)) else (some (l0, 0))
set_option maxHeartbeats 8000000 in
set_option maxRecDepth 100000 in
theorem spec_l12Open.calls (A0 : Option Addr) (c0 : Nat) (l0 : List Int) (r1 : List Int) (r2 : Int) (w0 w : World) (hB : Below w0.heap.size w0 w) (hr0 : Kd.C (Kd.int .u8) w0 A0 l0.length l0) (hc0 : l0.length ≤ c0) (h : spec_l12Open.f l0 = some (r1, r2)) :
  Calls Tryz.prog 32 #[.slice A0 l0.length c0] w fun e w' => ∃ g_ : Nat, e = .returned (.pointer (some ⟨g_, 0, none⟩)) ∧ IsS93 w0 w' g_ r1 r2 ∧ Below w0.heap.size w0 w' ∧ Below w.heap.size w w' := by
 have hu93 := Tryz.underlying93
 have HR0 := z0 hr0
 have HC0 := z0 hc0
 clear hr0 hc0
 have HBW := z0 (Below.refl w.heap.size w)
 have HW0 := z0 hB.size
 have HB := z0 hB
 clear hB
 have H : (if (l0.length : Int) > 2000 then (if 2000 ≤ (l0.length : Int) then (some (l0.take 2000, 0)) else (none)) else (some (l0, 0))) = some (r1, r2) := h
 clear h
 by_cases c2 : (l0.length : Int) > 2000
 ·rw [if_pos c2] at H
  have c2b0 : decide (2000 < (l0.length : Int)) = true := decide_eq_true c2
  have c2b1 : decide (2000 < l0.length) = true := decide_eq_true (by omega)
  clear c2
  by_cases c3 : 2000 ≤ (l0.length : Int)
  ·rw [if_pos c3] at H
   have c3b0 := eq_true c3
   have c3b1 : decide (2000 ≤ (l0.length : Int)) = true := decide_eq_true c3
   clear c3
   simp only [Option.some.injEq, Prod.mk.injEq] at H
   obtain ⟨rfl, rfl⟩ := H
   obtain ⟨i04, hi04, _, hsz4, _⟩ := info_parts info5
   obtain ⟨hcut4, hA4, hC4⟩ := print_take_of (P := Tryz.prog) (Value.int .u8) 0 22 5 .i64 Tryz.underlying22 hi04 hsz4 A0 c0 l0 2000 (by omega) (of_decide_eq_true (by first | (with_reducible assumption) | assumption)) HC0.out
   have HR101 := z0 (Kd.C_of_reads (h1 := fun _ => rfl) (hA4 _ (Kd.reads_of_C HR0.out)))
   have HC101 := z0 hC4
   clear hA4 hC4 hi04 hsz4
   go_enter Tryz.func32, Tryz.ntmps32
   go_wp2_with (first | ((with_reducible refine gate_dst (N := 10) rfl ?_); refine box_event ?hg (N := 10) ?hd (cs := #[.slice A0 (l0.take 2000).length c0, .int .i64 0]) (t := 93) ?hr ?_; (case hd => rfl); (case hg => rfl); (case hr => first | (go_simp; done) | (go_simp; rfl)); intro gb102 hg w5 hbox hb; have n_ := az (below_step HBW.out hb) <| az (below_step (mB HB.out) hb) <| az (hbox) <| az ((by rw [hg]; exact (below_size (mB HBW.out)) : w.heap.size ≤ gb102)) <| z0 ((Nat.le_trans HW0.out (by rw [hg]; exact (below_size (mB HBW.out)) : w.heap.size ≤ gb102) : w0.heap.size ≤ gb102)); clear HBW HB; obtain ⟨HBW, HB, BK102, GW102, GE102⟩ := n_; clear hb hbox hg))
   go_ret
   exact ⟨_, rfl, (show IsS93 w0 _ gb102 (l0.take 2000) 0 from ⟨_, _, mK BK102.out, GE102.out, HR101.out⟩), mB HB.out, mB HBW.out⟩
  ·rw [if_neg c3] at H
   exact absurd H (by simp)
 ·rw [if_neg c2] at H
  have c2b0 : decide (2000 < (l0.length : Int)) = false := decide_eq_false c2
  have c2b1 : decide (2000 < l0.length) = false := decide_eq_false (by omega)
  clear c2
  simp only [Option.some.injEq, Prod.mk.injEq] at H
  obtain ⟨rfl, rfl⟩ := H
  go_enter Tryz.func32, Tryz.ntmps32
  go_wp2_with (first | ((with_reducible refine gate_dst (N := 10) rfl ?_); refine box_event ?hg (N := 10) ?hd (cs := #[.slice A0 l0.length c0, .int .i64 0]) (t := 93) ?hr ?_; (case hd => rfl); (case hg => rfl); (case hr => first | (go_simp; done) | (go_simp; rfl)); intro gb103 hg w6 hbox hb; have n_ := az (below_step HBW.out hb) <| az (below_step (mB HB.out) hb) <| az (hbox) <| az ((by rw [hg]; exact (below_size (mB HBW.out)) : w.heap.size ≤ gb103)) <| z0 ((Nat.le_trans HW0.out (by rw [hg]; exact (below_size (mB HBW.out)) : w.heap.size ≤ gb103) : w0.heap.size ≤ gb103)); clear HBW HB; obtain ⟨HBW, HB, BK103, GW103, GE103⟩ := n_; clear hb hbox hg))
  go_ret
  exact ⟨_, rfl, (show IsS93 w0 _ gb103 l0 0 from ⟨_, _, mK BK103.out, GE103.out, HR0.out⟩), mB HB.out, mB HBW.out⟩

end Go.Proofs.YtendbgedpjcocaaGreatDoor.B
