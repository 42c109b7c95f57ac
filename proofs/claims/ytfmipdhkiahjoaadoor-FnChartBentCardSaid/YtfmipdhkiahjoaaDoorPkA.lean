/- Printed functions of this seat, in one text. -/
import Derived.Test.YtfmipdhkiahjoaaDoorB0
import Derived.Test.YtfmipdhkiahjoaaDoorSq
namespace Go.Proofs.YtfmipdhkiahjoaaDoor.B
open Go.RowKit Go.Proofs.YtfmipdhkiahjoaaDoorW.PrintWords Go.Proofs.YtfmipdhkiahjoaaDoorW.PrintLast Go.Proofs.YtfmipdhkiahjoaaDoorW.PrintMore
attribute [local go_sem] max2_int min2_int max_two min_two max_three min_three max_four min_four   -- for this text's walks alone
set_option linter.unusedVariables false
set_option linter.unusedSimpArgs false

theorem eqA31 (d : Nat) (w : World) (x0 y0 : Int) (x1 y1 : Int) :
    (Op.equalIn (d + 2) 31 (.agg #[.int .i64 x0, .int .i64 x1]) (.agg #[.int .i64 y0, .int .i64 y1])).run Tryd.prog w = .ok (x0 == y0 && (x1 == y1)) w := by
  refine eqA_of Tryd.underlying31 (by kernel_rfl) ?_
  refine eqf_cons (by rfl) (by go_simp; rfl) (by go_simp; rfl) (by go_simp) ?_
  exact eqf_last (by rfl) (by go_simp; rfl) (by go_simp; rfl) (by go_simp)
/-! ### impl_isNum: function 93 -/
def impl_isNum.f (a0 : Int) : Option (Bool) := if a0 ≥ (-1000000) then (some (decide (a0 ≤ 1000000))) else (some false)
set_option maxHeartbeats 8000000 in
set_option maxRecDepth 100000 in
theorem impl_isNum.calls (a0 : Int) (r : Bool) (w : World) (h : impl_isNum.f a0 = some r) :
  Calls Tryd.prog 93 #[.int .i64 a0] w fun e w' => e = .returned (.bool r) ∧ Drawn0 w w' := by
 have H : (if a0 ≥ (-1000000) then (some (decide (a0 ≤ 1000000))) else (some false)) = some r := h
 clear h
 by_cases c2 : a0 ≥ (-1000000)
 ·rw [if_pos c2] at H
  have c2b0 : decide ((-1000000) ≤ a0) = true := decide_eq_true c2
  clear c2
  obtain rfl := Option.some.inj H
  go_enter Tryd.func93, Tryd.ntmps93
  go_wp2
  go_ret
  exact ⟨by first | rfl | (simp; done) | (simp [*]; done), by repeat (first | exact Drawn0.refl _ | apply Drawn0.step)⟩
 ·rw [if_neg c2] at H
  have c2b0 : decide ((-1000000) ≤ a0) = false := decide_eq_false c2
  clear c2
  obtain rfl := Option.some.inj H
  go_enter Tryd.func93, Tryd.ntmps93
  go_wp2
  go_ret
  exact ⟨by first | rfl | (simp; done) | (simp [*]; done), by repeat (first | exact Drawn0.refl _ | apply Drawn0.step)⟩

/-! ### impl_AddrOk: function 32 -/
def impl_AddrOk.f (a0_0 : Int) (a0_1 : Int) : Option (Bool) := if a0_0 ≥ 1 then (if a0_0 ≤ 3 then (if a0_1 ≥ 0 then (some (decide (a0_1 < 6))) else (some false)) else (some false)) else (some false)
set_option maxHeartbeats 8000000 in
set_option maxRecDepth 100000 in
theorem impl_AddrOk.calls (a0_0 : Int) (a0_1 : Int) (r : Bool) (w : World) (h : impl_AddrOk.f a0_0 a0_1 = some r) :
  Calls Tryd.prog 32 #[.agg #[.int .i64 a0_0, .int .i64 a0_1]] w fun e w' => e = .returned (.bool r) ∧ Below w.heap.size w w' := by
 have hu31 := Tryd.underlying31
 have HB := z0 (Below.refl w.heap.size w)
 have H : (if a0_0 ≥ 1 then (if a0_0 ≤ 3 then (if a0_1 ≥ 0 then (some (decide (a0_1 < 6))) else (some false)) else (some false)) else (some false)) = some r := h
 clear h
 have HF2 := z0 H
 clear H
 go_enter Tryd.func32, Tryd.ntmps32
 go_upto_region 1 with (first | ((with_reducible refine gate_dst (N := 1) rfl ?_); refine box_event ?hg (N := 1) ?hd (cs := #[.int .i64 a0_0, .int .i64 a0_1]) (t := 31) ?hr ?_; (case hd => rfl); (case hg => rfl); (case hr => first | (go_simp; done) | (go_simp; rfl)); intro gb444 hg w3 hbox hb; have n_ := az (below_step (mB HB.out) hb) <| az (hbox) <| az ((by rw [hg]; exact (below_size (mB HB.out)) : w.heap.size ≤ gb444)) <| z0 ((by rw [hg]; exact (below_size (mB HB.out)) : w.heap.size ≤ gb444)); clear HB; obtain ⟨HB, BK444, GW444, GE444⟩ := n_; clear hb hbox hg))
 (try simp only [Act.put, List.setIfInBounds_toArray, List.set_cons_zero, List.set_cons_succ])
 have H := HF2.out
 clear HF2
 try clear c3
 by_cases c4 : a0_0 ≥ 1
 ·rw [if_pos c4] at H
  have c4b0 : decide (1 ≤ a0_0) = true := decide_eq_true c4
  clear c4
  by_cases c5 : a0_0 ≤ 3
  ·rw [if_pos c5] at H
   have c5b0 : decide (a0_0 ≤ 3) = true := decide_eq_true c5
   clear c5
   by_cases c6 : a0_1 ≥ 0
   ·rw [if_pos c6] at H
    have c6b0 : decide (0 ≤ a0_1) = true := decide_eq_true c6
    clear c6
    obtain rfl := Option.some.inj H
    obtain ⟨hcz7_0, hcz7_1, hfz7_0, hfz7_1⟩ := cel2 BK444.out
    go_wp2
    go_ret
    exact ⟨rfx, mB HB.out⟩
   ·rw [if_neg c6] at H
    have c6b0 : decide (0 ≤ a0_1) = false := decide_eq_false c6
    clear c6
    obtain rfl := Option.some.inj H
    obtain ⟨hcz8_0, hcz8_1, hfz8_0, hfz8_1⟩ := cel2 BK444.out
    go_wp2
    go_ret
    exact ⟨rfx, mB HB.out⟩
  ·rw [if_neg c5] at H
   have c5b0 : decide (a0_0 ≤ 3) = false := decide_eq_false c5
   clear c5
   obtain rfl := Option.some.inj H
   obtain ⟨hcz9_0, hcz9_1, hfz9_0, hfz9_1⟩ := cel2 BK444.out
   go_wp2
   go_ret
   exact ⟨rfx, mB HB.out⟩
 ·rw [if_neg c4] at H
  have c4b0 : decide (1 ≤ a0_0) = false := decide_eq_false c4
  clear c4
  obtain rfl := Option.some.inj H
  obtain ⟨hcz10_0, hcz10_1, hfz10_0, hfz10_1⟩ := cel2 BK444.out
  go_wp2
  go_ret
  exact ⟨rfx, mB HB.out⟩

/-! ### spec_l3Kids: function 43 -/
def spec_l3Kids.j0 : Nat → Int → Bool → Option (Int)
 | 0, _, _ => none
 | k + 1, x0, x3 => if x3 = true then (some 0) else (if x0 = 10 then (some 1) else (if x0 ≥ 3 then (if x0 ≤ 9 then (some 2) else (some (-1))) else (some (-1))))
def spec_l3Kids.f (k : Nat) (a0 : Int) : Option (Int) := if a0 = 1 then (spec_l3Kids.j0 k a0 true) else (spec_l3Kids.j0 k a0 (a0 == 2))
theorem spec_l3Kids.mono_l : ∀ k, (∀ y0 y1, LeO (spec_l3Kids.j0 k y0 y1) (spec_l3Kids.j0 (k + 1) y0 y1))
 | 0 => fun _ _ r h => by simp [spec_l3Kids.j0] at h
 | k + 1 => by
  have ih0 := spec_l3Kids.mono_l k
  ·intro y0 y1
   unfold spec_l3Kids.j0
   repeat' first
   | (with_reducible exact ih0 _ _)
   | (with_reducible exact LeO.refl _)
   | (with_reducible exact LeO.none _)
   | (with_reducible refine LeO.ite ?_ ?_)
   | (with_reducible refine LeO.bind ?_ (fun _ => ?_))
   | exact ih0 _ _
   | exact LeO.none _
   | refine LeO.ite ?_ ?_
   | refine LeO.bind ?_ (fun _ => ?_)
theorem spec_l3Kids.mono : ∀ a0 k, LeO (spec_l3Kids.f k a0) (spec_l3Kids.f (k + 1) a0) := by
 intro a0 k
 have ih0 := spec_l3Kids.mono_l k
 unfold spec_l3Kids.f
 repeat' first
   | (with_reducible exact ih0 _ _)
   | (with_reducible exact LeO.refl _)
   | (with_reducible exact LeO.none _)
   | (with_reducible refine LeO.ite ?_ ?_)
   | (with_reducible refine LeO.bind ?_ (fun _ => ?_))
   | exact ih0 _ _
   | exact LeO.none _
   | refine LeO.ite ?_ ?_
   | refine LeO.bind ?_ (fun _ => ?_)
set_option maxHeartbeats 8000000 in
set_option maxRecDepth 100000 in
theorem spec_l3Kids.calls (k : Nat) (a0 : Int) (r : Int) (w : World) (h : spec_l3Kids.f k a0 = some r) :
  Calls Tryd.prog 43 #[.int .i64 a0] w fun e w' => e = .returned (.int .i64 r) ∧ Drawn0 w w' := by
 have H : (if a0 = 1 then (spec_l3Kids.j0 k a0 true) else (spec_l3Kids.j0 k a0 (a0 == 2))) = some r := h
 clear h
 have HC2 := z0 H
 clear H
 go_enter Tryd.func43, Tryd.ntmps43
 go_upto_region 1 with (fail)
 go_cut [3] (fun v3 wc => ∃ (kq : Nat) (x3_1 : Bool), v3 = .bool x3_1 ∧ Aside0 (spec_l3Kids.j0 kq a0 x3_1 = some r) ∧ Aside0 (kq ≤ k) ∧ Drawn0 w wc)
 case first =>
  have H := HC2.out
  clear HC2
  by_cases c3 : a0 = 1
  ·rw [if_pos c3] at H
   have c3b0 : (a0 == 1) = true := beq_iff_eq.mpr c3
   have c3b1 : (a0 != 1) = false := bne_eq_false_iff_eq.mpr c3
   clear c3
   (first | rw [c3b0] | (simp only [i64_w, i32_w]; rw [c3b0]) | skip)
   have H' := z0 H
   clear H
   go_wp2
   go_meet
   case rel => exact ⟨_, (true), rfy, H', ⟨by first | omega | exact Nat.le_refl _⟩, by repeat (first | exact Drawn0.refl _ | apply Drawn0.step)⟩
  ·rw [if_neg c3] at H
   have c3b0 : (a0 == 1) = false := beq_eq_false_iff_ne.mpr c3
   have c3b1 : (a0 != 1) = true := bne_iff_ne.mpr c3
   (first | rw [c3b0] | (simp only [i64_w, i32_w]; rw [c3b0]) | skip)
   have H' := z0 H
   clear H
   go_wp2
   go_meet
   case rel => exact ⟨_, ((a0 == 2)), rfy, H', ⟨by first | omega | exact Nat.le_refl _⟩, by repeat (first | exact Drawn0.refl _ | apply Drawn0.step)⟩
 case rest =>
  clear HC2
  skip
  obtain ⟨kq, x3_1, rfl, HA, HJ1, ⟨mc1, rfl⟩⟩ := hcut
  cases kq with
  | zero => exact absurd HA.out (by simp [spec_l3Kids.j0])
  | succ kj1 =>
   have H := HA.out
   clear HA
   simp only [spec_l3Kids.j0] at H
   by_cases c4 : x3_1 = true
   ·subst c4
    have H1 : (some 0) = some r := by rw [if_pos rfl] at H; exact H
    clear H
    have H := H1
    clear H1
    obtain rfl := Option.some.inj H
    go_wp2
    go_ret
    exact ⟨by first | rfl | (simp; done) | (simp [*]; done), by repeat (first | exact Drawn0.refl _ | apply Drawn0.step)⟩
   ·replace c4 := Bool.eq_false_iff.mpr c4
    subst c4
    have H1 : (if a0 = 10 then (some 1) else (if a0 ≥ 3 then (if a0 ≤ 9 then (some 2) else (some (-1))) else (some (-1)))) = some r := by rw [if_neg (show ¬ (false = true) by decide)] at H; exact H
    clear H
    have H := H1
    clear H1
    by_cases c5 : a0 = 10
    ·rw [if_pos c5] at H
     have c5b0 : (a0 == 10) = true := beq_iff_eq.mpr c5
     have c5b1 : (a0 != 10) = false := bne_eq_false_iff_eq.mpr c5
     clear c5
     obtain rfl := Option.some.inj H
     go_wp2
     go_ret
     exact ⟨by first | rfl | (simp; done) | (simp [*]; done), by repeat (first | exact Drawn0.refl _ | apply Drawn0.step)⟩
    ·rw [if_neg c5] at H
     have c5b0 : (a0 == 10) = false := beq_eq_false_iff_ne.mpr c5
     have c5b1 : (a0 != 10) = true := bne_iff_ne.mpr c5
     by_cases c6 : a0 ≥ 3
     ·rw [if_pos c6] at H
      have c6b0 : decide (3 ≤ a0) = true := decide_eq_true c6
      clear c6
      by_cases c7 : a0 ≤ 9
      ·rw [if_pos c7] at H
       have c7b0 : decide (a0 ≤ 9) = true := decide_eq_true c7
       clear c7
       obtain rfl := Option.some.inj H
       go_wp2
       go_ret
       exact ⟨by first | rfl | (simp; done) | (simp [*]; done), by repeat (first | exact Drawn0.refl _ | apply Drawn0.step)⟩
      ·rw [if_neg c7] at H
       have c7b0 : decide (a0 ≤ 9) = false := decide_eq_false c7
       clear c7
       obtain rfl := Option.some.inj H
       go_wp2
       go_ret
       exact ⟨by first | rfl | (simp; done) | (simp [*]; done), by repeat (first | exact Drawn0.refl _ | apply Drawn0.step)⟩
     ·rw [if_neg c6] at H
      have c6b0 : decide (3 ≤ a0) = false := decide_eq_false c6
      clear c6
      obtain rfl := Option.some.inj H
      go_wp2
      go_ret
      exact ⟨by first | rfl | (simp; done) | (simp [*]; done), by repeat (first | exact Drawn0.refl _ | apply Drawn0.step)⟩

/-! ### spec_AddrOk: function 14 -/
def spec_AddrOk.f (a0_0 : Int) (a0_1 : Int) : Option (Bool) := if a0_0 ≥ 1 then (if a0_0 ≤ 3 then (if a0_1 ≥ 0 then (some (decide (a0_1 < 6))) else (some false)) else (some false)) else (some false)
set_option maxHeartbeats 8000000 in
set_option maxRecDepth 100000 in
theorem spec_AddrOk.calls (a0_0 : Int) (a0_1 : Int) (r : Bool) (w : World) (h : spec_AddrOk.f a0_0 a0_1 = some r) :
  Calls Tryd.prog 14 #[.agg #[.int .i64 a0_0, .int .i64 a0_1]] w fun e w' => e = .returned (.bool r) ∧ Below w.heap.size w w' := by
 have hu31 := Tryd.underlying31
 have HB := z0 (Below.refl w.heap.size w)
 have H : (if a0_0 ≥ 1 then (if a0_0 ≤ 3 then (if a0_1 ≥ 0 then (some (decide (a0_1 < 6))) else (some false)) else (some false)) else (some false)) = some r := h
 clear h
 have HF2 := z0 H
 clear H
 go_enter Tryd.func14, Tryd.ntmps14
 go_upto_region 1 with (first | ((with_reducible refine gate_dst (N := 1) rfl ?_); refine box_event ?hg (N := 1) ?hd (cs := #[.int .i64 a0_0, .int .i64 a0_1]) (t := 31) ?hr ?_; (case hd => rfl); (case hg => rfl); (case hr => first | (go_simp; done) | (go_simp; rfl)); intro gb227 hg w3 hbox hb; have n_ := az (below_step (mB HB.out) hb) <| az (hbox) <| az ((by rw [hg]; exact (below_size (mB HB.out)) : w.heap.size ≤ gb227)) <| z0 ((by rw [hg]; exact (below_size (mB HB.out)) : w.heap.size ≤ gb227)); clear HB; obtain ⟨HB, BK227, GW227, GE227⟩ := n_; clear hb hbox hg))
 (try simp only [Act.put, List.setIfInBounds_toArray, List.set_cons_zero, List.set_cons_succ])
 have H := HF2.out
 clear HF2
 try clear c1
 by_cases c4 : a0_0 ≥ 1
 ·rw [if_pos c4] at H
  have c4b0 : decide (1 ≤ a0_0) = true := decide_eq_true c4
  clear c4
  by_cases c5 : a0_0 ≤ 3
  ·rw [if_pos c5] at H
   have c5b0 : decide (a0_0 ≤ 3) = true := decide_eq_true c5
   clear c5
   by_cases c6 : a0_1 ≥ 0
   ·rw [if_pos c6] at H
    have c6b0 : decide (0 ≤ a0_1) = true := decide_eq_true c6
    clear c6
    obtain rfl := Option.some.inj H
    obtain ⟨hcz7_0, hcz7_1, hfz7_0, hfz7_1⟩ := cel2 BK227.out
    go_wp2
    go_ret
    exact ⟨rfx, mB HB.out⟩
   ·rw [if_neg c6] at H
    have c6b0 : decide (0 ≤ a0_1) = false := decide_eq_false c6
    clear c6
    obtain rfl := Option.some.inj H
    obtain ⟨hcz8_0, hcz8_1, hfz8_0, hfz8_1⟩ := cel2 BK227.out
    go_wp2
    go_ret
    exact ⟨rfx, mB HB.out⟩
  ·rw [if_neg c5] at H
   have c5b0 : decide (a0_0 ≤ 3) = false := decide_eq_false c5
   clear c5
   obtain rfl := Option.some.inj H
   obtain ⟨hcz9_0, hcz9_1, hfz9_0, hfz9_1⟩ := cel2 BK227.out
   go_wp2
   go_ret
   exact ⟨rfx, mB HB.out⟩
 ·rw [if_neg c4] at H
  have c4b0 : decide (1 ≤ a0_0) = false := decide_eq_false c4
  clear c4
  obtain rfl := Option.some.inj H
  obtain ⟨hcz10_0, hcz10_1, hfz10_0, hfz10_1⟩ := cel2 BK227.out
  go_wp2
  go_ret
  exact ⟨rfx, mB HB.out⟩

/-! ### spec_l1Max: function 56 -/
def spec_l1Max.f (a0 : Int) (a1 : Int) : Option (Int) := if a0 > a1 then (some a0) else (some a1)
set_option maxHeartbeats 8000000 in
set_option maxRecDepth 100000 in
theorem spec_l1Max.calls (a0 : Int) (a1 : Int) (r : Int) (w : World) (h : spec_l1Max.f a0 a1 = some r) :
  Calls Tryd.prog 56 #[.int .i64 a0, .int .i64 a1] w fun e w' => e = .returned (.int .i64 r) ∧ Drawn0 w w' := by
 have H : (if a0 > a1 then (some a0) else (some a1)) = some r := h
 clear h
 by_cases c3 : a0 > a1
 ·rw [if_pos c3] at H
  have c3b0 : decide (a1 < a0) = true := decide_eq_true c3
  clear c3
  obtain rfl := Option.some.inj H
  go_enter Tryd.func56, Tryd.ntmps56
  go_wp2
  go_ret
  exact ⟨by first | rfl | (simp; done) | (simp [*]; done), by repeat (first | exact Drawn0.refl _ | apply Drawn0.step)⟩
 ·rw [if_neg c3] at H
  have c3b0 : decide (a1 < a0) = false := decide_eq_false c3
  clear c3
  obtain rfl := Option.some.inj H
  go_enter Tryd.func56, Tryd.ntmps56
  go_wp2
  go_ret
  exact ⟨by first | rfl | (simp; done) | (simp [*]; done), by repeat (first | exact Drawn0.refl _ | apply Drawn0.step)⟩

/-! ### spec_l1Min: function 57 -/
def spec_l1Min.f (a0 : Int) (a1 : Int) : Option (Int) := if a0 < a1 then (some a0) else (some a1)
set_option maxHeartbeats 8000000 in
set_option maxRecDepth 100000 in
theorem spec_l1Min.calls (a0 : Int) (a1 : Int) (r : Int) (w : World) (h : spec_l1Min.f a0 a1 = some r) :
  Calls Tryd.prog 57 #[.int .i64 a0, .int .i64 a1] w fun e w' => e = .returned (.int .i64 r) ∧ Drawn0 w w' := by
 have H : (if a0 < a1 then (some a0) else (some a1)) = some r := h
 clear h
 by_cases c3 : a0 < a1
 ·rw [if_pos c3] at H
  have c3b0 : decide (a0 < a1) = true := decide_eq_true c3
  clear c3
  obtain rfl := Option.some.inj H
  go_enter Tryd.func57, Tryd.ntmps57
  go_wp2
  go_ret
  exact ⟨by first | rfl | (simp; done) | (simp [*]; done), by repeat (first | exact Drawn0.refl _ | apply Drawn0.step)⟩
 ·rw [if_neg c3] at H
  have c3b0 : decide (a0 < a1) = false := decide_eq_false c3
  clear c3
  obtain rfl := Option.some.inj H
  go_enter Tryd.func57, Tryd.ntmps57
  go_wp2
  go_ret
  exact ⟨by first | rfl | (simp; done) | (simp [*]; done), by repeat (first | exact Drawn0.refl _ | apply Drawn0.step)⟩

/-! ### spec_NumCut: function 49 -/
def spec_NumCut.f (a0 : Int) : Option (Int) := (spec_l1Min.f 1000000 a0).bind fun t228 => ((spec_l1Max.f (-1000000) t228).bind fun t229 => (some t229))
set_option maxHeartbeats 8000000 in
set_option maxRecDepth 100000 in
theorem spec_NumCut.calls (a0 : Int) (r : Int) (w : World) (h : spec_NumCut.f a0 = some r) :
  Calls Tryd.prog 49 #[.int .i64 a0] w fun e w' => e = .returned (.int .i64 r) ∧ Drawn0 w w' := by
 have H : ((spec_l1Min.f 1000000 a0).bind fun t228 => ((spec_l1Max.f (-1000000) t228).bind fun t229 => (some t229))) = some r := h
 clear h
 replace H := Option.bind_eq_some_iff.mp H
 obtain ⟨t228, A20, H⟩ := H
 try dsimp only at H
 have A2 := z0 A20
 clear A20
 replace H := Option.bind_eq_some_iff.mp H
 obtain ⟨t229, A30, H⟩ := H
 try dsimp only at H
 have A3 := z0 A30
 clear A30
 obtain rfl := Option.some.inj H
 go_enter Tryd.func49, Tryd.ntmps49
 go_wp2_with (first | ((with_reducible refine gate_callee (f := 57) rfl ?_); refine goesL_ (some 4) rfl rfl Tryd.func57 (by kernel_rfl) rfl #[.int .i64 1000000, .int .i64 a0] rfl argx ?_; (with_reducible refine (spec_l1Min.calls 1000000 a0 t228 _ A2.out).mono ?_); rintro e w' ⟨rfl, ⟨nd, rfl⟩⟩; refine ⟨_, rfl, ?_⟩) | ((with_reducible refine gate_callee (f := 56) rfl ?_); refine goesL_ (some 5) rfl rfl Tryd.func56 (by kernel_rfl) rfl #[.int .i64 (-1000000), .int .i64 t228] rfl argx ?_; (with_reducible refine (spec_l1Max.calls (-1000000) t228 t229 _ A3.out).mono ?_); rintro e w' ⟨rfl, ⟨nd, rfl⟩⟩; refine ⟨_, rfl, ?_⟩))
 go_ret
 exact ⟨by first | rfl | (simp; done) | (simp [*]; done), by repeat (first | exact Drawn0.refl _ | apply Drawn0.step)⟩

end Go.Proofs.YtfmipdhkiahjoaaDoor.B
namespace Go.Proofs.YtfmipdhkiahjoaaDoor.B
open Go.RowKit Go.Proofs.YtfmipdhkiahjoaaDoorW.PrintWords Go.Proofs.YtfmipdhkiahjoaaDoorW.PrintLast Go.Proofs.YtfmipdhkiahjoaaDoorW.PrintMore
attribute [local go_sem] max2_int min2_int max_two min_two max_three min_three max_four min_four   -- for this text's walks alone
set_option linter.unusedVariables false
set_option linter.unusedSimpArgs false

attribute [local go_sem high] eqA31
/-! ### spec_l3Form: function 33 -/
mutual
def spec_l3Form.j0 : Nat → Int → Bool → Int → Int → Int → Int → List (S34) → Option (Bool)
 | 0, _, _, _, _, _, _, _ => none
 | k + 1, x1, x16, x231000, x231001, x231002, x231003, x231004 => if x16 = true then (some false) else (if x231000 = 1 then ((spec_NumCut.f x231001).bind fun t232 => (if t232 = x231001 then (spec_l3Form.j1 k x1 false x231000 x231001 x231002 x231003 x231004) else (spec_l3Form.j1 k x1 true x231000 x231001 x231002 x231003 x231004))) else (spec_l3Form.j1 k x1 (x231001 != 0) x231000 x231001 x231002 x231003 x231004))
def spec_l3Form.j1 : Nat → Int → Bool → Int → Int → Int → Int → List (S34) → Option (Bool)
 | 0, _, _, _, _, _, _, _ => none
 | k + 1, x1, x37, x231000, x231001, x231002, x231003, x231004 => if x37 = true then (some false) else (if x231000 = 2 then ((spec_AddrOk.f x231002 x231003).bind fun t233 => (if t233 = true then (spec_l3Form.j2 k x1 false x231000 x231001 x231002 x231003 x231004) else (spec_l3Form.j2 k x1 true x231000 x231001 x231002 x231003 x231004))) else (spec_l3Form.j2 k x1 (!(x231002 == 0) || (!(x231003 == 0))) x231000 x231001 x231002 x231003 x231004))
def spec_l3Form.j2 : Nat → Int → Bool → Int → Int → Int → Int → List (S34) → Option (Bool)
 | 0, _, _, _, _, _, _, _ => none
 | k + 1, x1, x57, x231000, x231001, x231002, x231003, x231004 => if x57 = true then (some false) else (spec_l3Form.l0 k x1 0 x231000 x231001 x231002 x231003 x231004)
def spec_l3Form.l0 : Nat → Int → Int → Int → Int → Int → Int → List (S34) → Option (Bool)
 | 0, _, _, _, _, _, _, _ => none
 | k + 1, x1, x5, x231000, x231001, x231002, x231003, x231004 => if x5 < (x231004.length : Int) then (if 0 ≤ x5 then ((spec_l3Form.f k ((rd_T34 x231004 x5).f0) ((rd_T34 x231004 x5).f1) ((rd_T34 x231004 x5).f2.f0) ((rd_T34 x231004 x5).f2.f1) ((rd_T34 x231004 x5).f3) (wrap64 (x1 - 1))).bind fun t235 => (if t235 = true then (spec_l3Form.l0 k x1 (wrap64 (x5 + 1)) x231000 x231001 x231002 x231003 x231004) else (some false))) else (none)) else (some true)
def spec_l3Form.f : Nat → Int → Int → Int → Int → List (S34) → Int → Option (Bool)
 | 0, _, _, _, _, _, _ => none
 | k + 1, a0_0, a0_1, a0_2, a0_3, l0_4, a1 => if a1 < 1 then (spec_l3Form.j0 k a1 true a0_0 a0_1 a0_2 a0_3 l0_4) else ((spec_l3Kids.f k a0_0).bind fun t231 => (spec_l3Form.j0 k a1 (t231 != (l0_4.length : Int)) a0_0 a0_1 a0_2 a0_3 l0_4))
end
theorem spec_l3Form.mono_l : ∀ k, (∀ y0 y1 y2 y3 y4 y5, LeO (spec_l3Form.f k y0 y1 y2 y3 y4 y5) (spec_l3Form.f (k + 1) y0 y1 y2 y3 y4 y5)) ∧ (∀ y0 y1 y2 y3 y4 y5 y6, LeO (spec_l3Form.j0 k y0 y1 y2 y3 y4 y5 y6) (spec_l3Form.j0 (k + 1) y0 y1 y2 y3 y4 y5 y6)) ∧ (∀ y0 y1 y2 y3 y4 y5 y6, LeO (spec_l3Form.j1 k y0 y1 y2 y3 y4 y5 y6) (spec_l3Form.j1 (k + 1) y0 y1 y2 y3 y4 y5 y6)) ∧ (∀ y0 y1 y2 y3 y4 y5 y6, LeO (spec_l3Form.j2 k y0 y1 y2 y3 y4 y5 y6) (spec_l3Form.j2 (k + 1) y0 y1 y2 y3 y4 y5 y6)) ∧ (∀ y0 y1 y2 y3 y4 y5 y6, LeO (spec_l3Form.l0 k y0 y1 y2 y3 y4 y5 y6) (spec_l3Form.l0 (k + 1) y0 y1 y2 y3 y4 y5 y6))
 | 0 => ⟨fun _ _ _ _ _ _ r h => by simp [spec_l3Form.f] at h, fun _ _ _ _ _ _ _ r h => by simp [spec_l3Form.j0] at h, fun _ _ _ _ _ _ _ r h => by simp [spec_l3Form.j1] at h, fun _ _ _ _ _ _ _ r h => by simp [spec_l3Form.j2] at h, fun _ _ _ _ _ _ _ r h => by simp [spec_l3Form.l0] at h⟩
 | k + 1 => by
  obtain ⟨ih0, ih1, ih2, ih3, ih4⟩ := spec_l3Form.mono_l k
  refine ⟨?_, ?_, ?_, ?_, ?_⟩
  ·intro y0 y1 y2 y3 y4 y5
   unfold spec_l3Form.f
   repeat' first
   | (with_reducible exact ih0 _ _ _ _ _ _)
   | (with_reducible exact ih1 _ _ _ _ _ _ _)
   | (with_reducible exact ih2 _ _ _ _ _ _ _)
   | (with_reducible exact ih3 _ _ _ _ _ _ _)
   | (with_reducible exact ih4 _ _ _ _ _ _ _)
   | (with_reducible exact spec_l3Kids.mono _ _)
   | (with_reducible exact LeO.refl _)
   | (with_reducible exact LeO.none _)
   | (with_reducible refine LeO.ite ?_ ?_)
   | (with_reducible refine LeO.bind ?_ (fun _ => ?_))
   | exact ih0 _ _ _ _ _ _
   | exact ih1 _ _ _ _ _ _ _
   | exact ih2 _ _ _ _ _ _ _
   | exact ih3 _ _ _ _ _ _ _
   | exact ih4 _ _ _ _ _ _ _
   | exact spec_l3Kids.mono _ _
   | exact LeO.none _
   | refine LeO.ite ?_ ?_
   | refine LeO.bind ?_ (fun _ => ?_)
  ·intro y0 y1 y2 y3 y4 y5 y6
   unfold spec_l3Form.j0
   repeat' first
   | (with_reducible exact ih0 _ _ _ _ _ _)
   | (with_reducible exact ih1 _ _ _ _ _ _ _)
   | (with_reducible exact ih2 _ _ _ _ _ _ _)
   | (with_reducible exact ih3 _ _ _ _ _ _ _)
   | (with_reducible exact ih4 _ _ _ _ _ _ _)
   | (with_reducible exact spec_l3Kids.mono _ _)
   | (with_reducible exact LeO.refl _)
   | (with_reducible exact LeO.none _)
   | (with_reducible refine LeO.ite ?_ ?_)
   | (with_reducible refine LeO.bind ?_ (fun _ => ?_))
   | exact ih0 _ _ _ _ _ _
   | exact ih1 _ _ _ _ _ _ _
   | exact ih2 _ _ _ _ _ _ _
   | exact ih3 _ _ _ _ _ _ _
   | exact ih4 _ _ _ _ _ _ _
   | exact spec_l3Kids.mono _ _
   | exact LeO.none _
   | refine LeO.ite ?_ ?_
   | refine LeO.bind ?_ (fun _ => ?_)
  ·intro y0 y1 y2 y3 y4 y5 y6
   unfold spec_l3Form.j1
   repeat' first
   | (with_reducible exact ih0 _ _ _ _ _ _)
   | (with_reducible exact ih1 _ _ _ _ _ _ _)
   | (with_reducible exact ih2 _ _ _ _ _ _ _)
   | (with_reducible exact ih3 _ _ _ _ _ _ _)
   | (with_reducible exact ih4 _ _ _ _ _ _ _)
   | (with_reducible exact spec_l3Kids.mono _ _)
   | (with_reducible exact LeO.refl _)
   | (with_reducible exact LeO.none _)
   | (with_reducible refine LeO.ite ?_ ?_)
   | (with_reducible refine LeO.bind ?_ (fun _ => ?_))
   | exact ih0 _ _ _ _ _ _
   | exact ih1 _ _ _ _ _ _ _
   | exact ih2 _ _ _ _ _ _ _
   | exact ih3 _ _ _ _ _ _ _
   | exact ih4 _ _ _ _ _ _ _
   | exact spec_l3Kids.mono _ _
   | exact LeO.none _
   | refine LeO.ite ?_ ?_
   | refine LeO.bind ?_ (fun _ => ?_)
  ·intro y0 y1 y2 y3 y4 y5 y6
   unfold spec_l3Form.j2
   repeat' first
   | (with_reducible exact ih0 _ _ _ _ _ _)
   | (with_reducible exact ih1 _ _ _ _ _ _ _)
   | (with_reducible exact ih2 _ _ _ _ _ _ _)
   | (with_reducible exact ih3 _ _ _ _ _ _ _)
   | (with_reducible exact ih4 _ _ _ _ _ _ _)
   | (with_reducible exact spec_l3Kids.mono _ _)
   | (with_reducible exact LeO.refl _)
   | (with_reducible exact LeO.none _)
   | (with_reducible refine LeO.ite ?_ ?_)
   | (with_reducible refine LeO.bind ?_ (fun _ => ?_))
   | exact ih0 _ _ _ _ _ _
   | exact ih1 _ _ _ _ _ _ _
   | exact ih2 _ _ _ _ _ _ _
   | exact ih3 _ _ _ _ _ _ _
   | exact ih4 _ _ _ _ _ _ _
   | exact spec_l3Kids.mono _ _
   | exact LeO.none _
   | refine LeO.ite ?_ ?_
   | refine LeO.bind ?_ (fun _ => ?_)
  ·intro y0 y1 y2 y3 y4 y5 y6
   unfold spec_l3Form.l0
   repeat' first
   | (with_reducible exact ih0 _ _ _ _ _ _)
   | (with_reducible exact ih1 _ _ _ _ _ _ _)
   | (with_reducible exact ih2 _ _ _ _ _ _ _)
   | (with_reducible exact ih3 _ _ _ _ _ _ _)
   | (with_reducible exact ih4 _ _ _ _ _ _ _)
   | (with_reducible exact spec_l3Kids.mono _ _)
   | (with_reducible exact LeO.refl _)
   | (with_reducible exact LeO.none _)
   | (with_reducible refine LeO.ite ?_ ?_)
   | (with_reducible refine LeO.bind ?_ (fun _ => ?_))
   | exact ih0 _ _ _ _ _ _
   | exact ih1 _ _ _ _ _ _ _
   | exact ih2 _ _ _ _ _ _ _
   | exact ih3 _ _ _ _ _ _ _
   | exact ih4 _ _ _ _ _ _ _
   | exact spec_l3Kids.mono _ _
   | exact LeO.none _
   | refine LeO.ite ?_ ?_
   | refine LeO.bind ?_ (fun _ => ?_)
theorem spec_l3Form.mono : ∀ a0 a1 a2 a3 a4 a5 k, LeO (spec_l3Form.f k a0 a1 a2 a3 a4 a5) (spec_l3Form.f (k + 1) a0 a1 a2 a3 a4 a5) := by
 intro a0 a1 a2 a3 a4 a5 k
 obtain ⟨ih0, ih1, ih2, ih3, ih4⟩ := spec_l3Form.mono_l k
 exact ih0 a0 a1 a2 a3 a4 a5
theorem q33_1 {p : Prop} (h : p := by have := HJ2.out; have := HJ8.out; have := HJ16.out; have := HK4.out; omega) : p := h
set_option maxHeartbeats 8000000 in
set_option maxRecDepth 100000 in
theorem spec_l3Form.calls (k : Nat) : ∀ (a0_0 : Int) (a0_1 : Int) (a0_2 : Int) (a0_3 : Int) (A0_4 : Option Addr) (c0_4 : Nat) (l0_4 : List (S34)) (a1 : Int) (r : Bool) (w : World) (hr0_4 : Kd.C k34 w A0_4 l0_4.length l0_4) (hc0_4 : l0_4.length ≤ c0_4) (h : spec_l3Form.f k a0_0 a0_1 a0_2 a0_3 l0_4 a1 = some r),
  Calls Tryd.prog 33 #[.agg #[.int .i64 a0_0, .int .i64 a0_1, .int .i64 a0_2, .int .i64 a0_3, .slice A0_4 l0_4.length c0_4], .int .i64 a1] w fun e w' => e = .returned (.bool r) ∧ Below w.heap.size w w' := by
 induction k using Nat.strongRecOn with
 | _ k ih =>
 intro a0_0 a0_1 a0_2 a0_3 A0_4 c0_4 l0_4 a1 r w hr0_4 hc0_4 h
 cases k with
 | zero => exact absurd h (by simp [spec_l3Form.f])
 | succ k =>
 simp only [spec_l3Form.f] at h
 have hu34 := Tryd.underlying34
 have hu31 := Tryd.underlying31
 have HR0_4 := z0 hr0_4
 have HC0_4 := z0 hc0_4
 clear hr0_4 hc0_4
 have HB := z0 (Below.refl w.heap.size w)
 have H : (if a1 < 1 then (spec_l3Form.j0 k a1 true a0_0 a0_1 a0_2 a0_3 l0_4) else ((spec_l3Kids.f k a0_0).bind fun t231 => (spec_l3Form.j0 k a1 (t231 != (l0_4.length : Int)) a0_0 a0_1 a0_2 a0_3 l0_4))) = some r := h
 clear h
 have HC3 := z0 H
 clear H
 go_enter Tryd.func33, Tryd.ntmps33
 go_upto_region 1 with (first | ((with_reducible refine gate_dst (N := 2) rfl ?_); (try (refine gate_guard (by rfl) ?_; dsimp only)); refine box_event ?hg (N := 2) ?hd (cs := #[.int .i64 a0_0, .int .i64 a0_1, .int .i64 a0_2, .int .i64 a0_3, .slice A0_4 l0_4.length c0_4]) (t := 34) ?hr ?_; (case hd => rfl); (case hg => rfl); (case hr => first | (go_simp; done) | (go_simp; rfl)); intro gb230 hg w4 hbox hb; have n_ := az (below_step (mB HB.out) hb) <| az (hbox) <| az ((by rw [hg]; exact (below_size (mB HB.out)) : w.heap.size ≤ gb230)) <| z0 ((by rw [hg]; exact (below_size (mB HB.out)) : w.heap.size ≤ gb230)); clear HB; obtain ⟨HB, BK230, GW230, GE230⟩ := n_; clear hb hbox hg))
 repeat (go_quiet (first | ((with_reducible refine gate_dst (N := 2) rfl ?_); (try (refine gate_guard (by rfl) ?_; dsimp only)); refine box_event ?hg (N := 2) ?hd (cs := #[.int .i64 a0_0, .int .i64 a0_1, .int .i64 a0_2, .int .i64 a0_3, .slice A0_4 l0_4.length c0_4]) (t := 34) ?hr ?_; (case hd => rfl); (case hg => rfl); (case hr => first | (go_simp; done) | (go_simp; rfl)); intro gb230 hg w4 hbox hb; have n_ := az (below_step (mB HB.out) hb) <| az (hbox) <| az ((by rw [hg]; exact (below_size (mB HB.out)) : w.heap.size ≤ gb230)) <| z0 ((by rw [hg]; exact (below_size (mB HB.out)) : w.heap.size ≤ gb230)); clear HB; obtain ⟨HB, BK230, GW230, GE230⟩ := n_; clear hb hbox hg)); go_upto_region 1 with (first | ((with_reducible refine gate_dst (N := 2) rfl ?_); (try (refine gate_guard (by rfl) ?_; dsimp only)); refine box_event ?hg (N := 2) ?hd (cs := #[.int .i64 a0_0, .int .i64 a0_1, .int .i64 a0_2, .int .i64 a0_3, .slice A0_4 l0_4.length c0_4]) (t := 34) ?hr ?_; (case hd => rfl); (case hg => rfl); (case hr => first | (go_simp; done) | (go_simp; rfl)); intro gb230 hg w4 hbox hb; have n_ := az (below_step (mB HB.out) hb) <| az (hbox) <| az ((by rw [hg]; exact (below_size (mB HB.out)) : w.heap.size ≤ gb230)) <| z0 ((by rw [hg]; exact (below_size (mB HB.out)) : w.heap.size ≤ gb230)); clear HB; obtain ⟨HB, BK230, GW230, GE230⟩ := n_; clear hb hbox hg)))
 (try simp only [Act.put, List.setIfInBounds_toArray, List.set_cons_zero, List.set_cons_succ])
 go_cut [16] (fun v16 wc => ∃ (kq : Nat) (x16_2 : Bool), v16 = .bool x16_2 ∧ Aside0 (spec_l3Form.j0 kq a1 x16_2 a0_0 a0_1 a0_2 a0_3 l0_4 = some r) ∧ Aside0 (kq ≤ k) ∧ Aside0 (wc.heap[gb230]? = some (.cells #[.int .i64 a0_0, .int .i64 a0_1, .int .i64 a0_2, .int .i64 a0_3, (.slice A0_4 l0_4.length c0_4)] 34 (0, 0))) ∧ Aside0 (Below w.heap.size w wc))
 case first =>
  have H := HC3.out
  clear HC3
  by_cases c5 : a1 < 1
  ·rw [if_pos c5] at H
   have c5b0 : decide (a1 < 1) = true := decide_eq_true c5
   clear c5
   (first | rw [c5b0] | (simp only [i64_w, i32_w]; rw [c5b0]) | skip)
   have H' := z0 H
   clear H
   go_wp2
   repeat (go_quiet (fail); try go_wp2)
   go_meet
   case rel => exact ⟨_, (true), rfy, H', ⟨by first | omega | exact Nat.le_refl _⟩, ⟨mK BK230.out⟩, ⟨mB HB.out⟩⟩
  ·rw [if_neg c5] at H
   have c5b0 : decide (a1 < 1) = false := decide_eq_false c5
   clear c5
   (first | rw [c5b0] | (simp only [i64_w, i32_w]; rw [c5b0]) | skip)
   replace H := Option.bind_eq_some_iff.mp H
   obtain ⟨t231, A60, H⟩ := H
   try dsimp only at H
   have A6 := z0 A60
   clear A60
   have H' := z0 H
   clear H
   obtain ⟨hcz7_0, hcz7_1, hcz7_2, hcz7_3, hcz7_4, hfz7_0, hfz7_1, hfz7_2, hfz7_3, hfz7_4⟩ := cel5 BK230.out
   go_wp2_with (first | (go_at_call 43; (with_reducible refine (spec_l3Kids.calls k a0_0 t231 _ A6.out).mono ?_); rintro e w' ⟨rfl, ⟨nd, rfl⟩⟩; (try first | exact ⟨rfl, _, World.drewN_drewN _ _ _⟩ | exact ⟨rfl, _, Eq.trans (World.drewN_drewN _ _ _) (congrArg (World.drewN _) (Nat.add_assoc _ _ _))⟩)))
   repeat (go_quiet (first | (go_at_call 43; (with_reducible refine (spec_l3Kids.calls k a0_0 t231 _ A6.out).mono ?_); rintro e w' ⟨rfl, ⟨nd, rfl⟩⟩; (try first | exact ⟨rfl, _, World.drewN_drewN _ _ _⟩ | exact ⟨rfl, _, Eq.trans (World.drewN_drewN _ _ _) (congrArg (World.drewN _) (Nat.add_assoc _ _ _))⟩))); try go_wp2_with (first | (go_at_call 43; (with_reducible refine (spec_l3Kids.calls k a0_0 t231 _ A6.out).mono ?_); rintro e w' ⟨rfl, ⟨nd, rfl⟩⟩; (try first | exact ⟨rfl, _, World.drewN_drewN _ _ _⟩ | exact ⟨rfl, _, Eq.trans (World.drewN_drewN _ _ _) (congrArg (World.drewN _) (Nat.add_assoc _ _ _))⟩))))
   go_meet
   case rel => exact ⟨_, ((t231 != (l0_4.length : Int))), rfy, H', ⟨by first | omega | exact Nat.le_refl _⟩, ⟨mK BK230.out⟩, ⟨mB HB.out⟩⟩
 case rest =>
  clear HC3
  skip
  obtain ⟨kq, x16_2, rfl, HA, HJ2, BK230, HB⟩ := hcut
  cases kq with
  | zero => exact absurd HA.out (by simp [spec_l3Form.j0])
  | succ kj2 =>
   have H := HA.out
   clear HA
   simp only [spec_l3Form.j0] at H
   by_cases c8 : x16_2 = true
   ·subst c8
    have H1 : (some false) = some r := by rw [if_pos rfl] at H; exact H
    clear H
    have H := H1
    clear H1
    obtain rfl := Option.some.inj H
    go_wp2
    repeat (go_quiet (fail); try go_wp2)
    go_ret
    exact ⟨rfx, mB HB.out⟩
   ·replace c8 := Bool.eq_false_iff.mpr c8
    subst c8
    have H1 : (if a0_0 = 1 then ((spec_NumCut.f a0_1).bind fun t232 => (if t232 = a0_1 then (spec_l3Form.j1 kj2 a1 false a0_0 a0_1 a0_2 a0_3 l0_4) else (spec_l3Form.j1 kj2 a1 true a0_0 a0_1 a0_2 a0_3 l0_4))) else (spec_l3Form.j1 kj2 a1 (a0_1 != 0) a0_0 a0_1 a0_2 a0_3 l0_4)) = some r := by rw [if_neg (show ¬ (false = true) by decide)] at H; exact H
    clear H
    have H := H1
    clear H1
    have HC9 := z0 H
    clear H
    go_upto_region 3 with (fail)
    repeat (go_quiet (fail); go_upto_region 3 with (fail))
    go_cut [37] (fun v37 wc => ∃ (kq : Nat) (x37_8 : Bool), v37 = .bool x37_8 ∧ Aside0 (spec_l3Form.j1 kq a1 x37_8 a0_0 a0_1 a0_2 a0_3 l0_4 = some r) ∧ Aside0 (kq ≤ kj2) ∧ Aside0 (wc.heap[gb230]? = some (.cells #[.int .i64 a0_0, .int .i64 a0_1, .int .i64 a0_2, .int .i64 a0_3, (.slice A0_4 l0_4.length c0_4)] 34 (0, 0))) ∧ Aside0 (Below w.heap.size w wc))
    case first =>
     have H := HC9.out
     clear HC9
     by_cases c10 : a0_0 = 1
     ·rw [if_pos c10] at H
      have c10b0 : (a0_0 == 1) = true := beq_iff_eq.mpr c10
      have c10b1 : (a0_0 != 1) = false := bne_eq_false_iff_eq.mpr c10
      clear c10
      (first | rw [c10b0] | (simp only [i64_w, i32_w]; rw [c10b0]) | skip)
      replace H := Option.bind_eq_some_iff.mp H
      obtain ⟨t232, A110, H⟩ := H
      try dsimp only at H
      have A11 := z0 A110
      clear A110
      by_cases c12 : t232 = a0_1
      ·rw [if_pos c12] at H
       have c12b0 : (t232 == a0_1) = true := beq_iff_eq.mpr c12
       have c12b1 : (t232 != a0_1) = false := bne_eq_false_iff_eq.mpr c12
       clear c12
       have H' := z0 H
       clear H
       obtain ⟨hcz13_0, hcz13_1, hcz13_2, hcz13_3, hcz13_4, hfz13_0, hfz13_1, hfz13_2, hfz13_3, hfz13_4⟩ := cel5 BK230.out
       go_wp2_with (first | (go_at_call 49; (with_reducible refine (spec_NumCut.calls a0_1 t232 _ A11.out).mono ?_); rintro e w' ⟨rfl, ⟨nd, rfl⟩⟩; (try first | exact ⟨rfl, _, World.drewN_drewN _ _ _⟩ | exact ⟨rfl, _, Eq.trans (World.drewN_drewN _ _ _) (congrArg (World.drewN _) (Nat.add_assoc _ _ _))⟩)))
       repeat (go_quiet (first | (go_at_call 49; (with_reducible refine (spec_NumCut.calls a0_1 t232 _ A11.out).mono ?_); rintro e w' ⟨rfl, ⟨nd, rfl⟩⟩; (try first | exact ⟨rfl, _, World.drewN_drewN _ _ _⟩ | exact ⟨rfl, _, Eq.trans (World.drewN_drewN _ _ _) (congrArg (World.drewN _) (Nat.add_assoc _ _ _))⟩))); try go_wp2_with (first | (go_at_call 49; (with_reducible refine (spec_NumCut.calls a0_1 t232 _ A11.out).mono ?_); rintro e w' ⟨rfl, ⟨nd, rfl⟩⟩; (try first | exact ⟨rfl, _, World.drewN_drewN _ _ _⟩ | exact ⟨rfl, _, Eq.trans (World.drewN_drewN _ _ _) (congrArg (World.drewN _) (Nat.add_assoc _ _ _))⟩))))
       go_meet
       case rel => exact ⟨_, (false), rfy, H', ⟨by have := HJ2.out; first | omega | exact Nat.le_refl _⟩, ⟨mK BK230.out⟩, ⟨mB HB.out⟩⟩
      ·rw [if_neg c12] at H
       have c12b0 : (t232 == a0_1) = false := beq_eq_false_iff_ne.mpr c12
       have c12b1 : (t232 != a0_1) = true := bne_iff_ne.mpr c12
       have H' := z0 H
       clear H
       obtain ⟨hcz14_0, hcz14_1, hcz14_2, hcz14_3, hcz14_4, hfz14_0, hfz14_1, hfz14_2, hfz14_3, hfz14_4⟩ := cel5 BK230.out
       go_wp2_with (first | (go_at_call 49; (with_reducible refine (spec_NumCut.calls a0_1 t232 _ A11.out).mono ?_); rintro e w' ⟨rfl, ⟨nd, rfl⟩⟩; (try first | exact ⟨rfl, _, World.drewN_drewN _ _ _⟩ | exact ⟨rfl, _, Eq.trans (World.drewN_drewN _ _ _) (congrArg (World.drewN _) (Nat.add_assoc _ _ _))⟩)))
       repeat (go_quiet (first | (go_at_call 49; (with_reducible refine (spec_NumCut.calls a0_1 t232 _ A11.out).mono ?_); rintro e w' ⟨rfl, ⟨nd, rfl⟩⟩; (try first | exact ⟨rfl, _, World.drewN_drewN _ _ _⟩ | exact ⟨rfl, _, Eq.trans (World.drewN_drewN _ _ _) (congrArg (World.drewN _) (Nat.add_assoc _ _ _))⟩))); try go_wp2_with (first | (go_at_call 49; (with_reducible refine (spec_NumCut.calls a0_1 t232 _ A11.out).mono ?_); rintro e w' ⟨rfl, ⟨nd, rfl⟩⟩; (try first | exact ⟨rfl, _, World.drewN_drewN _ _ _⟩ | exact ⟨rfl, _, Eq.trans (World.drewN_drewN _ _ _) (congrArg (World.drewN _) (Nat.add_assoc _ _ _))⟩))))
       go_meet
       case rel => exact ⟨_, (true), rfy, H', ⟨by have := HJ2.out; first | omega | exact Nat.le_refl _⟩, ⟨mK BK230.out⟩, ⟨mB HB.out⟩⟩
     ·rw [if_neg c10] at H
      have c10b0 : (a0_0 == 1) = false := beq_eq_false_iff_ne.mpr c10
      have c10b1 : (a0_0 != 1) = true := bne_iff_ne.mpr c10
      (first | rw [c10b0] | (simp only [i64_w, i32_w]; rw [c10b0]) | skip)
      have H' := z0 H
      clear H
      obtain ⟨hcz15_0, hcz15_1, hcz15_2, hcz15_3, hcz15_4, hfz15_0, hfz15_1, hfz15_2, hfz15_3, hfz15_4⟩ := cel5 BK230.out
      go_wp2
      repeat (go_quiet (fail); try go_wp2)
      go_meet
      case rel => exact ⟨_, ((a0_1 != 0)), rfy, H', ⟨by have := HJ2.out; first | omega | exact Nat.le_refl _⟩, ⟨mK BK230.out⟩, ⟨mB HB.out⟩⟩
    case rest =>
     clear HC9
     (try clear c8)
     obtain ⟨kq, x37_8, rfl, HA, HJ8, BK230, HB⟩ := hcut
     cases kq with
     | zero => exact absurd HA.out (by simp [spec_l3Form.j1])
     | succ kj8 =>
      have H := HA.out
      clear HA
      simp only [spec_l3Form.j1] at H
      by_cases c16 : x37_8 = true
      ·subst c16
       have H1 : (some false) = some r := by rw [if_pos rfl] at H; exact H
       clear H
       have H := H1
       clear H1
       obtain rfl := Option.some.inj H
       go_wp2
       repeat (go_quiet (fail); try go_wp2)
       go_ret
       exact ⟨rfx, mB HB.out⟩
      ·replace c16 := Bool.eq_false_iff.mpr c16
       subst c16
       have H1 : (if a0_0 = 2 then ((spec_AddrOk.f a0_2 a0_3).bind fun t233 => (if t233 = true then (spec_l3Form.j2 kj8 a1 false a0_0 a0_1 a0_2 a0_3 l0_4) else (spec_l3Form.j2 kj8 a1 true a0_0 a0_1 a0_2 a0_3 l0_4))) else (spec_l3Form.j2 kj8 a1 (!(a0_2 == 0) || (!(a0_3 == 0))) a0_0 a0_1 a0_2 a0_3 l0_4)) = some r := by rw [if_neg (show ¬ (false = true) by decide)] at H; exact H
       clear H
       have H := H1
       clear H1
       have HC17 := z0 H
       clear H
       go_upto_region 5 with (fail)
       repeat (go_quiet (fail); go_upto_region 5 with (fail))
       go_cut [57] (fun v57 wc => ∃ (kq : Nat) (x57_16 : Bool), v57 = .bool x57_16 ∧ Aside0 (spec_l3Form.j2 kq a1 x57_16 a0_0 a0_1 a0_2 a0_3 l0_4 = some r) ∧ Aside0 (kq ≤ kj8) ∧ Aside0 (wc.heap[gb230]? = some (.cells #[.int .i64 a0_0, .int .i64 a0_1, .int .i64 a0_2, .int .i64 a0_3, (.slice A0_4 l0_4.length c0_4)] 34 (0, 0))) ∧ Aside0 (Below w.heap.size w wc))
       case first =>
        have H := HC17.out
        clear HC17
        by_cases c18 : a0_0 = 2
        ·rw [if_pos c18] at H
         have c18b0 : (a0_0 == 2) = true := beq_iff_eq.mpr c18
         have c18b1 : (a0_0 != 2) = false := bne_eq_false_iff_eq.mpr c18
         clear c18
         (first | rw [c18b0] | (simp only [i64_w, i32_w]; rw [c18b0]) | skip)
         replace H := Option.bind_eq_some_iff.mp H
         obtain ⟨t233, A190, H⟩ := H
         try dsimp only at H
         have A19 := z0 A190
         clear A190
         by_cases c20 : t233 = true
         ·subst c20
          have H1 : (spec_l3Form.j2 kj8 a1 false a0_0 a0_1 a0_2 a0_3 l0_4) = some r := by rw [if_pos rfl] at H; exact H
          clear H
          have H := H1
          clear H1
          have H' := z0 H
          clear H
          obtain ⟨hcz21_0, hcz21_1, hcz21_2, hcz21_3, hcz21_4, hfz21_0, hfz21_1, hfz21_2, hfz21_3, hfz21_4⟩ := cel5 BK230.out
          go_wp2_with (first | (go_at_call 14; (with_reducible refine (spec_AddrOk.calls a0_2 a0_3 true _ A19.out).mono ?_); rintro e w22 ⟨rfl, hb⟩; have n_ := az (bB BK230.out hb) <| z0 (below_step (mB HB.out) hb); clear BK230 HB; obtain ⟨BK230, HB⟩ := n_; clear hb; obtain ⟨hcz23_0, hcz23_1, hcz23_2, hcz23_3, hcz23_4, hfz23_0, hfz23_1, hfz23_2, hfz23_3, hfz23_4⟩ := cel5 BK230.out))
          repeat (go_quiet (first | (go_at_call 14; (with_reducible refine (spec_AddrOk.calls a0_2 a0_3 true _ A19.out).mono ?_); rintro e w22 ⟨rfl, hb⟩; have n_ := az (bB BK230.out hb) <| z0 (below_step (mB HB.out) hb); clear BK230 HB; obtain ⟨BK230, HB⟩ := n_; clear hb; obtain ⟨hcz23_0, hcz23_1, hcz23_2, hcz23_3, hcz23_4, hfz23_0, hfz23_1, hfz23_2, hfz23_3, hfz23_4⟩ := cel5 BK230.out)); try go_wp2_with (first | (go_at_call 14; (with_reducible refine (spec_AddrOk.calls a0_2 a0_3 true _ A19.out).mono ?_); rintro e w22 ⟨rfl, hb⟩; have n_ := az (bB BK230.out hb) <| z0 (below_step (mB HB.out) hb); clear BK230 HB; obtain ⟨BK230, HB⟩ := n_; clear hb; obtain ⟨hcz23_0, hcz23_1, hcz23_2, hcz23_3, hcz23_4, hfz23_0, hfz23_1, hfz23_2, hfz23_3, hfz23_4⟩ := cel5 BK230.out)))
          go_meet
          case rel => exact ⟨_, (false), rfy, H', ⟨by have := HJ2.out; have := HJ8.out; first | omega | exact Nat.le_refl _⟩, ⟨mK BK230.out⟩, ⟨mB HB.out⟩⟩
         ·replace c20 := Bool.eq_false_iff.mpr c20
          subst c20
          have H1 : (spec_l3Form.j2 kj8 a1 true a0_0 a0_1 a0_2 a0_3 l0_4) = some r := by rw [if_neg (show ¬ (false = true) by decide)] at H; exact H
          clear H
          have H := H1
          clear H1
          have H' := z0 H
          clear H
          obtain ⟨hcz24_0, hcz24_1, hcz24_2, hcz24_3, hcz24_4, hfz24_0, hfz24_1, hfz24_2, hfz24_3, hfz24_4⟩ := cel5 BK230.out
          go_wp2_with (first | (go_at_call 14; (with_reducible refine (spec_AddrOk.calls a0_2 a0_3 false _ A19.out).mono ?_); rintro e w25 ⟨rfl, hb⟩; have n_ := az (bB BK230.out hb) <| z0 (below_step (mB HB.out) hb); clear BK230 HB; obtain ⟨BK230, HB⟩ := n_; clear hb))
          repeat (go_quiet (first | (go_at_call 14; (with_reducible refine (spec_AddrOk.calls a0_2 a0_3 false _ A19.out).mono ?_); rintro e w25 ⟨rfl, hb⟩; have n_ := az (bB BK230.out hb) <| z0 (below_step (mB HB.out) hb); clear BK230 HB; obtain ⟨BK230, HB⟩ := n_; clear hb)); try go_wp2_with (first | (go_at_call 14; (with_reducible refine (spec_AddrOk.calls a0_2 a0_3 false _ A19.out).mono ?_); rintro e w25 ⟨rfl, hb⟩; have n_ := az (bB BK230.out hb) <| z0 (below_step (mB HB.out) hb); clear BK230 HB; obtain ⟨BK230, HB⟩ := n_; clear hb)))
          go_meet
          case rel => exact ⟨_, (true), rfy, H', ⟨by have := HJ2.out; have := HJ8.out; first | omega | exact Nat.le_refl _⟩, ⟨mK BK230.out⟩, ⟨mB HB.out⟩⟩
        ·rw [if_neg c18] at H
         have c18b0 : (a0_0 == 2) = false := beq_eq_false_iff_ne.mpr c18
         have c18b1 : (a0_0 != 2) = true := bne_iff_ne.mpr c18
         (first | rw [c18b0] | (simp only [i64_w, i32_w]; rw [c18b0]) | skip)
         have H' := z0 H
         clear H
         obtain ⟨hcz26_0, hcz26_1, hcz26_2, hcz26_3, hcz26_4, hfz26_0, hfz26_1, hfz26_2, hfz26_3, hfz26_4⟩ := cel5 BK230.out
         go_wp2
         repeat (go_quiet (fail); try go_wp2)
         go_meet
         case rel => exact ⟨_, ((!(a0_2 == 0) || (!(a0_3 == 0)))), rfy, H', ⟨by have := HJ2.out; have := HJ8.out; first | omega | exact Nat.le_refl _⟩, ⟨mK BK230.out⟩, ⟨mB HB.out⟩⟩
       case rest =>
        clear HC17
        (try clear c8); (try clear c16)
        obtain ⟨kq, x57_16, rfl, HA, HJ16, BK230, HB⟩ := hcut
        cases kq with
        | zero => exact absurd HA.out (by simp [spec_l3Form.j2])
        | succ kj16 =>
         have H := HA.out
         clear HA
         simp only [spec_l3Form.j2] at H
         by_cases c27 : x57_16 = true
         ·subst c27
          have H1 : (some false) = some r := by rw [if_pos rfl] at H; exact H
          clear H
          have H := H1
          clear H1
          obtain rfl := Option.some.inj H
          go_wp2
          repeat (go_quiet (fail); try go_wp2)
          go_ret
          exact ⟨rfx, mB HB.out⟩
         ·replace c27 := Bool.eq_false_iff.mpr c27
          subst c27
          have H1 : (spec_l3Form.l0 kj16 a1 0 a0_0 a0_1 a0_2 a0_3 l0_4) = some r := by rw [if_neg (show ¬ (false = true) by decide)] at H; exact H
          clear H
          have H := H1
          clear H1
          have H' := z0 H
          clear H
          go_wp2
          repeat (go_quiet (fail); try go_wp2)
          go_loopg [5] kj16 (fun kq v5 w' => ∃ (x5_4 : Int), v5 = .int .i64 x5_4 ∧ Aside0 (spec_l3Form.l0 kq a1 x5_4 a0_0 a0_1 a0_2 a0_3 l0_4 = some r) ∧ Aside0 (kq ≤ kj16) ∧ Aside0 (w'.heap[gb230]? = some (.cells #[.int .i64 a0_0, .int .i64 a0_1, .int .i64 a0_2, .int .i64 a0_3, (.slice A0_4 l0_4.length c0_4)] 34 (0, 0))) ∧ Aside0 (Below w.heap.size w w'))
          case atStart => exact ⟨(0), rfy, H', ⟨Nat.le_refl _⟩, ⟨mK BK230.out⟩, ⟨mB HB.out⟩⟩
          case round =>
           clear H'
           (try clear c8); (try clear c16); (try clear c27)
           obtain ⟨x5_4, rfl, HA, HK4, BK230, HB⟩ := hrel
           cases gk with
           | zero => exact absurd HA.out (by simp [spec_l3Form.l0])
           | succ k4 =>
            have H := HA.out
            clear HA
            simp only [spec_l3Form.l0] at H
            by_cases c28 : x5_4 < (l0_4.length : Int)
            ·rw [if_pos c28] at H
             have c28b0 : decide (x5_4 < (l0_4.length : Int)) = true := decide_eq_true c28
             clear c28
             by_cases c29 : 0 ≤ x5_4
             ·rw [if_pos c29] at H
              have c29b0 : decide (0 ≤ x5_4) = true := decide_eq_true c29
              clear c29
              replace H := Option.bind_eq_some_iff.mp H
              obtain ⟨t235, A300, H⟩ := H
              try dsimp only at H
              have A30 := z0 A300
              clear A300
              by_cases c31 : t235 = true
              ·subst c31
               have H1 : (spec_l3Form.l0 k4 a1 (wrap64 (x5_4 + 1)) a0_0 a0_1 a0_2 a0_3 l0_4) = some r := by rw [if_pos rfl] at H; exact H
               clear H
               have H := H1
               clear H1
               have H' := z0 H
               clear H
               obtain ⟨hcz32_0, hcz32_1, hcz32_2, hcz32_3, hcz32_4, hfz32_0, hfz32_1, hfz32_2, hfz32_3, hfz32_4⟩ := cel5 BK230.out
               have p234 : 0 ≤ (x5_4 : Int) := of_decide_eq_true (by first | (with_reducible assumption) | assumption)
               have q234 : x5_4 < (l0_4.length : Int) := of_decide_eq_true (by first | (with_reducible assumption) | assumption)
               obtain ⟨ad234, A234_4, c234_4, e234, hx234_0, hx234_1, hx234_2, hx234_3, hx234_4, hl234_4, hi234_4⟩ := at_T34 HR0_4.out x5_4 p234 q234
               cases e234
               replace hx234_0 := (HB.out.cell (World.block_lt_of_cell? w _ hx234_0)).trans hx234_0
               replace hx234_1 := (HB.out.cell (World.block_lt_of_cell? w _ hx234_1)).trans hx234_1
               replace hx234_2 := (HB.out.cell (World.block_lt_of_cell? w _ hx234_2)).trans hx234_2
               replace hx234_3 := (HB.out.cell (World.block_lt_of_cell? w _ hx234_3)).trans hx234_3
               replace hx234_4 := (HB.out.cell (World.block_lt_of_cell? w _ hx234_4)).trans hx234_4
               have HR234_4 := z0 hi234_4
               have HC234_4 := z0 hl234_4
               clear hi234_4 hl234_4
               replace p234 := eq_true p234
               replace q234 := eq_true q234
               go_wp2_with (first | (go_at_call 33; (with_reducible refine (ih k4 q33_1 ((rd_T34 l0_4 x5_4).f0) ((rd_T34 l0_4 x5_4).f1) ((rd_T34 l0_4 x5_4).f2.f0) ((rd_T34 l0_4 x5_4).f2.f1) _ _ ((rd_T34 l0_4 x5_4).f3) (wrap64 (a1 - 1)) true _ ?side1 ?side2 A30.out).mono ?_); (case side1 => exact mC (Kd.C_below HR234_4.out HB.out)); (case side2 => exact HC234_4.out); rintro e w33 ⟨rfl, hb⟩; have n_ := az (bB BK230.out hb) <| z0 (below_step (mB HB.out) hb); clear BK230 HB; obtain ⟨BK230, HB⟩ := n_; clear hb))
               repeat (go_quiet (first | (go_at_call 33; (with_reducible refine (ih k4 q33_1 ((rd_T34 l0_4 x5_4).f0) ((rd_T34 l0_4 x5_4).f1) ((rd_T34 l0_4 x5_4).f2.f0) ((rd_T34 l0_4 x5_4).f2.f1) _ _ ((rd_T34 l0_4 x5_4).f3) (wrap64 (a1 - 1)) true _ ?side1 ?side2 A30.out).mono ?_); (case side1 => exact mC (Kd.C_below HR234_4.out HB.out)); (case side2 => exact HC234_4.out); rintro e w33 ⟨rfl, hb⟩; have n_ := az (bB BK230.out hb) <| z0 (below_step (mB HB.out) hb); clear BK230 HB; obtain ⟨BK230, HB⟩ := n_; clear hb)); try go_wp2_with (first | (go_at_call 33; (with_reducible refine (ih k4 q33_1 ((rd_T34 l0_4 x5_4).f0) ((rd_T34 l0_4 x5_4).f1) ((rd_T34 l0_4 x5_4).f2.f0) ((rd_T34 l0_4 x5_4).f2.f1) _ _ ((rd_T34 l0_4 x5_4).f3) (wrap64 (a1 - 1)) true _ ?side1 ?side2 A30.out).mono ?_); (case side1 => exact mC (Kd.C_below HR234_4.out HB.out)); (case side2 => exact HC234_4.out); rintro e w33 ⟨rfl, hb⟩; have n_ := az (bB BK230.out hb) <| z0 (below_step (mB HB.out) hb); clear BK230 HB; obtain ⟨BK230, HB⟩ := n_; clear hb)))
               go_roundg k4
               case measure => have := HJ2.out; have := HJ8.out; have := HJ16.out; have := HK4.out; omega
               case rel => exact ⟨(wrap64 (x5_4 + 1)), rfy, H', ⟨by have := HJ2.out; have := HJ8.out; have := HJ16.out; have := HK4.out; omega⟩, ⟨mK BK230.out⟩, ⟨mB HB.out⟩⟩
              ·replace c31 := Bool.eq_false_iff.mpr c31
               subst c31
               have H1 : (some false) = some r := by rw [if_neg (show ¬ (false = true) by decide)] at H; exact H
               clear H
               have H := H1
               clear H1
               obtain rfl := Option.some.inj H
               obtain ⟨hcz34_0, hcz34_1, hcz34_2, hcz34_3, hcz34_4, hfz34_0, hfz34_1, hfz34_2, hfz34_3, hfz34_4⟩ := cel5 BK230.out
               have p234 : 0 ≤ (x5_4 : Int) := of_decide_eq_true (by first | (with_reducible assumption) | assumption)
               have q234 : x5_4 < (l0_4.length : Int) := of_decide_eq_true (by first | (with_reducible assumption) | assumption)
               obtain ⟨ad234, A234_4, c234_4, e234, hx234_0, hx234_1, hx234_2, hx234_3, hx234_4, hl234_4, hi234_4⟩ := at_T34 HR0_4.out x5_4 p234 q234
               cases e234
               replace hx234_0 := (HB.out.cell (World.block_lt_of_cell? w _ hx234_0)).trans hx234_0
               replace hx234_1 := (HB.out.cell (World.block_lt_of_cell? w _ hx234_1)).trans hx234_1
               replace hx234_2 := (HB.out.cell (World.block_lt_of_cell? w _ hx234_2)).trans hx234_2
               replace hx234_3 := (HB.out.cell (World.block_lt_of_cell? w _ hx234_3)).trans hx234_3
               replace hx234_4 := (HB.out.cell (World.block_lt_of_cell? w _ hx234_4)).trans hx234_4
               have HR234_4 := z0 hi234_4
               have HC234_4 := z0 hl234_4
               clear hi234_4 hl234_4
               replace p234 := eq_true p234
               replace q234 := eq_true q234
               go_wp2_with (first | (go_at_call 33; (with_reducible refine (ih k4 q33_1 ((rd_T34 l0_4 x5_4).f0) ((rd_T34 l0_4 x5_4).f1) ((rd_T34 l0_4 x5_4).f2.f0) ((rd_T34 l0_4 x5_4).f2.f1) _ _ ((rd_T34 l0_4 x5_4).f3) (wrap64 (a1 - 1)) false _ ?side1 ?side2 A30.out).mono ?_); (case side1 => exact mC (Kd.C_below HR234_4.out HB.out)); (case side2 => exact HC234_4.out); rintro e w35 ⟨rfl, hb⟩; have n_ := az (bB BK230.out hb) <| z0 (below_step (mB HB.out) hb); clear BK230 HB; obtain ⟨BK230, HB⟩ := n_; clear hb))
               repeat (go_quiet (first | (go_at_call 33; (with_reducible refine (ih k4 q33_1 ((rd_T34 l0_4 x5_4).f0) ((rd_T34 l0_4 x5_4).f1) ((rd_T34 l0_4 x5_4).f2.f0) ((rd_T34 l0_4 x5_4).f2.f1) _ _ ((rd_T34 l0_4 x5_4).f3) (wrap64 (a1 - 1)) false _ ?side1 ?side2 A30.out).mono ?_); (case side1 => exact mC (Kd.C_below HR234_4.out HB.out)); (case side2 => exact HC234_4.out); rintro e w35 ⟨rfl, hb⟩; have n_ := az (bB BK230.out hb) <| z0 (below_step (mB HB.out) hb); clear BK230 HB; obtain ⟨BK230, HB⟩ := n_; clear hb)); try go_wp2_with (first | (go_at_call 33; (with_reducible refine (ih k4 q33_1 ((rd_T34 l0_4 x5_4).f0) ((rd_T34 l0_4 x5_4).f1) ((rd_T34 l0_4 x5_4).f2.f0) ((rd_T34 l0_4 x5_4).f2.f1) _ _ ((rd_T34 l0_4 x5_4).f3) (wrap64 (a1 - 1)) false _ ?side1 ?side2 A30.out).mono ?_); (case side1 => exact mC (Kd.C_below HR234_4.out HB.out)); (case side2 => exact HC234_4.out); rintro e w35 ⟨rfl, hb⟩; have n_ := az (bB BK230.out hb) <| z0 (below_step (mB HB.out) hb); clear BK230 HB; obtain ⟨BK230, HB⟩ := n_; clear hb)))
               go_ret
               exact ⟨rfx, mB HB.out⟩
             ·rw [if_neg c29] at H
              exact absurd H (by simp)
            ·rw [if_neg c28] at H
             have c28b0 : decide (x5_4 < (l0_4.length : Int)) = false := decide_eq_false c28
             clear c28
             obtain rfl := Option.some.inj H
             obtain ⟨hcz36_0, hcz36_1, hcz36_2, hcz36_3, hcz36_4, hfz36_0, hfz36_1, hfz36_2, hfz36_3, hfz36_4⟩ := cel5 BK230.out
             go_wp2
             repeat (go_quiet (fail); try go_wp2)
             go_ret
             exact ⟨rfx, mB HB.out⟩

end Go.Proofs.YtfmipdhkiahjoaaDoor.B
namespace Go.Proofs.YtfmipdhkiahjoaaDoor.B
open Go.RowKit Go.Proofs.YtfmipdhkiahjoaaDoorW.PrintWords Go.Proofs.YtfmipdhkiahjoaaDoorW.PrintLast Go.Proofs.YtfmipdhkiahjoaaDoorW.PrintMore
attribute [local go_sem] max2_int min2_int max_two min_two max_three min_three max_four min_four   -- for this text's walks alone
set_option linter.unusedVariables false
set_option linter.unusedSimpArgs false

/-! ### spec_l3Many: function 34 -/
mutual
def spec_l3Many.l0 : Nat → Int → Int → Int → Int → Int → Int → Int → List (S34) → Option (Int)
 | 0, _, _, _, _, _, _, _, _ => none
 | k + 1, x1, x5, x6, x237000, x237001, x237002, x237003, x237004 => if x6 < (x237004.length : Int) then (if x1 > 0 then (if 0 ≤ x6 then ((spec_l3Many.f k ((rd_T34 x237004 x6).f0) ((rd_T34 x237004 x6).f1) ((rd_T34 x237004 x6).f2.f0) ((rd_T34 x237004 x6).f2.f1) ((rd_T34 x237004 x6).f3) (wrap64 (x1 - 1))).bind fun t238 => (spec_l3Many.l0 k x1 (wrap64 (x5 + t238)) (wrap64 (x6 + 1)) x237000 x237001 x237002 x237003 x237004)) else (none)) else (some x5)) else (some x5)
def spec_l3Many.f : Nat → Int → Int → Int → Int → List (S34) → Int → Option (Int)
 | 0, _, _, _, _, _, _ => none
 | k + 1, a0_0, a0_1, a0_2, a0_3, l0_4, a1 => spec_l3Many.l0 k a1 1 0 a0_0 a0_1 a0_2 a0_3 l0_4
end
theorem spec_l3Many.mono_l : ∀ k, (∀ y0 y1 y2 y3 y4 y5, LeO (spec_l3Many.f k y0 y1 y2 y3 y4 y5) (spec_l3Many.f (k + 1) y0 y1 y2 y3 y4 y5)) ∧ (∀ y0 y1 y2 y3 y4 y5 y6 y7, LeO (spec_l3Many.l0 k y0 y1 y2 y3 y4 y5 y6 y7) (spec_l3Many.l0 (k + 1) y0 y1 y2 y3 y4 y5 y6 y7))
 | 0 => ⟨fun _ _ _ _ _ _ r h => by simp [spec_l3Many.f] at h, fun _ _ _ _ _ _ _ _ r h => by simp [spec_l3Many.l0] at h⟩
 | k + 1 => by
  obtain ⟨ih0, ih1⟩ := spec_l3Many.mono_l k
  refine ⟨?_, ?_⟩
  ·intro y0 y1 y2 y3 y4 y5
   unfold spec_l3Many.f
   repeat' first
   | (with_reducible exact ih0 _ _ _ _ _ _)
   | (with_reducible exact ih1 _ _ _ _ _ _ _ _)
   | (with_reducible exact LeO.refl _)
   | (with_reducible exact LeO.none _)
   | (with_reducible refine LeO.ite ?_ ?_)
   | (with_reducible refine LeO.bind ?_ (fun _ => ?_))
   | exact ih0 _ _ _ _ _ _
   | exact ih1 _ _ _ _ _ _ _ _
   | exact LeO.none _
   | refine LeO.ite ?_ ?_
   | refine LeO.bind ?_ (fun _ => ?_)
  ·intro y0 y1 y2 y3 y4 y5 y6 y7
   unfold spec_l3Many.l0
   repeat' first
   | (with_reducible exact ih0 _ _ _ _ _ _)
   | (with_reducible exact ih1 _ _ _ _ _ _ _ _)
   | (with_reducible exact LeO.refl _)
   | (with_reducible exact LeO.none _)
   | (with_reducible refine LeO.ite ?_ ?_)
   | (with_reducible refine LeO.bind ?_ (fun _ => ?_))
   | exact ih0 _ _ _ _ _ _
   | exact ih1 _ _ _ _ _ _ _ _
   | exact LeO.none _
   | refine LeO.ite ?_ ?_
   | refine LeO.bind ?_ (fun _ => ?_)
theorem spec_l3Many.mono : ∀ a0 a1 a2 a3 a4 a5 k, LeO (spec_l3Many.f k a0 a1 a2 a3 a4 a5) (spec_l3Many.f (k + 1) a0 a1 a2 a3 a4 a5) := by
 intro a0 a1 a2 a3 a4 a5 k
 obtain ⟨ih0, ih1⟩ := spec_l3Many.mono_l k
 exact ih0 a0 a1 a2 a3 a4 a5
set_option maxHeartbeats 8000000 in
set_option maxRecDepth 100000 in
theorem spec_l3Many.calls (k : Nat) : ∀ (a0_0 : Int) (a0_1 : Int) (a0_2 : Int) (a0_3 : Int) (A0_4 : Option Addr) (c0_4 : Nat) (l0_4 : List (S34)) (a1 : Int) (r : Int) (w : World) (hr0_4 : Kd.C k34 w A0_4 l0_4.length l0_4) (hc0_4 : l0_4.length ≤ c0_4) (h : spec_l3Many.f k a0_0 a0_1 a0_2 a0_3 l0_4 a1 = some r),
  Calls Tryd.prog 34 #[.agg #[.int .i64 a0_0, .int .i64 a0_1, .int .i64 a0_2, .int .i64 a0_3, .slice A0_4 l0_4.length c0_4], .int .i64 a1] w fun e w' => e = .returned (.int .i64 r) ∧ Below w.heap.size w w' := by
 induction k using Nat.strongRecOn with
 | _ k ih =>
 intro a0_0 a0_1 a0_2 a0_3 A0_4 c0_4 l0_4 a1 r w hr0_4 hc0_4 h
 cases k with
 | zero => exact absurd h (by simp [spec_l3Many.f])
 | succ k =>
 simp only [spec_l3Many.f] at h
 have hu34 := Tryd.underlying34
 have HR0_4 := z0 hr0_4
 have HC0_4 := z0 hc0_4
 clear hr0_4 hc0_4
 have HB := z0 (Below.refl w.heap.size w)
 have H : (spec_l3Many.l0 k a1 1 0 a0_0 a0_1 a0_2 a0_3 l0_4) = some r := h
 clear h
 have H' := z0 H
 clear H
 go_enter Tryd.func34, Tryd.ntmps34
 go_wp2_with (first | ((with_reducible refine gate_dst (N := 2) rfl ?_); refine box_event ?hg (N := 2) ?hd (cs := #[.int .i64 a0_0, .int .i64 a0_1, .int .i64 a0_2, .int .i64 a0_3, .slice A0_4 l0_4.length c0_4]) (t := 34) ?hr ?_; (case hd => rfl); (case hg => rfl); (case hr => first | (go_simp; done) | (go_simp; rfl)); intro gb236 hg w3 hbox hb; have n_ := az (below_step (mB HB.out) hb) <| az (hbox) <| az ((by rw [hg]; exact (below_size (mB HB.out)) : w.heap.size ≤ gb236)) <| z0 ((by rw [hg]; exact (below_size (mB HB.out)) : w.heap.size ≤ gb236)); clear HB; obtain ⟨HB, BK236, GW236, GE236⟩ := n_; clear hb hbox hg))
 go_loopg [5, 6] k (fun kq v5 v6 w' => ∃ (x5_1 : Int) (x6_1 : Int), v5 = .int .i64 x5_1 ∧ v6 = .int .i64 x6_1 ∧ Aside0 (spec_l3Many.l0 kq a1 x5_1 x6_1 a0_0 a0_1 a0_2 a0_3 l0_4 = some r) ∧ Aside0 (kq ≤ k) ∧ Aside0 (w'.heap[gb236]? = some (.cells #[.int .i64 a0_0, .int .i64 a0_1, .int .i64 a0_2, .int .i64 a0_3, (.slice A0_4 l0_4.length c0_4)] 34 (0, 0))) ∧ Aside0 (Below w.heap.size w w'))
 case atStart => exact ⟨(1), (0), rfy, rfy, H', ⟨Nat.le_refl _⟩, ⟨mK BK236.out⟩, ⟨mB HB.out⟩⟩
 case round =>
  clear H'
  skip
  obtain ⟨x5_1, x6_1, rfl, rfl, HA, HK1, BK236, HB⟩ := hrel
  cases gk with
  | zero => exact absurd HA.out (by simp [spec_l3Many.l0])
  | succ k1 =>
   have H := HA.out
   clear HA
   simp only [spec_l3Many.l0] at H
   by_cases c4 : x6_1 < (l0_4.length : Int)
   ·rw [if_pos c4] at H
    have c4b0 : decide (x6_1 < (l0_4.length : Int)) = true := decide_eq_true c4
    clear c4
    by_cases c5 : a1 > 0
    ·rw [if_pos c5] at H
     have c5b0 : decide (0 < a1) = true := decide_eq_true c5
     clear c5
     by_cases c6 : 0 ≤ x6_1
     ·rw [if_pos c6] at H
      have c6b0 : decide (0 ≤ x6_1) = true := decide_eq_true c6
      clear c6
      replace H := Option.bind_eq_some_iff.mp H
      obtain ⟨t238, A70, H⟩ := H
      try dsimp only at H
      have A7 := z0 A70
      clear A70
      have H' := z0 H
      clear H
      obtain ⟨hcz8_0, hcz8_1, hcz8_2, hcz8_3, hcz8_4, hfz8_0, hfz8_1, hfz8_2, hfz8_3, hfz8_4⟩ := cel5 BK236.out
      have p237 : 0 ≤ (x6_1 : Int) := of_decide_eq_true (by first | (with_reducible assumption) | assumption)
      have q237 : x6_1 < (l0_4.length : Int) := of_decide_eq_true (by first | (with_reducible assumption) | assumption)
      obtain ⟨ad237, A237_4, c237_4, e237, hx237_0, hx237_1, hx237_2, hx237_3, hx237_4, hl237_4, hi237_4⟩ := at_T34 HR0_4.out x6_1 p237 q237
      cases e237
      replace hx237_0 := (HB.out.cell (World.block_lt_of_cell? w _ hx237_0)).trans hx237_0
      replace hx237_1 := (HB.out.cell (World.block_lt_of_cell? w _ hx237_1)).trans hx237_1
      replace hx237_2 := (HB.out.cell (World.block_lt_of_cell? w _ hx237_2)).trans hx237_2
      replace hx237_3 := (HB.out.cell (World.block_lt_of_cell? w _ hx237_3)).trans hx237_3
      replace hx237_4 := (HB.out.cell (World.block_lt_of_cell? w _ hx237_4)).trans hx237_4
      have HR237_4 := z0 hi237_4
      have HC237_4 := z0 hl237_4
      clear hi237_4 hl237_4
      replace p237 := eq_true p237
      replace q237 := eq_true q237
      go_wp2_with (first | ((with_reducible refine gate_callee (f := 34) rfl ?_); refine goesL_ (some 26) rfl rfl Tryd.func34 (by kernel_rfl) rfl #[.agg #[.int .i64 ((rd_T34 l0_4 x6_1).f0), .int .i64 ((rd_T34 l0_4 x6_1).f1), .int .i64 ((rd_T34 l0_4 x6_1).f2.f0), .int .i64 ((rd_T34 l0_4 x6_1).f2.f1), .slice A237_4 ((rd_T34 l0_4 x6_1).f3).length c237_4], .int .i64 (wrap64 (a1 - 1))] rfl argx ?_; (with_reducible refine (ih k1 (by have := HK1.out; omega) ((rd_T34 l0_4 x6_1).f0) ((rd_T34 l0_4 x6_1).f1) ((rd_T34 l0_4 x6_1).f2.f0) ((rd_T34 l0_4 x6_1).f2.f1) _ _ ((rd_T34 l0_4 x6_1).f3) (wrap64 (a1 - 1)) t238 _ ?side1 ?side2 A7.out).mono ?_); (case side1 => exact mC (Kd.C_below HR237_4.out HB.out)); (case side2 => exact HC237_4.out); rintro e w9 ⟨rfl, hb⟩; refine ⟨_, rfl, ?_⟩; have n_ := az (bB BK236.out hb) <| z0 (below_step (mB HB.out) hb); clear BK236 HB; obtain ⟨BK236, HB⟩ := n_; clear hb))
      go_roundg k1
      case measure => have := HK1.out; omega
      case rel => exact ⟨(wrap64 (x5_1 + t238)), (wrap64 (x6_1 + 1)), rfy, rfy, H', ⟨by have := HK1.out; omega⟩, ⟨mK BK236.out⟩, ⟨mB HB.out⟩⟩
     ·rw [if_neg c6] at H
      exact absurd H (by simp)
    ·rw [if_neg c5] at H
     have c5b0 : decide (0 < a1) = false := decide_eq_false c5
     clear c5
     obtain rfl := Option.some.inj H
     obtain ⟨hcz10_0, hcz10_1, hcz10_2, hcz10_3, hcz10_4, hfz10_0, hfz10_1, hfz10_2, hfz10_3, hfz10_4⟩ := cel5 BK236.out
     go_wp2
     go_ret
     exact ⟨rfx, mB HB.out⟩
   ·rw [if_neg c4] at H
    have c4b0 : decide (x6_1 < (l0_4.length : Int)) = false := decide_eq_false c4
    clear c4
    obtain rfl := Option.some.inj H
    obtain ⟨hcz11_0, hcz11_1, hcz11_2, hcz11_3, hcz11_4, hfz11_0, hfz11_1, hfz11_2, hfz11_3, hfz11_4⟩ := cel5 BK236.out
    go_wp2
    go_ret
    exact ⟨rfx, mB HB.out⟩

/-! ### spec_ExprOk: function 13 -/
def spec_ExprOk.f (k : Nat) (a0_0 : Int) (a0_1 : Int) (a0_2 : Int) (a0_3 : Int) (l0_4 : List (S34)) : Option (Bool) := (spec_l3Form.f k a0_0 a0_1 a0_2 a0_3 l0_4 6).bind fun t240 => (if t240 = true then ((spec_l3Many.f k a0_0 a0_1 a0_2 a0_3 l0_4 6).bind fun t241 => (some (decide (t241 ≤ 14)))) else (some false))
theorem spec_ExprOk.mono : ∀ a0 a1 a2 a3 a4 k, LeO (spec_ExprOk.f k a0 a1 a2 a3 a4) (spec_ExprOk.f (k + 1) a0 a1 a2 a3 a4) := by
 intro a0 a1 a2 a3 a4 k
 unfold spec_ExprOk.f
 repeat' first
   | (with_reducible exact spec_l3Form.mono _ _ _ _ _ _ _)
   | (with_reducible exact spec_l3Many.mono _ _ _ _ _ _ _)
   | (with_reducible exact LeO.refl _)
   | (with_reducible exact LeO.none _)
   | (with_reducible refine LeO.ite ?_ ?_)
   | (with_reducible refine LeO.bind ?_ (fun _ => ?_))
   | exact spec_l3Form.mono _ _ _ _ _ _ _
   | exact spec_l3Many.mono _ _ _ _ _ _ _
   | exact LeO.none _
   | refine LeO.ite ?_ ?_
   | refine LeO.bind ?_ (fun _ => ?_)
set_option maxHeartbeats 8000000 in
set_option maxRecDepth 100000 in
theorem spec_ExprOk.calls (k : Nat) (a0_0 : Int) (a0_1 : Int) (a0_2 : Int) (a0_3 : Int) (A0_4 : Option Addr) (c0_4 : Nat) (l0_4 : List (S34)) (r : Bool) (w : World) (hr0_4 : Kd.C k34 w A0_4 l0_4.length l0_4) (hc0_4 : l0_4.length ≤ c0_4) (h : spec_ExprOk.f k a0_0 a0_1 a0_2 a0_3 l0_4 = some r) :
  Calls Tryd.prog 13 #[.agg #[.int .i64 a0_0, .int .i64 a0_1, .int .i64 a0_2, .int .i64 a0_3, .slice A0_4 l0_4.length c0_4]] w fun e w' => e = .returned (.bool r) ∧ Below w.heap.size w w' := by
 have hu34 := Tryd.underlying34
 have HR0_4 := z0 hr0_4
 have HC0_4 := z0 hc0_4
 clear hr0_4 hc0_4
 have HB := z0 (Below.refl w.heap.size w)
 have H : ((spec_l3Form.f k a0_0 a0_1 a0_2 a0_3 l0_4 6).bind fun t240 => (if t240 = true then ((spec_l3Many.f k a0_0 a0_1 a0_2 a0_3 l0_4 6).bind fun t241 => (some (decide (t241 ≤ 14)))) else (some false))) = some r := h
 clear h
 have HF2 := z0 H
 clear H
 go_enter Tryd.func13, Tryd.ntmps13
 go_upto_region 1 with (first | ((with_reducible refine gate_dst (N := 1) rfl ?_); refine box_event ?hg (N := 1) ?hd (cs := #[.int .i64 a0_0, .int .i64 a0_1, .int .i64 a0_2, .int .i64 a0_3, .slice A0_4 l0_4.length c0_4]) (t := 34) ?hr ?_; (case hd => rfl); (case hg => rfl); (case hr => first | (go_simp; done) | (go_simp; rfl)); intro gb239 hg w3 hbox hb; have n_ := az (below_step (mB HB.out) hb) <| az (hbox) <| az ((by rw [hg]; exact (below_size (mB HB.out)) : w.heap.size ≤ gb239)) <| z0 ((by rw [hg]; exact (below_size (mB HB.out)) : w.heap.size ≤ gb239)); clear HB; obtain ⟨HB, BK239, GW239, GE239⟩ := n_; clear hb hbox hg))
 (try simp only [Act.put, List.setIfInBounds_toArray, List.set_cons_zero, List.set_cons_succ])
 have H := HF2.out
 clear HF2
 try clear c1
 replace H := Option.bind_eq_some_iff.mp H
 obtain ⟨t240, A40, H⟩ := H
 try dsimp only at H
 have A4 := z0 A40
 clear A40
 by_cases c5 : t240 = true
 ·subst c5
  have H1 : ((spec_l3Many.f k a0_0 a0_1 a0_2 a0_3 l0_4 6).bind fun t241 => (some (decide (t241 ≤ 14)))) = some r := by rw [if_pos rfl] at H; exact H
  clear H
  have H := H1
  clear H1
  replace H := Option.bind_eq_some_iff.mp H
  obtain ⟨t241, A60, H⟩ := H
  try dsimp only at H
  have A6 := z0 A60
  clear A60
  obtain rfl := Option.some.inj H
  obtain ⟨hcz7_0, hcz7_1, hcz7_2, hcz7_3, hcz7_4, hfz7_0, hfz7_1, hfz7_2, hfz7_3, hfz7_4⟩ := cel5 BK239.out
  go_wp2_with (first | ((with_reducible refine gate_callee (f := 33) rfl ?_); refine goesL_ (some 4) rfl rfl Tryd.func33 (by kernel_rfl) rfl #[.agg #[.int .i64 a0_0, .int .i64 a0_1, .int .i64 a0_2, .int .i64 a0_3, .slice A0_4 l0_4.length c0_4], .int .i64 6] rfl argx ?_; (with_reducible refine (spec_l3Form.calls k a0_0 a0_1 a0_2 a0_3 _ _ l0_4 6 true _ ?side1 ?side2 A4.out).mono ?_); (case side1 => exact mC (Kd.C_below HR0_4.out HB.out)); (case side2 => exact HC0_4.out); rintro e w8 ⟨rfl, hb⟩; refine ⟨_, rfl, ?_⟩; have n_ := az (bB BK239.out hb) <| z0 (below_step (mB HB.out) hb); clear BK239 HB; obtain ⟨BK239, HB⟩ := n_; clear hb; obtain ⟨hcz9_0, hcz9_1, hcz9_2, hcz9_3, hcz9_4, hfz9_0, hfz9_1, hfz9_2, hfz9_3, hfz9_4⟩ := cel5 BK239.out) | (go_at_call 34; (with_reducible refine (spec_l3Many.calls k a0_0 a0_1 a0_2 a0_3 _ _ l0_4 6 t241 _ ?side1 ?side2 A6.out).mono ?_); (case side1 => exact mC (Kd.C_below HR0_4.out HB.out)); (case side2 => exact HC0_4.out); rintro e w10 ⟨rfl, hb⟩; have n_ := az (bB BK239.out hb) <| z0 (below_step (mB HB.out) hb); clear BK239 HB; obtain ⟨BK239, HB⟩ := n_; clear hb))
  go_ret
  exact ⟨rfx, mB HB.out⟩
 ·replace c5 := Bool.eq_false_iff.mpr c5
  subst c5
  have H1 : (some false) = some r := by rw [if_neg (show ¬ (false = true) by decide)] at H; exact H
  clear H
  have H := H1
  clear H1
  obtain rfl := Option.some.inj H
  obtain ⟨hcz11_0, hcz11_1, hcz11_2, hcz11_3, hcz11_4, hfz11_0, hfz11_1, hfz11_2, hfz11_3, hfz11_4⟩ := cel5 BK239.out
  go_wp2_with (first | ((with_reducible refine gate_callee (f := 33) rfl ?_); refine goesL_ (some 4) rfl rfl Tryd.func33 (by kernel_rfl) rfl #[.agg #[.int .i64 a0_0, .int .i64 a0_1, .int .i64 a0_2, .int .i64 a0_3, .slice A0_4 l0_4.length c0_4], .int .i64 6] rfl argx ?_; (with_reducible refine (spec_l3Form.calls k a0_0 a0_1 a0_2 a0_3 _ _ l0_4 6 false _ ?side1 ?side2 A4.out).mono ?_); (case side1 => exact mC (Kd.C_below HR0_4.out HB.out)); (case side2 => exact HC0_4.out); rintro e w12 ⟨rfl, hb⟩; refine ⟨_, rfl, ?_⟩; have n_ := az (bB BK239.out hb) <| z0 (below_step (mB HB.out) hb); clear BK239 HB; obtain ⟨BK239, HB⟩ := n_; clear hb))
  go_ret
  exact ⟨rfx, mB HB.out⟩

/-- A state of type 64 at block g of W; what its slices lead to came in by w0. -/
def IsS64 (w0 W : World) (g : Nat) (f0 : List Int) (f1 : Int) : Prop := ∃ A0 c0, W.heap[g]? = some (.cells #[.slice A0 f0.length c0, .int .i64 f1] 64 (0, 0)) ∧ w0.heap.size ≤ g ∧ Kd.C (Kd.int .u8) w0 A0 f0.length f0
theorem IsS64.grown {w0 W : World} {g : Nat} {f0 : List Int} {f1 : Int} {W1 : World} {row : Option Nat} (h : IsS64 w0 W g f0 f1) (hw : W.grownBy W1 row) (hne : some g ≠ row) : IsS64 w0 W1 g f0 f1 := by
  obtain ⟨A0, c0, hb, hg, hr0⟩ := h
  exact ⟨A0, c0, blk_grown hb hw hne, hg, hr0⟩
theorem IsS64.kept {w0 W : World} {g : Nat} {f0 : List Int} {f1 : Int} {W1 : World} {S : Nat → Prop} (h : IsS64 w0 W g f0 f1) (hk : Kept W W1 S) (hne : ¬ S g) : IsS64 w0 W1 g f0 f1 := by
  obtain ⟨A0, c0, hb, hg, hr0⟩ := h
  exact ⟨A0, c0, blk_kept hb hk hne, hg, hr0⟩
theorem IsS64.below {w0 W : World} {g : Nat} {f0 : List Int} {f1 : Int} {W1 : World} (h : IsS64 w0 W g f0 f1) (hw : Below W.heap.size W W1) : IsS64 w0 W1 g f0 f1 := h.grown (grown_of_below hw none) (by simp)
theorem IsS64.alloc {w0 W : World} {g : Nat} {f0 : List Int} {f1 : Int} (h : IsS64 w0 W g f0 f1) (o : Obj) : IsS64 w0 (W.alloc o) g f0 f1 := h.below (below_alloc (Below.refl _ _) o)
theorem IsS64.drewN {w0 W : World} {g : Nat} {f0 : List Int} {f1 : Int} (h : IsS64 w0 W g f0 f1) (m : Nat) : IsS64 w0 (W.drewN m) g f0 f1 := h
theorem IsS64.drew {w0 W : World} {g : Nat} {f0 : List Int} {f1 : Int} (h : IsS64 w0 W g f0 f1) : IsS64 w0 W.drew g f0 f1 := h
theorem IsS64.apart {w0 W : World} {g : Nat} {f0 : List Int} {f1 : Int} {α : Type} {d : Kd α} {e : Nat} {base : Nat} {ok : Nat → Prop} {v : Value} {xs : List α} (h : IsS64 w0 W g f0 f1) (ho : d.R e W base ok v xs) (ht : ∀ q, q ∈ e :: d.E → q ≠ 64) : d.R e W base (fun k => ok k ∧ k ≠ g) v xs := by
  obtain ⟨A0, c0, hb, hg, hr0⟩ := h
  exact Kd.R_types ho hb ht
theorem IsS64.own_ne {w0 W : World} {g : Nat} {f0 : List Int} {f1 : Int} {α : Type} {d : Kd α} {e : Nat} {base : Nat} {ok : Nat → Prop} {v : Value} {xs : List α} (h : IsS64 w0 W g f0 f1) (ho : d.R e W base ok v xs) (ht : e ≠ 64) : some g ≠ v.ownBlock := by
  obtain ⟨A0, c0, hb, hg, hr0⟩ := h
  exact Kd.R_ne ho hb ht
theorem IsS64.lt {w0 W : World} {g : Nat} {f0 : List Int} {f1 : Int} (h : IsS64 w0 W g f0 f1) : g < W.heap.size := by
  obtain ⟨A0, c0, hb, hg, hr0⟩ := h
  exact blk_lt hb
theorem IsS64.ge {w0 W : World} {g : Nat} {f0 : List Int} {f1 : Int} (h : IsS64 w0 W g f0 f1) : w0.heap.size ≤ g := by
  obtain ⟨A0, c0, hb, hg, hr0⟩ := h
  exact hg
theorem IsS64.ne_blk {w0 W : World} {g : Nat} {f0 : List Int} {f1 : Int} {a : Nat} {cs : Array Value} {t : TypeId} {fr : Nat × Nat} (h : IsS64 w0 W g f0 f1) (hb2 : W.heap[a]? = some (.cells cs t fr)) (ht : t ≠ 64) : g ≠ a := by
  obtain ⟨A0, c0, hb, hg, hr0⟩ := h
  rintro rfl
  rw [hb] at hb2
  injection hb2 with hb2
  injection hb2 with _ ht2
  exact ht ht2.symm
theorem IsS64.far {w0 W : World} {g : Nat} {f0 : List Int} {f1 : Int} {p : Addr} (h : IsS64 w0 W g f0 f1) (hne : g ≠ p.block) (u : Value) : IsS64 w0 (W.setCell p u) g f0 f1 := by
  obtain ⟨A0, c0, hb, hg, hr0⟩ := h
  exact ⟨A0, c0, blk_far hb hne u, hg, hr0⟩
theorem cellS64_0 {W : World} {g : Nat} {A0 : Option Addr} {c0 : Nat} {f0 : List Int} {f1 : Int} (h : W.heap[g]? = some (.cells #[.slice A0 f0.length c0, .int .i64 f1] 64 (0, 0))) : W.cell? ⟨g, 0, none⟩ = some (.slice A0 f0.length c0) := (blk_cell h 0).trans rfl
theorem cellS64_1 {W : World} {g : Nat} {A0 : Option Addr} {c0 : Nat} {f0 : List Int} {f1 : Int} (h : W.heap[g]? = some (.cells #[.slice A0 f0.length c0, .int .i64 f1] 64 (0, 0))) : W.cell? ⟨g, 1, none⟩ = some (.int .i64 f1) := (blk_cell h 1).trans rfl
theorem IsS64.set_1 {w0 W : World} {g : Nat} {f0 : List Int} {f1 : Int} (h : IsS64 w0 W g f0 f1) (x : Int) : IsS64 w0 (W.setCell ⟨g, 1, none⟩ (.int .i64 x)) g f0 x := by
  obtain ⟨A0, c0, hb, hg, hr0⟩ := h
  exact ⟨A0, c0, by simpa using blk_set hb 1 (.int .i64 x), hg, hr0⟩
theorem IsS64.new (w0 W : World) (A0 : Option Addr) (c0 : Nat) (f0 : List Int) (f1 : Int) (hB : Below w0.heap.size w0 W) (hr0 : Kd.C (Kd.int .u8) w0 A0 f0.length f0) : IsS64 w0 (W.alloc (.cells #[.slice A0 f0.length c0, .int .i64 f1] 64)) W.heap.size f0 f1 := ⟨A0, c0, by simpa using heap_alloc_new W _, hB.size, hr0⟩

/-! ### spec_l12Rd_pick: function 23 -/
def spec_l12Rd_pick.j0 : Nat → Int → Bool → List Int → Int → Option (Int × Int)
 | 0, _, _, _, _ => none
 | k + 1, x1, x24, x1000, x1001 => if x24 = true then (some (0, x1001)) else (if (wrap64 (x1001 - 1)) < (x1000.length : Int) then (if 0 ≤ (wrap64 (x1001 - 1)) then (if x1 = 0 then (none) else (some (Int.tmod (wrap64 (rd x1000 (wrap64 (x1001 - 1)))) x1, x1001))) else (none)) else (if (x1000.length : Int) = 0 then (none) else (if 0 ≤ (Int.tmod (wrap64 (x1001 - 1)) (x1000.length : Int)) then (if (Int.tmod (wrap64 (x1001 - 1)) (x1000.length : Int)) < (x1000.length : Int) then (if 0 ≤ (Int.tmod (wrap64 ((wrap64 ((wrap64 (x1001 - 1)) * 7)) + 3)) (x1000.length : Int)) then (if (Int.tmod (wrap64 ((wrap64 ((wrap64 (x1001 - 1)) * 7)) + 3)) (x1000.length : Int)) < (x1000.length : Int) then (if x1 = 0 then (none) else (some (Int.tmod (Go.bits .xor .i64 (wrap64 ((wrap64 ((wrap64 ((wrap64 ((wrap64 (rd x1000 (Int.tmod (wrap64 (x1001 - 1)) (x1000.length : Int)))) * 131)) + (wrap64 ((wrap64 (rd x1000 (Int.tmod (wrap64 ((wrap64 ((wrap64 (x1001 - 1)) * 7)) + 3)) (x1000.length : Int)))) * 1117)))) + (wrap64 ((wrap64 (x1001 - 1)) * 29)))) + (wrap64 ((wrap64 (Int.tdiv (wrap64 (x1001 - 1)) (x1000.length : Int))) * 53)))) (wrap64 (Int.tdiv (wrap64 ((wrap64 ((wrap64 ((wrap64 ((wrap64 (rd x1000 (Int.tmod (wrap64 (x1001 - 1)) (x1000.length : Int)))) * 131)) + (wrap64 ((wrap64 (rd x1000 (Int.tmod (wrap64 ((wrap64 ((wrap64 (x1001 - 1)) * 7)) + 3)) (x1000.length : Int)))) * 1117)))) + (wrap64 ((wrap64 (x1001 - 1)) * 29)))) + (wrap64 ((wrap64 (Int.tdiv (wrap64 (x1001 - 1)) (x1000.length : Int))) * 53)))) 64))) x1, x1001))) else (none)) else (none)) else (none)) else (none))))
def spec_l12Rd_pick.f (k : Nat) (s0_0 : List Int) (s0_1 : Int) (a1 : Int) : Option (Int × Int) := if a1 < 1 then (spec_l12Rd_pick.j0 k a1 true s0_0 (wrap64 (s0_1 + 1))) else (spec_l12Rd_pick.j0 k a1 ((s0_0.length : Int) == 0) s0_0 (wrap64 (s0_1 + 1)))
theorem spec_l12Rd_pick.mono_l : ∀ k, (∀ y0 y1 y2 y3, LeO (spec_l12Rd_pick.j0 k y0 y1 y2 y3) (spec_l12Rd_pick.j0 (k + 1) y0 y1 y2 y3))
 | 0 => fun _ _ _ _ r h => by simp [spec_l12Rd_pick.j0] at h
 | k + 1 => by
  have ih0 := spec_l12Rd_pick.mono_l k
  ·intro y0 y1 y2 y3
   unfold spec_l12Rd_pick.j0
   repeat' first
   | (with_reducible exact ih0 _ _ _ _)
   | (with_reducible exact LeO.refl _)
   | (with_reducible exact LeO.none _)
   | (with_reducible refine LeO.ite ?_ ?_)
   | (with_reducible refine LeO.bind ?_ (fun _ => ?_))
   | exact ih0 _ _ _ _
   | exact LeO.none _
   | refine LeO.ite ?_ ?_
   | refine LeO.bind ?_ (fun _ => ?_)
theorem spec_l12Rd_pick.mono : ∀ a0 a1 a2 k, LeO (spec_l12Rd_pick.f k a0 a1 a2) (spec_l12Rd_pick.f (k + 1) a0 a1 a2) := by
 intro a0 a1 a2 k
 have ih0 := spec_l12Rd_pick.mono_l k
 unfold spec_l12Rd_pick.f
 repeat' first
   | (with_reducible exact ih0 _ _ _ _)
   | (with_reducible exact LeO.refl _)
   | (with_reducible exact LeO.none _)
   | (with_reducible refine LeO.ite ?_ ?_)
   | (with_reducible refine LeO.bind ?_ (fun _ => ?_))
   | exact ih0 _ _ _ _
   | exact LeO.none _
   | refine LeO.ite ?_ ?_
   | refine LeO.bind ?_ (fun _ => ?_)
set_option maxHeartbeats 8000000 in
set_option maxRecDepth 100000 in
theorem spec_l12Rd_pick.calls (k : Nat) (g : Nat) (s0_0 : List Int) (s0_1 : Int) (a1 : Int) (r1 : Int) (r2 : Int) (w0 w : World) (hI : IsS64 w0 w g s0_0 s0_1) (hB : Below w0.heap.size w0 w) (h : spec_l12Rd_pick.f k s0_0 s0_1 a1 = some (r1, r2)) :
  Calls Tryd.prog 23 #[.pointer (some ⟨g, 0, none⟩), .int .i64 a1] w fun e w' => e = .returned (.int .i64 r1) ∧ IsS64 w0 w' g s0_0 r2 ∧ Below w0.heap.size w0 w' ∧ KeepBut w w' g none := by
 have HI0 := z0 hI
 have HK := z0 (KeepBut.refl w g none)
 have HL := z0 hB.size
 clear hI
 have HW0 := z0 hB.size
 have HB := z0 hB
 clear hB
 have H : (if a1 < 1 then (spec_l12Rd_pick.j0 k a1 true s0_0 (wrap64 (s0_1 + 1))) else (spec_l12Rd_pick.j0 k a1 ((s0_0.length : Int) == 0) s0_0 (wrap64 (s0_1 + 1)))) = some (r1, r2) := h
 clear h
 have HC3 := z0 H
 clear H
 obtain ⟨ASz4_0, cSz4_0, HGz4, hgz4, HSz4_0⟩ := HI0.out
 have hcz4_0 := cellS64_0 HGz4
 have hcz4_1 := cellS64_1 HGz4
 have hfz4_1 := blk_frozen HGz4 1
 clear HGz4 hgz4
 go_enter Tryd.func23, Tryd.ntmps23
 go_upto_region 2 with (fail)
 repeat (go_quiet (fail); go_upto_region 2 with (fail))
 go_cut [24] (fun v24 wc => ∃ (kq : Nat) (x24_2 : Bool), v24 = .bool x24_2 ∧ Aside0 (spec_l12Rd_pick.j0 kq a1 x24_2 s0_0 (wrap64 (s0_1 + 1)) = some (r1, r2)) ∧ Aside0 (kq ≤ k) ∧ Aside0 (IsS64 w0 wc g s0_0 (wrap64 (s0_1 + 1))) ∧ Aside0 (KeepBut w wc g none) ∧ Aside0 (Below w0.heap.size w0 wc))
 case first =>
  have H := HC3.out
  clear HC3
  by_cases c5 : a1 < 1
  ·rw [if_pos c5] at H
   have c5b0 : decide (a1 < 1) = true := decide_eq_true c5
   clear c5
   (first | rw [c5b0] | (simp only [i64_w, i32_w]; rw [c5b0]) | skip)
   have H' := z0 H
   clear H
   go_wp2
   repeat (go_quiet (fail); try go_wp2)
   go_meet
   case rel => exact ⟨_, (true), rfy, H', ⟨by first | omega | exact Nat.le_refl _⟩, ⟨mI64_1 HI0.out⟩, ⟨mKp HK.out⟩, ⟨mB64HI0 HB.out⟩⟩
  ·rw [if_neg c5] at H
   have c5b0 : decide (a1 < 1) = false := decide_eq_false c5
   clear c5
   (first | rw [c5b0] | (simp only [i64_w, i32_w]; rw [c5b0]) | skip)
   have H' := z0 H
   clear H
   obtain ⟨ASz6_0, cSz6_0, HGz6, hgz6, HSz6_0⟩ := HI0.out
   have hcz6_0 := cellS64_0 HGz6
   have hcz6_1 := cellS64_1 HGz6
   have hfz6_1 := blk_frozen HGz6 1
   clear HGz6 hgz6
   go_wp2
   repeat (go_quiet (fail); try go_wp2)
   go_meet
   case rel => exact ⟨_, (((s0_0.length : Int) == 0)), rfy, H', ⟨by first | omega | exact Nat.le_refl _⟩, ⟨mI64_1 HI0.out⟩, ⟨mKp HK.out⟩, ⟨mB64HI0 HB.out⟩⟩
 case rest =>
  clear HC3
  (try clear hcz4_0); (try clear hcz4_1); (try clear hfz4_1)
  obtain ⟨kq, x24_2, rfl, HA, HJ2, HI0, HK, HB⟩ := hcut
  cases kq with
  | zero => exact absurd HA.out (by simp [spec_l12Rd_pick.j0])
  | succ kj2 =>
   have H := HA.out
   clear HA
   simp only [spec_l12Rd_pick.j0] at H
   by_cases c7 : x24_2 = true
   ·subst c7
    have H1 : (some (0, (wrap64 (s0_1 + 1)))) = some (r1, r2) := by rw [if_pos rfl] at H; exact H
    clear H
    have H := H1
    clear H1
    simp only [Option.some.injEq, Prod.mk.injEq] at H
    obtain ⟨rfl, rfl⟩ := H
    go_wp2
    repeat (go_quiet (fail); try go_wp2)
    go_ret
    exact ⟨rfx, mI64_1 HI0.out, mB64HI0 HB.out, mKp HK.out⟩
   ·replace c7 := Bool.eq_false_iff.mpr c7
    subst c7
    have H1 : (if (wrap64 ((wrap64 (s0_1 + 1)) - 1)) < (s0_0.length : Int) then (if 0 ≤ (wrap64 ((wrap64 (s0_1 + 1)) - 1)) then (if a1 = 0 then (none) else (some (Int.tmod (wrap64 (rd s0_0 (wrap64 ((wrap64 (s0_1 + 1)) - 1)))) a1, (wrap64 (s0_1 + 1))))) else (none)) else (if (s0_0.length : Int) = 0 then (none) else (if 0 ≤ (Int.tmod (wrap64 ((wrap64 (s0_1 + 1)) - 1)) (s0_0.length : Int)) then (if (Int.tmod (wrap64 ((wrap64 (s0_1 + 1)) - 1)) (s0_0.length : Int)) < (s0_0.length : Int) then (if 0 ≤ (Int.tmod (wrap64 ((wrap64 ((wrap64 ((wrap64 (s0_1 + 1)) - 1)) * 7)) + 3)) (s0_0.length : Int)) then (if (Int.tmod (wrap64 ((wrap64 ((wrap64 ((wrap64 (s0_1 + 1)) - 1)) * 7)) + 3)) (s0_0.length : Int)) < (s0_0.length : Int) then (if a1 = 0 then (none) else (some (Int.tmod (Go.bits .xor .i64 (wrap64 ((wrap64 ((wrap64 ((wrap64 ((wrap64 (rd s0_0 (Int.tmod (wrap64 ((wrap64 (s0_1 + 1)) - 1)) (s0_0.length : Int)))) * 131)) + (wrap64 ((wrap64 (rd s0_0 (Int.tmod (wrap64 ((wrap64 ((wrap64 ((wrap64 (s0_1 + 1)) - 1)) * 7)) + 3)) (s0_0.length : Int)))) * 1117)))) + (wrap64 ((wrap64 ((wrap64 (s0_1 + 1)) - 1)) * 29)))) + (wrap64 ((wrap64 (Int.tdiv (wrap64 ((wrap64 (s0_1 + 1)) - 1)) (s0_0.length : Int))) * 53)))) (wrap64 (Int.tdiv (wrap64 ((wrap64 ((wrap64 ((wrap64 ((wrap64 (rd s0_0 (Int.tmod (wrap64 ((wrap64 (s0_1 + 1)) - 1)) (s0_0.length : Int)))) * 131)) + (wrap64 ((wrap64 (rd s0_0 (Int.tmod (wrap64 ((wrap64 ((wrap64 ((wrap64 (s0_1 + 1)) - 1)) * 7)) + 3)) (s0_0.length : Int)))) * 1117)))) + (wrap64 ((wrap64 ((wrap64 (s0_1 + 1)) - 1)) * 29)))) + (wrap64 ((wrap64 (Int.tdiv (wrap64 ((wrap64 (s0_1 + 1)) - 1)) (s0_0.length : Int))) * 53)))) 64))) a1, (wrap64 (s0_1 + 1))))) else (none)) else (none)) else (none)) else (none)))) = some (r1, r2) := by rw [if_neg (show ¬ (false = true) by decide)] at H; exact H
    clear H
    have H := H1
    clear H1
    by_cases c8 : (wrap64 ((wrap64 (s0_1 + 1)) - 1)) < (s0_0.length : Int)
    ·rw [if_pos c8] at H
     have c8b0 : decide ((wrap64 ((wrap64 (s0_1 + 1)) - 1)) < (s0_0.length : Int)) = true := decide_eq_true c8
     clear c8
     obtain ⟨ji9, hji9⟩ : ∃ j_ : Int, (wrap64 ((wrap64 (s0_1 + 1)) - 1)) = j_ := ⟨_, rfl⟩
     replace H : (if 0 ≤ (ji9) then (if a1 = 0 then (none) else (some (Int.tmod (wrap64 (rd s0_0 (ji9))) a1, (wrap64 (s0_1 + 1))))) else (none)) = some (r1, r2) := by first | (rw [hji9] at H; exact H) | (simp only [hji9] at H ⊢; exact H)
     (try rw [hji9] at c8b0)
     have hji9w : (IntKind.i64.wrap ((wrap64 (s0_1 + 1)) - 1)) = ji9 := (i64_w _).trans hji9
     by_cases c10 : 0 ≤ (ji9)
     ·rw [if_pos c10] at H
      have c10b0 : decide (0 ≤ (ji9)) = true := decide_eq_true c10
      clear c10
      by_cases c11 : a1 = 0
      ·rw [if_pos c11] at H
       exact absurd H (by simp)
      ·rw [if_neg c11] at H
       have c11b0 : (a1 == 0) = false := beq_eq_false_iff_ne.mpr c11
       have c11b1 : (a1 != 0) = true := bne_iff_ne.mpr c11
       simp only [Option.some.injEq, Prod.mk.injEq] at H
       obtain ⟨rfl, rfl⟩ := H
       obtain ⟨ASz12_0, cSz12_0, HGz12, hgz12, HSz12_0⟩ := HI0.out
       have hcz12_0 := cellS64_0 HGz12
       have hcz12_1 := cellS64_1 HGz12
       have hfz12_1 := blk_frozen HGz12 1
       clear HGz12 hgz12
       have p101 : 0 ≤ ((ji9) : Int) := of_decide_eq_true (by first | (with_reducible assumption) | assumption)
       have q101 : (ji9) < (s0_0.length : Int) := of_decide_eq_true (by first | (with_reducible assumption) | assumption)
       obtain ⟨ad101, e101, hx101_0⟩ := Kd.at_int HSz12_0 (ji9) p101 q101
       cases e101
       replace hx101_0 := pw_cell_below HB.out hx101_0
       replace p101 := eq_true p101
       replace q101 := eq_true q101
       go_wp2
       repeat (go_quiet (fail); try go_wp2)
       go_ret
       exact ⟨by first | rfl | (simp [errW_none, errW_some] <;> rfl) | (simp only [← hji9]; first | rfl | (simp [errW_none, errW_some] <;> rfl)) | (simp [*, errW_none, errW_some] <;> rfl), mI64_1 HI0.out, mB64HI0 HB.out, mKp HK.out⟩
     ·rw [if_neg c10] at H
      exact absurd H (by simp)
    ·rw [if_neg c8] at H
     have c8b0 : decide ((wrap64 ((wrap64 (s0_1 + 1)) - 1)) < (s0_0.length : Int)) = false := decide_eq_false c8
     clear c8
     by_cases c13 : (s0_0.length : Int) = 0
     ·rw [if_pos c13] at H
      exact absurd H (by simp)
     ·rw [if_neg c13] at H
      have c13b0 : ((s0_0.length : Int) == 0) = false := beq_eq_false_iff_ne.mpr c13
      have c13b1 : ((s0_0.length : Int) != 0) = true := bne_iff_ne.mpr c13
      have c13b2 : ¬ (s0_0 = []) := fun h_ => c13 (by rw [h_]; rfl)
      obtain ⟨ji14, hji14⟩ : ∃ j_ : Int, (Int.tmod (wrap64 ((wrap64 (s0_1 + 1)) - 1)) (s0_0.length : Int)) = j_ := ⟨_, rfl⟩
      replace H : (if 0 ≤ (ji14) then (if (ji14) < (s0_0.length : Int) then (if 0 ≤ (Int.tmod (wrap64 ((wrap64 ((wrap64 ((wrap64 (s0_1 + 1)) - 1)) * 7)) + 3)) (s0_0.length : Int)) then (if (Int.tmod (wrap64 ((wrap64 ((wrap64 ((wrap64 (s0_1 + 1)) - 1)) * 7)) + 3)) (s0_0.length : Int)) < (s0_0.length : Int) then (if a1 = 0 then (none) else (some (Int.tmod (Go.bits .xor .i64 (wrap64 ((wrap64 ((wrap64 ((wrap64 ((wrap64 (rd s0_0 (ji14))) * 131)) + (wrap64 ((wrap64 (rd s0_0 (Int.tmod (wrap64 ((wrap64 ((wrap64 ((wrap64 (s0_1 + 1)) - 1)) * 7)) + 3)) (s0_0.length : Int)))) * 1117)))) + (wrap64 ((wrap64 ((wrap64 (s0_1 + 1)) - 1)) * 29)))) + (wrap64 ((wrap64 (Int.tdiv (wrap64 ((wrap64 (s0_1 + 1)) - 1)) (s0_0.length : Int))) * 53)))) (wrap64 (Int.tdiv (wrap64 ((wrap64 ((wrap64 ((wrap64 ((wrap64 (rd s0_0 (ji14))) * 131)) + (wrap64 ((wrap64 (rd s0_0 (Int.tmod (wrap64 ((wrap64 ((wrap64 ((wrap64 (s0_1 + 1)) - 1)) * 7)) + 3)) (s0_0.length : Int)))) * 1117)))) + (wrap64 ((wrap64 ((wrap64 (s0_1 + 1)) - 1)) * 29)))) + (wrap64 ((wrap64 (Int.tdiv (wrap64 ((wrap64 (s0_1 + 1)) - 1)) (s0_0.length : Int))) * 53)))) 64))) a1, (wrap64 (s0_1 + 1))))) else (none)) else (none)) else (none)) else (none)) = some (r1, r2) := by first | (rw [hji14] at H; exact H) | (simp only [hji14] at H ⊢; exact H)
      by_cases c15 : 0 ≤ (ji14)
      ·rw [if_pos c15] at H
       have c15b0 : decide (0 ≤ (ji14)) = true := decide_eq_true c15
       clear c15
       by_cases c16 : (ji14) < (s0_0.length : Int)
       ·rw [if_pos c16] at H
        have c16b0 : decide ((ji14) < (s0_0.length : Int)) = true := decide_eq_true c16
        clear c16
        obtain ⟨ji17, hji17⟩ : ∃ j_ : Int, (Int.tmod (wrap64 ((wrap64 ((wrap64 ((wrap64 (s0_1 + 1)) - 1)) * 7)) + 3)) (s0_0.length : Int)) = j_ := ⟨_, rfl⟩
        replace H : (if 0 ≤ (ji17) then (if (ji17) < (s0_0.length : Int) then (if a1 = 0 then (none) else (some (Int.tmod (Go.bits .xor .i64 (wrap64 ((wrap64 ((wrap64 ((wrap64 ((wrap64 (rd s0_0 (ji14))) * 131)) + (wrap64 ((wrap64 (rd s0_0 (ji17))) * 1117)))) + (wrap64 ((wrap64 ((wrap64 (s0_1 + 1)) - 1)) * 29)))) + (wrap64 ((wrap64 (Int.tdiv (wrap64 ((wrap64 (s0_1 + 1)) - 1)) (s0_0.length : Int))) * 53)))) (wrap64 (Int.tdiv (wrap64 ((wrap64 ((wrap64 ((wrap64 ((wrap64 (rd s0_0 (ji14))) * 131)) + (wrap64 ((wrap64 (rd s0_0 (ji17))) * 1117)))) + (wrap64 ((wrap64 ((wrap64 (s0_1 + 1)) - 1)) * 29)))) + (wrap64 ((wrap64 (Int.tdiv (wrap64 ((wrap64 (s0_1 + 1)) - 1)) (s0_0.length : Int))) * 53)))) 64))) a1, (wrap64 (s0_1 + 1))))) else (none)) else (none)) = some (r1, r2) := by first | (rw [hji17] at H; exact H) | (simp only [hji17] at H ⊢; exact H)
        by_cases c18 : 0 ≤ (ji17)
        ·rw [if_pos c18] at H
         have c18b0 : decide (0 ≤ (ji17)) = true := decide_eq_true c18
         clear c18
         by_cases c19 : (ji17) < (s0_0.length : Int)
         ·rw [if_pos c19] at H
          have c19b0 : decide ((ji17) < (s0_0.length : Int)) = true := decide_eq_true c19
          clear c19
          by_cases c20 : a1 = 0
          ·rw [if_pos c20] at H
           exact absurd H (by simp)
          ·rw [if_neg c20] at H
           have c20b0 : (a1 == 0) = false := beq_eq_false_iff_ne.mpr c20
           have c20b1 : (a1 != 0) = true := bne_iff_ne.mpr c20
           simp only [Option.some.injEq, Prod.mk.injEq] at H
           obtain ⟨rfl, rfl⟩ := H
           obtain ⟨ASz21_0, cSz21_0, HGz21, hgz21, HSz21_0⟩ := HI0.out
           have hcz21_0 := cellS64_0 HGz21
           have hcz21_1 := cellS64_1 HGz21
           have hfz21_1 := blk_frozen HGz21 1
           clear HGz21 hgz21
           have p102 : 0 ≤ ((ji14) : Int) := of_decide_eq_true (by first | (with_reducible assumption) | assumption)
           have q102 : (ji14) < (s0_0.length : Int) := of_decide_eq_true (by first | (with_reducible assumption) | assumption)
           obtain ⟨ad102, e102, hx102_0⟩ := Kd.at_int HSz21_0 (ji14) p102 q102
           cases e102
           replace hx102_0 := pw_cell_below HB.out hx102_0
           replace p102 := eq_true p102
           replace q102 := eq_true q102
           have p103 : 0 ≤ ((ji17) : Int) := of_decide_eq_true (by first | (with_reducible assumption) | assumption)
           have q103 : (ji17) < (s0_0.length : Int) := of_decide_eq_true (by first | (with_reducible assumption) | assumption)
           obtain ⟨ad103, e103, hx103_0⟩ := Kd.at_int HSz21_0 (ji17) p103 q103
           obtain rfl : ad102 = ad103 := (by injection e103)
           replace hx103_0 := pw_cell_below HB.out hx103_0
           replace p103 := eq_true p103
           replace q103 := eq_true q103
           go_wp2
           repeat (go_quiet (fail); try go_wp2)
           go_ret
           exact ⟨by first | rfl | (simp [errW_none, errW_some] <;> rfl) | (simp only [← hji14, ← hji17]; first | rfl | (simp [errW_none, errW_some] <;> rfl)) | (simp [*, errW_none, errW_some] <;> rfl), mI64_1 HI0.out, mB64HI0 HB.out, mKp HK.out⟩
         ·rw [if_neg c19] at H
          exact absurd H (by simp)
        ·rw [if_neg c18] at H
         exact absurd H (by simp)
       ·rw [if_neg c16] at H
        exact absurd H (by simp)
      ·rw [if_neg c15] at H
       exact absurd H (by simp)

/-! ### spec_l12Rd_num: function 24 -/
def spec_l12Rd_num.f (k : Nat) (s0_0 : List Int) (s0_1 : Int) (l1 : List Int) : Option (Int × Int) := (spec_l12Rd_pick.f k s0_0 s0_1 (l1.length : Int)).bind fun bt104 => (if 0 ≤ bt104.1 then (if bt104.1 < (l1.length : Int) then (some (rd l1 bt104.1, bt104.2)) else (none)) else (none))
theorem spec_l12Rd_num.mono : ∀ a0 a1 a2 k, LeO (spec_l12Rd_num.f k a0 a1 a2) (spec_l12Rd_num.f (k + 1) a0 a1 a2) := by
 intro a0 a1 a2 k
 unfold spec_l12Rd_num.f
 repeat' first
   | (with_reducible exact spec_l12Rd_pick.mono _ _ _ _)
   | (with_reducible exact LeO.refl _)
   | (with_reducible exact LeO.none _)
   | (with_reducible refine LeO.ite ?_ ?_)
   | (with_reducible refine LeO.bind ?_ (fun _ => ?_))
   | exact spec_l12Rd_pick.mono _ _ _ _
   | exact LeO.none _
   | refine LeO.ite ?_ ?_
   | refine LeO.bind ?_ (fun _ => ?_)
set_option maxHeartbeats 8000000 in
set_option maxRecDepth 100000 in
theorem spec_l12Rd_num.calls (k : Nat) (g : Nat) (s0_0 : List Int) (s0_1 : Int) (A1 : Option Addr) (c1 : Nat) (l1 : List Int) (r1 : Int) (r2 : Int) (w0 w : World) (hI : IsS64 w0 w g s0_0 s0_1) (hB : Below w0.heap.size w0 w) (hr1 : Kd.C (Kd.int .i64) w A1 l1.length l1) (hc1 : l1.length ≤ c1) (hf1 : ∀ ad, A1 = some ad → 0 < l1.length → ad.block ≠ g) (h : spec_l12Rd_num.f k s0_0 s0_1 l1 = some (r1, r2)) :
  Calls Tryd.prog 24 #[.pointer (some ⟨g, 0, none⟩), .slice A1 l1.length c1] w fun e w' => e = .returned (.int .i64 r1) ∧ IsS64 w0 w' g s0_0 r2 ∧ Below w0.heap.size w0 w' ∧ KeepBut w w' g none := by
 have HR1 := z0 hr1
 have HC1 := z0 hc1
 clear hr1 hc1
 have HI0 := z0 hI
 have HK := z0 (KeepBut.refl w g none)
 have HL := z0 hB.size
 clear hI
 have HW0 := z0 hB.size
 have HB := z0 hB
 clear hB
 have H : ((spec_l12Rd_pick.f k s0_0 s0_1 (l1.length : Int)).bind fun bt104 => (if 0 ≤ bt104.1 then (if bt104.1 < (l1.length : Int) then (some (rd l1 bt104.1, bt104.2)) else (none)) else (none))) = some (r1, r2) := h
 clear h
 replace H := Option.bind_eq_some_iff.mp H
 obtain ⟨⟨t104, t105⟩, A30, H⟩ := H
 try dsimp only at H
 have A3 := z0 A30
 clear A30
 by_cases c4 : 0 ≤ t104
 ·rw [if_pos c4] at H
  have c4b0 : decide (0 ≤ t104) = true := decide_eq_true c4
  clear c4
  by_cases c5 : t104 < (l1.length : Int)
  ·rw [if_pos c5] at H
   have c5b0 : decide (t104 < (l1.length : Int)) = true := decide_eq_true c5
   clear c5
   simp only [Option.some.injEq, Prod.mk.injEq] at H
   obtain ⟨rfl, rfl⟩ := H
   go_enter Tryd.func24, Tryd.ntmps24
   go_wp2_with (first | ((with_reducible refine gate_callee (f := 23) rfl ?_); refine goesL_ (some 9) rfl rfl Tryd.func23 (by kernel_rfl) rfl #[.pointer (some ⟨g, 0, none⟩), .int .i64 (l1.length : Int)] rfl argx ?_; (with_reducible refine (spec_l12Rd_pick.calls k g s0_0 s0_1 (l1.length : Int) t104 t105 w0 _ ?side1 ?side2 A3.out).mono ?_); (case side1 => exact mI64_1 HI0.out); (case side2 => exact mB64HI0 HB.out); rintro e w6 ⟨rfl, hi, hb, hk⟩; refine ⟨_, rfl, ?_⟩; have n_ := az (KeepBut.trans (mKp HK.out) hk (.inl rfl)) <| az (hb) <| z0 (hi); clear HK HB HI0; obtain ⟨HK, HB, HI0⟩ := n_; clear hb hk hi; have p106 : 0 ≤ (t104 : Int) := of_decide_eq_true (by first | (with_reducible assumption) | assumption); have q106 : t104 < (l1.length : Int) := of_decide_eq_true (by first | (with_reducible assumption) | assumption); obtain ⟨ad106, e106, hx106_0⟩ := Kd.at_int HR1.out t104 p106 q106; cases e106; replace hx106_0 := keep_cell HK.out hx106_0 (by first | (rw [add_block]; exact hf1 _ rfl (by omega)) | exact hf1 _ rfl (by omega) | exact hf1 ad106 rfl (by omega)); replace p106 := eq_true p106; replace q106 := eq_true q106))
   go_ret
   exact ⟨rfx, mI64_1 HI0.out, mB64HI0 HB.out, mKp HK.out⟩
  ·rw [if_neg c5] at H
   exact absurd H (by simp)
 ·rw [if_neg c4] at H
  exact absurd H (by simp)

/-! ### spec_l2Addr: function 42 -/
def spec_l2Addr.f (k : Nat) (s0_0 : List Int) (s0_1 : Int) : Option (Int × Int × Int) := (spec_l12Rd_pick.f k s0_0 s0_1 3).bind fun bt108 => ((spec_l12Rd_pick.f k s0_0 bt108.2 3).bind fun bt110 => (some (wrap64 (1 + bt108.1), bt110.1, bt110.2)))
theorem spec_l2Addr.mono : ∀ a0 a1 k, LeO (spec_l2Addr.f k a0 a1) (spec_l2Addr.f (k + 1) a0 a1) := by
 intro a0 a1 k
 unfold spec_l2Addr.f
 repeat' first
   | (with_reducible exact spec_l12Rd_pick.mono _ _ _ _)
   | (with_reducible exact LeO.refl _)
   | (with_reducible exact LeO.none _)
   | (with_reducible refine LeO.ite ?_ ?_)
   | (with_reducible refine LeO.bind ?_ (fun _ => ?_))
   | exact spec_l12Rd_pick.mono _ _ _ _
   | exact LeO.none _
   | refine LeO.ite ?_ ?_
   | refine LeO.bind ?_ (fun _ => ?_)
set_option maxHeartbeats 8000000 in
set_option maxRecDepth 100000 in
theorem spec_l2Addr.calls (k : Nat) (g : Nat) (s0_0 : List Int) (s0_1 : Int) (r1 : Int) (r2 : Int) (r3 : Int) (w0 w : World) (hI : IsS64 w0 w g s0_0 s0_1) (hB : Below w0.heap.size w0 w) (h : spec_l2Addr.f k s0_0 s0_1 = some (r1, r2, r3)) :
  Calls Tryd.prog 42 #[.pointer (some ⟨g, 0, none⟩)] w fun e w' => e = .returned (.agg #[.int .i64 r1, .int .i64 r2]) ∧ IsS64 w0 w' g s0_0 r3 ∧ Below w0.heap.size w0 w' ∧ KeepBut w w' g none := by
 have hu31 := Tryd.underlying31
 have HI0 := z0 hI
 have HK := z0 (KeepBut.refl w g none)
 have HL := z0 hB.size
 clear hI
 have HW0 := z0 hB.size
 have HB := z0 hB
 clear hB
 have H : ((spec_l12Rd_pick.f k s0_0 s0_1 3).bind fun bt108 => ((spec_l12Rd_pick.f k s0_0 bt108.2 3).bind fun bt110 => (some (wrap64 (1 + bt108.1), bt110.1, bt110.2)))) = some (r1, r2, r3) := h
 clear h
 replace H := Option.bind_eq_some_iff.mp H
 obtain ⟨⟨t108, t109⟩, A20, H⟩ := H
 try dsimp only at H
 have A2 := z0 A20
 clear A20
 replace H := Option.bind_eq_some_iff.mp H
 obtain ⟨⟨t110, t111⟩, A30, H⟩ := H
 try dsimp only at H
 have A3 := z0 A30
 clear A30
 simp only [Option.some.injEq, Prod.mk.injEq] at H
 obtain ⟨rfl, rfl, rfl⟩ := H
 go_enter Tryd.func42, Tryd.ntmps42
 go_wp2_with (first | ((with_reducible refine gate_dst (N := 2) rfl ?_); refine box_event ?hg (N := 2) ?hd (cs := #[.int .i64 0, .int .i64 0]) (t := 31) ?hr ?_; (case hd => rfl); (case hg => rfl); (case hr => first | (go_simp; done) | (go_simp; rfl)); intro gb107 hg w4 hbox hb; have n_ := az (IsS64.below (mI64_1 HI0.out) hb) <| az (KeepBut.trans (mKp HK.out) (KeepBut.of_below hb g none) (.inl rfl)) <| az (below_step (mB64HI0 HB.out) hb) <| az (hbox) <| az ((gW hg HK.out)) <| az ((Nat.le_trans HW0.out (gW hg HK.out) : w0.heap.size ≤ gb107)) <| az ((by rw [hg]; exact Nat.ne_of_lt (IsS64.lt (show IsS64 w0 _ g s0_0 s0_1 from mI64_1 HI0.out)) : g ≠ gb107)) <| z0 ((by rw [hg]; exact Nat.ne_of_gt (IsS64.lt (show IsS64 w0 _ g s0_0 s0_1 from mI64_1 HI0.out)) : gb107 ≠ g)); clear HI0 HK HB; obtain ⟨HI0, HK, HB, BK107, GW107, GE107, NB0_107, NB107_0⟩ := n_; clear hb hbox hg) | ((with_reducible refine gate_callee (f := 23) rfl ?_); refine goesL_ (some 4) rfl rfl Tryd.func23 (by kernel_rfl) rfl #[.pointer (some ⟨g, 0, none⟩), .int .i64 3] rfl argx ?_; (with_reducible refine (spec_l12Rd_pick.calls k g s0_0 s0_1 3 t108 t109 w0 _ ?side1 ?side2 A2.out).mono ?_); (case side1 => exact mI64_1 HI0.out); (case side2 => exact mB64HI0 HB.out); rintro e w5 ⟨rfl, hi, hb, hk⟩; refine ⟨_, rfl, ?_⟩; have n_ := az (kB hk BK107.out NB107_0.out) <| az (KeepBut.trans (mKp HK.out) hk (.inl rfl)) <| az (hb) <| z0 (hi); clear BK107 HK HB HI0; obtain ⟨BK107, HK, HB, HI0⟩ := n_; clear hb hk hi) | ((with_reducible refine gate_callee (f := 23) rfl ?_); refine goesL_ (some 7) rfl rfl Tryd.func23 (by kernel_rfl) rfl #[.pointer (some ⟨g, 0, none⟩), .int .i64 3] rfl argx ?_; (with_reducible refine (spec_l12Rd_pick.calls k g s0_0 t109 3 t110 t111 w0 _ ?side1 ?side2 A3.out).mono ?_); (case side1 => exact mI64_1 HI0.out); (case side2 => exact mB64HI0 HB.out); rintro e w6 ⟨rfl, hi, hb, hk⟩; refine ⟨_, rfl, ?_⟩; have n_ := az (kB hk BK107.out NB107_0.out) <| az (KeepBut.trans (mKp HK.out) hk (.inl rfl)) <| az (hb) <| z0 (hi); clear BK107 HK HB HI0; obtain ⟨BK107, HK, HB, HI0⟩ := n_; clear hb hk hi; have hnb7 := NB107_0.out; have hnc7 := NB0_107.out; obtain ⟨hcz8_0, hcz8_1, hfz8_0, hfz8_1⟩ := cel2 BK107.out))
 refine bodyPost_ret (results_cell_row rfl _ _ gb107 31 #[.int .i64 (wrap64 (1 + t108)), .int .i64 t110] (0, 0) _ rfl (pF BK107.out) Tryd.underlying31 rfl (by kernel_rfl)) rfl ?_
 exact ⟨rfx, mI64_1 HI0.out, mB64HI0 HB.out, mKp HK.out⟩

/-! ### spec_l3Expr: function 25 -/
mutual
def spec_l3Expr.j0 : Nat → Int → Bool → List Int → Int → Option (Int × Int × Int × Int × (List (S34)) × Int)
 | 0, _, _, _, _ => none
 | k + 1, x1, x13, x1000, x1001 => if x13 = true then ((spec_l12Rd_pick.f k x1000 x1001 3).bind fun bt115 => (if bt115.1 = 0 then ((spec_l12Rd_num.f k x1000 bt115.2 (([0, 1, 2, 3, (-1), 5, 1000000] : List Int))).bind fun bt120 => (some (1, bt120.1, 0, 0, ([] : List (S34)), bt120.2))) else ((spec_l2Addr.f k x1000 bt115.2).bind fun bt122 => (some (2, 0, bt122.1, bt122.2.1, ([] : List (S34)), bt122.2.2))))) else ((spec_l12Rd_num.f k x1000 x1001 (([3, 3, 4, 5, 6, 6, 7, 8, 9, 10] : List Int))).bind fun bt128 => ((spec_l3Kids.f k bt128.1).bind fun t131 => (spec_l3Expr.l0 k x1 t131 x1000 bt128.2 bt128.1 0 0 0 ([] : List (S34)))))
def spec_l3Expr.l0 : Nat → Int → Int → List Int → Int → Int → Int → Int → Int → List (S34) → Option (Int × Int × Int × Int × (List (S34)) × Int)
 | 0, _, _, _, _, _, _, _, _, _ => none
 | k + 1, x1, x6, x1000, x1001, x131000, x131001, x131002, x131003, x131004 => if x6 > 0 then ((spec_l3Expr.f k x1000 x1001 (wrap64 (x1 - 1))).bind fun bt132 => (if x131004.length < 2513169434916 then (spec_l3Expr.l0 k x1 (wrap64 (x6 - 1)) x1000 bt132.2.2.2.2.2 x131000 x131001 x131002 x131003 (x131004 ++ [(⟨bt132.1, bt132.2.1, (⟨bt132.2.2.1, bt132.2.2.2.1⟩ : S31), bt132.2.2.2.2.1⟩ : S34)])) else (none))) else (some (x131000, x131001, x131002, x131003, x131004, x1001))
def spec_l3Expr.f : Nat → List Int → Int → Int → Option (Int × Int × Int × Int × (List (S34)) × Int)
 | 0, _, _, _ => none
 | k + 1, s0_0, s0_1, a1 => if a1 ≤ 1 then (spec_l3Expr.j0 k a1 true s0_0 s0_1) else ((spec_l12Rd_pick.f k s0_0 s0_1 4).bind fun bt113 => (spec_l3Expr.j0 k a1 (bt113.1 == 0) s0_0 bt113.2))
end
theorem spec_l3Expr.mono_l : ∀ k, (∀ y0 y1 y2, LeO (spec_l3Expr.f k y0 y1 y2) (spec_l3Expr.f (k + 1) y0 y1 y2)) ∧ (∀ y0 y1 y2 y3, LeO (spec_l3Expr.j0 k y0 y1 y2 y3) (spec_l3Expr.j0 (k + 1) y0 y1 y2 y3)) ∧ (∀ y0 y1 y2 y3 y4 y5 y6 y7 y8, LeO (spec_l3Expr.l0 k y0 y1 y2 y3 y4 y5 y6 y7 y8) (spec_l3Expr.l0 (k + 1) y0 y1 y2 y3 y4 y5 y6 y7 y8))
 | 0 => ⟨fun _ _ _ r h => by simp [spec_l3Expr.f] at h, fun _ _ _ _ r h => by simp [spec_l3Expr.j0] at h, fun _ _ _ _ _ _ _ _ _ r h => by simp [spec_l3Expr.l0] at h⟩
 | k + 1 => by
  obtain ⟨ih0, ih1, ih2⟩ := spec_l3Expr.mono_l k
  refine ⟨?_, ?_, ?_⟩
  ·intro y0 y1 y2
   unfold spec_l3Expr.f
   repeat' first
   | (with_reducible exact ih0 _ _ _)
   | (with_reducible exact ih1 _ _ _ _)
   | (with_reducible exact ih2 _ _ _ _ _ _ _ _ _)
   | (with_reducible exact spec_l12Rd_num.mono _ _ _ _)
   | (with_reducible exact spec_l12Rd_pick.mono _ _ _ _)
   | (with_reducible exact spec_l2Addr.mono _ _ _)
   | (with_reducible exact spec_l3Kids.mono _ _)
   | (with_reducible exact LeO.refl _)
   | (with_reducible exact LeO.none _)
   | (with_reducible refine LeO.ite ?_ ?_)
   | (with_reducible refine LeO.bind ?_ (fun _ => ?_))
   | exact ih0 _ _ _
   | exact ih1 _ _ _ _
   | exact ih2 _ _ _ _ _ _ _ _ _
   | exact spec_l12Rd_num.mono _ _ _ _
   | exact spec_l12Rd_pick.mono _ _ _ _
   | exact spec_l2Addr.mono _ _ _
   | exact spec_l3Kids.mono _ _
   | exact LeO.none _
   | refine LeO.ite ?_ ?_
   | refine LeO.bind ?_ (fun _ => ?_)
  ·intro y0 y1 y2 y3
   unfold spec_l3Expr.j0
   repeat' first
   | (with_reducible exact ih0 _ _ _)
   | (with_reducible exact ih1 _ _ _ _)
   | (with_reducible exact ih2 _ _ _ _ _ _ _ _ _)
   | (with_reducible exact spec_l12Rd_num.mono _ _ _ _)
   | (with_reducible exact spec_l12Rd_pick.mono _ _ _ _)
   | (with_reducible exact spec_l2Addr.mono _ _ _)
   | (with_reducible exact spec_l3Kids.mono _ _)
   | (with_reducible exact LeO.refl _)
   | (with_reducible exact LeO.none _)
   | (with_reducible refine LeO.ite ?_ ?_)
   | (with_reducible refine LeO.bind ?_ (fun _ => ?_))
   | exact ih0 _ _ _
   | exact ih1 _ _ _ _
   | exact ih2 _ _ _ _ _ _ _ _ _
   | exact spec_l12Rd_num.mono _ _ _ _
   | exact spec_l12Rd_pick.mono _ _ _ _
   | exact spec_l2Addr.mono _ _ _
   | exact spec_l3Kids.mono _ _
   | exact LeO.none _
   | refine LeO.ite ?_ ?_
   | refine LeO.bind ?_ (fun _ => ?_)
  ·intro y0 y1 y2 y3 y4 y5 y6 y7 y8
   unfold spec_l3Expr.l0
   repeat' first
   | (with_reducible exact ih0 _ _ _)
   | (with_reducible exact ih1 _ _ _ _)
   | (with_reducible exact ih2 _ _ _ _ _ _ _ _ _)
   | (with_reducible exact spec_l12Rd_num.mono _ _ _ _)
   | (with_reducible exact spec_l12Rd_pick.mono _ _ _ _)
   | (with_reducible exact spec_l2Addr.mono _ _ _)
   | (with_reducible exact spec_l3Kids.mono _ _)
   | (with_reducible exact LeO.refl _)
   | (with_reducible exact LeO.none _)
   | (with_reducible refine LeO.ite ?_ ?_)
   | (with_reducible refine LeO.bind ?_ (fun _ => ?_))
   | exact ih0 _ _ _
   | exact ih1 _ _ _ _
   | exact ih2 _ _ _ _ _ _ _ _ _
   | exact spec_l12Rd_num.mono _ _ _ _
   | exact spec_l12Rd_pick.mono _ _ _ _
   | exact spec_l2Addr.mono _ _ _
   | exact spec_l3Kids.mono _ _
   | exact LeO.none _
   | refine LeO.ite ?_ ?_
   | refine LeO.bind ?_ (fun _ => ?_)
def spec_l3Expr.T9 : Bool × List (List Nat × List Nat) := (true, [([], []), ([0], [0]), ([], []), ([], []), ([3], [3]), ([2, 4], [2, 4]), ([5], [5]), ([1, 6, 5], [1, 6]), ([0, 1, 2, 3, 4, 5, 6, 7], []), ([8, 7, 7, 0, 1, 2, 3, 4, 5, 6, 7], [7, 8])])
def spec_l3Expr.B9 : List Nat := [0, 1, 0, 0, 8, 28, 60, 127, 255, 511]
theorem spec_l3Expr.tab9 : rtab .any (opsOf Tryd.f25 9) = spec_l3Expr.T9 := by kernel_rfl
theorem spec_l3Expr.bits9 : waitsOk spec_l3Expr.T9.2 spec_l3Expr.B9 = true := by kernel_rfl
set_option maxHeartbeats 8000000 in
set_option maxRecDepth 100000 in
theorem spec_l3Expr.calls (k : Nat) : ∀ (g : Nat) (s0_0 : List Int) (s0_1 : Int) (a1 : Int) (r1 : Int) (r2 : Int) (r3 : Int) (r4 : Int) (r5 : List (S34)) (r6 : Int) (w0 w : World) (hI : IsS64 w0 w g s0_0 s0_1) (hB : Below w0.heap.size w0 w) (h : spec_l3Expr.f k s0_0 s0_1 a1 = some (r1, r2, r3, r4, r5, r6)),
  Calls Tryd.prog 25 #[.pointer (some ⟨g, 0, none⟩), .int .i64 a1] w fun e w' => ∃ v4_ : Value, e = .returned (.agg #[.int .i64 r1, .int .i64 r2, .int .i64 r3, .int .i64 r4, v4_]) ∧ Kd.R k34 34 w' w.heap.size (fun _ => True) v4_ r5 ∧ IsS64 w0 w' g s0_0 r6 ∧ Below w0.heap.size w0 w' ∧ KeepBut w w' g none := by
 induction k using Nat.strongRecOn with
 | _ k ih =>
 intro g s0_0 s0_1 a1 r1 r2 r3 r4 r5 r6 w0 w hI hB h
 cases k with
 | zero => exact absurd h (by simp [spec_l3Expr.f])
 | succ k =>
 simp only [spec_l3Expr.f] at h
 have hu34 := Tryd.underlying34
 have HI0 := z0 hI
 have HK := z0 (KeepBut.refl w g none)
 have HL := z0 hB.size
 clear hI
 have HW0 := z0 hB.size
 have HB := z0 hB
 clear hB
 have H : (if a1 ≤ 1 then (spec_l3Expr.j0 k a1 true s0_0 s0_1) else ((spec_l12Rd_pick.f k s0_0 s0_1 4).bind fun bt113 => (spec_l3Expr.j0 k a1 (bt113.1 == 0) s0_0 bt113.2))) = some (r1, r2, r3, r4, r5, r6) := h
 clear h
 have HC3 := z0 H
 clear H
 go_enter Tryd.func25, Tryd.ntmps25
 go_upto_region 1 with (first | ((with_reducible refine gate_dst (N := 4) rfl ?_); refine box_event ?hg (N := 4) ?hd (cs := #[.int .i64 0, .int .i64 0, .int .i64 0, .int .i64 0, .slice none 0 0]) (t := 34) ?hr ?_; (case hd => rfl); (case hg => rfl); (case hr => first | (go_simp; done) | (go_simp; rfl)); intro gb112 hg w4 hbox hb; have n_ := az (IsS64.below (mI64_1 HI0.out) hb) <| az (KeepBut.trans (mKp HK.out) (KeepBut.of_below hb g none) (.inl rfl)) <| az (below_step (mB64HI0 HB.out) hb) <| az (hbox) <| az ((gW hg HK.out)) <| az ((Nat.le_trans HW0.out (gW hg HK.out) : w0.heap.size ≤ gb112)) <| az ((by rw [hg]; exact Nat.ne_of_lt (IsS64.lt (show IsS64 w0 _ g s0_0 s0_1 from mI64_1 HI0.out)) : g ≠ gb112)) <| z0 ((by rw [hg]; exact Nat.ne_of_gt (IsS64.lt (show IsS64 w0 _ g s0_0 s0_1 from mI64_1 HI0.out)) : gb112 ≠ g)); clear HI0 HK HB; obtain ⟨HI0, HK, HB, BK112, GW112, GE112, NB0_112, NB112_0⟩ := n_; clear hb hbox hg))
 (try simp only [Act.put, List.setIfInBounds_toArray, List.set_cons_zero, List.set_cons_succ])
 go_cut [13] (fun v13 wc => ∃ (kq : Nat) (x13_2 : Bool) (x1001_2 : Int), v13 = .bool x13_2 ∧ Aside0 (spec_l3Expr.j0 kq a1 x13_2 s0_0 x1001_2 = some (r1, r2, r3, r4, r5, r6)) ∧ Aside0 (kq ≤ k) ∧ Aside0 (wc.heap[gb112]? = some (.cells #[.int .i64 0, .int .i64 0, .int .i64 0, .int .i64 0, (.slice none 0 0)] 34 (0, 0))) ∧ Aside0 (IsS64 w0 wc g s0_0 x1001_2) ∧ Aside0 (KeepBut w wc g none) ∧ Aside0 (Below w0.heap.size w0 wc))
 case first =>
  have H := HC3.out
  clear HC3
  by_cases c5 : a1 ≤ 1
  ·rw [if_pos c5] at H
   have c5b0 : decide (a1 ≤ 1) = true := decide_eq_true c5
   clear c5
   (first | rw [c5b0] | (simp only [i64_w, i32_w]; rw [c5b0]) | skip)
   have H' := z0 H
   clear H
   go_wp2
   go_meet
   case rel => exact ⟨_, (true), (s0_1), rfy, H', ⟨by first | omega | exact Nat.le_refl _⟩, ⟨mK BK112.out⟩, ⟨mI64_1 HI0.out⟩, ⟨mKp HK.out⟩, ⟨mB64HI0 HB.out⟩⟩
  ·rw [if_neg c5] at H
   have c5b0 : decide (a1 ≤ 1) = false := decide_eq_false c5
   clear c5
   (first | rw [c5b0] | (simp only [i64_w, i32_w]; rw [c5b0]) | skip)
   replace H := Option.bind_eq_some_iff.mp H
   obtain ⟨⟨t113, t114⟩, A60, H⟩ := H
   try dsimp only at H
   have A6 := z0 A60
   clear A60
   have H' := z0 H
   clear H
   go_wp2_with (first | (go_at_call 23; (with_reducible refine (spec_l12Rd_pick.calls k g s0_0 s0_1 4 t113 t114 w0 _ ?side1 ?side2 A6.out).mono ?_); (case side1 => exact mI64_1 HI0.out); (case side2 => exact mB64HI0 HB.out); rintro e w7 ⟨rfl, hi, hb, hk⟩; have n_ := az (kB hk BK112.out NB112_0.out) <| az (KeepBut.trans (mKp HK.out) hk (.inl rfl)) <| az (hb) <| z0 (hi); clear BK112 HK HB HI0; obtain ⟨BK112, HK, HB, HI0⟩ := n_; clear hb hk hi))
   go_meet
   case rel => exact ⟨_, ((t113 == 0)), (t114), rfy, H', ⟨by first | omega | exact Nat.le_refl _⟩, ⟨mK BK112.out⟩, ⟨mI64_1 HI0.out⟩, ⟨mKp HK.out⟩, ⟨mB64HI0 HB.out⟩⟩
 case rest =>
  clear HC3
  skip
  obtain ⟨kq, x13_2, x1001_2, rfl, HA, HJ2, BK112, HI0, HK, HB⟩ := hcut
  cases kq with
  | zero => exact absurd HA.out (by simp [spec_l3Expr.j0])
  | succ kj2 =>
   have H := HA.out
   clear HA
   simp only [spec_l3Expr.j0] at H
   by_cases c8 : x13_2 = true
   ·subst c8
    have H1 : ((spec_l12Rd_pick.f kj2 s0_0 x1001_2 3).bind fun bt115 => (if bt115.1 = 0 then ((spec_l12Rd_num.f kj2 s0_0 bt115.2 (([0, 1, 2, 3, (-1), 5, 1000000] : List Int))).bind fun bt120 => (some (1, bt120.1, 0, 0, ([] : List (S34)), bt120.2))) else ((spec_l2Addr.f kj2 s0_0 bt115.2).bind fun bt122 => (some (2, 0, bt122.1, bt122.2.1, ([] : List (S34)), bt122.2.2))))) = some (r1, r2, r3, r4, r5, r6) := by rw [if_pos rfl] at H; exact H
    clear H
    have H := H1
    clear H1
    replace H := Option.bind_eq_some_iff.mp H
    obtain ⟨⟨t115, t116⟩, A90, H⟩ := H
    try dsimp only at H
    have A9 := z0 A90
    clear A90
    have HF10 := z0 H
    clear H
    go_upto_if 16 with (first | ((with_reducible refine gate_callee (f := 23) rfl ?_); refine goesL_ (some 15) rfl rfl Tryd.func23 (by kernel_rfl) rfl #[.pointer (some ⟨g, 0, none⟩), .int .i64 3] rfl argx ?_; (with_reducible refine (spec_l12Rd_pick.calls kj2 g s0_0 x1001_2 3 t115 t116 w0 _ ?side1 ?side2 A9.out).mono ?_); (case side1 => exact mI64_1 HI0.out); (case side2 => exact mB64HI0 HB.out); rintro e w11 ⟨rfl, hi, hb, hk⟩; refine ⟨_, rfl, ?_⟩; have n_ := az (kB hk BK112.out NB112_0.out) <| az (KeepBut.trans (mKp HK.out) hk (.inl rfl)) <| az (hb) <| z0 (hi); clear BK112 HK HB HI0; obtain ⟨BK112, HK, HB, HI0⟩ := n_; clear hb hk hi))
    (try simp only [Act.put, List.setIfInBounds_toArray, List.set_cons_zero, List.set_cons_succ])
    have H := HF10.out
    clear HF10
    (try clear c8)
    by_cases c12 : t115 = 0
    ·rw [if_pos c12] at H
     have c12b0 : (t115 == 0) = true := beq_iff_eq.mpr c12
     have c12b1 : (t115 != 0) = false := bne_eq_false_iff_eq.mpr c12
     clear c12
     (first | rw [c12b0] | (simp only [i64_w, i32_w]; rw [c12b0]) | skip)
     obtain ⟨y117, hy117⟩ : ∃ y_ : List Int, y_ = (([0, 1, 2, 3, (-1), 5, 1000000] : List Int)) := ⟨_, rfl⟩
     replace H : ((spec_l12Rd_num.f kj2 s0_0 t116 y117).bind fun bt120 => (some (1, bt120.1, 0, 0, ([] : List (S34)), bt120.2))) = some (r1, r2, r3, r4, r5, r6) := by first | (rw [hy117]; with_reducible exact H) | (have H2_ := (Option.bind_some _ _).symm.trans H; rw [hy117]; with_reducible exact H2_) | (have H2_ := (Option.bind_some _ _).symm.trans H; with_reducible exact H2_) | with_reducible exact H | (rw [hy117]; exact H) | exact H
     have Ny117 := z0 hy117
     clear hy117
     replace H := Option.bind_eq_some_iff.mp H
     obtain ⟨⟨t120, t121⟩, A130, H⟩ := H
     try dsimp only at H
     have A13 := z0 A130
     clear A130
     simp only [Option.some.injEq, Prod.mk.injEq] at H
     obtain ⟨rfl, rfl, rfl, rfl, rfl, rfl⟩ := H
     go_wp2_with (first | ((with_reducible refine gate_dst (N := 18) rfl ?_); refine Kd.R_lit (Kd.int .i64) _ 3 ?hg (N := 18) ?hd (xs := ([0, 1, 2, 3, (-1), 5, 1000000] : List Int)) (inner := [.int .i64 0, .int .i64 1, .int .i64 2, .int .i64 3, .int .i64 (-1), .int .i64 5, .int .i64 1000000]) (ok := fun _ => True) (okp := fun _ => True) ?hr ?hp (fun _ hk => hk) trivial (Below.refl _ _) (Nat.le_refl _) (by simp) ?_; (case hd => rfl); (case hg => rfl); (case hr => first | (go_simp; done) | (go_simp; rfl)); (case hp => exact (Reps.one (show Kd.M (Kd.int .i64) _ _ _ 0 [.int .i64 0] from rfl) (Reps.one (show Kd.M (Kd.int .i64) _ _ _ 1 [.int .i64 1] from rfl) (Reps.one (show Kd.M (Kd.int .i64) _ _ _ 2 [.int .i64 2] from rfl) (Reps.one (show Kd.M (Kd.int .i64) _ _ _ 3 [.int .i64 3] from rfl) (Reps.one (show Kd.M (Kd.int .i64) _ _ _ (-1) [.int .i64 (-1)] from rfl) (Reps.one (show Kd.M (Kd.int .i64) _ _ _ 5 [.int .i64 5] from rfl) (Reps.one (show Kd.M (Kd.int .i64) _ _ _ 1000000 [.int .i64 1000000] from rfl) (Reps.none _ _))))))))); intro v118 w14 ho15 hb hg_ hnew_; clear hg_ hnew_; (first | rw [← Ny117.out] at ho15 | (simp only [Int.reduceToNat] at ho15; rw [← Ny117.out] at ho15)); have n_ := az (Kd.R_lower ho15 (kS HK.out)) <| az (bB BK112.out hb) <| az (IsS64.below (mI64_1 HI0.out) hb) <| az (KeepBut.trans (mKp HK.out) (KeepBut.of_below hb g none) (.inl rfl)) <| z0 (below_step (mB64HI0 HB.out) hb); clear BK112 HI0 HK HB; obtain ⟨HO119, BK112, HI0, HK, HB⟩ := n_; clear hb ho15; obtain ⟨Ao16, co16, eo16⟩ := Kd.R_slice HO119.out; subst eo16) | ((with_reducible refine gate_callee (f := 24) rfl ?_); refine goesL_ (some 19) rfl rfl Tryd.func24 (by kernel_rfl) rfl #[.pointer (some ⟨g, 0, none⟩), .slice Ao16 y117.length co16] rfl argx ?_; (with_reducible refine (spec_l12Rd_num.calls kj2 g s0_0 t116 _ _ y117 t120 t121 w0 _ ?side1 ?side2 ?side3 ?side4 ?side5 A13.out).mono ?_); (case side1 => exact mI64_1 HI0.out); (case side2 => exact mB64HI0 HB.out); (case side3 => exact mC (Kd.R_reads' HO119.out).2.2); (case side4 => exact (Kd.R_reads' HO119.out).2.1); (case side5 => exact far_slice (IsS64.own_ne HI0.out HO119.out (by decide))); rintro e w17 ⟨rfl, hi, hb, hk⟩; refine ⟨_, rfl, ?_⟩; have n_ := az (kB hk BK112.out NB112_0.out) <| az (Kd.R_mono (Kd.R_keep (IsS64.apart (show IsS64 w0 _ g s0_0 t116 from mI64_1 HI0.out) (mR HO119.out) (by decide)) hk (fun _ h => h.2)) (fun _ h => h.1)) <| az (KeepBut.trans (mKp HK.out) hk (.inl rfl)) <| az (hb) <| z0 (hi); clear BK112 HO119 HK HB HI0; obtain ⟨BK112, HO119, HK, HB, HI0⟩ := n_; clear hb hk hi; have hnb18 := NB112_0.out; have hnc18 := NB0_112.out; obtain ⟨hcz19_0, hcz19_1, hcz19_2, hcz19_3, hcz19_4, hfz19_0, hfz19_1, hfz19_2, hfz19_3, hfz19_4⟩ := cel5 BK112.out))
     refine bodyPost_ret (results_cell_row rfl _ _ gb112 34 #[.int .i64 1, .int .i64 t120, .int .i64 0, .int .i64 0, .slice none 0 0] (0, 0) _ rfl (pF BK112.out) Tryd.underlying34 rfl (by kernel_rfl)) rfl ?_
     exact ⟨_, rfx, by first | exact Kd.R_nil _ _ _ _ _ | exact Kd.N_nil _ _ _ _ _ | exact Kd.V_nil _ _ _ _ _ | exact Kd.Q_nil _ _ _ _ _ | exact Kd.S_nil _ _ _ _ _, mI64_1 HI0.out, mB64HI0 HB.out, mKp HK.out⟩
    ·rw [if_neg c12] at H
     have c12b0 : (t115 == 0) = false := beq_eq_false_iff_ne.mpr c12
     have c12b1 : (t115 != 0) = true := bne_iff_ne.mpr c12
     (first | rw [c12b0] | (simp only [i64_w, i32_w]; rw [c12b0]) | skip)
     replace H := Option.bind_eq_some_iff.mp H
     obtain ⟨⟨t122, t123, t124⟩, A200, H⟩ := H
     try dsimp only at H
     have A20 := z0 A200
     clear A200
     simp only [Option.some.injEq, Prod.mk.injEq] at H
     obtain ⟨rfl, rfl, rfl, rfl, rfl, rfl⟩ := H
     go_wp2_with (first | ((with_reducible refine gate_callee (f := 42) rfl ?_); refine goesL_ (some 22) rfl rfl Tryd.func42 (by kernel_rfl) rfl #[.pointer (some ⟨g, 0, none⟩)] rfl argx ?_; (with_reducible refine (spec_l2Addr.calls kj2 g s0_0 t116 t122 t123 t124 w0 _ ?side1 ?side2 A20.out).mono ?_); (case side1 => exact mI64_1 HI0.out); (case side2 => exact mB64HI0 HB.out); rintro e w21 ⟨rfl, hi, hb, hk⟩; refine ⟨_, rfl, ?_⟩; have n_ := az (kB hk BK112.out NB112_0.out) <| az (KeepBut.trans (mKp HK.out) hk (.inl rfl)) <| az (hb) <| z0 (hi); clear BK112 HK HB HI0; obtain ⟨BK112, HK, HB, HI0⟩ := n_; clear hb hk hi; have hnb22 := NB112_0.out; have hnc22 := NB0_112.out; obtain ⟨hcz23_0, hcz23_1, hcz23_2, hcz23_3, hcz23_4, hfz23_0, hfz23_1, hfz23_2, hfz23_3, hfz23_4⟩ := cel5 BK112.out))
     refine bodyPost_ret (results_cell_row rfl _ _ gb112 34 #[.int .i64 2, .int .i64 0, .int .i64 t122, .int .i64 t123, .slice none 0 0] (0, 0) _ rfl (pF BK112.out) Tryd.underlying34 rfl (by kernel_rfl)) rfl ?_
     exact ⟨_, rfx, by first | exact Kd.R_nil _ _ _ _ _ | exact Kd.N_nil _ _ _ _ _ | exact Kd.V_nil _ _ _ _ _ | exact Kd.Q_nil _ _ _ _ _ | exact Kd.S_nil _ _ _ _ _, mI64_1 HI0.out, mB64HI0 HB.out, mKp HK.out⟩
   ·replace c8 := Bool.eq_false_iff.mpr c8
    subst c8
    have H1 : ((spec_l12Rd_num.f kj2 s0_0 x1001_2 (([3, 3, 4, 5, 6, 6, 7, 8, 9, 10] : List Int))).bind fun bt128 => ((spec_l3Kids.f kj2 bt128.1).bind fun t131 => (spec_l3Expr.l0 kj2 a1 t131 s0_0 bt128.2 bt128.1 0 0 0 ([] : List (S34))))) = some (r1, r2, r3, r4, r5, r6) := by rw [if_neg (show ¬ (false = true) by decide)] at H; exact H
    clear H
    have H := H1
    clear H1
    obtain ⟨y125, hy125⟩ : ∃ y_ : List Int, y_ = (([3, 3, 4, 5, 6, 6, 7, 8, 9, 10] : List Int)) := ⟨_, rfl⟩
    replace H : ((spec_l12Rd_num.f kj2 s0_0 x1001_2 y125).bind fun bt128 => ((spec_l3Kids.f kj2 bt128.1).bind fun t131 => (spec_l3Expr.l0 kj2 a1 t131 s0_0 bt128.2 bt128.1 0 0 0 ([] : List (S34))))) = some (r1, r2, r3, r4, r5, r6) := by first | (rw [hy125]; with_reducible exact H) | (have H2_ := (Option.bind_some _ _).symm.trans H; rw [hy125]; with_reducible exact H2_) | (have H2_ := (Option.bind_some _ _).symm.trans H; with_reducible exact H2_) | with_reducible exact H | (rw [hy125]; exact H) | exact H
    have Ny125 := z0 hy125
    clear hy125
    replace H := Option.bind_eq_some_iff.mp H
    obtain ⟨⟨t128, t129⟩, A240, H⟩ := H
    try dsimp only at H
    have A24 := z0 A240
    clear A240
    replace H := Option.bind_eq_some_iff.mp H
    obtain ⟨t131, A250, H⟩ := H
    try dsimp only at H
    have A25 := z0 A250
    clear A250
    have H' := z0 H
    clear H
    go_wp2_with (first | ((with_reducible refine gate_dst (N := 25) rfl ?_); refine Kd.R_lit (Kd.int .i64) _ 3 ?hg (N := 25) ?hd (xs := ([3, 3, 4, 5, 6, 6, 7, 8, 9, 10] : List Int)) (inner := [.int .i64 3, .int .i64 3, .int .i64 4, .int .i64 5, .int .i64 6, .int .i64 6, .int .i64 7, .int .i64 8, .int .i64 9, .int .i64 10]) (ok := fun _ => True) (okp := fun _ => True) ?hr ?hp (fun _ hk => hk) trivial (Below.refl _ _) (Nat.le_refl _) (by simp) ?_; (case hd => rfl); (case hg => rfl); (case hr => first | (go_simp; done) | (go_simp; rfl)); (case hp => exact (Reps.one (show Kd.M (Kd.int .i64) _ _ _ 3 [.int .i64 3] from rfl) (Reps.one (show Kd.M (Kd.int .i64) _ _ _ 3 [.int .i64 3] from rfl) (Reps.one (show Kd.M (Kd.int .i64) _ _ _ 4 [.int .i64 4] from rfl) (Reps.one (show Kd.M (Kd.int .i64) _ _ _ 5 [.int .i64 5] from rfl) (Reps.one (show Kd.M (Kd.int .i64) _ _ _ 6 [.int .i64 6] from rfl) (Reps.one (show Kd.M (Kd.int .i64) _ _ _ 6 [.int .i64 6] from rfl) (Reps.one (show Kd.M (Kd.int .i64) _ _ _ 7 [.int .i64 7] from rfl) (Reps.one (show Kd.M (Kd.int .i64) _ _ _ 8 [.int .i64 8] from rfl) (Reps.one (show Kd.M (Kd.int .i64) _ _ _ 9 [.int .i64 9] from rfl) (Reps.one (show Kd.M (Kd.int .i64) _ _ _ 10 [.int .i64 10] from rfl) (Reps.none _ _)))))))))))); intro v126 w26 ho27 hb hg_ hnew_; clear hg_ hnew_; (first | rw [← Ny125.out] at ho27 | (simp only [Int.reduceToNat] at ho27; rw [← Ny125.out] at ho27)); have n_ := az (Kd.R_lower ho27 (kS HK.out)) <| az (bB BK112.out hb) <| az (IsS64.below (mI64_1 HI0.out) hb) <| az (KeepBut.trans (mKp HK.out) (KeepBut.of_below hb g none) (.inl rfl)) <| z0 (below_step (mB64HI0 HB.out) hb); clear BK112 HI0 HK HB; obtain ⟨HO127, BK112, HI0, HK, HB⟩ := n_; clear hb ho27; obtain ⟨Ao28, co28, eo28⟩ := Kd.R_slice HO127.out; subst eo28) | ((with_reducible refine gate_callee (f := 24) rfl ?_); refine goesL_ (some 26) rfl rfl Tryd.func24 (by kernel_rfl) rfl #[.pointer (some ⟨g, 0, none⟩), .slice Ao28 y125.length co28] rfl argx ?_; (with_reducible refine (spec_l12Rd_num.calls kj2 g s0_0 x1001_2 _ _ y125 t128 t129 w0 _ ?side1 ?side2 ?side3 ?side4 ?side5 A24.out).mono ?_); (case side1 => exact mI64_1 HI0.out); (case side2 => exact mB64HI0 HB.out); (case side3 => exact mC (Kd.R_reads' HO127.out).2.2); (case side4 => exact (Kd.R_reads' HO127.out).2.1); (case side5 => exact far_slice (IsS64.own_ne HI0.out HO127.out (by decide))); rintro e w29 ⟨rfl, hi, hb, hk⟩; refine ⟨_, rfl, ?_⟩; have n_ := az (kB hk BK112.out NB112_0.out) <| az (Kd.R_mono (Kd.R_keep (IsS64.apart (show IsS64 w0 _ g s0_0 x1001_2 from mI64_1 HI0.out) (mR HO127.out) (by decide)) hk (fun _ h => h.2)) (fun _ h => h.1)) <| az (KeepBut.trans (mKp HK.out) hk (.inl rfl)) <| az (hb) <| z0 (hi); clear BK112 HO127 HK HB HI0; obtain ⟨BK112, HO127, HK, HB, HI0⟩ := n_; clear hb hk hi) | ((with_reducible refine gate_dst (N := 5) rfl ?_); refine box_event ?hg (N := 5) ?hd (cs := #[.int .i64 0, .int .i64 0, .int .i64 0, .int .i64 0, .slice none 0 0]) (t := 34) ?hr ?_; (case hd => rfl); (case hg => rfl); (case hr => first | (go_simp; done) | (go_simp; rfl)); intro gb130 hg w30 hbox hb; have n_ := az (Kd.R_below (mR HO127.out) hb) <| az (bB BK112.out hb) <| az (IsS64.below (mI64_1 HI0.out) hb) <| az (KeepBut.trans (mKp HK.out) (KeepBut.of_below hb g none) (.inl rfl)) <| az (below_step (mB64HI0 HB.out) hb) <| az (hbox) <| az ((gW hg HK.out)) <| az ((Nat.le_trans HW0.out (gW hg HK.out) : w0.heap.size ≤ gb130)) <| az ((nL hg BK112.out)) <| az ((nG hg BK112.out)) <| az ((by rw [hg]; exact Nat.ne_of_lt (IsS64.lt (show IsS64 w0 _ g s0_0 t129 from mI64_1 HI0.out)) : g ≠ gb130)) <| z0 ((by rw [hg]; exact Nat.ne_of_gt (IsS64.lt (show IsS64 w0 _ g s0_0 t129 from mI64_1 HI0.out)) : gb130 ≠ g)); clear HO127 BK112 HI0 HK HB; obtain ⟨HO127, BK112, HI0, HK, HB, BK130, GW130, GE130, NB112_130, NB130_112, NB0_130, NB130_0⟩ := n_; clear hb hbox hg; have hnb31 := NB130_112.out; have hnc31 := NB112_130.out; have hnb32 := NB130_0.out; have hnc32 := NB0_130.out; obtain ⟨hcz33_0, hcz33_1, hcz33_2, hcz33_3, hcz33_4, hfz33_0, hfz33_1, hfz33_2, hfz33_3, hfz33_4⟩ := cel5 BK130.out) | ((with_reducible refine gate_callee (f := 43) rfl ?_); refine goesL_ (some 30) rfl rfl Tryd.func43 (by kernel_rfl) rfl #[.int .i64 t128] rfl argx ?_; (with_reducible refine (spec_l3Kids.calls kj2 t128 t131 _ A25.out).mono ?_); rintro e w' ⟨rfl, ⟨nd, rfl⟩⟩; refine ⟨_, rfl, ?_⟩))
    go_loopg [6] kj2 (fun kq v6 w' => ∃ (x6_2 : Int) (x1001_2 : Int) (x131004_2 : List (S34)) (u131004 : Value), v6 = .int .i64 x6_2 ∧ Aside0 (spec_l3Expr.l0 kq a1 x6_2 s0_0 x1001_2 t128 0 0 0 x131004_2 = some (r1, r2, r3, r4, r5, r6)) ∧ Aside0 (kq ≤ kj2) ∧ Aside0 (Kd.R k34 34 w' w.heap.size (fun k_ => k_ ≠ gb112 ∧ k_ ≠ gb130) u131004 x131004_2) ∧ Aside0 (w'.heap[gb112]? = some (.cells #[.int .i64 0, .int .i64 0, .int .i64 0, .int .i64 0, (.slice none 0 0)] 34 (0, 0))) ∧ Aside0 (w'.heap[gb130]? = some (.cells #[.int .i64 t128, .int .i64 0, .int .i64 0, .int .i64 0, u131004] 34 (0, 0))) ∧ Aside0 (IsS64 w0 w' g s0_0 x1001_2) ∧ Aside0 (KeepBut w w' g none) ∧ Aside0 (Below w0.heap.size w0 w'))
    case atStart => exact ⟨(t131), (t129), (([] : List (S34))), (.slice none 0 0), rfy, H', ⟨Nat.le_refl _⟩, ⟨by first | exact Kd.R_nil _ _ _ _ _ | exact Kd.N_nil _ _ _ _ _ | exact Kd.V_nil _ _ _ _ _ | exact Kd.Q_nil _ _ _ _ _ | exact Kd.S_nil _ _ _ _ _⟩, ⟨mF BK112.out⟩, ⟨by (with_reducible repeat (first | refine blk_drewN ?_ _ | refine blk_drew ?_ | refine blk_alloc ?_ _)); refine blk_put (cs := #[.int .i64 t128, .int .i64 0, .int .i64 0, .int .i64 0, .slice none 0 0]) ?_ 4 _ rfl; (with_reducible repeat (first | refine blk_drewN ?_ _ | refine blk_drew ?_ | refine blk_alloc ?_ _)); refine blk_put (cs := #[.int .i64 t128, .int .i64 0, .int .i64 0, .int .i64 0, .slice none 0 0]) ?_ 3 _ rfl; (with_reducible repeat (first | refine blk_drewN ?_ _ | refine blk_drew ?_ | refine blk_alloc ?_ _)); refine blk_put (cs := #[.int .i64 t128, .int .i64 0, .int .i64 0, .int .i64 0, .slice none 0 0]) ?_ 2 _ rfl; (with_reducible repeat (first | refine blk_drewN ?_ _ | refine blk_drew ?_ | refine blk_alloc ?_ _)); refine blk_put (cs := #[.int .i64 t128, .int .i64 0, .int .i64 0, .int .i64 0, .slice none 0 0]) ?_ 1 _ rfl; (with_reducible repeat (first | refine blk_drewN ?_ _ | refine blk_drew ?_ | refine blk_alloc ?_ _)); refine blk_put (cs := #[.int .i64 0, .int .i64 0, .int .i64 0, .int .i64 0, .slice none 0 0]) ?_ 0 _ rfl; (with_reducible repeat (first | refine blk_drewN ?_ _ | refine blk_drew ?_ | refine blk_alloc ?_ _)); exact BK130.out⟩, ⟨mI64_1 HI0.out⟩, ⟨mKp HK.out⟩, ⟨mB64HI0 HB.out⟩⟩
    case round =>
     clear H'
     (try clear c8); (try clear c12); (try clear hcz33_0); (try clear hcz33_1); (try clear hcz33_2); (try clear hcz33_3); (try clear hcz33_4); (try clear hfz33_0); (try clear hfz33_1); (try clear hfz33_2); (try clear hfz33_3); (try clear hfz33_4)
     obtain ⟨x6_2, x1001_2, x131004_2, u131004, rfl, HA, HK2, HO_131004, BK112, BK130, HI0, HK, HB⟩ := hrel
     cases gk with
     | zero => exact absurd HA.out (by simp [spec_l3Expr.l0])
     | succ k2 =>
      have H := HA.out
      clear HA
      simp only [spec_l3Expr.l0] at H
      by_cases c34 : x6_2 > 0
      ·rw [if_pos c34] at H
       have c34b0 : decide (0 < x6_2) = true := decide_eq_true c34
       clear c34
       replace H := Option.bind_eq_some_iff.mp H
       obtain ⟨⟨t132, t133, t134, t135, t136, t139⟩, A350, H⟩ := H
       try dsimp only at H
       have A35 := z0 A350
       clear A350
       by_cases c36 : x131004_2.length < 2513169434916
       ·rw [if_pos c36] at H
        have LMc36 := z0 c36
        clear c36
        obtain ⟨y140, hy140⟩ : ∃ y_ : List (S34), y_ = (x131004_2 ++ [(⟨t132, t133, (⟨t134, t135⟩ : S31), t136⟩ : S34)]) := ⟨_, rfl⟩
        replace H : (spec_l3Expr.l0 k2 a1 (wrap64 (x6_2 - 1)) s0_0 t139 t128 0 0 0 y140) = some (r1, r2, r3, r4, r5, r6) := by first | (rw [hy140]; with_reducible exact H) | (have H2_ := (Option.bind_some _ _).symm.trans H; rw [hy140]; with_reducible exact H2_) | (have H2_ := (Option.bind_some _ _).symm.trans H; with_reducible exact H2_) | with_reducible exact H | (rw [hy140]; exact H) | exact H
        have Ny140 := z0 hy140
        clear hy140
        have H' := z0 H
        clear H
        try go_wp2
        have n_ := az (Kd.R_drew HO_131004.out) <| az (blk_drew BK112.out) <| az (blk_drew BK130.out) <| az (IsS64.drew HI0.out) <| az (keep_drew HK.out) <| z0 (below_drew1 HB.out)
        clear HO_131004 BK112 BK130 HI0 HK HB
        obtain ⟨HO_131004, BK112, BK130, HI0, HK, HB⟩ := n_
        refine start_ (n := 10) (S := fun w' => w'.cell? ⟨gb130, 0, none⟩ = some (.int .i64 t128) ∧ w'.cell? ⟨gb130, 1, none⟩ = some (.int .i64 0) ∧ w'.cell? ⟨gb130, 2, none⟩ = some (.int .i64 0) ∧ w'.cell? ⟨gb130, 3, none⟩ = some (.int .i64 0) ∧ w'.cell? ⟨gb130, 4, none⟩ = some (u131004)) (ds := [9]) #[false, false, false, false, false, false, false, false, false, false] (by kernel_rfl) rfl rfl ⟨(blk_cell BK130.out 0).trans rfl, (blk_cell BK130.out 1).trans rfl, (blk_cell BK130.out 2).trans rfl, (blk_cell BK130.out 3).trans rfl, (blk_cell BK130.out 4).trans rfl⟩ (fun hHeld => ?_); refine with_tabW spec_l3Expr.tab9 spec_l3Expr.bits9 (fun HT_ HW_ => ?_)
        generalize wr.drew = w37 at HO_131004 BK112 BK130 HI0 HK HB hHeld ⊢
        refine pure_ (i := 0) (N := some 35) (v := ?_) (a' := ?_) #[true, false, false, false, false, false, false, false, false, false] rfl rfl (any_of HT_.out (by kernel_rfl)) (fun _ _ _ h => h) (Or.inl ⟨by rfl, ?_⟩) ?_ ?_
        rotate_left
        ·intro w'
         go_simp
         with_reducible rfl
        rotate_left
        ·simp only [Act.put, List.setIfInBounds_toArray, List.set_cons_zero, List.set_cons_succ, i64_w, i32_w]
         rfl
        refine pure_ (i := 2) (N := some 37) (v := ?_) (a' := ?_) #[true, false, true, false, false, false, false, false, false, false] rfl rfl (any_of HT_.out (by kernel_rfl)) (fun _ _ _ h => h) (Or.inl ⟨by rfl, ?_⟩) ?_ ?_
        rotate_left
        ·intro w'
         go_simp
         with_reducible rfl
        rotate_left
        ·simp only [Act.put, List.setIfInBounds_toArray, List.set_cons_zero, List.set_cons_succ, i64_w, i32_w]
         rfl
        refine pure_ (i := 3) (N := some 38) (v := ?_) (a' := ?_) #[true, false, true, true, false, false, false, false, false, false] rfl rfl (any_of HT_.out (by kernel_rfl)) (fun _ _ _ h => h) (Or.inl ⟨by rfl, ?_⟩) ?_ ?_
        rotate_left
        ·intro w'
         go_simp
         with_reducible rfl
        rotate_left
        ·simp only [Act.put, List.setIfInBounds_toArray, List.set_cons_zero, List.set_cons_succ, i64_w, i32_w]
         rfl
        refine pure_ (i := 4) (N := some 39) (v := ?_) (a' := ?_) #[true, false, true, true, true, false, false, false, false, false] rfl rfl (any_of HT_.out (by kernel_rfl)) (fun _ _ _ h => h) (Or.inl ⟨by rfl, ?_⟩) ?_ ?_
        rotate_left
        ·intro w'
         go_simp
         with_reducible rfl
        rotate_left
        ·simp only [Act.put, List.setIfInBounds_toArray, List.set_cons_zero, List.set_cons_succ, i64_w, i32_w]
         rfl
        refine take_ (i := 1) (N := some 36) (v := ?_) (a' := ?_) #[true, true, true, true, true, false, false, false, false, false] rfl rfl (take_ofW HT_.out HW_.out (by kernel_rfl)) (fun _ _ _ h => h) (Or.inl ⟨by rfl, ?_⟩) hHeld ?_ ?_
        rotate_left
        ·rintro w' ⟨s0, s1, s2, s3, s4⟩
         go_simp
         with_reducible rfl
        rotate_left
        ·simp only [Act.put, List.setIfInBounds_toArray, List.set_cons_zero, List.set_cons_succ, i64_w, i32_w]
         rfl
        refine one_ (i := 5) (N := some 40) #[true, true, true, true, true, true, false, false, false, false] rfl rfl (one_of HT_.out (by kernel_rfl)) (by decide) (fun K hK => ?_)
        refine goes_ Tryd.func25 (by kernel_rfl) rfl #[.pointer (some ⟨g, 0, none⟩), .int .i64 (wrap64 (a1 - 1))] (by rfl) rfl rfl argx ?_
        with_reducible refine (ih k2 (by have := HJ2.out; have := HK2.out; omega) g s0_0 x1001_2 (wrap64 (a1 - 1)) t132 t133 t134 t135 t136 t139 w0 _ ?side1 ?side2 A35.out).mono ?_
        (case side1 => exact mI64_1 HI0.out)
        (case side2 => exact mB64HI0 HB.out)
        rintro e w38 ⟨v137, rfl, ho0, hi, hb, hk⟩
        refine ⟨_, rfl, ?_⟩
        have n_ := And.intro (z0 (Kd.R_mono (Kd.R_told (Kd.R_oldK (IsS64.apart (show IsS64 w0 _ g s0_0 x1001_2 from mI64_1 HI0.out) (mR HO_131004.out) (by decide)) hk) (by first | exact Kd.R_base ho0 | exact Kd.R_base ho0)) (fun _ h_ => h_.1))) <| az (kB hk BK112.out NB112_0.out) <| az (kB hk BK130.out NB130_0.out) <| And.intro (z0 (Kd.R_lower (Kd.R_newB (Kd.R_newB (Kd.R_new' ho0 (Kd.R_lt (mR HO_131004.out))) (g := gb112) (o := .cells #[.int .i64 0, .int .i64 0, .int .i64 0, .int .i64 0, .slice none 0 0] 34 (0, 0)) (mK BK112.out)) (g := gb130) (o := .cells #[.int .i64 t128, .int .i64 0, .int .i64 0, .int .i64 0, u131004] 34 (0, 0)) (mK BK130.out)) (kS HK.out))) <| az (KeepBut.trans (mKp HK.out) hk (.inl rfl)) <| az (hb) <| z0 (hi)
        clear HO_131004 BK112 BK130 HK HB HI0
        obtain ⟨HO_131004, BK112, BK130, HO138, HK, HB, HI0⟩ := n_
        (try clear hb)
        (try clear hb2)
        (try clear hk)
        (try clear hi)
        (try clear ho0)
        obtain ⟨Ao40, co40, eo40⟩ := Kd.R_slice HO138.out
        (first | subst eo40 | (injection eo40 with f1_ f2_ f3_; have f4_ := f1_.symm; have f5_ := f3_.symm; clear f1_ f2_ f3_; subst f4_; subst f5_))
        refine hK.out _ _ ⟨(blk_cell BK130.out 0).trans rfl, (blk_cell BK130.out 1).trans rfl, (blk_cell BK130.out 2).trans rfl, (blk_cell BK130.out 3).trans rfl, (blk_cell BK130.out 4).trans rfl⟩ (fun hHeld => ?_)
        clear hK K
        refine norm_ (a' := ?_) ?_ ?_
        rotate_left
        ·show Act.put _ (some 40) _ = _
         simp only [Act.put, List.setIfInBounds_toArray, List.set_cons_zero, List.set_cons_succ, i64_w, i32_w]
         rfl
        refine one_ (i := 6) (N := some 41) #[true, true, true, true, true, true, true, false, false, false] rfl rfl (one_of HT_.out (by kernel_rfl)) (by decide) (fun K hK => ?_)
        refine value_ (w1 := ?_) (v := ?_) (by rfl) rfl ?_ ?_
        rotate_left 2
        ·go_simp
         constructor
         ·rfl
         ·rfl
        refine hK.out _ _ ⟨(blk_cell (blk_alloc BK130.out _) 0).trans rfl, (blk_cell (blk_alloc BK130.out _) 1).trans rfl, (blk_cell (blk_alloc BK130.out _) 2).trans rfl, (blk_cell (blk_alloc BK130.out _) 3).trans rfl, (blk_cell (blk_alloc BK130.out _) 4).trans rfl⟩ (fun hHeld => ?_)
        clear hK K
        refine norm_ (a' := ?_) ?_ ?_
        rotate_left
        ·show Act.put _ (some 41) _ = _
         simp only [Act.put, List.setIfInBounds_toArray, List.set_cons_zero, List.set_cons_succ, i64_w, i32_w]
         rfl
        refine one_ (i := 7) (N := some 42) #[true, true, true, true, true, true, true, true, false, false] rfl rfl (one_of HT_.out (by kernel_rfl)) (by decide) (fun K hK => ?_)
        refine Kd.R_append_step k34 w.heap.size (by rfl) (.tmp 36) (.tmp 41) 32 34 (.agg #[(.int .i64 0), (.int .i64 0), (.int .i64 0), (.int .i64 0), (.slice none 0 0)]) 56 rfl Tryd.underlying32 info34 rfl (by decide) (by omega) u131004 x131004_2 (⟨t132, t133, (⟨t134, t135⟩ : S31), t136⟩ : S34) [.int .i64 t132, .int .i64 t133, .int .i64 t134, .int .i64 t135, .slice Ao40 t136.length co40] (fun k_ => k_ ≠ gb112 ∧ k_ ≠ gb130) (fun k_ => ((fun k_ => k_ ≠ gb112 ∧ k_ ≠ gb130)) k_ ∧ nB k_ u131004) rfl rfl ?aP (fun _ hk => hk) ?aF ?aO (Below.refl _ _) ?aS ?aL ?_
        (case aP => exact k34_mkM _ _ _ (⟨t132, t133, (⟨t134, t135⟩ : S31), t136⟩ : S34) (Kd.R_mono (HO138.out) (fun k_ hk => ⟨⟨hk.1.2, hk.2⟩, hk.1.1.2⟩)))
        (case aF => exact (fun k_ hk => ⟨fB BK112.out hk, fB BK130.out hk⟩))
        (case aO => exact (by (with_reducible repeat (first | apply Kd.R_alloc | apply Kd.R_drewN | apply Kd.R_drew)); exact Kd.R_mono HO_131004.out (fun _ hk => ⟨hk.1.1, hk.1.2⟩)))
        (case aS => exact (kS HK.out))
        (case aL => have := LMc36.out; omega)
        intro v141 w39 ho hb hg hat
        rw [← Ny140.out] at ho
        have n_ := az (blk_grown (g := gb112) (o := .cells #[.int .i64 0, .int .i64 0, .int .i64 0, .int .i64 0, .slice none 0 0] 34 (0, 0)) (mK BK112.out) hg (Kd.R_away HO_131004.out (fun _ hk => hk.1.1))) <| az (blk_grown (g := gb130) (o := .cells #[.int .i64 t128, .int .i64 0, .int .i64 0, .int .i64 0, u131004] 34 (0, 0)) (mK BK130.out) hg (Kd.R_away HO_131004.out (fun _ hk => hk.1.2))) <| az (IsS64.grown (mI64_1 HI0.out) hg (IsS64.own_ne HI0.out HO_131004.out (by decide))) <| az (below_weaken (mB64HI0 HB.out) HL.out hb) <| az (KeepBut.trans (mKp HK.out) (KeepBut.of_grown hg g) (Kd.R_base2 HO_131004.out)) <| z0 (ho)
        clear BK112 BK130 HI0 HB HK HO_131004 HO138
        obtain ⟨BK112, BK130, HI0, HB, HK, HO142⟩ := n_
        clear ho hb hg hat
        obtain ⟨Ao41, co41, eo41⟩ := Kd.R_slice HO142.out
        (first | subst eo41 | (injection eo41 with f1_ f2_ f3_; have f4_ := f1_.symm; have f5_ := f3_.symm; clear f1_ f2_ f3_; subst f4_; subst f5_))
        refine hK.out _ _ ⟨(blk_cell BK130.out 0).trans rfl, (blk_cell BK130.out 1).trans rfl, (blk_cell BK130.out 2).trans rfl, (blk_cell BK130.out 3).trans rfl, (blk_cell BK130.out 4).trans rfl⟩ (fun hHeld => ?_)
        clear hK K
        refine norm_ (a' := ?_) ?_ ?_
        rotate_left
        ·show Act.put _ (some 42) _ = _
         simp only [Act.put, List.setIfInBounds_toArray, List.set_cons_zero, List.set_cons_succ, i64_w, i32_w]
         rfl
        refine pure_ (i := 8) (N := some 43) (v := ?_) (a' := ?_) #[true, true, true, true, true, true, true, true, true, false] rfl rfl (any_of HT_.out (by kernel_rfl)) (fun _ _ _ h => h) (Or.inl ⟨by rfl, ?_⟩) ?_ ?_
        rotate_left
        ·intro w'
         go_simp
         with_reducible rfl
        rotate_left
        ·simp only [Act.put, List.setIfInBounds_toArray, List.set_cons_zero, List.set_cons_succ, i64_w, i32_w]
         rfl
        refine last_ (i := 9) (N := none) #[true, true, true, true, true, true, true, true, true, true] rfl rfl (one_of HT_.out (by kernel_rfl)) (by decide) (fun K hK => ?_)
        have hs42 : w39.cell? ⟨gb130, 4, none⟩ = some (u131004) := (blk_cell BK130.out 4).trans rfl
        have hfs42 := blk_frozen BK130.out 4
        have hns42_0 := NB112_130.out
        have hms42_0 := NB130_112.out
        refine skip_ (w1 := ?_) (by rfl) rfl ?_ ?_
        rotate_left
        ·go_simp
         rfl
        refine hK.out _ _ ?_
        clear hK K
        refine done_ (done_of HT_.out (by kernel_rfl)) ?_
        try go_wp2
        go_roundg k2
        case measure => have := HJ2.out; have := HK2.out; omega
        case rel => exact ⟨(wrap64 (x6_2 - 1)), (t139), (y140), (.slice Ao41 y140.length co41), rfy, H', ⟨by have := HJ2.out; have := HK2.out; omega⟩, ⟨by (with_reducible repeat (first | apply Kd.R_alloc | apply Kd.R_drewN | apply Kd.R_drew)); exact Kd.R_mono (Kd.R_far (p := ⟨gb130, 4, none⟩) (Kd.R_mono HO142.out (fun k_ hk => (⟨hk, hk.2⟩ : _ ∧ k_ ≠ gb130))) (fun _ hk => hk.2) (.slice Ao41 y140.length co41)) (fun _ hk => ⟨hk.1.1, hk.1.2⟩)⟩, ⟨mF BK112.out⟩, ⟨by (with_reducible repeat (first | refine blk_drewN ?_ _ | refine blk_drew ?_ | refine blk_alloc ?_ _)); refine blk_put (cs := #[.int .i64 t128, .int .i64 0, .int .i64 0, .int .i64 0, u131004]) ?_ 4 _ rfl; (with_reducible repeat (first | refine blk_drewN ?_ _ | refine blk_drew ?_ | refine blk_alloc ?_ _)); exact BK130.out⟩, ⟨mI64_1 HI0.out⟩, ⟨mKp HK.out⟩, ⟨mB64HI0 HB.out⟩⟩
       ·rw [if_neg c36] at H
        exact absurd H (by simp)
      ·rw [if_neg c34] at H
       have c34b0 : decide (0 < x6_2) = false := decide_eq_false c34
       clear c34
       simp only [Option.some.injEq, Prod.mk.injEq] at H
       obtain ⟨rfl, rfl, rfl, rfl, rfl, rfl⟩ := H
       have hnb43 := NB130_112.out
       have hnc43 := NB112_130.out
       have hnb44 := NB130_0.out
       have hnc44 := NB0_130.out
       obtain ⟨hcz45_0, hcz45_1, hcz45_2, hcz45_3, hcz45_4, hfz45_0, hfz45_1, hfz45_2, hfz45_3, hfz45_4⟩ := cel5 BK130.out
       have hnb46 := NB112_0.out
       have hnc46 := NB0_112.out
       obtain ⟨hcz47_0, hcz47_1, hcz47_2, hcz47_3, hcz47_4, hfz47_0, hfz47_1, hfz47_2, hfz47_3, hfz47_4⟩ := cel5 BK112.out
       obtain ⟨Ao48, co48, eo48⟩ := Kd.R_slice HO_131004.out
       subst eo48
       go_wp2
       refine bodyPost_ret (results_cell_row rfl _ _ gb112 34 #[.int .i64 t128, .int .i64 0, .int .i64 0, .int .i64 0, .slice Ao48 x131004_2.length co48] (0, 0) _ rfl (pF BK112.out) Tryd.underlying34 rfl (by kernel_rfl)) rfl ?_
       exact ⟨_, rfx, by (with_reducible repeat (first | apply Kd.R_alloc | apply Kd.R_drewN | apply Kd.R_drew)); exact Kd.R_mono (Kd.R_far (p := ⟨gb112, 4, none⟩) (Kd.R_far (p := ⟨gb112, 3, none⟩) (Kd.R_far (p := ⟨gb112, 2, none⟩) (Kd.R_far (p := ⟨gb112, 1, none⟩) (Kd.R_far (p := ⟨gb112, 0, none⟩) (Kd.R_mono HO_131004.out (fun k_ hk => (⟨hk, hk.1⟩ : _ ∧ k_ ≠ gb112))) (fun _ hk => hk.2) (.int .i64 t128)) (fun _ hk => hk.2) (.int .i64 0)) (fun _ hk => hk.2) (.int .i64 0)) (fun _ hk => hk.2) (.int .i64 0)) (fun _ hk => hk.2) (.slice Ao48 x131004_2.length co48)) (fun _ hk => trivial), mI64_1 HI0.out, mB64HI0 HB.out, mKp HK.out⟩

/-! ### spec_l3Some: function 44 -/
def spec_l3Some.f (k : Nat) (s0_0 : List Int) (s0_1 : Int) : Option (Int × Int × Int × Int × (List (S34)) × Int) := (spec_l12Rd_pick.f k s0_0 s0_1 4).bind fun bt243 => ((spec_l3Expr.f k s0_0 bt243.2 (wrap64 (1 + bt243.1))).bind fun bt245 => ((spec_ExprOk.f k bt245.1 bt245.2.1 bt245.2.2.1 bt245.2.2.2.1 bt245.2.2.2.2.1).bind fun t254 => (if t254 = true then (some (bt245.1, bt245.2.1, bt245.2.2.1, bt245.2.2.2.1, bt245.2.2.2.2.1, bt245.2.2.2.2.2)) else ((spec_l3Expr.f k s0_0 bt245.2.2.2.2.2 2).bind fun bt255 => (some (bt255.1, bt255.2.1, bt255.2.2.1, bt255.2.2.2.1, bt255.2.2.2.2.1, bt255.2.2.2.2.2))))))
theorem q44_1 {p : Prop} (h : p := by (with_reducible repeat (first | apply Kd.R_alloc | apply Kd.R_drewN | apply Kd.R_drew)); exact (Kd.R_mono (Kd.R_far (p := ⟨gb253, 4, none⟩) (Kd.R_far (p := ⟨gb253, 3, none⟩) (Kd.R_far (p := ⟨gb253, 2, none⟩) (Kd.R_far (p := ⟨gb253, 1, none⟩) (Kd.R_far (p := ⟨gb253, 0, none⟩) (Kd.R_mono HO251.out (fun k_ hk => (⟨hk, hk.2⟩ : _ ∧ k_ ≠ gb253))) (fun _ hk => hk.2) (.int .i64 t245)) (fun _ hk => hk.2) (.int .i64 t246)) (fun _ hk => hk.2) (.int .i64 t247)) (fun _ hk => hk.2) (.int .i64 t248)) (fun _ hk => hk.2) (.slice Ao13 t249.length co13)) (fun _ h_ => h_.1))) : p := h
set_option maxHeartbeats 8000000 in
set_option maxRecDepth 100000 in
theorem spec_l3Some.calls (k : Nat) (g : Nat) (s0_0 : List Int) (s0_1 : Int) (r1 : Int) (r2 : Int) (r3 : Int) (r4 : Int) (r5 : List (S34)) (r6 : Int) (w0 w : World) (hI : IsS64 w0 w g s0_0 s0_1) (hB : Below w0.heap.size w0 w) (h : spec_l3Some.f k s0_0 s0_1 = some (r1, r2, r3, r4, r5, r6)) :
  Calls Tryd.prog 44 #[.pointer (some ⟨g, 0, none⟩)] w fun e w' => ∃ v4_ : Value, e = .returned (.agg #[.int .i64 r1, .int .i64 r2, .int .i64 r3, .int .i64 r4, v4_]) ∧ Kd.R k34 34 w' w.heap.size (fun _ => True) v4_ r5 ∧ IsS64 w0 w' g s0_0 r6 ∧ Below w0.heap.size w0 w' ∧ KeepBut w w' g none := by
 have hu34 := Tryd.underlying34
 have HI0 := z0 hI
 have HK := z0 (KeepBut.refl w g none)
 have HL := z0 hB.size
 clear hI
 have HW0 := z0 hB.size
 have HB := z0 hB
 clear hB
 have H : ((spec_l12Rd_pick.f k s0_0 s0_1 4).bind fun bt243 => ((spec_l3Expr.f k s0_0 bt243.2 (wrap64 (1 + bt243.1))).bind fun bt245 => ((spec_ExprOk.f k bt245.1 bt245.2.1 bt245.2.2.1 bt245.2.2.2.1 bt245.2.2.2.2.1).bind fun t254 => (if t254 = true then (some (bt245.1, bt245.2.1, bt245.2.2.1, bt245.2.2.2.1, bt245.2.2.2.2.1, bt245.2.2.2.2.2)) else ((spec_l3Expr.f k s0_0 bt245.2.2.2.2.2 2).bind fun bt255 => (some (bt255.1, bt255.2.1, bt255.2.2.1, bt255.2.2.2.1, bt255.2.2.2.2.1, bt255.2.2.2.2.2))))))) = some (r1, r2, r3, r4, r5, r6) := h
 clear h
 replace H := Option.bind_eq_some_iff.mp H
 obtain ⟨⟨t243, t244⟩, A20, H⟩ := H
 try dsimp only at H
 have A2 := z0 A20
 clear A20
 replace H := Option.bind_eq_some_iff.mp H
 obtain ⟨⟨t245, t246, t247, t248, t249, t252⟩, A30, H⟩ := H
 try dsimp only at H
 have A3 := z0 A30
 clear A30
 replace H := Option.bind_eq_some_iff.mp H
 obtain ⟨t254, A40, H⟩ := H
 try dsimp only at H
 have A4 := z0 A40
 clear A40
 have HF5 := z0 H
 clear H
 go_enter Tryd.func44, Tryd.ntmps44
 go_upto_if 11 with (first | ((with_reducible refine gate_dst (N := 2) rfl ?_); refine box_event ?hg (N := 2) ?hd (cs := #[.int .i64 0, .int .i64 0, .int .i64 0, .int .i64 0, .slice none 0 0]) (t := 34) ?hr ?_; (case hd => rfl); (case hg => rfl); (case hr => first | (go_simp; done) | (go_simp; rfl)); intro gb242 hg w6 hbox hb; have n_ := az (IsS64.below (mI64_1 HI0.out) hb) <| az (KeepBut.trans (mKp HK.out) (KeepBut.of_below hb g none) (.inl rfl)) <| az (below_step (mB64HI0 HB.out) hb) <| az (hbox) <| az ((gW hg HK.out)) <| az ((Nat.le_trans HW0.out (gW hg HK.out) : w0.heap.size ≤ gb242)) <| az ((by rw [hg]; exact Nat.ne_of_lt (IsS64.lt (show IsS64 w0 _ g s0_0 s0_1 from mI64_1 HI0.out)) : g ≠ gb242)) <| z0 ((by rw [hg]; exact Nat.ne_of_gt (IsS64.lt (show IsS64 w0 _ g s0_0 s0_1 from mI64_1 HI0.out)) : gb242 ≠ g)); clear HI0 HK HB; obtain ⟨HI0, HK, HB, BK242, GW242, GE242, NB0_242, NB242_0⟩ := n_; clear hb hbox hg) | ((with_reducible refine gate_callee (f := 23) rfl ?_); refine goesL_ (some 6) rfl rfl Tryd.func23 (by kernel_rfl) rfl #[.pointer (some ⟨g, 0, none⟩), .int .i64 4] rfl argx ?_; (with_reducible refine (spec_l12Rd_pick.calls k g s0_0 s0_1 4 t243 t244 w0 _ ?side1 ?side2 A2.out).mono ?_); (case side1 => exact mI64_1 HI0.out); (case side2 => exact mB64HI0 HB.out); rintro e w7 ⟨rfl, hi, hb, hk⟩; refine ⟨_, rfl, ?_⟩; have n_ := az (kB hk BK242.out NB242_0.out) <| az (KeepBut.trans (mKp HK.out) hk (.inl rfl)) <| az (hb) <| z0 (hi); clear BK242 HK HB HI0; obtain ⟨BK242, HK, HB, HI0⟩ := n_; clear hb hk hi) | ((with_reducible refine gate_callee (f := 25) rfl ?_); refine goesL_ (some 8) rfl rfl Tryd.func25 (by kernel_rfl) rfl #[.pointer (some ⟨g, 0, none⟩), .int .i64 (wrap64 (1 + t243))] rfl argx ?_; (with_reducible refine (spec_l3Expr.calls k g s0_0 t244 (wrap64 (1 + t243)) t245 t246 t247 t248 t249 t252 w0 _ ?side1 ?side2 A3.out).mono ?_); (case side1 => exact mI64_1 HI0.out); (case side2 => exact mB64HI0 HB.out); rintro e w8 ⟨v250, rfl, ho0, hi, hb, hk⟩; refine ⟨_, rfl, ?_⟩; have n_ := az (kB hk BK242.out NB242_0.out) <| az (Kd.R_lower (Kd.R_newB ho0 (g := gb242) (o := .cells #[.int .i64 0, .int .i64 0, .int .i64 0, .int .i64 0, .slice none 0 0] 34 (0, 0)) (mK BK242.out)) (kS HK.out)) <| az (KeepBut.trans (mKp HK.out) hk (.inl rfl)) <| az (hb) <| z0 (hi); clear BK242 HK HB HI0; obtain ⟨BK242, HO251, HK, HB, HI0⟩ := n_; clear hb hk hi ho0) | ((with_reducible refine gate_dst (N := 3) rfl ?_); refine box_event ?hg (N := 3) ?hd (cs := #[.int .i64 0, .int .i64 0, .int .i64 0, .int .i64 0, .slice none 0 0]) (t := 34) ?hr ?_; (case hd => rfl); (case hg => rfl); (case hr => first | (go_simp; done) | (go_simp; rfl)); intro gb253 hg w9 hbox hb; have n_ := az (Kd.R_below (Kd.R_elderB (mR HO251.out) gb253 (Nat.le_of_eq hg.symm)) hb) <| az (IsS64.below (mI64_1 HI0.out) hb) <| az (bB BK242.out hb) <| az (KeepBut.trans (mKp HK.out) (KeepBut.of_below hb g none) (.inl rfl)) <| az (below_step (mB64HI0 HB.out) hb) <| az (hbox) <| az ((gW hg HK.out)) <| az ((Nat.le_trans HW0.out (gW hg HK.out) : w0.heap.size ≤ gb253)) <| az ((nL hg BK242.out)) <| az ((nG hg BK242.out)) <| az ((by rw [hg]; exact Nat.ne_of_lt (IsS64.lt (show IsS64 w0 _ g s0_0 t252 from mI64_1 HI0.out)) : g ≠ gb253)) <| z0 ((by rw [hg]; exact Nat.ne_of_gt (IsS64.lt (show IsS64 w0 _ g s0_0 t252 from mI64_1 HI0.out)) : gb253 ≠ g)); clear HO251 HI0 BK242 HK HB; obtain ⟨HO251, HI0, BK242, HK, HB, BK253, GW253, GE253, NB242_253, NB253_242, NB0_253, NB253_0⟩ := n_; clear hb hbox hg; have hnb10 := NB253_242.out; have hnc10 := NB242_253.out; have hnb11 := NB253_0.out; have hnc11 := NB0_253.out; obtain ⟨hcz12_0, hcz12_1, hcz12_2, hcz12_3, hcz12_4, hfz12_0, hfz12_1, hfz12_2, hfz12_3, hfz12_4⟩ := cel5 BK253.out; obtain ⟨Ao13, co13, eo13⟩ := Kd.R_slice HO251.out; subst eo13) | ((with_reducible refine gate_callee (f := 13) rfl ?_); refine goesL_ (some 10) rfl rfl Tryd.func13 (by kernel_rfl) rfl #[.agg #[.int .i64 t245, .int .i64 t246, .int .i64 t247, .int .i64 t248, .slice Ao13 t249.length co13]] rfl argx ?_; (with_reducible refine (spec_ExprOk.calls k t245 t246 t247 t248 _ _ t249 t254 _ ?side1 ?side2 A4.out).mono ?_); (case side1 => refine (Kd.R_reads' (e := 34) (base := w.heap.size) (ok := fun k_ => ((True ∧ k_ ≠ gb242) ∧ k_ ≠ gb253)) (n := t249.length) (c := co13) ?_).2.2; exact q44_1); (case side2 => exact (Kd.R_reads' HO251.out).2.1); rintro e w14 ⟨rfl, hb⟩; refine ⟨_, rfl, ?_⟩; have n_ := az (Kd.R_below q44_1 hb) <| az (IsS64.below (show IsS64 w0 (((((w9.setCell ⟨gb253, 0, none⟩ (.int .i64 t245)).setCell ⟨gb253, 1, none⟩ (.int .i64 t246)).setCell ⟨gb253, 2, none⟩ (.int .i64 t247)).setCell ⟨gb253, 3, none⟩ (.int .i64 t248)).setCell ⟨gb253, 4, none⟩ (.slice Ao13 t249.length co13)) g s0_0 t252 from mI64_1 HI0.out) hb) <| az (blk_below (g := gb242) (o := .cells #[.int .i64 0, .int .i64 0, .int .i64 0, .int .i64 0, .slice none 0 0] 34 (0, 0)) (mF BK242.out) hb) <| az (blk_below (g := gb253) (o := .cells #[.int .i64 t245, .int .i64 t246, .int .i64 t247, .int .i64 t248, .slice Ao13 t249.length co13] 34 (0, 0)) (by (with_reducible repeat (first | refine blk_drewN ?_ _ | refine blk_drew ?_ | refine blk_alloc ?_ _)); refine blk_put (cs := #[.int .i64 t245, .int .i64 t246, .int .i64 t247, .int .i64 t248, .slice none 0 0]) ?_ 4 _ rfl; (with_reducible repeat (first | refine blk_drewN ?_ _ | refine blk_drew ?_ | refine blk_alloc ?_ _)); refine blk_put (cs := #[.int .i64 t245, .int .i64 t246, .int .i64 t247, .int .i64 0, .slice none 0 0]) ?_ 3 _ rfl; (with_reducible repeat (first | refine blk_drewN ?_ _ | refine blk_drew ?_ | refine blk_alloc ?_ _)); refine blk_put (cs := #[.int .i64 t245, .int .i64 t246, .int .i64 0, .int .i64 0, .slice none 0 0]) ?_ 2 _ rfl; (with_reducible repeat (first | refine blk_drewN ?_ _ | refine blk_drew ?_ | refine blk_alloc ?_ _)); refine blk_put (cs := #[.int .i64 t245, .int .i64 0, .int .i64 0, .int .i64 0, .slice none 0 0]) ?_ 1 _ rfl; (with_reducible repeat (first | refine blk_drewN ?_ _ | refine blk_drew ?_ | refine blk_alloc ?_ _)); refine blk_put (cs := #[.int .i64 0, .int .i64 0, .int .i64 0, .int .i64 0, .slice none 0 0]) ?_ 0 _ rfl; (with_reducible repeat (first | refine blk_drewN ?_ _ | refine blk_drew ?_ | refine blk_alloc ?_ _)); exact BK253.out) hb) <| az (KeepBut.trans (mKp HK.out) (KeepBut.of_below hb g none) (.inl rfl)) <| z0 (below_step (mB64HI0 HB.out) hb); clear HO251 HI0 BK242 BK253 HK HB; obtain ⟨HO251, HI0, BK242, BK253, HK, HB⟩ := n_; clear hb))
 (try simp only [Act.put, List.setIfInBounds_toArray, List.set_cons_zero, List.set_cons_succ])
 have H := HF5.out
 clear HF5
 (try clear hcz12_0); (try clear hcz12_1); (try clear hcz12_2); (try clear hcz12_3); (try clear hcz12_4); (try clear hfz12_0); (try clear hfz12_1); (try clear hfz12_2); (try clear hfz12_3); (try clear hfz12_4)
 by_cases c15 : t254 = true
 ·subst c15
  have H1 : (some (t245, t246, t247, t248, t249, t252)) = some (r1, r2, r3, r4, r5, r6) := by rw [if_pos rfl] at H; exact H
  clear H
  have H := H1
  clear H1
  simp only [Option.some.injEq, Prod.mk.injEq] at H
  obtain ⟨rfl, rfl, rfl, rfl, rfl, rfl⟩ := H
  have hnb16 := NB253_242.out
  have hnc16 := NB242_253.out
  have hnb17 := NB253_0.out
  have hnc17 := NB0_253.out
  obtain ⟨hcz18_0, hcz18_1, hcz18_2, hcz18_3, hcz18_4, hfz18_0, hfz18_1, hfz18_2, hfz18_3, hfz18_4⟩ := cel5 BK253.out
  have hnb19 := NB242_0.out
  have hnc19 := NB0_242.out
  obtain ⟨hcz20_0, hcz20_1, hcz20_2, hcz20_3, hcz20_4, hfz20_0, hfz20_1, hfz20_2, hfz20_3, hfz20_4⟩ := cel5 BK242.out
  go_wp2
  refine bodyPost_ret (results_cell_row rfl _ _ gb242 34 #[.int .i64 t245, .int .i64 t246, .int .i64 t247, .int .i64 t248, .slice Ao13 t249.length co13] (0, 0) _ rfl (pF BK242.out) Tryd.underlying34 rfl (by kernel_rfl)) rfl ?_
  exact ⟨_, rfx, by (with_reducible repeat (first | apply Kd.R_alloc | apply Kd.R_drewN | apply Kd.R_drew)); exact Kd.R_mono (Kd.R_far (p := ⟨gb242, 4, none⟩) (Kd.R_far (p := ⟨gb242, 3, none⟩) (Kd.R_far (p := ⟨gb242, 2, none⟩) (Kd.R_far (p := ⟨gb242, 1, none⟩) (Kd.R_far (p := ⟨gb242, 0, none⟩) (Kd.R_mono HO251.out (fun k_ hk => (⟨hk, hk.1.2⟩ : _ ∧ k_ ≠ gb242))) (fun _ hk => hk.2) (.int .i64 t245)) (fun _ hk => hk.2) (.int .i64 t246)) (fun _ hk => hk.2) (.int .i64 t247)) (fun _ hk => hk.2) (.int .i64 t248)) (fun _ hk => hk.2) (.slice Ao13 t249.length co13)) (fun _ hk => trivial), mI64_1 HI0.out, mB64HI0 HB.out, mKp HK.out⟩
 ·replace c15 := Bool.eq_false_iff.mpr c15
  subst c15
  have H1 : ((spec_l3Expr.f k s0_0 t252 2).bind fun bt255 => (some (bt255.1, bt255.2.1, bt255.2.2.1, bt255.2.2.2.1, bt255.2.2.2.2.1, bt255.2.2.2.2.2))) = some (r1, r2, r3, r4, r5, r6) := by rw [if_neg (show ¬ (false = true) by decide)] at H; exact H
  clear H
  have H := H1
  clear H1
  replace H := Option.bind_eq_some_iff.mp H
  obtain ⟨⟨t255, t256, t257, t258, t259, t262⟩, A210, H⟩ := H
  try dsimp only at H
  have A21 := z0 A210
  clear A210
  simp only [Option.some.injEq, Prod.mk.injEq] at H
  obtain ⟨rfl, rfl, rfl, rfl, rfl, rfl⟩ := H
  go_wp2_with (first | ((with_reducible refine gate_callee (f := 25) rfl ?_); refine goesL_ (some 13) rfl rfl Tryd.func25 (by kernel_rfl) rfl #[.pointer (some ⟨g, 0, none⟩), .int .i64 2] rfl argx ?_; (with_reducible refine (spec_l3Expr.calls k g s0_0 t252 2 t255 t256 t257 t258 t259 t262 w0 _ ?side1 ?side2 A21.out).mono ?_); (case side1 => exact mI64_1 HI0.out); (case side2 => exact mB64HI0 HB.out); rintro e w22 ⟨v260, rfl, ho0, hi, hb, hk⟩; refine ⟨_, rfl, ?_⟩; have n_ := az (kB hk BK242.out NB242_0.out) <| az (Kd.R_mono (Kd.R_told (Kd.R_oldK (IsS64.apart (show IsS64 w0 _ g s0_0 t252 from mI64_1 HI0.out) (mR HO251.out) (by decide)) hk) (by first | exact Kd.R_base ho0 | exact Kd.R_base ho0)) (fun _ h_ => h_.1)) <| az (kB hk BK253.out NB253_0.out) <| az (Kd.R_lower (Kd.R_newB (Kd.R_newB (Kd.R_new' ho0 (Kd.R_lt (mR HO251.out))) (g := gb242) (o := .cells #[.int .i64 0, .int .i64 0, .int .i64 0, .int .i64 0, .slice none 0 0] 34 (0, 0)) (mK BK242.out)) (g := gb253) (o := .cells #[.int .i64 t245, .int .i64 t246, .int .i64 t247, .int .i64 t248, .slice Ao13 t249.length co13] 34 (0, 0)) (mK BK253.out)) (kS HK.out)) <| az (KeepBut.trans (mKp HK.out) hk (.inl rfl)) <| az (hb) <| z0 (hi); clear BK242 HO251 BK253 HK HB HI0; obtain ⟨BK242, HO251, BK253, HO261, HK, HB, HI0⟩ := n_; clear hb hk hi ho0; have hnb23 := NB242_253.out; have hnc23 := NB253_242.out; have hnb24 := NB242_0.out; have hnc24 := NB0_242.out; obtain ⟨hcz25_0, hcz25_1, hcz25_2, hcz25_3, hcz25_4, hfz25_0, hfz25_1, hfz25_2, hfz25_3, hfz25_4⟩ := cel5 BK242.out; obtain ⟨Ao26, co26, eo26⟩ := Kd.R_slice HO261.out; subst eo26))
  refine bodyPost_ret (results_cell_row rfl _ _ gb242 34 #[.int .i64 t255, .int .i64 t256, .int .i64 t257, .int .i64 t258, .slice Ao26 t259.length co26] (0, 0) _ rfl (pF BK242.out) Tryd.underlying34 rfl (by kernel_rfl)) rfl ?_
  exact ⟨_, rfx, by (with_reducible repeat (first | apply Kd.R_alloc | apply Kd.R_drewN | apply Kd.R_drew)); exact Kd.R_mono (Kd.R_far (p := ⟨gb242, 4, none⟩) (Kd.R_far (p := ⟨gb242, 3, none⟩) (Kd.R_far (p := ⟨gb242, 2, none⟩) (Kd.R_far (p := ⟨gb242, 1, none⟩) (Kd.R_far (p := ⟨gb242, 0, none⟩) (Kd.R_mono HO261.out (fun k_ hk => (⟨hk, hk.1.2⟩ : _ ∧ k_ ≠ gb242))) (fun _ hk => hk.2) (.int .i64 t255)) (fun _ hk => hk.2) (.int .i64 t256)) (fun _ hk => hk.2) (.int .i64 t257)) (fun _ hk => hk.2) (.int .i64 t258)) (fun _ hk => hk.2) (.slice Ao26 t259.length co26)) (fun _ hk => trivial), mI64_1 HI0.out, mB64HI0 HB.out, mKp HK.out⟩

/-! ### spec_l3Copy: function 45 -/
mutual
def spec_l3Copy.l0 : Nat → Int → Int → Int → Int → Int → List (S34) → Int → Int → Int → Int → List (S34) → Option (Int × Int × Int × Int × (List (S34)))
 | 0, _, _, _, _, _, _, _, _, _, _, _ => none
 | k + 1, x4, x264000, x264001, x264002, x264003, x264004, x266000, x266001, x266002, x266003, x266004 => if x4 < (x264004.length : Int) then (if 0 ≤ x4 then ((spec_l3Copy.f k ((rd_T34 x264004 x4).f0) ((rd_T34 x264004 x4).f1) ((rd_T34 x264004 x4).f2.f0) ((rd_T34 x264004 x4).f2.f1) ((rd_T34 x264004 x4).f3)).bind fun bt267 => (if x266004.length < 2513169434916 then (spec_l3Copy.l0 k (wrap64 (x4 + 1)) x264000 x264001 x264002 x264003 x264004 x266000 x266001 x266002 x266003 (x266004 ++ [(⟨bt267.1, bt267.2.1, (⟨bt267.2.2.1, bt267.2.2.2.1⟩ : S31), bt267.2.2.2.2⟩ : S34)])) else (none))) else (none)) else (some (x266000, x266001, x266002, x266003, x266004))
def spec_l3Copy.f : Nat → Int → Int → Int → Int → List (S34) → Option (Int × Int × Int × Int × (List (S34)))
 | 0, _, _, _, _, _ => none
 | k + 1, a0_0, a0_1, a0_2, a0_3, l0_4 => spec_l3Copy.l0 k 0 a0_0 a0_1 a0_2 a0_3 l0_4 a0_0 a0_1 a0_2 a0_3 ([] : List (S34))
end
theorem spec_l3Copy.mono_l : ∀ k, (∀ y0 y1 y2 y3 y4, LeO (spec_l3Copy.f k y0 y1 y2 y3 y4) (spec_l3Copy.f (k + 1) y0 y1 y2 y3 y4)) ∧ (∀ y0 y1 y2 y3 y4 y5 y6 y7 y8 y9 y10, LeO (spec_l3Copy.l0 k y0 y1 y2 y3 y4 y5 y6 y7 y8 y9 y10) (spec_l3Copy.l0 (k + 1) y0 y1 y2 y3 y4 y5 y6 y7 y8 y9 y10))
 | 0 => ⟨fun _ _ _ _ _ r h => by simp [spec_l3Copy.f] at h, fun _ _ _ _ _ _ _ _ _ _ _ r h => by simp [spec_l3Copy.l0] at h⟩
 | k + 1 => by
  obtain ⟨ih0, ih1⟩ := spec_l3Copy.mono_l k
  refine ⟨?_, ?_⟩
  ·intro y0 y1 y2 y3 y4
   unfold spec_l3Copy.f
   repeat' first
   | (with_reducible exact ih0 _ _ _ _ _)
   | (with_reducible exact ih1 _ _ _ _ _ _ _ _ _ _ _)
   | (with_reducible exact LeO.refl _)
   | (with_reducible exact LeO.none _)
   | (with_reducible refine LeO.ite ?_ ?_)
   | (with_reducible refine LeO.bind ?_ (fun _ => ?_))
   | exact ih0 _ _ _ _ _
   | exact ih1 _ _ _ _ _ _ _ _ _ _ _
   | exact LeO.none _
   | refine LeO.ite ?_ ?_
   | refine LeO.bind ?_ (fun _ => ?_)
  ·intro y0 y1 y2 y3 y4 y5 y6 y7 y8 y9 y10
   unfold spec_l3Copy.l0
   repeat' first
   | (with_reducible exact ih0 _ _ _ _ _)
   | (with_reducible exact ih1 _ _ _ _ _ _ _ _ _ _ _)
   | (with_reducible exact LeO.refl _)
   | (with_reducible exact LeO.none _)
   | (with_reducible refine LeO.ite ?_ ?_)
   | (with_reducible refine LeO.bind ?_ (fun _ => ?_))
   | exact ih0 _ _ _ _ _
   | exact ih1 _ _ _ _ _ _ _ _ _ _ _
   | exact LeO.none _
   | refine LeO.ite ?_ ?_
   | refine LeO.bind ?_ (fun _ => ?_)
def spec_l3Copy.T5 : Bool × List (List Nat × List Nat) := (true, [([], []), ([0], [0]), ([], []), ([2], [2]), ([], []), ([3, 4], [3, 4]), ([5], [5]), ([6], [6]), ([7], [7]), ([1, 8, 7], [1, 8]), ([0, 1, 2, 3, 4, 5, 6, 7, 8, 9], []), ([10, 9, 9, 0, 1, 2, 3, 4, 5, 6, 7, 8, 9], [9, 10])])
def spec_l3Copy.B5 : List Nat := [0, 1, 0, 4, 0, 28, 60, 124, 252, 511, 1023, 2047]
theorem spec_l3Copy.tab5 : rtab .any (opsOf Tryd.f45 5) = spec_l3Copy.T5 := by kernel_rfl
theorem spec_l3Copy.bits5 : waitsOk spec_l3Copy.T5.2 spec_l3Copy.B5 = true := by kernel_rfl
theorem q45_1 {p : Prop} (h : p := by exact ⟨(blk_cell BK265.out 0).trans rfl, (blk_cell BK265.out 1).trans rfl, (blk_cell BK265.out 2).trans rfl, (blk_cell BK265.out 3).trans rfl, (blk_cell BK265.out 4).trans rfl, (blk_cell BK263.out 0).trans rfl, (blk_cell BK263.out 1).trans rfl, (blk_cell BK263.out 2).trans rfl, (blk_cell BK263.out 3).trans rfl, (blk_cell BK263.out 4).trans rfl, ((HB.out.cell (World.block_lt_of_cell? w _ hw266_0)).trans hw266_0), ((HB.out.cell (World.block_lt_of_cell? w _ hw266_1)).trans hw266_1), ((HB.out.cell (World.block_lt_of_cell? w _ hw266_2)).trans hw266_2), ((HB.out.cell (World.block_lt_of_cell? w _ hw266_3)).trans hw266_3), ((HB.out.cell (World.block_lt_of_cell? w _ hw266_4)).trans hw266_4)⟩) : p := h
set_option maxHeartbeats 8000000 in
set_option maxRecDepth 100000 in
theorem spec_l3Copy.calls (k : Nat) : ∀ (a0_0 : Int) (a0_1 : Int) (a0_2 : Int) (a0_3 : Int) (A0_4 : Option Addr) (c0_4 : Nat) (l0_4 : List (S34)) (r1 : Int) (r2 : Int) (r3 : Int) (r4 : Int) (r5 : List (S34)) (w : World) (hr0_4 : Kd.C k34 w A0_4 l0_4.length l0_4) (hc0_4 : l0_4.length ≤ c0_4) (h : spec_l3Copy.f k a0_0 a0_1 a0_2 a0_3 l0_4 = some (r1, r2, r3, r4, r5)),
  Calls Tryd.prog 45 #[.agg #[.int .i64 a0_0, .int .i64 a0_1, .int .i64 a0_2, .int .i64 a0_3, .slice A0_4 l0_4.length c0_4]] w fun e w' => ∃ v4_ : Value, e = .returned (.agg #[.int .i64 r1, .int .i64 r2, .int .i64 r3, .int .i64 r4, v4_]) ∧ Kd.R k34 34 w' w.heap.size (fun _ => True) v4_ r5 ∧ Below w.heap.size w w' := by
 induction k using Nat.strongRecOn with
 | _ k ih =>
 intro a0_0 a0_1 a0_2 a0_3 A0_4 c0_4 l0_4 r1 r2 r3 r4 r5 w hr0_4 hc0_4 h
 cases k with
 | zero => exact absurd h (by simp [spec_l3Copy.f])
 | succ k =>
 simp only [spec_l3Copy.f] at h
 have hu34 := Tryd.underlying34
 have hu31 := Tryd.underlying31
 have HR0_4 := z0 hr0_4
 have HC0_4 := z0 hc0_4
 clear hr0_4 hc0_4
 have HB := z0 (Below.refl w.heap.size w)
 have H : (spec_l3Copy.l0 k 0 a0_0 a0_1 a0_2 a0_3 l0_4 a0_0 a0_1 a0_2 a0_3 ([] : List (S34))) = some (r1, r2, r3, r4, r5) := h
 clear h
 have H' := z0 H
 clear H
 go_enter Tryd.func45, Tryd.ntmps45
 go_wp2_with (first | ((with_reducible refine gate_dst (N := 1) rfl ?_); refine box_event ?hg (N := 1) ?hd (cs := #[.int .i64 a0_0, .int .i64 a0_1, .int .i64 a0_2, .int .i64 a0_3, .slice A0_4 l0_4.length c0_4]) (t := 34) ?hr ?_; (case hd => rfl); (case hg => rfl); (case hr => first | (go_simp; done) | (go_simp; rfl)); intro gb263 hg w2 hbox hb; have n_ := az (below_step (mB HB.out) hb) <| az (hbox) <| az ((by rw [hg]; exact (below_size (mB HB.out)) : w.heap.size ≤ gb263)) <| z0 ((by rw [hg]; exact (below_size (mB HB.out)) : w.heap.size ≤ gb263)); clear HB; obtain ⟨HB, BK263, GW263, GE263⟩ := n_; clear hb hbox hg) | ((with_reducible refine gate_dst (N := 2) rfl ?_); refine box_event ?hg (N := 2) ?hd (cs := #[.int .i64 0, .int .i64 0, .int .i64 0, .int .i64 0, .slice none 0 0]) (t := 34) ?hr ?_; (case hd => rfl); (case hg => rfl); (case hr => first | (go_simp; done) | (go_simp; rfl)); intro gb264 hg w3 hbox hb; have n_ := az (bB BK263.out hb) <| az (below_step (mB HB.out) hb) <| az (hbox) <| az ((by rw [hg]; exact (below_size (mB HB.out)) : w.heap.size ≤ gb264)) <| az ((by rw [hg]; exact (below_size (mB HB.out)) : w.heap.size ≤ gb264)) <| az ((nL hg BK263.out)) <| z0 ((nG hg BK263.out)); clear BK263 HB; obtain ⟨BK263, HB, BK264, GW264, GE264, NB263_264, NB264_263⟩ := n_; clear hb hbox hg; have hnb4 := NB263_264.out; have hnc4 := NB264_263.out; obtain ⟨hcz5_0, hcz5_1, hcz5_2, hcz5_3, hcz5_4, hfz5_0, hfz5_1, hfz5_2, hfz5_3, hfz5_4⟩ := cel5 BK263.out) | ((with_reducible refine gate_dst (N := 3) rfl ?_); refine box_event ?hg (N := 3) ?hd (cs := #[.int .i64 0, .int .i64 0, .int .i64 0, .int .i64 0, .slice none 0 0]) (t := 34) ?hr ?_; (case hd => rfl); (case hg => rfl); (case hr => first | (go_simp; done) | (go_simp; rfl)); intro gb265 hg w6 hbox hb; have n_ := az (bB BK263.out hb) <| az (bB BK264.out hb) <| az (below_step (mB HB.out) hb) <| az (hbox) <| az ((by rw [hg]; exact (below_size (mB HB.out)) : w.heap.size ≤ gb265)) <| az ((by rw [hg]; exact (below_size (mB HB.out)) : w.heap.size ≤ gb265)) <| az ((nL hg BK263.out)) <| az ((nG hg BK263.out)) <| az ((nL hg BK264.out)) <| z0 ((nG hg BK264.out)); clear BK263 BK264 HB; obtain ⟨BK263, BK264, HB, BK265, GW265, GE265, NB263_265, NB265_263, NB264_265, NB265_264⟩ := n_; clear hb hbox hg; have hnb7 := NB265_263.out; have hnc7 := NB263_265.out; have hnb8 := NB265_264.out; have hnc8 := NB264_265.out; obtain ⟨hcz9_0, hcz9_1, hcz9_2, hcz9_3, hcz9_4, hfz9_0, hfz9_1, hfz9_2, hfz9_3, hfz9_4⟩ := cel5 BK265.out))
 go_loopg [4] k (fun kq v4 w' => ∃ (x4_1 : Int) (x266004_1 : List (S34)) (u266004 : Value), v4 = .int .i64 x4_1 ∧ Aside0 (spec_l3Copy.l0 kq x4_1 a0_0 a0_1 a0_2 a0_3 l0_4 a0_0 a0_1 a0_2 a0_3 x266004_1 = some (r1, r2, r3, r4, r5)) ∧ Aside0 (kq ≤ k) ∧ Aside0 (Kd.R k34 34 w' w.heap.size (fun k_ => k_ ≠ gb263 ∧ k_ ≠ gb264 ∧ k_ ≠ gb265) u266004 x266004_1) ∧ Aside0 (w'.heap[gb263]? = some (.cells #[.int .i64 a0_0, .int .i64 a0_1, .int .i64 a0_2, .int .i64 a0_3, (.slice A0_4 l0_4.length c0_4)] 34 (0, 0))) ∧ Aside0 (w'.heap[gb264]? = some (.cells #[.int .i64 0, .int .i64 0, .int .i64 0, .int .i64 0, (.slice none 0 0)] 34 (0, 0))) ∧ Aside0 (w'.heap[gb265]? = some (.cells #[.int .i64 a0_0, .int .i64 a0_1, .int .i64 a0_2, .int .i64 a0_3, u266004] 34 (0, 0))) ∧ Aside0 (Below w.heap.size w w'))
 case atStart => exact ⟨(0), (([] : List (S34))), (.slice none 0 0), rfy, H', ⟨Nat.le_refl _⟩, ⟨by first | exact Kd.R_nil _ _ _ _ _ | exact Kd.N_nil _ _ _ _ _ | exact Kd.V_nil _ _ _ _ _ | exact Kd.Q_nil _ _ _ _ _ | exact Kd.S_nil _ _ _ _ _⟩, ⟨mF BK263.out⟩, ⟨mF BK264.out⟩, ⟨by (with_reducible repeat (first | refine blk_drewN ?_ _ | refine blk_drew ?_ | refine blk_alloc ?_ _)); refine blk_put (cs := #[.int .i64 a0_0, .int .i64 a0_1, .int .i64 a0_2, .int .i64 a0_3, .slice none 0 0]) ?_ 4 _ rfl; (with_reducible repeat (first | refine blk_drewN ?_ _ | refine blk_drew ?_ | refine blk_alloc ?_ _)); refine blk_put (cs := #[.int .i64 a0_0, .int .i64 a0_1, .int .i64 a0_2, .int .i64 0, .slice none 0 0]) ?_ 3 _ rfl; (with_reducible repeat (first | refine blk_drewN ?_ _ | refine blk_drew ?_ | refine blk_alloc ?_ _)); refine blk_put (cs := #[.int .i64 a0_0, .int .i64 a0_1, .int .i64 0, .int .i64 0, .slice none 0 0]) ?_ 2 _ rfl; (with_reducible repeat (first | refine blk_drewN ?_ _ | refine blk_drew ?_ | refine blk_alloc ?_ _)); refine blk_put (cs := #[.int .i64 a0_0, .int .i64 0, .int .i64 0, .int .i64 0, .slice none 0 0]) ?_ 1 _ rfl; (with_reducible repeat (first | refine blk_drewN ?_ _ | refine blk_drew ?_ | refine blk_alloc ?_ _)); refine blk_put (cs := #[.int .i64 0, .int .i64 0, .int .i64 0, .int .i64 0, .slice none 0 0]) ?_ 0 _ rfl; (with_reducible repeat (first | refine blk_drewN ?_ _ | refine blk_drew ?_ | refine blk_alloc ?_ _)); exact BK265.out⟩, ⟨mB HB.out⟩⟩
 case round =>
  clear H'
  (try clear hcz5_0); (try clear hcz5_1); (try clear hcz5_2); (try clear hcz5_3); (try clear hcz5_4); (try clear hcz9_0); (try clear hcz9_1); (try clear hcz9_2); (try clear hcz9_3); (try clear hcz9_4); (try clear hfz5_0); (try clear hfz5_1); (try clear hfz5_2); (try clear hfz5_3); (try clear hfz5_4); (try clear hfz9_0); (try clear hfz9_1); (try clear hfz9_2); (try clear hfz9_3); (try clear hfz9_4)
  obtain ⟨x4_1, x266004_1, u266004, rfl, HA, HK1, HO_266004, BK263, BK264, BK265, HB⟩ := hrel
  cases gk with
  | zero => exact absurd HA.out (by simp [spec_l3Copy.l0])
  | succ k1 =>
   have H := HA.out
   clear HA
   simp only [spec_l3Copy.l0] at H
   by_cases c10 : x4_1 < (l0_4.length : Int)
   ·rw [if_pos c10] at H
    have c10b0 : decide (x4_1 < (l0_4.length : Int)) = true := decide_eq_true c10
    clear c10
    by_cases c11 : 0 ≤ x4_1
    ·rw [if_pos c11] at H
     have c11b0 : decide (0 ≤ x4_1) = true := decide_eq_true c11
     clear c11
     replace H := Option.bind_eq_some_iff.mp H
     obtain ⟨⟨t267, t268, t269, t270, t271⟩, A120, H⟩ := H
     try dsimp only at H
     have A12 := z0 A120
     clear A120
     by_cases c13 : x266004_1.length < 2513169434916
     ·rw [if_pos c13] at H
      have LMc13 := z0 c13
      clear c13
      obtain ⟨y274, hy274⟩ : ∃ y_ : List (S34), y_ = (x266004_1 ++ [(⟨t267, t268, (⟨t269, t270⟩ : S31), t271⟩ : S34)]) := ⟨_, rfl⟩
      replace H : (spec_l3Copy.l0 k1 (wrap64 (x4_1 + 1)) a0_0 a0_1 a0_2 a0_3 l0_4 a0_0 a0_1 a0_2 a0_3 y274) = some (r1, r2, r3, r4, r5) := by first | (rw [hy274]; with_reducible exact H) | (have H2_ := (Option.bind_some _ _).symm.trans H; rw [hy274]; with_reducible exact H2_) | (have H2_ := (Option.bind_some _ _).symm.trans H; with_reducible exact H2_) | with_reducible exact H | (rw [hy274]; exact H) | exact H
      have Ny274 := z0 hy274
      clear hy274
      have H' := z0 H
      clear H
      have hnb14 := NB263_264.out
      have hnc14 := NB264_263.out
      have hnb15 := NB263_265.out
      have hnc15 := NB265_263.out
      obtain ⟨hcz16_0, hcz16_1, hcz16_2, hcz16_3, hcz16_4, hfz16_0, hfz16_1, hfz16_2, hfz16_3, hfz16_4⟩ := cel5 BK263.out
      try go_wp2
      have n_ := az (Kd.R_drew HO_266004.out) <| az (blk_drew BK263.out) <| az (blk_drew BK264.out) <| az (blk_drew BK265.out) <| z0 (below_drew1 HB.out)
      clear HO_266004 BK263 BK264 BK265 HB
      obtain ⟨HO_266004, BK263, BK264, BK265, HB⟩ := n_
      have p266 : 0 ≤ (x4_1 : Int) := of_decide_eq_true (by first | (with_reducible assumption) | assumption)
      have q266 : x4_1 < (l0_4.length : Int) := of_decide_eq_true (by first | (with_reducible assumption) | assumption)
      obtain ⟨ad266, A266_4, c266_4, e266, hx266_0, hx266_1, hx266_2, hx266_3, hx266_4, hl266_4, hi266_4⟩ := at_T34 HR0_4.out x4_1 p266 q266
      have hw266_4 := hx266_4
      have hw266_3 := hx266_3
      have hw266_2 := hx266_2
      have hw266_1 := hx266_1
      have hw266_0 := hx266_0
      cases e266
      replace hx266_0 := (HB.out.cell (World.block_lt_of_cell? w _ hx266_0)).trans hx266_0
      replace hx266_1 := (HB.out.cell (World.block_lt_of_cell? w _ hx266_1)).trans hx266_1
      replace hx266_2 := (HB.out.cell (World.block_lt_of_cell? w _ hx266_2)).trans hx266_2
      replace hx266_3 := (HB.out.cell (World.block_lt_of_cell? w _ hx266_3)).trans hx266_3
      replace hx266_4 := (HB.out.cell (World.block_lt_of_cell? w _ hx266_4)).trans hx266_4
      have HR266_4 := z0 hi266_4
      have HC266_4 := z0 hl266_4
      clear hi266_4 hl266_4
      replace p266 := eq_true p266
      replace q266 := eq_true q266
      refine start_ (n := 12) (S := fun w' => w'.cell? ⟨gb265, 0, none⟩ = some (.int .i64 a0_0) ∧ w'.cell? ⟨gb265, 1, none⟩ = some (.int .i64 a0_1) ∧ w'.cell? ⟨gb265, 2, none⟩ = some (.int .i64 a0_2) ∧ w'.cell? ⟨gb265, 3, none⟩ = some (.int .i64 a0_3) ∧ w'.cell? ⟨gb265, 4, none⟩ = some (u266004) ∧ w'.cell? ⟨gb263, 0, none⟩ = some (.int .i64 a0_0) ∧ w'.cell? ⟨gb263, 1, none⟩ = some (.int .i64 a0_1) ∧ w'.cell? ⟨gb263, 2, none⟩ = some (.int .i64 a0_2) ∧ w'.cell? ⟨gb263, 3, none⟩ = some (.int .i64 a0_3) ∧ w'.cell? ⟨gb263, 4, none⟩ = some (.slice (some ad266) l0_4.length c0_4) ∧ w'.cell? (ad266.add ((x4_1).toNat * 5)) = some (.int .i64 ((rd_T34 l0_4 x4_1).f0)) ∧ w'.cell? ⟨(ad266.add ((x4_1).toNat * 5)).block, (ad266.add ((x4_1).toNat * 5)).off + 1, none⟩ = some (.int .i64 ((rd_T34 l0_4 x4_1).f1)) ∧ w'.cell? ⟨(ad266.add ((x4_1).toNat * 5)).block, (ad266.add ((x4_1).toNat * 5)).off + 2, none⟩ = some (.int .i64 ((rd_T34 l0_4 x4_1).f2.f0)) ∧ w'.cell? ⟨(ad266.add ((x4_1).toNat * 5)).block, (ad266.add ((x4_1).toNat * 5)).off + 3, none⟩ = some (.int .i64 ((rd_T34 l0_4 x4_1).f2.f1)) ∧ w'.cell? ⟨(ad266.add ((x4_1).toNat * 5)).block, (ad266.add ((x4_1).toNat * 5)).off + 4, none⟩ = some (.slice A266_4 ((rd_T34 l0_4 x4_1).f3).length c266_4)) (ds := [11]) #[false, false, false, false, false, false, false, false, false, false, false, false] (by kernel_rfl) rfl rfl q45_1 (fun hHeld => ?_); refine with_tabW spec_l3Copy.tab5 spec_l3Copy.bits5 (fun HT_ HW_ => ?_)
      generalize wr.drew = w17 at HO_266004 BK263 BK264 BK265 HB HR266_4 hx266_0 hx266_1 hx266_2 hx266_3 hx266_4 hHeld ⊢
      refine pure_ (i := 0) (N := some 19) (v := ?_) (a' := ?_) #[true, false, false, false, false, false, false, false, false, false, false, false] rfl rfl (any_of HT_.out (by kernel_rfl)) (fun _ _ _ h => h) (Or.inl ⟨by rfl, ?_⟩) ?_ ?_
      rotate_left
      ·intro w'
       go_simp
       with_reducible rfl
      rotate_left
      ·simp only [Act.put, List.setIfInBounds_toArray, List.set_cons_zero, List.set_cons_succ, i64_w, i32_w]
       rfl
      refine pure_ (i := 2) (N := some 21) (v := ?_) (a' := ?_) #[true, false, true, false, false, false, false, false, false, false, false, false] rfl rfl (any_of HT_.out (by kernel_rfl)) (fun _ _ _ h => h) (Or.inl ⟨by rfl, ?_⟩) ?_ ?_
      rotate_left
      ·intro w'
       go_simp
       with_reducible rfl
      rotate_left
      ·simp only [Act.put, List.setIfInBounds_toArray, List.set_cons_zero, List.set_cons_succ, i64_w, i32_w]
       rfl
      refine pure_ (i := 4) (N := some 23) (v := ?_) (a' := ?_) #[true, false, true, false, true, false, false, false, false, false, false, false] rfl rfl (any_of HT_.out (by kernel_rfl)) (fun _ _ _ h => h) (Or.inl ⟨by rfl, ?_⟩) ?_ ?_
      rotate_left
      ·intro w'
       go_simp
       with_reducible rfl
      rotate_left
      ·simp only [Act.put, List.setIfInBounds_toArray, List.set_cons_zero, List.set_cons_succ, i64_w, i32_w]
       rfl
      refine take_ (i := 1) (N := some 20) (v := ?_) (a' := ?_) #[true, true, true, false, true, false, false, false, false, false, false, false] rfl rfl (take_ofW HT_.out HW_.out (by kernel_rfl)) (fun _ _ _ h => h) (Or.inl ⟨by rfl, ?_⟩) hHeld ?_ ?_
      rotate_left
      ·rintro w' ⟨s0, s1, s2, s3, s4, s5, s6, s7, s8, s9, s10, s11, s12, s13, s14⟩
       go_simp
       with_reducible rfl
      rotate_left
      ·simp only [Act.put, List.setIfInBounds_toArray, List.set_cons_zero, List.set_cons_succ, i64_w, i32_w]
       rfl
      refine take_ (i := 3) (N := some 22) (v := ?_) (a' := ?_) #[true, true, true, true, true, false, false, false, false, false, false, false] rfl rfl (take_ofW HT_.out HW_.out (by kernel_rfl)) (fun _ _ _ h => h) (Or.inl ⟨by rfl, ?_⟩) hHeld ?_ ?_
      rotate_left
      ·rintro w' ⟨s0, s1, s2, s3, s4, s5, s6, s7, s8, s9, s10, s11, s12, s13, s14⟩
       go_simp
       with_reducible rfl
      rotate_left
      ·simp only [Act.put, List.setIfInBounds_toArray, List.set_cons_zero, List.set_cons_succ, i64_w, i32_w]
       rfl
      refine pure_ (i := 5) (N := some 24) (v := ?_) (a' := ?_) #[true, true, true, true, true, true, false, false, false, false, false, false] rfl rfl (any_of HT_.out (by kernel_rfl)) (fun _ _ _ h => h) (Or.inl ⟨by rfl, ?_⟩) ?_ ?_
      rotate_left
      ·intro w'
       go_simp
       with_reducible rfl
      rotate_left
      ·simp only [Act.put, List.setIfInBounds_toArray, List.set_cons_zero, List.set_cons_succ, i64_w, i32_w]
       rfl
      refine take_ (i := 6) (N := some 25) (v := ?_) (a' := ?_) #[true, true, true, true, true, true, true, false, false, false, false, false] rfl rfl (take_ofW HT_.out HW_.out (by kernel_rfl)) (fun _ _ _ h => h) (Or.inl ⟨by rfl, ?_⟩) hHeld ?_ ?_
      rotate_left
      ·rintro w' ⟨s0, s1, s2, s3, s4, s5, s6, s7, s8, s9, s10, s11, s12, s13, s14⟩
       go_simp
       with_reducible rfl
      rotate_left
      ·simp only [Act.put, List.setIfInBounds_toArray, List.set_cons_zero, List.set_cons_succ, i64_w, i32_w]
       rfl
      refine one_ (i := 7) (N := some 26) #[true, true, true, true, true, true, true, true, false, false, false, false] rfl rfl (one_of HT_.out (by kernel_rfl)) (by decide) (fun K hK => ?_)
      refine goes_ Tryd.func45 (by kernel_rfl) rfl #[.agg #[.int .i64 ((rd_T34 l0_4 x4_1).f0), .int .i64 ((rd_T34 l0_4 x4_1).f1), .int .i64 ((rd_T34 l0_4 x4_1).f2.f0), .int .i64 ((rd_T34 l0_4 x4_1).f2.f1), .slice A266_4 ((rd_T34 l0_4 x4_1).f3).length c266_4]] (by rfl) rfl rfl argx ?_
      with_reducible refine (ih k1 (by have := HK1.out; omega) ((rd_T34 l0_4 x4_1).f0) ((rd_T34 l0_4 x4_1).f1) ((rd_T34 l0_4 x4_1).f2.f0) ((rd_T34 l0_4 x4_1).f2.f1) _ _ ((rd_T34 l0_4 x4_1).f3) t267 t268 t269 t270 t271 _ ?side1 ?side2 A12.out).mono ?_
      (case side1 => exact mC (Kd.C_below HR266_4.out HB.out))
      (case side2 => exact HC266_4.out)
      rintro e w18 ⟨v272, rfl, ho0, hb⟩
      refine ⟨_, rfl, ?_⟩
      have n_ := az (Kd.R_elder' (mR HO_266004.out) (by first | exact Kd.R_base ho0 | exact Kd.R_base ho0) hb) <| And.intro (z0 (Kd.R_lower (Kd.R_newB (Kd.R_newB (Kd.R_newB (Kd.R_new' ho0 (Kd.R_lt (mR HO_266004.out))) (g := gb263) (o := .cells #[.int .i64 a0_0, .int .i64 a0_1, .int .i64 a0_2, .int .i64 a0_3, .slice (some ad266) l0_4.length c0_4] 34 (0, 0)) (mK BK263.out)) (g := gb264) (o := .cells #[.int .i64 0, .int .i64 0, .int .i64 0, .int .i64 0, .slice none 0 0] 34 (0, 0)) (mK BK264.out)) (g := gb265) (o := .cells #[.int .i64 a0_0, .int .i64 a0_1, .int .i64 a0_2, .int .i64 a0_3, u266004] 34 (0, 0)) (mK BK265.out)) (below_size (mB HB.out)))) <| az (bB BK263.out hb) <| az (bB BK264.out hb) <| az (bB BK265.out hb) <| z0 (below_step (mB HB.out) hb)
      clear HO_266004 BK263 BK264 BK265 HB
      obtain ⟨HO_266004, HO273, BK263, BK264, BK265, HB⟩ := n_
      (try clear hb)
      (try clear hb2)
      (try clear hk)
      (try clear hi)
      (try clear ho0)
      obtain ⟨Ao20, co20, eo20⟩ := Kd.R_slice HO273.out
      (first | subst eo20 | (injection eo20 with f1_ f2_ f3_; have f4_ := f1_.symm; have f5_ := f3_.symm; clear f1_ f2_ f3_; subst f4_; subst f5_))
      refine hK.out _ _ q45_1 (fun hHeld => ?_)
      clear hK K
      refine norm_ (a' := ?_) ?_ ?_
      rotate_left
      ·show Act.put _ (some 26) _ = _
       simp only [Act.put, List.setIfInBounds_toArray, List.set_cons_zero, List.set_cons_succ, i64_w, i32_w]
       rfl
      refine one_ (i := 8) (N := some 27) #[true, true, true, true, true, true, true, true, true, false, false, false] rfl rfl (one_of HT_.out (by kernel_rfl)) (by decide) (fun K hK => ?_)
      refine value_ (w1 := ?_) (v := ?_) (by rfl) rfl ?_ ?_
      rotate_left 2
      ·go_simp
       constructor
       ·rfl
       ·rfl
      refine hK.out _ _ ⟨(blk_cell (blk_alloc BK265.out _) 0).trans rfl, (blk_cell (blk_alloc BK265.out _) 1).trans rfl, (blk_cell (blk_alloc BK265.out _) 2).trans rfl, (blk_cell (blk_alloc BK265.out _) 3).trans rfl, (blk_cell (blk_alloc BK265.out _) 4).trans rfl, (blk_cell (blk_alloc BK263.out _) 0).trans rfl, (blk_cell (blk_alloc BK263.out _) 1).trans rfl, (blk_cell (blk_alloc BK263.out _) 2).trans rfl, (blk_cell (blk_alloc BK263.out _) 3).trans rfl, (blk_cell (blk_alloc BK263.out _) 4).trans rfl, (World.cell?_alloc_lt _ _ _ (World.block_lt_of_cell? _ _ (((HB.out.cell (World.block_lt_of_cell? w _ hw266_0)).trans hw266_0)))).trans (((HB.out.cell (World.block_lt_of_cell? w _ hw266_0)).trans hw266_0)), (World.cell?_alloc_lt _ _ _ (World.block_lt_of_cell? _ _ (((HB.out.cell (World.block_lt_of_cell? w _ hw266_1)).trans hw266_1)))).trans (((HB.out.cell (World.block_lt_of_cell? w _ hw266_1)).trans hw266_1)), (World.cell?_alloc_lt _ _ _ (World.block_lt_of_cell? _ _ (((HB.out.cell (World.block_lt_of_cell? w _ hw266_2)).trans hw266_2)))).trans (((HB.out.cell (World.block_lt_of_cell? w _ hw266_2)).trans hw266_2)), (World.cell?_alloc_lt _ _ _ (World.block_lt_of_cell? _ _ (((HB.out.cell (World.block_lt_of_cell? w _ hw266_3)).trans hw266_3)))).trans (((HB.out.cell (World.block_lt_of_cell? w _ hw266_3)).trans hw266_3)), (World.cell?_alloc_lt _ _ _ (World.block_lt_of_cell? _ _ (((HB.out.cell (World.block_lt_of_cell? w _ hw266_4)).trans hw266_4)))).trans (((HB.out.cell (World.block_lt_of_cell? w _ hw266_4)).trans hw266_4))⟩ (fun hHeld => ?_)
      clear hK K
      refine norm_ (a' := ?_) ?_ ?_
      rotate_left
      ·show Act.put _ (some 27) _ = _
       simp only [Act.put, List.setIfInBounds_toArray, List.set_cons_zero, List.set_cons_succ, i64_w, i32_w]
       rfl
      refine one_ (i := 9) (N := some 28) #[true, true, true, true, true, true, true, true, true, true, false, false] rfl rfl (one_of HT_.out (by kernel_rfl)) (by decide) (fun K hK => ?_)
      refine Kd.R_append_step k34 (w0 := w) w.heap.size (by rfl) (.tmp 20) (.tmp 27) 32 34 (.agg #[(.int .i64 0), (.int .i64 0), (.int .i64 0), (.int .i64 0), (.slice none 0 0)]) 56 rfl Tryd.underlying32 info34 rfl (by decide) (by omega) u266004 x266004_1 (⟨t267, t268, (⟨t269, t270⟩ : S31), t271⟩ : S34) [.int .i64 t267, .int .i64 t268, .int .i64 t269, .int .i64 t270, .slice Ao20 t271.length co20] (fun k_ => k_ ≠ gb263 ∧ k_ ≠ gb264 ∧ k_ ≠ gb265) (fun k_ => ((fun k_ => k_ ≠ gb263 ∧ k_ ≠ gb264 ∧ k_ ≠ gb265)) k_ ∧ nB k_ u266004) rfl rfl ?aP (fun _ hk => hk) ?aF ?aO ?aB ?aS ?aL ?_
      (case aP => exact k34_mkM _ _ _ (⟨t267, t268, (⟨t269, t270⟩ : S31), t271⟩ : S34) (Kd.R_mono (HO273.out) (fun k_ hk => ⟨⟨hk.1.1.2, ⟨hk.1.2, hk.2⟩⟩, hk.1.1.1.2⟩)))
      (case aB => exact (mB HB.out))
      (case aF => exact (fun k_ hk => ⟨fB BK263.out hk, fB BK264.out hk, fB BK265.out hk⟩))
      (case aO => exact (by (with_reducible repeat (first | apply Kd.R_alloc | apply Kd.R_drewN | apply Kd.R_drew)); exact Kd.R_mono HO_266004.out (fun _ hk => ⟨hk.1.1, ⟨hk.1.2.1, hk.1.2.2⟩⟩)))
      (case aS => exact (below_size (mB HB.out)))
      (case aL => have := LMc13.out; omega)
      intro v275 w19 ho hb hg hat
      rw [← Ny274.out] at ho
      have n_ := az (blk_grown (g := gb263) (o := .cells #[.int .i64 a0_0, .int .i64 a0_1, .int .i64 a0_2, .int .i64 a0_3, .slice (some ad266) l0_4.length c0_4] 34 (0, 0)) (mK BK263.out) hg (Kd.R_away HO_266004.out (fun _ hk => hk.1.1))) <| az (blk_grown (g := gb264) (o := .cells #[.int .i64 0, .int .i64 0, .int .i64 0, .int .i64 0, .slice none 0 0] 34 (0, 0)) (mK BK264.out) hg (Kd.R_away HO_266004.out (fun _ hk => hk.1.2.1))) <| az (blk_grown (g := gb265) (o := .cells #[.int .i64 a0_0, .int .i64 a0_1, .int .i64 a0_2, .int .i64 a0_3, u266004] 34 (0, 0)) (mK BK265.out) hg (Kd.R_away HO_266004.out (fun _ hk => hk.1.2.2))) <| az (hb) <| z0 (ho)
      clear BK263 BK264 BK265 HB HO_266004 HO273
      obtain ⟨BK263, BK264, BK265, HB, HO276⟩ := n_
      clear ho hb hg hat
      obtain ⟨Ao21, co21, eo21⟩ := Kd.R_slice HO276.out
      (first | subst eo21 | (injection eo21 with f1_ f2_ f3_; have f4_ := f1_.symm; have f5_ := f3_.symm; clear f1_ f2_ f3_; subst f4_; subst f5_))
      refine hK.out _ _ q45_1 (fun hHeld => ?_)
      clear hK K
      refine norm_ (a' := ?_) ?_ ?_
      rotate_left
      ·show Act.put _ (some 28) _ = _
       simp only [Act.put, List.setIfInBounds_toArray, List.set_cons_zero, List.set_cons_succ, i64_w, i32_w]
       rfl
      refine pure_ (i := 10) (N := some 29) (v := ?_) (a' := ?_) #[true, true, true, true, true, true, true, true, true, true, true, false] rfl rfl (any_of HT_.out (by kernel_rfl)) (fun _ _ _ h => h) (Or.inl ⟨by rfl, ?_⟩) ?_ ?_
      rotate_left
      ·intro w'
       go_simp
       with_reducible rfl
      rotate_left
      ·simp only [Act.put, List.setIfInBounds_toArray, List.set_cons_zero, List.set_cons_succ, i64_w, i32_w]
       rfl
      refine last_ (i := 11) (N := none) #[true, true, true, true, true, true, true, true, true, true, true, true] rfl rfl (one_of HT_.out (by kernel_rfl)) (by decide) (fun K hK => ?_)
      have hs22 : w19.cell? ⟨gb265, 4, none⟩ = some (u266004) := (blk_cell BK265.out 4).trans rfl
      have hfs22 := blk_frozen BK265.out 4
      have hns22_0 := NB263_265.out
      have hns22_1 := NB264_265.out
      have hms22_0 := NB265_263.out
      have hms22_1 := NB265_264.out
      refine skip_ (w1 := ?_) (by rfl) rfl ?_ ?_
      rotate_left
      ·go_simp
       rfl
      refine hK.out _ _ ?_
      clear hK K
      refine done_ (done_of HT_.out (by kernel_rfl)) ?_
      try go_wp2
      go_roundg k1
      case measure => have := HK1.out; omega
      case rel => exact ⟨(wrap64 (x4_1 + 1)), (y274), (.slice Ao21 y274.length co21), rfy, H', ⟨by have := HK1.out; omega⟩, ⟨by (with_reducible repeat (first | apply Kd.R_alloc | apply Kd.R_drewN | apply Kd.R_drew)); exact Kd.R_mono (Kd.R_far (p := ⟨gb265, 4, none⟩) (Kd.R_mono HO276.out (fun k_ hk => (⟨hk, hk.2.2⟩ : _ ∧ k_ ≠ gb265))) (fun _ hk => hk.2) (.slice Ao21 y274.length co21)) (fun _ hk => ⟨hk.1.1, ⟨hk.1.2.1, hk.1.2.2⟩⟩)⟩, ⟨mF BK263.out⟩, ⟨mF BK264.out⟩, ⟨by (with_reducible repeat (first | refine blk_drewN ?_ _ | refine blk_drew ?_ | refine blk_alloc ?_ _)); refine blk_put (cs := #[.int .i64 a0_0, .int .i64 a0_1, .int .i64 a0_2, .int .i64 a0_3, u266004]) ?_ 4 _ rfl; (with_reducible repeat (first | refine blk_drewN ?_ _ | refine blk_drew ?_ | refine blk_alloc ?_ _)); exact BK265.out⟩, ⟨mB HB.out⟩⟩
     ·rw [if_neg c13] at H
      exact absurd H (by simp)
    ·rw [if_neg c11] at H
     exact absurd H (by simp)
   ·rw [if_neg c10] at H
    have c10b0 : decide (x4_1 < (l0_4.length : Int)) = false := decide_eq_false c10
    clear c10
    simp only [Option.some.injEq, Prod.mk.injEq] at H
    obtain ⟨rfl, rfl, rfl, rfl, rfl⟩ := H
    have hnb23 := NB263_264.out
    have hnc23 := NB264_263.out
    have hnb24 := NB263_265.out
    have hnc24 := NB265_263.out
    obtain ⟨hcz25_0, hcz25_1, hcz25_2, hcz25_3, hcz25_4, hfz25_0, hfz25_1, hfz25_2, hfz25_3, hfz25_4⟩ := cel5 BK263.out
    have hnb26 := NB265_264.out
    have hnc26 := NB264_265.out
    obtain ⟨hcz27_0, hcz27_1, hcz27_2, hcz27_3, hcz27_4, hfz27_0, hfz27_1, hfz27_2, hfz27_3, hfz27_4⟩ := cel5 BK265.out
    obtain ⟨hcz28_0, hcz28_1, hcz28_2, hcz28_3, hcz28_4, hfz28_0, hfz28_1, hfz28_2, hfz28_3, hfz28_4⟩ := cel5 BK264.out
    obtain ⟨Ao29, co29, eo29⟩ := Kd.R_slice HO_266004.out
    subst eo29
    go_wp2
    refine bodyPost_ret (results_cell_row rfl _ _ gb264 34 #[.int .i64 a0_0, .int .i64 a0_1, .int .i64 a0_2, .int .i64 a0_3, .slice Ao29 x266004_1.length co29] (0, 0) _ rfl (pF BK264.out) Tryd.underlying34 rfl (by kernel_rfl)) rfl ?_
    exact ⟨_, rfx, by (with_reducible repeat (first | apply Kd.R_alloc | apply Kd.R_drewN | apply Kd.R_drew)); exact Kd.R_mono (Kd.R_far (p := ⟨gb264, 4, none⟩) (Kd.R_far (p := ⟨gb264, 3, none⟩) (Kd.R_far (p := ⟨gb264, 2, none⟩) (Kd.R_far (p := ⟨gb264, 1, none⟩) (Kd.R_far (p := ⟨gb264, 0, none⟩) (Kd.R_mono HO_266004.out (fun k_ hk => (⟨hk, hk.2.1⟩ : _ ∧ k_ ≠ gb264))) (fun _ hk => hk.2) (.int .i64 a0_0)) (fun _ hk => hk.2) (.int .i64 a0_1)) (fun _ hk => hk.2) (.int .i64 a0_2)) (fun _ hk => hk.2) (.int .i64 a0_3)) (fun _ hk => hk.2) (.slice Ao29 x266004_1.length co29)) (fun _ hk => trivial), mB HB.out⟩

/-! ### spec_l2AddrBent: function 26 -/
def spec_l2AddrBent.f (k : Nat) (s0_0 : List Int) (s0_1 : Int) : Option (Int × Int × Int) := (spec_l2Addr.f k s0_0 s0_1).bind fun bt211 => ((spec_l12Rd_pick.f k s0_0 bt211.2.2 16).bind fun bt215 => (if bt215.1 = 0 then ((spec_l12Rd_num.f k s0_0 bt215.2 (([0, 4, (-1)] : List Int))).bind fun bt220 => (some (bt220.1, bt211.2.1, bt220.2))) else (if bt215.1 = 1 then ((spec_l12Rd_num.f k s0_0 bt215.2 (([(-1), 6, 5] : List Int))).bind fun bt225 => (some (bt211.1, bt225.1, bt225.2))) else (some (bt211.1, bt211.2.1, bt215.2)))))
set_option maxHeartbeats 8000000 in
set_option maxRecDepth 100000 in
theorem spec_l2AddrBent.calls (k : Nat) (g : Nat) (s0_0 : List Int) (s0_1 : Int) (r1 : Int) (r2 : Int) (r3 : Int) (w0 w : World) (hI : IsS64 w0 w g s0_0 s0_1) (hB : Below w0.heap.size w0 w) (h : spec_l2AddrBent.f k s0_0 s0_1 = some (r1, r2, r3)) :
  Calls Tryd.prog 26 #[.pointer (some ⟨g, 0, none⟩)] w fun e w' => e = .returned (.agg #[.int .i64 r1, .int .i64 r2]) ∧ IsS64 w0 w' g s0_0 r3 ∧ Below w0.heap.size w0 w' ∧ KeepBut w w' g none := by
 have hu31 := Tryd.underlying31
 have HI0 := z0 hI
 have HK := z0 (KeepBut.refl w g none)
 have HL := z0 hB.size
 clear hI
 have HW0 := z0 hB.size
 have HB := z0 hB
 clear hB
 have H : ((spec_l2Addr.f k s0_0 s0_1).bind fun bt211 => ((spec_l12Rd_pick.f k s0_0 bt211.2.2 16).bind fun bt215 => (if bt215.1 = 0 then ((spec_l12Rd_num.f k s0_0 bt215.2 (([0, 4, (-1)] : List Int))).bind fun bt220 => (some (bt220.1, bt211.2.1, bt220.2))) else (if bt215.1 = 1 then ((spec_l12Rd_num.f k s0_0 bt215.2 (([(-1), 6, 5] : List Int))).bind fun bt225 => (some (bt211.1, bt225.1, bt225.2))) else (some (bt211.1, bt211.2.1, bt215.2)))))) = some (r1, r2, r3) := h
 clear h
 replace H := Option.bind_eq_some_iff.mp H
 obtain ⟨⟨t211, t212, t213⟩, A20, H⟩ := H
 try dsimp only at H
 have A2 := z0 A20
 clear A20
 replace H := Option.bind_eq_some_iff.mp H
 obtain ⟨⟨t215, t216⟩, A30, H⟩ := H
 try dsimp only at H
 have A3 := z0 A30
 clear A30
 have HF4 := z0 H
 clear H
 go_enter Tryd.func26, Tryd.ntmps26
 go_upto_if 8 with (first | ((with_reducible refine gate_dst (N := 2) rfl ?_); refine box_event ?hg (N := 2) ?hd (cs := #[.int .i64 0, .int .i64 0]) (t := 31) ?hr ?_; (case hd => rfl); (case hg => rfl); (case hr => first | (go_simp; done) | (go_simp; rfl)); intro gb210 hg w5 hbox hb; have n_ := az (IsS64.below (mI64_1 HI0.out) hb) <| az (KeepBut.trans (mKp HK.out) (KeepBut.of_below hb g none) (.inl rfl)) <| az (below_step (mB64HI0 HB.out) hb) <| az (hbox) <| az ((gW hg HK.out)) <| az ((Nat.le_trans HW0.out (gW hg HK.out) : w0.heap.size ≤ gb210)) <| az ((by rw [hg]; exact Nat.ne_of_lt (IsS64.lt (show IsS64 w0 _ g s0_0 s0_1 from mI64_1 HI0.out)) : g ≠ gb210)) <| z0 ((by rw [hg]; exact Nat.ne_of_gt (IsS64.lt (show IsS64 w0 _ g s0_0 s0_1 from mI64_1 HI0.out)) : gb210 ≠ g)); clear HI0 HK HB; obtain ⟨HI0, HK, HB, BK210, GW210, GE210, NB0_210, NB210_0⟩ := n_; clear hb hbox hg) | ((with_reducible refine gate_callee (f := 42) rfl ?_); refine goesL_ (some 5) rfl rfl Tryd.func42 (by kernel_rfl) rfl #[.pointer (some ⟨g, 0, none⟩)] rfl argx ?_; (with_reducible refine (spec_l2Addr.calls k g s0_0 s0_1 t211 t212 t213 w0 _ ?side1 ?side2 A2.out).mono ?_); (case side1 => exact mI64_1 HI0.out); (case side2 => exact mB64HI0 HB.out); rintro e w6 ⟨rfl, hi, hb, hk⟩; refine ⟨_, rfl, ?_⟩; have n_ := az (kB hk BK210.out NB210_0.out) <| az (KeepBut.trans (mKp HK.out) hk (.inl rfl)) <| az (hb) <| z0 (hi); clear BK210 HK HB HI0; obtain ⟨BK210, HK, HB, HI0⟩ := n_; clear hb hk hi) | ((with_reducible refine gate_dst (N := 3) rfl ?_); refine box_event ?hg (N := 3) ?hd (cs := #[.int .i64 0, .int .i64 0]) (t := 31) ?hr ?_; (case hd => rfl); (case hg => rfl); (case hr => first | (go_simp; done) | (go_simp; rfl)); intro gb214 hg w7 hbox hb; have n_ := az (IsS64.below (mI64_1 HI0.out) hb) <| az (bB BK210.out hb) <| az (KeepBut.trans (mKp HK.out) (KeepBut.of_below hb g none) (.inl rfl)) <| az (below_step (mB64HI0 HB.out) hb) <| az (hbox) <| az ((gW hg HK.out)) <| az ((Nat.le_trans HW0.out (gW hg HK.out) : w0.heap.size ≤ gb214)) <| az ((nL hg BK210.out)) <| az ((nG hg BK210.out)) <| az ((by rw [hg]; exact Nat.ne_of_lt (IsS64.lt (show IsS64 w0 _ g s0_0 t213 from mI64_1 HI0.out)) : g ≠ gb214)) <| z0 ((by rw [hg]; exact Nat.ne_of_gt (IsS64.lt (show IsS64 w0 _ g s0_0 t213 from mI64_1 HI0.out)) : gb214 ≠ g)); clear HI0 BK210 HK HB; obtain ⟨HI0, BK210, HK, HB, BK214, GW214, GE214, NB210_214, NB214_210, NB0_214, NB214_0⟩ := n_; clear hb hbox hg; have hnb8 := NB214_210.out; have hnc8 := NB210_214.out; have hnb9 := NB214_0.out; have hnc9 := NB0_214.out; obtain ⟨hcz10_0, hcz10_1, hfz10_0, hfz10_1⟩ := cel2 BK214.out) | ((with_reducible refine gate_callee (f := 23) rfl ?_); refine goesL_ (some 7) rfl rfl Tryd.func23 (by kernel_rfl) rfl #[.pointer (some ⟨g, 0, none⟩), .int .i64 16] rfl argx ?_; (with_reducible refine (spec_l12Rd_pick.calls k g s0_0 t213 16 t215 t216 w0 _ ?side1 ?side2 A3.out).mono ?_); (case side1 => exact mI64_1 HI0.out); (case side2 => exact mB64HI0 HB.out); rintro e w11 ⟨rfl, hi, hb, hk⟩; refine ⟨_, rfl, ?_⟩; have n_ := az (KeepBut.blk hk (g' := gb210) (o := .cells #[.int .i64 0, .int .i64 0] 31 (0, 0)) (mF BK210.out) NB210_0.out (by simp)) <| az (KeepBut.blk hk (g' := gb214) (o := .cells #[.int .i64 t211, .int .i64 t212] 31 (0, 0)) (by (with_reducible repeat (first | refine blk_drewN ?_ _ | refine blk_drew ?_ | refine blk_alloc ?_ _)); refine blk_put (cs := #[.int .i64 t211, .int .i64 0]) ?_ 1 _ rfl; (with_reducible repeat (first | refine blk_drewN ?_ _ | refine blk_drew ?_ | refine blk_alloc ?_ _)); refine blk_put (cs := #[.int .i64 0, .int .i64 0]) ?_ 0 _ rfl; (with_reducible repeat (first | refine blk_drewN ?_ _ | refine blk_drew ?_ | refine blk_alloc ?_ _)); exact BK214.out) NB214_0.out (by simp)) <| az (KeepBut.trans (mKp HK.out) hk (.inl rfl)) <| az (hb) <| z0 (hi); clear BK210 BK214 HK HB HI0; obtain ⟨BK210, BK214, HK, HB, HI0⟩ := n_; clear hb hk hi))
 (try simp only [Act.put, List.setIfInBounds_toArray, List.set_cons_zero, List.set_cons_succ])
 have H := HF4.out
 clear HF4
 (try clear hcz10_0); (try clear hcz10_1); (try clear hfz10_0); (try clear hfz10_1)
 by_cases c12 : t215 = 0
 ·rw [if_pos c12] at H
  have c12b0 : (t215 == 0) = true := beq_iff_eq.mpr c12
  have c12b1 : (t215 != 0) = false := bne_eq_false_iff_eq.mpr c12
  clear c12
  (first | rw [c12b0] | (simp only [i64_w, i32_w]; rw [c12b0]) | skip)
  obtain ⟨y217, hy217⟩ : ∃ y_ : List Int, y_ = (([0, 4, (-1)] : List Int)) := ⟨_, rfl⟩
  replace H : ((spec_l12Rd_num.f k s0_0 t216 y217).bind fun bt220 => (some (bt220.1, t212, bt220.2))) = some (r1, r2, r3) := by first | (rw [hy217]; with_reducible exact H) | (have H2_ := (Option.bind_some _ _).symm.trans H; rw [hy217]; with_reducible exact H2_) | (have H2_ := (Option.bind_some _ _).symm.trans H; with_reducible exact H2_) | with_reducible exact H | (rw [hy217]; exact H) | exact H
  have Ny217 := z0 hy217
  clear hy217
  replace H := Option.bind_eq_some_iff.mp H
  obtain ⟨⟨t220, t221⟩, A130, H⟩ := H
  try dsimp only at H
  have A13 := z0 A130
  clear A130
  simp only [Option.some.injEq, Prod.mk.injEq] at H
  obtain ⟨rfl, rfl, rfl⟩ := H
  go_wp2_with (first | ((with_reducible refine gate_dst (N := 11) rfl ?_); refine Kd.R_lit (Kd.int .i64) _ 3 ?hg (N := 11) ?hd (xs := ([0, 4, (-1)] : List Int)) (inner := [.int .i64 0, .int .i64 4, .int .i64 (-1)]) (ok := fun _ => True) (okp := fun _ => True) ?hr ?hp (fun _ hk => hk) trivial (Below.refl _ _) (Nat.le_refl _) (by simp) ?_; (case hd => rfl); (case hg => rfl); (case hr => first | (go_simp; done) | (go_simp; rfl)); (case hp => exact (Reps.one (show Kd.M (Kd.int .i64) _ _ _ 0 [.int .i64 0] from rfl) (Reps.one (show Kd.M (Kd.int .i64) _ _ _ 4 [.int .i64 4] from rfl) (Reps.one (show Kd.M (Kd.int .i64) _ _ _ (-1) [.int .i64 (-1)] from rfl) (Reps.none _ _))))); intro v218 w14 ho15 hb hg_ hnew_; clear hg_ hnew_; (first | rw [← Ny217.out] at ho15 | (simp only [Int.reduceToNat] at ho15; rw [← Ny217.out] at ho15)); have n_ := az (Kd.R_lower ho15 (kS HK.out)) <| az (IsS64.below (mI64_1 HI0.out) hb) <| az (bB BK210.out hb) <| az (bB BK214.out hb) <| az (KeepBut.trans (mKp HK.out) (KeepBut.of_below hb g none) (.inl rfl)) <| z0 (below_step (mB64HI0 HB.out) hb); clear HI0 BK210 BK214 HK HB; obtain ⟨HO219, HI0, BK210, BK214, HK, HB⟩ := n_; clear hb ho15; obtain ⟨Ao16, co16, eo16⟩ := Kd.R_slice HO219.out; subst eo16) | ((with_reducible refine gate_callee (f := 24) rfl ?_); refine goesL_ (some 12) rfl rfl Tryd.func24 (by kernel_rfl) rfl #[.pointer (some ⟨g, 0, none⟩), .slice Ao16 y217.length co16] rfl argx ?_; (with_reducible refine (spec_l12Rd_num.calls k g s0_0 t216 _ _ y217 t220 t221 w0 _ ?side1 ?side2 ?side3 ?side4 ?side5 A13.out).mono ?_); (case side1 => exact mI64_1 HI0.out); (case side2 => exact mB64HI0 HB.out); (case side3 => exact mC (Kd.R_reads' HO219.out).2.2); (case side4 => exact (Kd.R_reads' HO219.out).2.1); (case side5 => exact far_slice (IsS64.own_ne HI0.out HO219.out (by decide))); rintro e w17 ⟨rfl, hi, hb, hk⟩; refine ⟨_, rfl, ?_⟩; have n_ := az (kB hk BK210.out NB210_0.out) <| az (kB hk BK214.out NB214_0.out) <| az (Kd.R_mono (Kd.R_keep (IsS64.apart (show IsS64 w0 _ g s0_0 t216 from mI64_1 HI0.out) (mR HO219.out) (by decide)) hk (fun _ h => h.2)) (fun _ h => h.1)) <| az (KeepBut.trans (mKp HK.out) hk (.inl rfl)) <| az (hb) <| z0 (hi); clear BK210 BK214 HO219 HK HB HI0; obtain ⟨BK210, BK214, HO219, HK, HB, HI0⟩ := n_; clear hb hk hi; have hnb18 := NB214_210.out; have hnc18 := NB210_214.out; have hnb19 := NB214_0.out; have hnc19 := NB0_214.out; obtain ⟨hcz20_0, hcz20_1, hfz20_0, hfz20_1⟩ := cel2 BK214.out; have hnb21 := NB210_0.out; have hnc21 := NB0_210.out; obtain ⟨hcz22_0, hcz22_1, hfz22_0, hfz22_1⟩ := cel2 BK210.out))
  refine bodyPost_ret (results_cell_row rfl _ _ gb210 31 #[.int .i64 t220, .int .i64 t212] (0, 0) _ rfl (by (with_reducible repeat (first | refine blk_drewN ?_ _ | refine blk_drew ?_ | refine blk_alloc ?_ _)); refine blk_put (cs := #[.int .i64 t220, .int .i64 0]) ?_ 1 _ rfl; (with_reducible repeat (first | refine blk_drewN ?_ _ | refine blk_drew ?_ | refine blk_alloc ?_ _)); refine blk_put (cs := #[.int .i64 0, .int .i64 0]) ?_ 0 _ rfl; (with_reducible repeat (first | refine blk_drewN ?_ _ | refine blk_drew ?_ | refine blk_alloc ?_ _)); refine blk_far ?_ NB210_214.out _; (with_reducible repeat (first | refine blk_drewN ?_ _ | refine blk_drew ?_ | refine blk_alloc ?_ _)); exact BK210.out) Tryd.underlying31 rfl (by kernel_rfl)) rfl ?_
  exact ⟨rfx, mI64_1 HI0.out, mB64HI0 HB.out, mKp HK.out⟩
 ·rw [if_neg c12] at H
  have c12b0 : (t215 == 0) = false := beq_eq_false_iff_ne.mpr c12
  have c12b1 : (t215 != 0) = true := bne_iff_ne.mpr c12
  (first | rw [c12b0] | (simp only [i64_w, i32_w]; rw [c12b0]) | skip)
  by_cases c23 : t215 = 1
  ·rw [if_pos c23] at H
   have c23b0 : (t215 == 1) = true := beq_iff_eq.mpr c23
   have c23b1 : (t215 != 1) = false := bne_eq_false_iff_eq.mpr c23
   clear c23
   obtain ⟨y222, hy222⟩ : ∃ y_ : List Int, y_ = (([(-1), 6, 5] : List Int)) := ⟨_, rfl⟩
   replace H : ((spec_l12Rd_num.f k s0_0 t216 y222).bind fun bt225 => (some (t211, bt225.1, bt225.2))) = some (r1, r2, r3) := by first | (rw [hy222]; with_reducible exact H) | (have H2_ := (Option.bind_some _ _).symm.trans H; rw [hy222]; with_reducible exact H2_) | (have H2_ := (Option.bind_some _ _).symm.trans H; with_reducible exact H2_) | with_reducible exact H | (rw [hy222]; exact H) | exact H
   have Ny222 := z0 hy222
   clear hy222
   replace H := Option.bind_eq_some_iff.mp H
   obtain ⟨⟨t225, t226⟩, A240, H⟩ := H
   try dsimp only at H
   have A24 := z0 A240
   clear A240
   simp only [Option.some.injEq, Prod.mk.injEq] at H
   obtain ⟨rfl, rfl, rfl⟩ := H
   go_wp2_with (first | ((with_reducible refine gate_dst (N := 17) rfl ?_); refine Kd.R_lit (Kd.int .i64) _ 3 ?hg (N := 17) ?hd (xs := ([(-1), 6, 5] : List Int)) (inner := [.int .i64 (-1), .int .i64 6, .int .i64 5]) (ok := fun _ => True) (okp := fun _ => True) ?hr ?hp (fun _ hk => hk) trivial (Below.refl _ _) (Nat.le_refl _) (by simp) ?_; (case hd => rfl); (case hg => rfl); (case hr => first | (go_simp; done) | (go_simp; rfl)); (case hp => exact (Reps.one (show Kd.M (Kd.int .i64) _ _ _ (-1) [.int .i64 (-1)] from rfl) (Reps.one (show Kd.M (Kd.int .i64) _ _ _ 6 [.int .i64 6] from rfl) (Reps.one (show Kd.M (Kd.int .i64) _ _ _ 5 [.int .i64 5] from rfl) (Reps.none _ _))))); intro v223 w25 ho26 hb hg_ hnew_; clear hg_ hnew_; (first | rw [← Ny222.out] at ho26 | (simp only [Int.reduceToNat] at ho26; rw [← Ny222.out] at ho26)); have n_ := az (Kd.R_lower ho26 (kS HK.out)) <| az (IsS64.below (mI64_1 HI0.out) hb) <| az (bB BK210.out hb) <| az (bB BK214.out hb) <| az (KeepBut.trans (mKp HK.out) (KeepBut.of_below hb g none) (.inl rfl)) <| z0 (below_step (mB64HI0 HB.out) hb); clear HI0 BK210 BK214 HK HB; obtain ⟨HO224, HI0, BK210, BK214, HK, HB⟩ := n_; clear hb ho26; obtain ⟨Ao27, co27, eo27⟩ := Kd.R_slice HO224.out; subst eo27) | ((with_reducible refine gate_callee (f := 24) rfl ?_); refine goesL_ (some 18) rfl rfl Tryd.func24 (by kernel_rfl) rfl #[.pointer (some ⟨g, 0, none⟩), .slice Ao27 y222.length co27] rfl argx ?_; (with_reducible refine (spec_l12Rd_num.calls k g s0_0 t216 _ _ y222 t225 t226 w0 _ ?side1 ?side2 ?side3 ?side4 ?side5 A24.out).mono ?_); (case side1 => exact mI64_1 HI0.out); (case side2 => exact mB64HI0 HB.out); (case side3 => exact mC (Kd.R_reads' HO224.out).2.2); (case side4 => exact (Kd.R_reads' HO224.out).2.1); (case side5 => exact far_slice (IsS64.own_ne HI0.out HO224.out (by decide))); rintro e w28 ⟨rfl, hi, hb, hk⟩; refine ⟨_, rfl, ?_⟩; have n_ := az (kB hk BK210.out NB210_0.out) <| az (kB hk BK214.out NB214_0.out) <| az (Kd.R_mono (Kd.R_keep (IsS64.apart (show IsS64 w0 _ g s0_0 t216 from mI64_1 HI0.out) (mR HO224.out) (by decide)) hk (fun _ h => h.2)) (fun _ h => h.1)) <| az (KeepBut.trans (mKp HK.out) hk (.inl rfl)) <| az (hb) <| z0 (hi); clear BK210 BK214 HO224 HK HB HI0; obtain ⟨BK210, BK214, HO224, HK, HB, HI0⟩ := n_; clear hb hk hi; have hnb29 := NB214_210.out; have hnc29 := NB210_214.out; have hnb30 := NB214_0.out; have hnc30 := NB0_214.out; obtain ⟨hcz31_0, hcz31_1, hfz31_0, hfz31_1⟩ := cel2 BK214.out; have hnb32 := NB210_0.out; have hnc32 := NB0_210.out; obtain ⟨hcz33_0, hcz33_1, hfz33_0, hfz33_1⟩ := cel2 BK210.out))
   refine bodyPost_ret (results_cell_row rfl _ _ gb210 31 #[.int .i64 t211, .int .i64 t225] (0, 0) _ rfl (by (with_reducible repeat (first | refine blk_drewN ?_ _ | refine blk_drew ?_ | refine blk_alloc ?_ _)); refine blk_put (cs := #[.int .i64 t211, .int .i64 0]) ?_ 1 _ rfl; (with_reducible repeat (first | refine blk_drewN ?_ _ | refine blk_drew ?_ | refine blk_alloc ?_ _)); refine blk_put (cs := #[.int .i64 0, .int .i64 0]) ?_ 0 _ rfl; (with_reducible repeat (first | refine blk_drewN ?_ _ | refine blk_drew ?_ | refine blk_alloc ?_ _)); refine blk_far ?_ NB210_214.out _; (with_reducible repeat (first | refine blk_drewN ?_ _ | refine blk_drew ?_ | refine blk_alloc ?_ _)); exact BK210.out) Tryd.underlying31 rfl (by kernel_rfl)) rfl ?_
   exact ⟨rfx, mI64_1 HI0.out, mB64HI0 HB.out, mKp HK.out⟩
  ·rw [if_neg c23] at H
   have c23b0 : (t215 == 1) = false := beq_eq_false_iff_ne.mpr c23
   have c23b1 : (t215 != 1) = true := bne_iff_ne.mpr c23
   simp only [Option.some.injEq, Prod.mk.injEq] at H
   obtain ⟨rfl, rfl, rfl⟩ := H
   have hnb34 := NB214_210.out
   have hnc34 := NB210_214.out
   have hnb35 := NB214_0.out
   have hnc35 := NB0_214.out
   obtain ⟨hcz36_0, hcz36_1, hfz36_0, hfz36_1⟩ := cel2 BK214.out
   have hnb37 := NB210_0.out
   have hnc37 := NB0_210.out
   obtain ⟨hcz38_0, hcz38_1, hfz38_0, hfz38_1⟩ := cel2 BK210.out
   go_wp2
   refine bodyPost_ret (results_cell_row rfl _ _ gb210 31 #[.int .i64 t211, .int .i64 t212] (0, 0) _ rfl (pF BK210.out) Tryd.underlying31 rfl (by kernel_rfl)) rfl ?_
   exact ⟨rfx, mI64_1 HI0.out, mB64HI0 HB.out, mKp HK.out⟩

/-! ### spec_l8Some: function 41 -/
def spec_l8Some.l0 : Nat → Int → List Int → Int → List Int → Int → Option (List Int × Int)
 | 0, _, _, _, _, _ => none
 | k + 1, x1, x5, x6, x1000, x1001 => if x6 < x1 then ((spec_l12Rd_pick.f k x1000 x1001 3).bind fun bt146 => (if bt146.1 = 0 then (if x5.length < 17592186044416 then (spec_l8Some.l0 k x1 (x5 ++ [x6]) (wrap64 (x6 + 1)) x1000 bt146.2) else (none)) else (spec_l8Some.l0 k x1 x5 (wrap64 (x6 + 1)) x1000 bt146.2))) else (if (x5.length : Int) = 0 then ((spec_l12Rd_pick.f k x1000 x1001 x1).bind fun bt151 => (some ((([bt151.1] : List Int)), bt151.2))) else (some (x5, x1001)))
def spec_l8Some.f (k : Nat) (s0_0 : List Int) (s0_1 : Int) (a1 : Int) : Option (List Int × Int) := spec_l8Some.l0 k a1 (([] : List Int)) 0 s0_0 s0_1
set_option maxHeartbeats 8000000 in
set_option maxRecDepth 100000 in
theorem spec_l8Some.calls (k : Nat) (g : Nat) (s0_0 : List Int) (s0_1 : Int) (a1 : Int) (r1 : List Int) (r2 : Int) (w0 w : World) (hI : IsS64 w0 w g s0_0 s0_1) (hB : Below w0.heap.size w0 w) (h : spec_l8Some.f k s0_0 s0_1 a1 = some (r1, r2)) :
  Calls Tryd.prog 41 #[.pointer (some ⟨g, 0, none⟩), .int .i64 a1] w fun e w' => ∃ v0_ : Value, e = .returned (v0_) ∧ Kd.R (Kd.int .i64) 3 w' w.heap.size (fun _ => True) v0_ r1 ∧ IsS64 w0 w' g s0_0 r2 ∧ Below w0.heap.size w0 w' ∧ KeepBut w w' g none := by
 have HI0 := z0 hI
 have HK := z0 (KeepBut.refl w g none)
 have HL := z0 hB.size
 clear hI
 have HW0 := z0 hB.size
 have HB := z0 hB
 clear hB
 have H : (spec_l8Some.l0 k a1 (([] : List Int)) 0 s0_0 s0_1) = some (r1, r2) := h
 clear h
 obtain ⟨y143, hy143⟩ : ∃ y_ : List Int, y_ = (([] : List Int)) := ⟨_, rfl⟩
 replace H : (spec_l8Some.l0 k a1 y143 0 s0_0 s0_1) = some (r1, r2) := by first | (rw [hy143]; with_reducible exact H) | (have H2_ := (Option.bind_some _ _).symm.trans H; rw [hy143]; with_reducible exact H2_) | (have H2_ := (Option.bind_some _ _).symm.trans H; with_reducible exact H2_) | with_reducible exact H | (rw [hy143]; exact H) | exact H
 have Ny143 := z0 hy143
 clear hy143
 have H' := z0 H
 clear H
 go_enter Tryd.func41, Tryd.ntmps41
 go_wp2_with (first | ((with_reducible refine gate_dst (N := 7) rfl ?_); refine Kd.R_lit (Kd.int .i64) _ 3 ?hg (N := 7) ?hd (xs := ([] : List Int)) (inner := []) (ok := fun _ => True) (okp := fun _ => True) ?hr ?hp (fun _ hk => hk) trivial (Below.refl _ _) (Nat.le_refl _) (by simp) ?_; (case hd => rfl); (case hg => rfl); (case hr => first | (go_simp; done) | (go_simp; rfl)); (case hp => exact (Reps.none _ _)); intro v144 w3 ho4 hb hg_ hnew_; clear hg_ hnew_; (first | rw [← Ny143.out] at ho4 | (simp only [Int.reduceToNat] at ho4; rw [← Ny143.out] at ho4)); have n_ := az (Kd.R_lower ho4 (kS HK.out)) <| az (IsS64.below (mI64_1 HI0.out) hb) <| az (KeepBut.trans (mKp HK.out) (KeepBut.of_below hb g none) (.inl rfl)) <| z0 (below_step (mB64HI0 HB.out) hb); clear HI0 HK HB; obtain ⟨HO145, HI0, HK, HB⟩ := n_; clear hb ho4))
 go_loopg [5, 6] k (fun kq v5 v6 w' => ∃ (x5_1 : List Int) (x6_1 : Int) (x1001_1 : Int), v6 = .int .i64 x6_1 ∧ Aside0 (spec_l8Some.l0 kq a1 x5_1 x6_1 s0_0 x1001_1 = some (r1, r2)) ∧ Aside0 (kq ≤ k) ∧ Aside0 (Kd.R (Kd.int .i64) 3 w' w.heap.size (fun _ => True) v5 x5_1) ∧ Aside0 (IsS64 w0 w' g s0_0 x1001_1) ∧ Aside0 (KeepBut w w' g none) ∧ Aside0 (Below w0.heap.size w0 w'))
 case atStart => exact ⟨(y143), (0), (s0_1), rfy, H', ⟨Nat.le_refl _⟩, ⟨mR HO145.out⟩, ⟨mI64_1 HI0.out⟩, ⟨mKp HK.out⟩, ⟨mB64HI0 HB.out⟩⟩
 case round =>
  clear H'
  skip
  obtain ⟨x5_1, x6_1, x1001_1, rfl, HA, HK1, HO_5, HI0, HK, HB⟩ := hrel
  cases gk with
  | zero => exact absurd HA.out (by simp [spec_l8Some.l0])
  | succ k1 =>
   have H := HA.out
   clear HA
   simp only [spec_l8Some.l0] at H
   by_cases c5 : x6_1 < a1
   ·rw [if_pos c5] at H
    have c5b0 : decide (x6_1 < a1) = true := decide_eq_true c5
    clear c5
    replace H := Option.bind_eq_some_iff.mp H
    obtain ⟨⟨t146, t147⟩, A60, H⟩ := H
    try dsimp only at H
    have A6 := z0 A60
    clear A60
    have HF7 := z0 H
    clear H
    go_upto_if 15 with (first | ((with_reducible refine gate_callee (f := 23) rfl ?_); refine goesL_ (some 14) rfl rfl Tryd.func23 (by kernel_rfl) rfl #[.pointer (some ⟨g, 0, none⟩), .int .i64 3] rfl argx ?_; (with_reducible refine (spec_l12Rd_pick.calls k1 g s0_0 x1001_1 3 t146 t147 w0 _ ?side1 ?side2 A6.out).mono ?_); (case side1 => exact mI64_1 HI0.out); (case side2 => exact mB64HI0 HB.out); rintro e w8 ⟨rfl, hi, hb, hk⟩; refine ⟨_, rfl, ?_⟩; have n_ := az (Kd.R_mono (Kd.R_keep (IsS64.apart (show IsS64 w0 _ g s0_0 x1001_1 from mI64_1 HI0.out) (mR HO_5.out) (by decide)) hk (fun _ h => h.2)) (fun _ h => h.1)) <| az (KeepBut.trans (mKp HK.out) hk (.inl rfl)) <| az (hb) <| z0 (hi); clear HO_5 HK HB HI0; obtain ⟨HO_5, HK, HB, HI0⟩ := n_; clear hb hk hi))
    (try simp only [Act.put, List.setIfInBounds_toArray, List.set_cons_zero, List.set_cons_succ])
    have H := HF7.out
    clear HF7
    (try clear c5); (try clear c5b0)
    by_cases c9 : t146 = 0
    ·rw [if_pos c9] at H
     have c9b0 : (t146 == 0) = true := beq_iff_eq.mpr c9
     have c9b1 : (t146 != 0) = false := bne_eq_false_iff_eq.mpr c9
     clear c9
     (first | rw [c9b0] | (simp only [i64_w, i32_w]; rw [c9b0]) | skip)
     by_cases c10 : x5_1.length < 17592186044416
     ·rw [if_pos c10] at H
      have LMc10 := z0 c10
      clear c10
      obtain ⟨y148, hy148⟩ : ∃ y_ : List Int, y_ = (x5_1 ++ [x6_1]) := ⟨_, rfl⟩
      replace H : (spec_l8Some.l0 k1 a1 y148 (wrap64 (x6_1 + 1)) s0_0 t147) = some (r1, r2) := by first | (rw [hy148]; with_reducible exact H) | (have H2_ := (Option.bind_some _ _).symm.trans H; rw [hy148]; with_reducible exact H2_) | (have H2_ := (Option.bind_some _ _).symm.trans H; with_reducible exact H2_) | with_reducible exact H | (rw [hy148]; exact H) | exact H
      have Ny148 := z0 hy148
      clear hy148
      have H' := z0 H
      clear H
      go_wp2_with (first | ((with_reducible refine gate_builtin (b := .append) (xs := #[.tmp 16, .tmp 18]) rfl ?_); at_builtin; refine Kd.R_append (Kd.int .i64) w.heap.size rfl (.tmp 16) (.tmp 18) 35 3 (.int .i64 0) 8 rfl Tryd.underlying35 info3 rfl (by decide) (by omega) u5 x5_1 x6_1 [.int .i64 x6_1] (fun _ => True) (fun _ => False) rfl rfl ?aP (fun _ hk => hk.elim) ?aF ?aO (Below.refl _ _) ?aS ?aL ?_; (case aP => exact rfl); (case aF => exact (fun _ _ => trivial)); (case aO => exact (mR HO_5.out)); (case aS => exact (kS HK.out)); (case aL => have := LMc10.out; omega); intro v149 w11 ho hb hg hat; rw [← Ny148.out] at ho; have n_ := az (IsS64.grown (mI64_1 HI0.out) hg (IsS64.own_ne HI0.out HO_5.out (by decide))) <| az (below_weaken (mB64HI0 HB.out) HL.out hb) <| az (KeepBut.trans (mKp HK.out) (KeepBut.of_grown hg g) (Kd.R_base2 HO_5.out)) <| z0 (ho); clear HI0 HB HK HO_5; obtain ⟨HI0, HB, HK, HO150⟩ := n_; clear ho hb hg hat))
      go_roundg k1
      case measure => have := HK1.out; omega
      case rel => exact ⟨(y148), (wrap64 (x6_1 + 1)), (t147), rfy, H', ⟨by have := HK1.out; omega⟩, ⟨mR HO150.out⟩, ⟨mI64_1 HI0.out⟩, ⟨mKp HK.out⟩, ⟨mB64HI0 HB.out⟩⟩
     ·rw [if_neg c10] at H
      exact absurd H (by simp)
    ·rw [if_neg c9] at H
     have c9b0 : (t146 == 0) = false := beq_eq_false_iff_ne.mpr c9
     have c9b1 : (t146 != 0) = true := bne_iff_ne.mpr c9
     (first | rw [c9b0] | (simp only [i64_w, i32_w]; rw [c9b0]) | skip)
     have H' := z0 H
     clear H
     go_wp2
     go_roundg k1
     case measure => have := HK1.out; omega
     case rel => exact ⟨(x5_1), (wrap64 (x6_1 + 1)), (t147), rfy, H', ⟨by have := HK1.out; omega⟩, ⟨mR HO_5.out⟩, ⟨mI64_1 HI0.out⟩, ⟨mKp HK.out⟩, ⟨mB64HI0 HB.out⟩⟩
   ·rw [if_neg c5] at H
    have c5b0 : decide (x6_1 < a1) = false := decide_eq_false c5
    clear c5
    by_cases c12 : (x5_1.length : Int) = 0
    ·rw [if_pos c12] at H
     have c12b0 : ((x5_1.length : Int) == 0) = true := beq_iff_eq.mpr c12
     have c12b1 : ((x5_1.length : Int) != 0) = false := bne_eq_false_iff_eq.mpr c12
     clear c12
     replace H := Option.bind_eq_some_iff.mp H
     obtain ⟨⟨t151, t152⟩, A130, H⟩ := H
     try dsimp only at H
     have A13 := z0 A130
     clear A130
     obtain ⟨y153, hy153⟩ : ∃ y_ : List Int, y_ = (([t151] : List Int)) := ⟨_, rfl⟩
     replace H : (some (y153, t152)) = some (r1, r2) := by first | (rw [hy153]; with_reducible exact H) | (have H2_ := (Option.bind_some _ _).symm.trans H; rw [hy153]; with_reducible exact H2_) | (have H2_ := (Option.bind_some _ _).symm.trans H; with_reducible exact H2_) | with_reducible exact H | (rw [hy153]; exact H) | exact H
     have Ny153 := z0 hy153
     clear hy153
     simp only [Option.some.injEq, Prod.mk.injEq] at H
     obtain ⟨rfl, rfl⟩ := H
     obtain ⟨Ao14, co14, eo14⟩ := Kd.R_slice HO_5.out
     subst eo14
     go_wp2_with (first | ((with_reducible refine gate_callee (f := 23) rfl ?_); refine goesL_ (some 25) rfl rfl Tryd.func23 (by kernel_rfl) rfl #[.pointer (some ⟨g, 0, none⟩), .int .i64 a1] rfl argx ?_; (with_reducible refine (spec_l12Rd_pick.calls k1 g s0_0 x1001_1 a1 t151 t152 w0 _ ?side1 ?side2 A13.out).mono ?_); (case side1 => exact mI64_1 HI0.out); (case side2 => exact mB64HI0 HB.out); rintro e w15 ⟨rfl, hi, hb, hk⟩; refine ⟨_, rfl, ?_⟩; have n_ := az (Kd.R_mono (Kd.R_keep (IsS64.apart (show IsS64 w0 _ g s0_0 x1001_1 from mI64_1 HI0.out) (mR HO_5.out) (by decide)) hk (fun _ h => h.2)) (fun _ h => h.1)) <| az (KeepBut.trans (mKp HK.out) hk (.inl rfl)) <| az (hb) <| z0 (hi); clear HO_5 HK HB HI0; obtain ⟨HO_5, HK, HB, HI0⟩ := n_; clear hb hk hi) | ((with_reducible refine gate_dst (N := 26) rfl ?_); refine Kd.R_lit (Kd.int .i64) _ 3 ?hg (N := 26) ?hd (xs := ([t151] : List Int)) (inner := [.int .i64 t151]) (ok := fun _ => True) (okp := fun _ => True) ?hr ?hp (fun _ hk => hk) trivial (Below.refl _ _) (Nat.le_refl _) (by simp) ?_; (case hd => rfl); (case hg => rfl); (case hr => first | (go_simp; done) | (go_simp; rfl)); (case hp => exact (Reps.one (show Kd.M (Kd.int .i64) _ _ _ t151 [.int .i64 t151] from rfl) (Reps.none _ _))); intro v154 w16 ho17 hb hg_ hnew_; clear hg_ hnew_; (first | rw [← Ny153.out] at ho17 | (simp only [Int.reduceToNat] at ho17; rw [← Ny153.out] at ho17)); have n_ := az (Kd.R_elder' (mR HO_5.out) (by first | exact Kd.R_base ho17 | exact Kd.R_base ho17) hb) <| az (Kd.R_lower (Kd.R_new' ho17 (Kd.R_lt (mR HO_5.out))) (kS HK.out)) <| az (IsS64.below (mI64_1 HI0.out) hb) <| az (KeepBut.trans (mKp HK.out) (KeepBut.of_below hb g none) (.inl rfl)) <| z0 (below_step (mB64HI0 HB.out) hb); clear HO_5 HI0 HK HB; obtain ⟨HO_5, HO155, HI0, HK, HB⟩ := n_; clear hb ho17))
     go_ret
     exact ⟨_, rfx, by (with_reducible repeat (first | apply Kd.R_alloc | apply Kd.R_drewN | apply Kd.R_drew)); exact Kd.R_mono HO155.out (fun _ hk => trivial), mI64_1 HI0.out, mB64HI0 HB.out, mKp HK.out⟩
    ·rw [if_neg c12] at H
     have c12b0 : ((x5_1.length : Int) == 0) = false := beq_eq_false_iff_ne.mpr c12
     have c12b1 : ((x5_1.length : Int) != 0) = true := bne_iff_ne.mpr c12
     have c12b2 : ¬ (x5_1 = []) := fun h_ => c12 (by rw [h_]; rfl)
     simp only [Option.some.injEq, Prod.mk.injEq] at H
     obtain ⟨rfl, rfl⟩ := H
     obtain ⟨Ao18, co18, eo18⟩ := Kd.R_slice HO_5.out
     subst eo18
     go_wp2
     go_ret
     exact ⟨_, rfx, mR HO_5.out, mI64_1 HI0.out, mB64HI0 HB.out, mKp HK.out⟩

/-! ### spec_l12Open: function 10 -/
def spec_l12Open.f (l0 : List Int) : Option (List Int × Int) := if (l0.length : Int) > 2000 then (if 2000 ≤ (l0.length : Int) then (some (l0.take 2000, 0)) else (none)) else (some (l0, 0))
set_option maxHeartbeats 8000000 in
set_option maxRecDepth 100000 in
theorem spec_l12Open.calls (A0 : Option Addr) (c0 : Nat) (l0 : List Int) (r1 : List Int) (r2 : Int) (w0 w : World) (hB : Below w0.heap.size w0 w) (hr0 : Kd.C (Kd.int .u8) w0 A0 l0.length l0) (hc0 : l0.length ≤ c0) (h : spec_l12Open.f l0 = some (r1, r2)) :
  Calls Tryd.prog 10 #[.slice A0 l0.length c0] w fun e w' => ∃ g_ : Nat, e = .returned (.pointer (some ⟨g_, 0, none⟩)) ∧ IsS64 w0 w' g_ r1 r2 ∧ Below w0.heap.size w0 w' ∧ Below w.heap.size w w' := by
 have hu64 := Tryd.underlying64
 have HR0 := z0 hr0
 have HC0 := z0 hc0
 clear hr0 hc0
 have HBW := z0 (Below.refl w.heap.size w)
 have HW0 := z0 hB.size
 have HB := z0 hB
 clear hB
 have H : (if (l0.length : Int) > 2000 then (if 2000 ≤ (l0.length : Int) then (some (l0.take 2000, 0)) else (none)) else (some (l0, 0))) = some (r1, r2) := h
 clear h
 by_cases c2 : (l0.length : Int) > 2000
 ·rw [if_pos c2] at H
  have c2b0 : decide (2000 < (l0.length : Int)) = true := decide_eq_true c2
  have c2b1 : decide (2000 < l0.length) = true := decide_eq_true (by omega)
  clear c2
  by_cases c3 : 2000 ≤ (l0.length : Int)
  ·rw [if_pos c3] at H
   have c3b0 := eq_true c3
   have c3b1 : decide (2000 ≤ (l0.length : Int)) = true := decide_eq_true c3
   clear c3
   simp only [Option.some.injEq, Prod.mk.injEq] at H
   obtain ⟨rfl, rfl⟩ := H
   obtain ⟨i04, hi04, _, hsz4, _⟩ := info_parts info5
   obtain ⟨hcut4, hA4, hC4⟩ := print_take_of (P := Tryd.prog) (Value.int .u8) 0 22 5 .i64 Tryd.underlying22 hi04 hsz4 A0 c0 l0 2000 (by omega) (of_decide_eq_true (by first | (with_reducible assumption) | assumption)) HC0.out
   have HR390 := z0 (Kd.C_of_reads (h1 := fun _ => rfl) (hA4 _ (Kd.reads_of_C HR0.out)))
   have HC390 := z0 hC4
   clear hA4 hC4 hi04 hsz4
   go_enter Tryd.func10, Tryd.ntmps10
   go_wp2_with (first | ((with_reducible refine gate_dst (N := 10) rfl ?_); refine box_event ?hg (N := 10) ?hd (cs := #[.slice A0 (l0.take 2000).length c0, .int .i64 0]) (t := 64) ?hr ?_; (case hd => rfl); (case hg => rfl); (case hr => first | (go_simp; done) | (go_simp; rfl)); intro gb391 hg w5 hbox hb; have n_ := az (below_step HBW.out hb) <| az (below_step (mB HB.out) hb) <| az (hbox) <| az ((by rw [hg]; exact (below_size (mB HBW.out)) : w.heap.size ≤ gb391)) <| z0 ((Nat.le_trans HW0.out (by rw [hg]; exact (below_size (mB HBW.out)) : w.heap.size ≤ gb391) : w0.heap.size ≤ gb391)); clear HBW HB; obtain ⟨HBW, HB, BK391, GW391, GE391⟩ := n_; clear hb hbox hg))
   go_ret
   exact ⟨_, rfl, (show IsS64 w0 _ gb391 (l0.take 2000) 0 from ⟨_, _, mK BK391.out, GE391.out, HR390.out⟩), mB HB.out, mB HBW.out⟩
  ·rw [if_neg c3] at H
   exact absurd H (by simp)
 ·rw [if_neg c2] at H
  have c2b0 : decide (2000 < (l0.length : Int)) = false := decide_eq_false c2
  have c2b1 : decide (2000 < l0.length) = false := decide_eq_false (by omega)
  clear c2
  simp only [Option.some.injEq, Prod.mk.injEq] at H
  obtain ⟨rfl, rfl⟩ := H
  go_enter Tryd.func10, Tryd.ntmps10
  go_wp2_with (first | ((with_reducible refine gate_dst (N := 10) rfl ?_); refine box_event ?hg (N := 10) ?hd (cs := #[.slice A0 l0.length c0, .int .i64 0]) (t := 64) ?hr ?_; (case hd => rfl); (case hg => rfl); (case hr => first | (go_simp; done) | (go_simp; rfl)); intro gb392 hg w6 hbox hb; have n_ := az (below_step HBW.out hb) <| az (below_step (mB HB.out) hb) <| az (hbox) <| az ((by rw [hg]; exact (below_size (mB HBW.out)) : w.heap.size ≤ gb392)) <| z0 ((Nat.le_trans HW0.out (by rw [hg]; exact (below_size (mB HBW.out)) : w.heap.size ≤ gb392) : w0.heap.size ≤ gb392)); clear HBW HB; obtain ⟨HBW, HB, BK392, GW392, GE392⟩ := n_; clear hb hbox hg))
  go_ret
  exact ⟨_, rfl, (show IsS64 w0 _ gb392 l0 0 from ⟨_, _, mK BK392.out, GE392.out, HR0.out⟩), mB HB.out, mB HBW.out⟩

/-! ### impl_stepsOk: function 28 -/
def impl_stepsOk.l0 : Nat → List Int → Int → List Int → Int → Int → Option (Bool)
 | 0, _, _, _, _, _ => none
 | k + 1, x0, x1, x7, x8, x9 => if x9 < x8 then (if 0 ≤ x9 then (if x9 < (x7.length : Int) then (if (rd x7 x9) < 0 then (some false) else (if (rd x7 x9) ≥ x1 then (some false) else (if x9 > 0 then (if 0 ≤ (wrap64 (x9 - 1)) then (if (wrap64 (x9 - 1)) < (x0.length : Int) then (if (rd x0 (wrap64 (x9 - 1))) ≥ (rd x7 x9) then (some false) else (impl_stepsOk.l0 k x0 x1 x7 x8 (wrap64 (x9 + 1)))) else (none)) else (none)) else (impl_stepsOk.l0 k x0 x1 x7 x8 (wrap64 (x9 + 1)))))) else (none)) else (none)) else (some (decide ((x0.length : Int) > 0)))
def impl_stepsOk.f (k : Nat) (l0 : List Int) (a1 : Int) : Option (Bool) := impl_stepsOk.l0 k l0 a1 l0 (l0.length : Int) 0
theorem q28_1 {p : Prop} (h : p := by first | (with_reducible assumption) | assumption) : p := h
set_option maxHeartbeats 8000000 in
set_option maxRecDepth 100000 in
theorem impl_stepsOk.calls (k : Nat) (A0 : Option Addr) (c0 : Nat) (l0 : List Int) (a1 : Int) (r : Bool) (w : World) (hr0 : Kd.C (Kd.int .i64) w A0 l0.length l0) (hc0 : l0.length ≤ c0) (h : impl_stepsOk.f k l0 a1 = some r) :
  Calls Tryd.prog 28 #[.slice A0 l0.length c0, .int .i64 a1] w fun e w' => e = .returned (.bool r) ∧ Drawn0 w w' := by
 have HR0 := z0 hr0
 have HC0 := z0 hc0
 clear hr0 hc0
 have H : (impl_stepsOk.l0 k l0 a1 l0 (l0.length : Int) 0) = some r := h
 clear h
 have H' := z0 H
 clear H
 go_enter Tryd.func28, Tryd.ntmps28
 go_wp2
 go_loopg [9] k (fun kq v9 w' => ∃ (x9_1 : Int), v9 = .int .i64 x9_1 ∧ Aside0 (impl_stepsOk.l0 kq l0 a1 l0 (l0.length : Int) x9_1 = some r) ∧ Aside0 (kq ≤ k) ∧ Drawn0 w w')
 case atStart => exact ⟨(0), rfy, H', ⟨Nat.le_refl _⟩, by repeat (first | exact Drawn0.refl _ | apply Drawn0.step)⟩
 case round =>
  clear H'
  skip
  obtain ⟨x9_1, rfl, HA, HK1, ⟨m1, rfl⟩⟩ := hrel
  cases gk with
  | zero => exact absurd HA.out (by simp [impl_stepsOk.l0])
  | succ k1 =>
   have H := HA.out
   clear HA
   simp only [impl_stepsOk.l0] at H
   by_cases c3 : x9_1 < (l0.length : Int)
   ·rw [if_pos c3] at H
    have c3b0 : decide (x9_1 < (l0.length : Int)) = true := decide_eq_true c3
    clear c3
    by_cases c4 : 0 ≤ x9_1
    ·rw [if_pos c4] at H
     have c4b0 : decide (0 ≤ x9_1) = true := decide_eq_true c4
     clear c4
     by_cases c5 : x9_1 < (l0.length : Int)
     ·rw [if_pos c5] at H
      have c5b0 : decide (x9_1 < (l0.length : Int)) = true := decide_eq_true c5
      clear c5
      by_cases c6 : (rd l0 x9_1) < 0
      ·rw [if_pos c6] at H
       have c6b0 : decide ((rd l0 x9_1) < 0) = true := decide_eq_true c6
       clear c6
       obtain rfl := Option.some.inj H
       have p405 : 0 ≤ (x9_1 : Int) := of_decide_eq_true q28_1
       have q405 : x9_1 < (l0.length : Int) := of_decide_eq_true q28_1
       obtain ⟨ad405, e405, hx405_0⟩ := Kd.at_int HR0.out x9_1 p405 q405
       cases e405
       replace p405 := eq_true p405
       replace q405 := eq_true q405
       go_wp2
       go_ret
       exact ⟨by first | rfl | (simp; done) | (simp [*]; done), by repeat (first | exact Drawn0.refl _ | apply Drawn0.step)⟩
      ·rw [if_neg c6] at H
       have c6b0 : decide ((rd l0 x9_1) < 0) = false := decide_eq_false c6
       clear c6
       by_cases c7 : (rd l0 x9_1) ≥ a1
       ·rw [if_pos c7] at H
        have c7b0 : decide (a1 ≤ (rd l0 x9_1)) = true := decide_eq_true c7
        clear c7
        obtain rfl := Option.some.inj H
        have p405 : 0 ≤ (x9_1 : Int) := of_decide_eq_true q28_1
        have q405 : x9_1 < (l0.length : Int) := of_decide_eq_true q28_1
        obtain ⟨ad405, e405, hx405_0⟩ := Kd.at_int HR0.out x9_1 p405 q405
        cases e405
        replace p405 := eq_true p405
        replace q405 := eq_true q405
        go_wp2
        go_ret
        exact ⟨by first | rfl | (simp; done) | (simp [*]; done), by repeat (first | exact Drawn0.refl _ | apply Drawn0.step)⟩
       ·rw [if_neg c7] at H
        have c7b0 : decide (a1 ≤ (rd l0 x9_1)) = false := decide_eq_false c7
        clear c7
        by_cases c8 : x9_1 > 0
        ·rw [if_pos c8] at H
         have c8b0 : decide (0 < x9_1) = true := decide_eq_true c8
         clear c8
         obtain ⟨ji9, hji9⟩ : ∃ j_ : Int, (wrap64 (x9_1 - 1)) = j_ := ⟨_, rfl⟩
         replace H : (if 0 ≤ (ji9) then (if (ji9) < (l0.length : Int) then (if (rd l0 (ji9)) ≥ (rd l0 x9_1) then (some false) else (impl_stepsOk.l0 k1 l0 a1 l0 (l0.length : Int) (wrap64 (x9_1 + 1)))) else (none)) else (none)) = some r := by first | (rw [hji9] at H; exact H) | (simp only [hji9] at H ⊢; exact H)
         have hji9w : (IntKind.i64.wrap (x9_1 - 1)) = ji9 := (i64_w _).trans hji9
         by_cases c10 : 0 ≤ (ji9)
         ·rw [if_pos c10] at H
          have c10b0 : decide (0 ≤ (ji9)) = true := decide_eq_true c10
          clear c10
          by_cases c11 : (ji9) < (l0.length : Int)
          ·rw [if_pos c11] at H
           have c11b0 : decide ((ji9) < (l0.length : Int)) = true := decide_eq_true c11
           clear c11
           by_cases c12 : (rd l0 (ji9)) ≥ (rd l0 x9_1)
           ·rw [if_pos c12] at H
            have c12b0 : decide ((rd l0 x9_1) ≤ (rd l0 (ji9))) = true := decide_eq_true c12
            clear c12
            obtain rfl := Option.some.inj H
            have p405 : 0 ≤ (x9_1 : Int) := of_decide_eq_true q28_1
            have q405 : x9_1 < (l0.length : Int) := of_decide_eq_true q28_1
            obtain ⟨ad405, e405, hx405_0⟩ := Kd.at_int HR0.out x9_1 p405 q405
            cases e405
            replace p405 := eq_true p405
            replace q405 := eq_true q405
            have p406 : 0 ≤ ((ji9) : Int) := of_decide_eq_true q28_1
            have q406 : (ji9) < (l0.length : Int) := of_decide_eq_true q28_1
            obtain ⟨ad406, e406, hx406_0⟩ := Kd.at_int HR0.out (ji9) p406 q406
            obtain rfl : ad405 = ad406 := (by injection e406)
            replace p406 := eq_true p406
            replace q406 := eq_true q406
            go_wp2
            go_ret
            exact ⟨by first | rfl | (simp; done) | (simp only [← hji9] <;> (first | rfl | simp)) | (simp [*]; done), by repeat (first | exact Drawn0.refl _ | apply Drawn0.step)⟩
           ·rw [if_neg c12] at H
            have c12b0 : decide ((rd l0 x9_1) ≤ (rd l0 (ji9))) = false := decide_eq_false c12
            clear c12
            have H' := z0 H
            clear H
            have p405 : 0 ≤ (x9_1 : Int) := of_decide_eq_true q28_1
            have q405 : x9_1 < (l0.length : Int) := of_decide_eq_true q28_1
            obtain ⟨ad405, e405, hx405_0⟩ := Kd.at_int HR0.out x9_1 p405 q405
            cases e405
            replace p405 := eq_true p405
            replace q405 := eq_true q405
            have p406 : 0 ≤ ((ji9) : Int) := of_decide_eq_true q28_1
            have q406 : (ji9) < (l0.length : Int) := of_decide_eq_true q28_1
            obtain ⟨ad406, e406, hx406_0⟩ := Kd.at_int HR0.out (ji9) p406 q406
            obtain rfl : ad405 = ad406 := (by injection e406)
            replace p406 := eq_true p406
            replace q406 := eq_true q406
            go_wp2
            go_roundg k1
            case measure => have := HK1.out; omega
            case rel => exact ⟨(wrap64 (x9_1 + 1)), rfy, H', ⟨by have := HK1.out; omega⟩, by repeat (first | exact Drawn0.refl _ | apply Drawn0.step)⟩
          ·rw [if_neg c11] at H
           exact absurd H (by simp)
         ·rw [if_neg c10] at H
          exact absurd H (by simp)
        ·rw [if_neg c8] at H
         have c8b0 : decide (0 < x9_1) = false := decide_eq_false c8
         clear c8
         have H' := z0 H
         clear H
         have p405 : 0 ≤ (x9_1 : Int) := of_decide_eq_true q28_1
         have q405 : x9_1 < (l0.length : Int) := of_decide_eq_true q28_1
         obtain ⟨ad405, e405, hx405_0⟩ := Kd.at_int HR0.out x9_1 p405 q405
         cases e405
         replace p405 := eq_true p405
         replace q405 := eq_true q405
         go_wp2
         go_roundg k1
         case measure => have := HK1.out; omega
         case rel => exact ⟨(wrap64 (x9_1 + 1)), rfy, H', ⟨by have := HK1.out; omega⟩, by repeat (first | exact Drawn0.refl _ | apply Drawn0.step)⟩
     ·rw [if_neg c5] at H
      exact absurd H (by simp)
    ·rw [if_neg c4] at H
     exact absurd H (by simp)
   ·rw [if_neg c3] at H
    have c3b0 : decide (x9_1 < (l0.length : Int)) = false := decide_eq_false c3
    clear c3
    obtain rfl := Option.some.inj H
    go_wp2
    go_ret
    exact ⟨by first | rfl | (simp; done) | (simp [*]; done), by repeat (first | exact Drawn0.refl _ | apply Drawn0.step)⟩

end Go.Proofs.YtfmipdhkiahjoaaDoor.B
