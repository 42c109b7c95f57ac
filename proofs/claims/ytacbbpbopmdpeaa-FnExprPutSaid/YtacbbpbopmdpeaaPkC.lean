/- Printed functions of this seat, in one text. -/
import Derived.Test.YtacbbpbopmdpeaaB0
import Derived.Test.YtacbbpbopmdpeaaSq
import Derived.Test.YtacbbpbopmdpeaaPkB
import Derived.Test.YtacbbpbopmdpeaaPkA
namespace Go.Proofs.Ytacbbpbopmdpeaa.B
open Go.RowKit Go.Proofs.YtacbbpbopmdpeaaW.PrintWords Go.Proofs.YtacbbpbopmdpeaaW.PrintLast Go.Proofs.YtacbbpbopmdpeaaW.PrintMore
attribute [local go_sem] max2_int min2_int max_two min_two max_three min_three max_four min_four   -- for this text's walks alone
set_option linter.unusedVariables false
set_option linter.unusedSimpArgs false

/-! ### impl_two: function 102 -/
def impl_two.f (a0 : Int) (a1 : Int) (a2 : Int) : Option (Int) := if a0 = 3 then ((impl_NumAdd.f a1 a2).bind fun t500 => (some t500)) else (if a0 = 4 then ((impl_NumSub.f a1 a2).bind fun t501 => (some t501)) else (if a0 = 5 then ((impl_NumMul.f a1 a2).bind fun t502 => (some t502)) else (if a0 = 6 then ((impl_NumIs.f (decide (a1 < a2))).bind fun t503 => (some t503)) else (if a0 = 7 then ((impl_NumIs.f (a1 == a2)).bind fun t504 => (some t504)) else (if a0 = 8 then ((impl_NumOn.f a1).bind fun t505 => (if t505 = true then ((impl_NumOn.f a2).bind fun t506 => ((impl_NumIs.f t506).bind fun t507 => (some t507))) else ((impl_NumIs.f false).bind fun t508 => (some t508)))) else ((impl_NumOn.f a1).bind fun t509 => (if t509 = true then ((impl_NumIs.f true).bind fun t510 => (some t510)) else ((impl_NumOn.f a2).bind fun t511 => ((impl_NumIs.f t511).bind fun t512 => (some t512))))))))))
set_option maxHeartbeats 8000000 in
set_option maxRecDepth 100000 in
theorem impl_two.calls (a0 : Int) (a1 : Int) (a2 : Int) (r : Int) (w : World) (h : impl_two.f a0 a1 a2 = some r) :
  Calls Try.prog 102 #[.int .i64 a0, .int .i64 a1, .int .i64 a2] w fun e w' => e = .returned (.int .i64 r) ∧ Below w.heap.size w w' := by
 have HB := z0 (Below.refl w.heap.size w)
 have H : (if a0 = 3 then ((impl_NumAdd.f a1 a2).bind fun t500 => (some t500)) else (if a0 = 4 then ((impl_NumSub.f a1 a2).bind fun t501 => (some t501)) else (if a0 = 5 then ((impl_NumMul.f a1 a2).bind fun t502 => (some t502)) else (if a0 = 6 then ((impl_NumIs.f (decide (a1 < a2))).bind fun t503 => (some t503)) else (if a0 = 7 then ((impl_NumIs.f (a1 == a2)).bind fun t504 => (some t504)) else (if a0 = 8 then ((impl_NumOn.f a1).bind fun t505 => (if t505 = true then ((impl_NumOn.f a2).bind fun t506 => ((impl_NumIs.f t506).bind fun t507 => (some t507))) else ((impl_NumIs.f false).bind fun t508 => (some t508)))) else ((impl_NumOn.f a1).bind fun t509 => (if t509 = true then ((impl_NumIs.f true).bind fun t510 => (some t510)) else ((impl_NumOn.f a2).bind fun t511 => ((impl_NumIs.f t511).bind fun t512 => (some t512))))))))))) = some r := h
 clear h
 by_cases c4 : a0 = 3
 ·rw [if_pos c4] at H
  have c4b0 : (a0 == 3) = true := beq_iff_eq.mpr c4
  have c4b1 : (a0 != 3) = false := bne_eq_false_iff_eq.mpr c4
  clear c4
  replace H := Option.bind_eq_some_iff.mp H
  obtain ⟨t500, A50, H⟩ := H
  try dsimp only at H
  have A5 := z0 A50
  clear A50
  obtain rfl := Option.some.inj H
  go_enter Try.func102, Try.ntmps102
  go_wp2_with (first | ((with_reducible refine gate_callee (f := 104) rfl ?_); refine goesL_ (some 12) rfl rfl Try.func104 (by kernel_rfl) rfl #[.int .i64 a1, .int .i64 a2] rfl argx ?_; (with_reducible refine (impl_NumAdd.calls a1 a2 t500 _ A5.out).mono ?_); rintro e w6 ⟨rfl, hb⟩; refine ⟨_, rfl, ?_⟩; have n0_ := z0 (below_step (mB HB.out) hb); clear HB; have HB := n0_; clear n0_; (try clear hb); (try clear hb2); (try clear hk); (try clear hi)))
  go_ret
  exact ⟨rfx, mB HB.out⟩
 ·rw [if_neg c4] at H
  have c4b0 : (a0 == 3) = false := beq_eq_false_iff_ne.mpr c4
  have c4b1 : (a0 != 3) = true := bne_iff_ne.mpr c4
  by_cases c7 : a0 = 4
  ·rw [if_pos c7] at H
   have c7b0 : (a0 == 4) = true := beq_iff_eq.mpr c7
   have c7b1 : (a0 != 4) = false := bne_eq_false_iff_eq.mpr c7
   clear c7
   replace H := Option.bind_eq_some_iff.mp H
   obtain ⟨t501, A80, H⟩ := H
   try dsimp only at H
   have A8 := z0 A80
   clear A80
   obtain rfl := Option.some.inj H
   go_enter Try.func102, Try.ntmps102
   go_wp2_with (first | ((with_reducible refine gate_callee (f := 105) rfl ?_); refine goesL_ (some 17) rfl rfl Try.func105 (by kernel_rfl) rfl #[.int .i64 a1, .int .i64 a2] rfl argx ?_; (with_reducible refine (impl_NumSub.calls a1 a2 t501 _ A8.out).mono ?_); rintro e w9 ⟨rfl, hb⟩; refine ⟨_, rfl, ?_⟩; have n0_ := z0 (below_step (mB HB.out) hb); clear HB; have HB := n0_; clear n0_; (try clear hb); (try clear hb2); (try clear hk); (try clear hi)))
   go_ret
   exact ⟨rfx, mB HB.out⟩
  ·rw [if_neg c7] at H
   have c7b0 : (a0 == 4) = false := beq_eq_false_iff_ne.mpr c7
   have c7b1 : (a0 != 4) = true := bne_iff_ne.mpr c7
   by_cases c10 : a0 = 5
   ·rw [if_pos c10] at H
    have c10b0 : (a0 == 5) = true := beq_iff_eq.mpr c10
    have c10b1 : (a0 != 5) = false := bne_eq_false_iff_eq.mpr c10
    clear c10
    replace H := Option.bind_eq_some_iff.mp H
    obtain ⟨t502, A110, H⟩ := H
    try dsimp only at H
    have A11 := z0 A110
    clear A110
    obtain rfl := Option.some.inj H
    go_enter Try.func102, Try.ntmps102
    go_wp2_with (first | ((with_reducible refine gate_callee (f := 106) rfl ?_); refine goesL_ (some 22) rfl rfl Try.func106 (by kernel_rfl) rfl #[.int .i64 a1, .int .i64 a2] rfl argx ?_; (with_reducible refine (impl_NumMul.calls a1 a2 t502 _ A11.out).mono ?_); rintro e w12 ⟨rfl, hb⟩; refine ⟨_, rfl, ?_⟩; have n0_ := z0 (below_step (mB HB.out) hb); clear HB; have HB := n0_; clear n0_; (try clear hb); (try clear hb2); (try clear hk); (try clear hi)))
    go_ret
    exact ⟨rfx, mB HB.out⟩
   ·rw [if_neg c10] at H
    have c10b0 : (a0 == 5) = false := beq_eq_false_iff_ne.mpr c10
    have c10b1 : (a0 != 5) = true := bne_iff_ne.mpr c10
    by_cases c13 : a0 = 6
    ·rw [if_pos c13] at H
     have c13b0 : (a0 == 6) = true := beq_iff_eq.mpr c13
     have c13b1 : (a0 != 6) = false := bne_eq_false_iff_eq.mpr c13
     clear c13
     replace H := Option.bind_eq_some_iff.mp H
     obtain ⟨t503, A140, H⟩ := H
     try dsimp only at H
     have A14 := z0 A140
     clear A140
     obtain rfl := Option.some.inj H
     go_enter Try.func102, Try.ntmps102
     go_wp2_with (first | ((with_reducible refine gate_callee (f := 107) rfl ?_); refine goesL_ (some 28) rfl rfl Try.func107 (by kernel_rfl) rfl #[.bool (decide (a1 < a2))] rfl argx ?_; (with_reducible refine (impl_NumIs.calls (decide (a1 < a2)) t503 _ A14.out).mono ?_); rintro e w' ⟨rfl, ⟨nd, rfl⟩⟩; refine ⟨_, rfl, ?_⟩))
     go_ret
     exact ⟨rfx, mB HB.out⟩
    ·rw [if_neg c13] at H
     have c13b0 : (a0 == 6) = false := beq_eq_false_iff_ne.mpr c13
     have c13b1 : (a0 != 6) = true := bne_iff_ne.mpr c13
     by_cases c15 : a0 = 7
     ·rw [if_pos c15] at H
      have c15b0 : (a0 == 7) = true := beq_iff_eq.mpr c15
      have c15b1 : (a0 != 7) = false := bne_eq_false_iff_eq.mpr c15
      clear c15
      replace H := Option.bind_eq_some_iff.mp H
      obtain ⟨t504, A160, H⟩ := H
      try dsimp only at H
      have A16 := z0 A160
      clear A160
      obtain rfl := Option.some.inj H
      go_enter Try.func102, Try.ntmps102
      go_wp2_with (first | ((with_reducible refine gate_callee (f := 107) rfl ?_); refine goesL_ (some 34) rfl rfl Try.func107 (by kernel_rfl) rfl #[.bool (a1 == a2)] rfl argx ?_; (with_reducible refine (impl_NumIs.calls (a1 == a2) t504 _ A16.out).mono ?_); rintro e w' ⟨rfl, ⟨nd, rfl⟩⟩; refine ⟨_, rfl, ?_⟩))
      go_ret
      exact ⟨rfx, mB HB.out⟩
     ·rw [if_neg c15] at H
      have c15b0 : (a0 == 7) = false := beq_eq_false_iff_ne.mpr c15
      have c15b1 : (a0 != 7) = true := bne_iff_ne.mpr c15
      by_cases c17 : a0 = 8
      ·rw [if_pos c17] at H
       have c17b0 : (a0 == 8) = true := beq_iff_eq.mpr c17
       have c17b1 : (a0 != 8) = false := bne_eq_false_iff_eq.mpr c17
       clear c17
       replace H := Option.bind_eq_some_iff.mp H
       obtain ⟨t505, A180, H⟩ := H
       try dsimp only at H
       have A18 := z0 A180
       clear A180
       by_cases c19 : t505 = true
       ·subst c19
        have H1 : ((impl_NumOn.f a2).bind fun t506 => ((impl_NumIs.f t506).bind fun t507 => (some t507))) = some r := by rw [if_pos rfl] at H; exact H
        clear H
        have H := H1
        clear H1
        replace H := Option.bind_eq_some_iff.mp H
        obtain ⟨t506, A200, H⟩ := H
        try dsimp only at H
        have A20 := z0 A200
        clear A200
        replace H := Option.bind_eq_some_iff.mp H
        obtain ⟨t507, A210, H⟩ := H
        try dsimp only at H
        have A21 := z0 A210
        clear A210
        obtain rfl := Option.some.inj H
        go_enter Try.func102, Try.ntmps102
        go_wp2_with (first | ((with_reducible refine gate_callee (f := 108) rfl ?_); refine goesL_ (some 38) rfl rfl Try.func108 (by kernel_rfl) rfl #[.int .i64 a1] rfl argx ?_; (with_reducible refine (impl_NumOn.calls a1 true _ A18.out).mono ?_); rintro e w' ⟨rfl, ⟨nd, rfl⟩⟩; refine ⟨_, rfl, ?_⟩) | (go_at_call 108; (with_reducible refine (impl_NumOn.calls a2 t506 _ A20.out).mono ?_); rintro e w' ⟨rfl, ⟨nd, rfl⟩⟩) | ((with_reducible refine gate_callee (f := 107) rfl ?_); refine goesL_ (some 43) rfl rfl Try.func107 (by kernel_rfl) rfl #[.bool t506] rfl argx ?_; (with_reducible refine (impl_NumIs.calls t506 t507 _ A21.out).mono ?_); rintro e w' ⟨rfl, ⟨nd, rfl⟩⟩; refine ⟨_, rfl, ?_⟩))
        go_ret
        exact ⟨rfx, mB HB.out⟩
       ·replace c19 := Bool.eq_false_iff.mpr c19
        subst c19
        have H1 : ((impl_NumIs.f false).bind fun t508 => (some t508)) = some r := by rw [if_neg (show ¬ (false = true) by decide)] at H; exact H
        clear H
        have H := H1
        clear H1
        replace H := Option.bind_eq_some_iff.mp H
        obtain ⟨t508, A220, H⟩ := H
        try dsimp only at H
        have A22 := z0 A220
        clear A220
        obtain rfl := Option.some.inj H
        go_enter Try.func102, Try.ntmps102
        go_wp2_with (first | ((with_reducible refine gate_callee (f := 108) rfl ?_); refine goesL_ (some 38) rfl rfl Try.func108 (by kernel_rfl) rfl #[.int .i64 a1] rfl argx ?_; (with_reducible refine (impl_NumOn.calls a1 false _ A18.out).mono ?_); rintro e w' ⟨rfl, ⟨nd, rfl⟩⟩; refine ⟨_, rfl, ?_⟩) | ((with_reducible refine gate_callee (f := 107) rfl ?_); refine goesL_ (some 43) rfl rfl Try.func107 (by kernel_rfl) rfl #[.bool false] rfl argx ?_; (with_reducible refine (impl_NumIs.calls false t508 _ A22.out).mono ?_); rintro e w' ⟨rfl, ⟨nd, rfl⟩⟩; refine ⟨_, rfl, ?_⟩))
        go_ret
        exact ⟨rfx, mB HB.out⟩
      ·rw [if_neg c17] at H
       have c17b0 : (a0 == 8) = false := beq_eq_false_iff_ne.mpr c17
       have c17b1 : (a0 != 8) = true := bne_iff_ne.mpr c17
       replace H := Option.bind_eq_some_iff.mp H
       obtain ⟨t509, A230, H⟩ := H
       try dsimp only at H
       have A23 := z0 A230
       clear A230
       by_cases c24 : t509 = true
       ·subst c24
        have H1 : ((impl_NumIs.f true).bind fun t510 => (some t510)) = some r := by rw [if_pos rfl] at H; exact H
        clear H
        have H := H1
        clear H1
        replace H := Option.bind_eq_some_iff.mp H
        obtain ⟨t510, A250, H⟩ := H
        try dsimp only at H
        have A25 := z0 A250
        clear A250
        obtain rfl := Option.some.inj H
        go_enter Try.func102, Try.ntmps102
        go_wp2_with (first | ((with_reducible refine gate_callee (f := 108) rfl ?_); refine goesL_ (some 45) rfl rfl Try.func108 (by kernel_rfl) rfl #[.int .i64 a1] rfl argx ?_; (with_reducible refine (impl_NumOn.calls a1 true _ A23.out).mono ?_); rintro e w' ⟨rfl, ⟨nd, rfl⟩⟩; refine ⟨_, rfl, ?_⟩) | ((with_reducible refine gate_callee (f := 107) rfl ?_); refine goesL_ (some 50) rfl rfl Try.func107 (by kernel_rfl) rfl #[.bool true] rfl argx ?_; (with_reducible refine (impl_NumIs.calls true t510 _ A25.out).mono ?_); rintro e w' ⟨rfl, ⟨nd, rfl⟩⟩; refine ⟨_, rfl, ?_⟩))
        go_ret
        exact ⟨rfx, mB HB.out⟩
       ·replace c24 := Bool.eq_false_iff.mpr c24
        subst c24
        have H1 : ((impl_NumOn.f a2).bind fun t511 => ((impl_NumIs.f t511).bind fun t512 => (some t512))) = some r := by rw [if_neg (show ¬ (false = true) by decide)] at H; exact H
        clear H
        have H := H1
        clear H1
        replace H := Option.bind_eq_some_iff.mp H
        obtain ⟨t511, A260, H⟩ := H
        try dsimp only at H
        have A26 := z0 A260
        clear A260
        replace H := Option.bind_eq_some_iff.mp H
        obtain ⟨t512, A270, H⟩ := H
        try dsimp only at H
        have A27 := z0 A270
        clear A270
        obtain rfl := Option.some.inj H
        go_enter Try.func102, Try.ntmps102
        go_wp2_with (first | ((with_reducible refine gate_callee (f := 108) rfl ?_); refine goesL_ (some 45) rfl rfl Try.func108 (by kernel_rfl) rfl #[.int .i64 a1] rfl argx ?_; (with_reducible refine (impl_NumOn.calls a1 false _ A23.out).mono ?_); rintro e w' ⟨rfl, ⟨nd, rfl⟩⟩; refine ⟨_, rfl, ?_⟩) | (go_at_call 108; (with_reducible refine (impl_NumOn.calls a2 t511 _ A26.out).mono ?_); rintro e w' ⟨rfl, ⟨nd, rfl⟩⟩) | ((with_reducible refine gate_callee (f := 107) rfl ?_); refine goesL_ (some 50) rfl rfl Try.func107 (by kernel_rfl) rfl #[.bool t511] rfl argx ?_; (with_reducible refine (impl_NumIs.calls t511 t512 _ A27.out).mono ?_); rintro e w' ⟨rfl, ⟨nd, rfl⟩⟩; refine ⟨_, rfl, ?_⟩))
        go_ret
        exact ⟨rfx, mB HB.out⟩

/-! ### spec_l2List: function 24 -/
def spec_l2List.l0 : Nat → List Int → Int → Option (Bool)
 | 0, _, _ => none
 | k + 1, x0, x3 => if x3 < (x0.length : Int) then (if 0 ≤ x3 then ((spec_NumCut.f (rd x0 x3)).bind fun t355 => (if t355 = (rd x0 x3) then (spec_l2List.l0 k x0 (wrap64 (x3 + 1))) else (some false))) else (none)) else (some ((x0.length : Int) == 6))
def spec_l2List.f (k : Nat) (l0 : List Int) : Option (Bool) := spec_l2List.l0 k l0 0
theorem spec_l2List.mono_l : ∀ k, (∀ y0 y1, LeO (spec_l2List.l0 k y0 y1) (spec_l2List.l0 (k + 1) y0 y1))
 | 0 => fun _ _ r h => by simp [spec_l2List.l0] at h
 | k + 1 => by
  have ih0 := spec_l2List.mono_l k
  ·intro y0 y1
   unfold spec_l2List.l0
   repeat' first
   | (with_reducible exact ih0 _ _)
   | (with_reducible exact LeO.refl _)
   | (with_reducible exact LeO.none _)
   | (with_reducible refine LeO.ite ?_ ?_)
   | (with_reducible refine LeO.bind ?_ (fun _ => ?_))
   | exact ih0 _ _
   | exact LeO.none _
   | refine LeO.ite ?_ ?_
   | refine LeO.bind ?_ (fun _ => ?_)
theorem spec_l2List.mono : ∀ a0 k, LeO (spec_l2List.f k a0) (spec_l2List.f (k + 1) a0) := by
 intro a0 k
 have ih0 := spec_l2List.mono_l k
 unfold spec_l2List.f
 repeat' first
   | (with_reducible exact ih0 _ _)
   | (with_reducible exact LeO.refl _)
   | (with_reducible exact LeO.none _)
   | (with_reducible refine LeO.ite ?_ ?_)
   | (with_reducible refine LeO.bind ?_ (fun _ => ?_))
   | exact ih0 _ _
   | exact LeO.none _
   | refine LeO.ite ?_ ?_
   | refine LeO.bind ?_ (fun _ => ?_)
theorem q24_1 {p : Prop} (h : p := by first | (with_reducible assumption) | assumption) : p := h
set_option maxHeartbeats 8000000 in
set_option maxRecDepth 100000 in
theorem spec_l2List.calls (k : Nat) (A0 : Option Addr) (c0 : Nat) (l0 : List Int) (r : Bool) (w : World) (hr0 : Kd.C (Kd.int .i64) w A0 l0.length l0) (hc0 : l0.length ≤ c0) (h : spec_l2List.f k l0 = some r) :
  Calls Try.prog 24 #[.slice A0 l0.length c0] w fun e w' => e = .returned (.bool r) ∧ Drawn0 w w' := by
 have HR0 := z0 hr0
 have HC0 := z0 hc0
 clear hr0 hc0
 have H : (spec_l2List.l0 k l0 0) = some r := h
 clear h
 have H' := z0 H
 clear H
 go_enter Try.func24, Try.ntmps24
 go_wp2
 repeat (go_quiet (fail); try go_wp2)
 go_loopg [3] k (fun kq v3 w' => ∃ (x3_1 : Int), v3 = .int .i64 x3_1 ∧ Aside0 (spec_l2List.l0 kq l0 x3_1 = some r) ∧ Aside0 (kq ≤ k) ∧ Drawn0 w w')
 case atStart => exact ⟨(0), rfy, H', ⟨Nat.le_refl _⟩, by repeat (first | exact Drawn0.refl _ | apply Drawn0.step)⟩
 case round =>
  clear H'
  obtain ⟨x3_1, rfl, HA, HK1, ⟨m1, rfl⟩⟩ := hrel
  cases gk with
  | zero => exact absurd HA.out (by simp [spec_l2List.l0])
  | succ k1 =>
   have H := HA.out
   clear HA
   simp only [spec_l2List.l0] at H
   by_cases c2 : x3_1 < (l0.length : Int)
   ·rw [if_pos c2] at H
    have c2b0 : decide (x3_1 < (l0.length : Int)) = true := decide_eq_true c2
    clear c2
    by_cases c3 : 0 ≤ x3_1
    ·rw [if_pos c3] at H
     have c3b0 : decide (0 ≤ x3_1) = true := decide_eq_true c3
     clear c3
     replace H := Option.bind_eq_some_iff.mp H
     obtain ⟨t355, A40, H⟩ := H
     try dsimp only at H
     have A4 := z0 A40
     clear A40
     by_cases c5 : t355 = (rd l0 x3_1)
     ·rw [if_pos c5] at H
      have c5b0 : (t355 == (rd l0 x3_1)) = true := beq_iff_eq.mpr c5
      have c5b1 : (t355 != (rd l0 x3_1)) = false := bne_eq_false_iff_eq.mpr c5
      clear c5
      have H' := z0 H
      clear H
      have p354 : 0 ≤ (x3_1 : Int) := of_decide_eq_true q24_1
      have q354 : x3_1 < (l0.length : Int) := of_decide_eq_true q24_1
      obtain ⟨ad354, e354, hx354_0⟩ := Kd.at_int HR0.out x3_1 p354 q354
      cases e354
      replace p354 := eq_true p354
      replace q354 := eq_true q354
      go_wp2_with (first | (go_at_call 43; (with_reducible refine (spec_NumCut.calls (rd l0 x3_1) t355 _ A4.out).mono ?_); rintro e w' ⟨rfl, ⟨nd, rfl⟩⟩; (try first | exact ⟨rfl, _, World.drewN_drewN _ _ _⟩ | exact ⟨rfl, _, Eq.trans (World.drewN_drewN _ _ _) (congrArg (World.drewN _) (Nat.add_assoc _ _ _))⟩); have p356 : 0 ≤ (x3_1 : Int) := of_decide_eq_true q24_1; have q356 : x3_1 < (l0.length : Int) := of_decide_eq_true q24_1; obtain ⟨ad356, e356, hx356_0⟩ := Kd.at_int HR0.out x3_1 p356 q356; obtain rfl : ad354 = ad356 := (by injection e356); replace p356 := eq_true p356; replace q356 := eq_true q356))
      repeat (go_quiet (first | (go_at_call 43; (with_reducible refine (spec_NumCut.calls (rd l0 x3_1) t355 _ A4.out).mono ?_); rintro e w' ⟨rfl, ⟨nd, rfl⟩⟩; (try first | exact ⟨rfl, _, World.drewN_drewN _ _ _⟩ | exact ⟨rfl, _, Eq.trans (World.drewN_drewN _ _ _) (congrArg (World.drewN _) (Nat.add_assoc _ _ _))⟩); have p356 : 0 ≤ (x3_1 : Int) := of_decide_eq_true q24_1; have q356 : x3_1 < (l0.length : Int) := of_decide_eq_true q24_1; obtain ⟨ad356, e356, hx356_0⟩ := Kd.at_int HR0.out x3_1 p356 q356; obtain rfl : ad354 = ad356 := (by injection e356); replace p356 := eq_true p356; replace q356 := eq_true q356)); try go_wp2_with (first | (go_at_call 43; (with_reducible refine (spec_NumCut.calls (rd l0 x3_1) t355 _ A4.out).mono ?_); rintro e w' ⟨rfl, ⟨nd, rfl⟩⟩; (try first | exact ⟨rfl, _, World.drewN_drewN _ _ _⟩ | exact ⟨rfl, _, Eq.trans (World.drewN_drewN _ _ _) (congrArg (World.drewN _) (Nat.add_assoc _ _ _))⟩); have p356 : 0 ≤ (x3_1 : Int) := of_decide_eq_true q24_1; have q356 : x3_1 < (l0.length : Int) := of_decide_eq_true q24_1; obtain ⟨ad356, e356, hx356_0⟩ := Kd.at_int HR0.out x3_1 p356 q356; obtain rfl : ad354 = ad356 := (by injection e356); replace p356 := eq_true p356; replace q356 := eq_true q356)))
      go_roundg k1
      case measure => have := HK1.out; omega
      case rel => exact ⟨(wrap64 (x3_1 + 1)), rfy, H', ⟨by have := HK1.out; omega⟩, by repeat (first | exact Drawn0.refl _ | apply Drawn0.step)⟩
     ·rw [if_neg c5] at H
      have c5b0 : (t355 == (rd l0 x3_1)) = false := beq_eq_false_iff_ne.mpr c5
      have c5b1 : (t355 != (rd l0 x3_1)) = true := bne_iff_ne.mpr c5
      obtain rfl := Option.some.inj H
      have p354 : 0 ≤ (x3_1 : Int) := of_decide_eq_true q24_1
      have q354 : x3_1 < (l0.length : Int) := of_decide_eq_true q24_1
      obtain ⟨ad354, e354, hx354_0⟩ := Kd.at_int HR0.out x3_1 p354 q354
      cases e354
      replace p354 := eq_true p354
      replace q354 := eq_true q354
      go_wp2_with (first | (go_at_call 43; (with_reducible refine (spec_NumCut.calls (rd l0 x3_1) t355 _ A4.out).mono ?_); rintro e w' ⟨rfl, ⟨nd, rfl⟩⟩; (try first | exact ⟨rfl, _, World.drewN_drewN _ _ _⟩ | exact ⟨rfl, _, Eq.trans (World.drewN_drewN _ _ _) (congrArg (World.drewN _) (Nat.add_assoc _ _ _))⟩); have p356 : 0 ≤ (x3_1 : Int) := of_decide_eq_true q24_1; have q356 : x3_1 < (l0.length : Int) := of_decide_eq_true q24_1; obtain ⟨ad356, e356, hx356_0⟩ := Kd.at_int HR0.out x3_1 p356 q356; obtain rfl : ad354 = ad356 := (by injection e356); replace p356 := eq_true p356; replace q356 := eq_true q356))
      repeat (go_quiet (first | (go_at_call 43; (with_reducible refine (spec_NumCut.calls (rd l0 x3_1) t355 _ A4.out).mono ?_); rintro e w' ⟨rfl, ⟨nd, rfl⟩⟩; (try first | exact ⟨rfl, _, World.drewN_drewN _ _ _⟩ | exact ⟨rfl, _, Eq.trans (World.drewN_drewN _ _ _) (congrArg (World.drewN _) (Nat.add_assoc _ _ _))⟩); have p356 : 0 ≤ (x3_1 : Int) := of_decide_eq_true q24_1; have q356 : x3_1 < (l0.length : Int) := of_decide_eq_true q24_1; obtain ⟨ad356, e356, hx356_0⟩ := Kd.at_int HR0.out x3_1 p356 q356; obtain rfl : ad354 = ad356 := (by injection e356); replace p356 := eq_true p356; replace q356 := eq_true q356)); try go_wp2_with (first | (go_at_call 43; (with_reducible refine (spec_NumCut.calls (rd l0 x3_1) t355 _ A4.out).mono ?_); rintro e w' ⟨rfl, ⟨nd, rfl⟩⟩; (try first | exact ⟨rfl, _, World.drewN_drewN _ _ _⟩ | exact ⟨rfl, _, Eq.trans (World.drewN_drewN _ _ _) (congrArg (World.drewN _) (Nat.add_assoc _ _ _))⟩); have p356 : 0 ≤ (x3_1 : Int) := of_decide_eq_true q24_1; have q356 : x3_1 < (l0.length : Int) := of_decide_eq_true q24_1; obtain ⟨ad356, e356, hx356_0⟩ := Kd.at_int HR0.out x3_1 p356 q356; obtain rfl : ad354 = ad356 := (by injection e356); replace p356 := eq_true p356; replace q356 := eq_true q356)))
      go_ret
      exact ⟨by first | rfl | (simp; done) | (simp [*]; done), by repeat (first | exact Drawn0.refl _ | apply Drawn0.step)⟩
    ·rw [if_neg c3] at H
     exact absurd H (by simp)
   ·rw [if_neg c2] at H
    have c2b0 : decide (x3_1 < (l0.length : Int)) = false := decide_eq_false c2
    clear c2
    obtain rfl := Option.some.inj H
    go_wp2
    repeat (go_quiet (fail); try go_wp2)
    go_ret
    exact ⟨by first | rfl | (simp; done) | (simp [*]; done), by repeat (first | exact Drawn0.refl _ | apply Drawn0.step)⟩

/-! ### spec_MemOk: function 9 -/
def spec_MemOk.f (k : Nat) (l0_0 : List Int) (l0_1 : List Int) (l0_2 : List Int) : Option (Bool) := (spec_l2List.f k l0_0).bind fun t358 => (if t358 = true then ((spec_l2List.f k l0_1).bind fun t359 => (if t359 = true then ((spec_l2List.f k l0_2).bind fun t360 => (some t360)) else (some false))) else (some false))
theorem spec_MemOk.mono : ∀ a0 a1 a2 k, LeO (spec_MemOk.f k a0 a1 a2) (spec_MemOk.f (k + 1) a0 a1 a2) := by
 intro a0 a1 a2 k
 unfold spec_MemOk.f
 repeat' first
   | (with_reducible exact spec_l2List.mono _ _)
   | (with_reducible exact LeO.refl _)
   | (with_reducible exact LeO.none _)
   | (with_reducible refine LeO.ite ?_ ?_)
   | (with_reducible refine LeO.bind ?_ (fun _ => ?_))
   | exact spec_l2List.mono _ _
   | exact LeO.none _
   | refine LeO.ite ?_ ?_
   | refine LeO.bind ?_ (fun _ => ?_)
set_option maxHeartbeats 8000000 in
set_option maxRecDepth 100000 in
theorem spec_MemOk.calls (k : Nat) (A0_0 : Option Addr) (c0_0 : Nat) (l0_0 : List Int) (A0_1 : Option Addr) (c0_1 : Nat) (l0_1 : List Int) (A0_2 : Option Addr) (c0_2 : Nat) (l0_2 : List Int) (r : Bool) (w : World) (hr0_0 : Kd.C (Kd.int .i64) w A0_0 l0_0.length l0_0) (hc0_0 : l0_0.length ≤ c0_0) (hr0_1 : Kd.C (Kd.int .i64) w A0_1 l0_1.length l0_1) (hc0_1 : l0_1.length ≤ c0_1) (hr0_2 : Kd.C (Kd.int .i64) w A0_2 l0_2.length l0_2) (hc0_2 : l0_2.length ≤ c0_2) (h : spec_MemOk.f k l0_0 l0_1 l0_2 = some r) :
  Calls Try.prog 9 #[.agg #[.slice A0_0 l0_0.length c0_0, .slice A0_1 l0_1.length c0_1, .slice A0_2 l0_2.length c0_2]] w fun e w' => e = .returned (.bool r) ∧ Below w.heap.size w w' := by
 have hu30 := Try.underlying30
 have HR0_0 := z0 hr0_0
 have HC0_0 := z0 hc0_0
 clear hr0_0 hc0_0
 have HR0_1 := z0 hr0_1
 have HC0_1 := z0 hc0_1
 clear hr0_1 hc0_1
 have HR0_2 := z0 hr0_2
 have HC0_2 := z0 hc0_2
 clear hr0_2 hc0_2
 have HB := z0 (Below.refl w.heap.size w)
 have H : ((spec_l2List.f k l0_0).bind fun t358 => (if t358 = true then ((spec_l2List.f k l0_1).bind fun t359 => (if t359 = true then ((spec_l2List.f k l0_2).bind fun t360 => (some t360)) else (some false))) else (some false))) = some r := h
 clear h
 have HF2 := z0 H
 clear H
 go_enter Try.func9, Try.ntmps9
 go_upto_region 1 with (first | ((with_reducible refine gate_dst (N := 1) rfl ?_); refine box_event ?hg (N := 1) ?hd (cs := #[.slice A0_0 l0_0.length c0_0, .slice A0_1 l0_1.length c0_1, .slice A0_2 l0_2.length c0_2]) (t := 30) ?hr ?_; (case hd => rfl); (case hg => rfl); (case hr => first | (go_simp; done) | (go_simp; rfl)); intro gb357 hg w3 hbox hb; have n_ := az (below_step (mB HB.out) hb) <| az (hbox) <| az ((by rw [hg]; exact (below_size (mB HB.out)) : w.heap.size ≤ gb357)) <| z0 ((by rw [hg]; exact (below_size (mB HB.out)) : w.heap.size ≤ gb357)); clear HB; obtain ⟨HB, BK357, GW357, GE357⟩ := n_; clear hb hbox hg))
 (try simp only [Act.put, List.setIfInBounds_toArray, List.set_cons_zero, List.set_cons_succ])
 have H := HF2.out
 clear HF2
 replace H := Option.bind_eq_some_iff.mp H
 obtain ⟨t358, A40, H⟩ := H
 try dsimp only at H
 have A4 := z0 A40
 clear A40
 by_cases c5 : t358 = true
 ·subst c5
  have H1 : ((spec_l2List.f k l0_1).bind fun t359 => (if t359 = true then ((spec_l2List.f k l0_2).bind fun t360 => (some t360)) else (some false))) = some r := by rw [if_pos rfl] at H; exact H
  clear H
  have H := H1
  clear H1
  replace H := Option.bind_eq_some_iff.mp H
  obtain ⟨t359, A60, H⟩ := H
  try dsimp only at H
  have A6 := z0 A60
  clear A60
  by_cases c7 : t359 = true
  ·subst c7
   have H1 : ((spec_l2List.f k l0_2).bind fun t360 => (some t360)) = some r := by rw [if_pos rfl] at H; exact H
   clear H
   have H := H1
   clear H1
   replace H := Option.bind_eq_some_iff.mp H
   obtain ⟨t360, A80, H⟩ := H
   try dsimp only at H
   have A8 := z0 A80
   clear A80
   obtain rfl := Option.some.inj H
   obtain ⟨hcz9_0, hcz9_1, hcz9_2, hfz9_0, hfz9_1, hfz9_2⟩ := cel3 BK357.out
   go_wp2_with (first | ((with_reducible refine gate_callee (f := 24) rfl ?_); refine goesL_ (some 5) rfl rfl Try.func24 (by kernel_rfl) rfl #[.slice A0_0 l0_0.length c0_0] rfl argx ?_; (with_reducible refine (spec_l2List.calls k _ _ l0_0 true _ ?side1 ?side2 A4.out).mono ?_); (case side1 => exact mC (Kd.C_below HR0_0.out HB.out)); (case side2 => exact HC0_0.out); rintro e w' ⟨rfl, ⟨nd, rfl⟩⟩; refine ⟨_, rfl, ?_⟩) | (go_at_call 24; (with_reducible refine (spec_l2List.calls k _ _ l0_1 true _ ?side1 ?side2 A6.out).mono ?_); (case side1 => exact mC (Kd.C_below HR0_1.out (mB HB.out))); (case side2 => exact HC0_1.out); rintro e w' ⟨rfl, ⟨nd, rfl⟩⟩) | (go_at_call 24; (with_reducible refine (spec_l2List.calls k _ _ l0_2 t360 _ ?side1 ?side2 A8.out).mono ?_); (case side1 => exact mC (Kd.C_below HR0_2.out (mB HB.out))); (case side2 => exact HC0_2.out); rintro e w' ⟨rfl, ⟨nd, rfl⟩⟩))
   go_ret
   exact ⟨rfx, mB HB.out⟩
  ·replace c7 := Bool.eq_false_iff.mpr c7
   subst c7
   have H1 : (some false) = some r := by rw [if_neg (show ¬ (false = true) by decide)] at H; exact H
   clear H
   have H := H1
   clear H1
   obtain rfl := Option.some.inj H
   obtain ⟨hcz10_0, hcz10_1, hcz10_2, hfz10_0, hfz10_1, hfz10_2⟩ := cel3 BK357.out
   go_wp2_with (first | ((with_reducible refine gate_callee (f := 24) rfl ?_); refine goesL_ (some 5) rfl rfl Try.func24 (by kernel_rfl) rfl #[.slice A0_0 l0_0.length c0_0] rfl argx ?_; (with_reducible refine (spec_l2List.calls k _ _ l0_0 true _ ?side1 ?side2 A4.out).mono ?_); (case side1 => exact mC (Kd.C_below HR0_0.out HB.out)); (case side2 => exact HC0_0.out); rintro e w' ⟨rfl, ⟨nd, rfl⟩⟩; refine ⟨_, rfl, ?_⟩) | (go_at_call 24; (with_reducible refine (spec_l2List.calls k _ _ l0_1 false _ ?side1 ?side2 A6.out).mono ?_); (case side1 => exact mC (Kd.C_below HR0_1.out (mB HB.out))); (case side2 => exact HC0_1.out); rintro e w' ⟨rfl, ⟨nd, rfl⟩⟩))
   go_ret
   exact ⟨rfx, mB HB.out⟩
 ·replace c5 := Bool.eq_false_iff.mpr c5
  subst c5
  have H1 : (some false) = some r := by rw [if_neg (show ¬ (false = true) by decide)] at H; exact H
  clear H
  have H := H1
  clear H1
  obtain rfl := Option.some.inj H
  obtain ⟨hcz11_0, hcz11_1, hcz11_2, hfz11_0, hfz11_1, hfz11_2⟩ := cel3 BK357.out
  go_wp2_with (first | ((with_reducible refine gate_callee (f := 24) rfl ?_); refine goesL_ (some 5) rfl rfl Try.func24 (by kernel_rfl) rfl #[.slice A0_0 l0_0.length c0_0] rfl argx ?_; (with_reducible refine (spec_l2List.calls k _ _ l0_0 false _ ?side1 ?side2 A4.out).mono ?_); (case side1 => exact mC (Kd.C_below HR0_0.out HB.out)); (case side2 => exact HC0_0.out); rintro e w' ⟨rfl, ⟨nd, rfl⟩⟩; refine ⟨_, rfl, ?_⟩))
  go_ret
  exact ⟨rfx, mB HB.out⟩

/-! ### spec_l2Get: function 38 -/
def spec_l2Get.f (l0_0 : List Int) (l0_1 : List Int) (l0_2 : List Int) (a1_0 : Int) (a1_1 : Int) : Option (Int) := if a1_0 = 1 then (if 0 ≤ a1_1 then (if a1_1 < (l0_0.length : Int) then (some (rd l0_0 a1_1)) else (none)) else (none)) else (if a1_0 = 2 then (if 0 ≤ a1_1 then (if a1_1 < (l0_1.length : Int) then (some (rd l0_1 a1_1)) else (none)) else (none)) else (if 0 ≤ a1_1 then (if a1_1 < (l0_2.length : Int) then (some (rd l0_2 a1_1)) else (none)) else (none)))
set_option maxHeartbeats 8000000 in
set_option maxRecDepth 100000 in
theorem spec_l2Get.calls (A0_0 : Option Addr) (c0_0 : Nat) (l0_0 : List Int) (A0_1 : Option Addr) (c0_1 : Nat) (l0_1 : List Int) (A0_2 : Option Addr) (c0_2 : Nat) (l0_2 : List Int) (a1_0 : Int) (a1_1 : Int) (r : Int) (w : World) (hr0_0 : Kd.C (Kd.int .i64) w A0_0 l0_0.length l0_0) (hc0_0 : l0_0.length ≤ c0_0) (hr0_1 : Kd.C (Kd.int .i64) w A0_1 l0_1.length l0_1) (hc0_1 : l0_1.length ≤ c0_1) (hr0_2 : Kd.C (Kd.int .i64) w A0_2 l0_2.length l0_2) (hc0_2 : l0_2.length ≤ c0_2) (h : spec_l2Get.f l0_0 l0_1 l0_2 a1_0 a1_1 = some r) :
  Calls Try.prog 38 #[.agg #[.slice A0_0 l0_0.length c0_0, .slice A0_1 l0_1.length c0_1, .slice A0_2 l0_2.length c0_2], .agg #[.int .i64 a1_0, .int .i64 a1_1]] w fun e w' => e = .returned (.int .i64 r) ∧ Below w.heap.size w w' := by
 have hu30 := Try.underlying30
 have hu24 := Try.underlying24
 have HR0_0 := z0 hr0_0
 have HC0_0 := z0 hc0_0
 clear hr0_0 hc0_0
 have HR0_1 := z0 hr0_1
 have HC0_1 := z0 hc0_1
 clear hr0_1 hc0_1
 have HR0_2 := z0 hr0_2
 have HC0_2 := z0 hc0_2
 clear hr0_2 hc0_2
 have HB := z0 (Below.refl w.heap.size w)
 have H : (if a1_0 = 1 then (if 0 ≤ a1_1 then (if a1_1 < (l0_0.length : Int) then (some (rd l0_0 a1_1)) else (none)) else (none)) else (if a1_0 = 2 then (if 0 ≤ a1_1 then (if a1_1 < (l0_1.length : Int) then (some (rd l0_1 a1_1)) else (none)) else (none)) else (if 0 ≤ a1_1 then (if a1_1 < (l0_2.length : Int) then (some (rd l0_2 a1_1)) else (none)) else (none)))) = some r := h
 clear h
 have HF3 := z0 H
 clear H
 go_enter Try.func38, Try.ntmps38
 go_upto_if 7 with (first | ((with_reducible refine gate_dst (N := 2) rfl ?_); refine box_event ?hg (N := 2) ?hd (cs := #[.slice A0_0 l0_0.length c0_0, .slice A0_1 l0_1.length c0_1, .slice A0_2 l0_2.length c0_2]) (t := 30) ?hr ?_; (case hd => rfl); (case hg => rfl); (case hr => first | (go_simp; done) | (go_simp; rfl)); intro gb361 hg w4 hbox hb; have n_ := az (below_step (mB HB.out) hb) <| az (hbox) <| az ((by rw [hg]; exact (below_size (mB HB.out)) : w.heap.size ≤ gb361)) <| z0 ((by rw [hg]; exact (below_size (mB HB.out)) : w.heap.size ≤ gb361)); clear HB; obtain ⟨HB, BK361, GW361, GE361⟩ := n_; clear hb hbox hg) | ((with_reducible refine gate_dst (N := 3) rfl ?_); refine box_event ?hg (N := 3) ?hd (cs := #[.int .i64 a1_0, .int .i64 a1_1]) (t := 24) ?hr ?_; (case hd => rfl); (case hg => rfl); (case hr => first | (go_simp; done) | (go_simp; rfl)); intro gb362 hg w5 hbox hb; have n_ := az (bB BK361.out hb) <| az (below_step (mB HB.out) hb) <| az (hbox) <| az ((by rw [hg]; exact (below_size (mB HB.out)) : w.heap.size ≤ gb362)) <| az ((by rw [hg]; exact (below_size (mB HB.out)) : w.heap.size ≤ gb362)) <| az ((nL hg BK361.out)) <| z0 ((nG hg BK361.out)); clear BK361 HB; obtain ⟨BK361, HB, BK362, GW362, GE362, NB361_362, NB362_361⟩ := n_; clear hb hbox hg; have hnb6 := NB362_361.out; have hnc6 := NB361_362.out; obtain ⟨hcz7_0, hcz7_1, hfz7_0, hfz7_1⟩ := cel2 BK362.out))
 (try simp only [Act.put, List.setIfInBounds_toArray, List.set_cons_zero, List.set_cons_succ])
 have H := HF3.out
 clear HF3
 (try clear hcz7_0); (try clear hcz7_1); (try clear hfz7_0); (try clear hfz7_1)
 by_cases c8 : a1_0 = 1
 ·rw [if_pos c8] at H
  have c8b0 : (a1_0 == 1) = true := beq_iff_eq.mpr c8
  have c8b1 : (a1_0 != 1) = false := bne_eq_false_iff_eq.mpr c8
  clear c8
  (first | rw [c8b0] | (simp only [i64_w, i32_w]; rw [c8b0]) | skip)
  by_cases c9 : 0 ≤ a1_1
  ·rw [if_pos c9] at H
   have c9b0 : decide (0 ≤ a1_1) = true := decide_eq_true c9
   clear c9
   by_cases c10 : a1_1 < (l0_0.length : Int)
   ·rw [if_pos c10] at H
    have c10b0 : decide (a1_1 < (l0_0.length : Int)) = true := decide_eq_true c10
    clear c10
    obtain rfl := Option.some.inj H
    have hnb11 := NB361_362.out
    have hnc11 := NB362_361.out
    obtain ⟨hcz12_0, hcz12_1, hcz12_2, hfz12_0, hfz12_1, hfz12_2⟩ := cel3 BK361.out
    obtain ⟨hcz13_0, hcz13_1, hfz13_0, hfz13_1⟩ := cel2 BK362.out
    have p363 : 0 ≤ (a1_1 : Int) := of_decide_eq_true (by first | (with_reducible assumption) | assumption)
    have q363 : a1_1 < (l0_0.length : Int) := of_decide_eq_true (by first | (with_reducible assumption) | assumption)
    obtain ⟨ad363, e363, hx363_0⟩ := Kd.at_int HR0_0.out a1_1 p363 q363
    cases e363
    replace hx363_0 := (HB.out.cell (World.block_lt_of_cell? w _ hx363_0)).trans hx363_0
    replace p363 := eq_true p363
    replace q363 := eq_true q363
    go_wp2
    go_ret
    exact ⟨rfx, mB HB.out⟩
   ·rw [if_neg c10] at H
    exact absurd H (by simp)
  ·rw [if_neg c9] at H
   exact absurd H (by simp)
 ·rw [if_neg c8] at H
  have c8b0 : (a1_0 == 1) = false := beq_eq_false_iff_ne.mpr c8
  have c8b1 : (a1_0 != 1) = true := bne_iff_ne.mpr c8
  (first | rw [c8b0] | (simp only [i64_w, i32_w]; rw [c8b0]) | skip)
  by_cases c14 : a1_0 = 2
  ·rw [if_pos c14] at H
   have c14b0 : (a1_0 == 2) = true := beq_iff_eq.mpr c14
   have c14b1 : (a1_0 != 2) = false := bne_eq_false_iff_eq.mpr c14
   clear c14
   by_cases c15 : 0 ≤ a1_1
   ·rw [if_pos c15] at H
    have c15b0 : decide (0 ≤ a1_1) = true := decide_eq_true c15
    clear c15
    by_cases c16 : a1_1 < (l0_1.length : Int)
    ·rw [if_pos c16] at H
     have c16b0 : decide (a1_1 < (l0_1.length : Int)) = true := decide_eq_true c16
     clear c16
     obtain rfl := Option.some.inj H
     have hnb17 := NB361_362.out
     have hnc17 := NB362_361.out
     obtain ⟨hcz18_0, hcz18_1, hcz18_2, hfz18_0, hfz18_1, hfz18_2⟩ := cel3 BK361.out
     obtain ⟨hcz19_0, hcz19_1, hfz19_0, hfz19_1⟩ := cel2 BK362.out
     have p364 : 0 ≤ (a1_1 : Int) := of_decide_eq_true (by first | (with_reducible assumption) | assumption)
     have q364 : a1_1 < (l0_1.length : Int) := of_decide_eq_true (by first | (with_reducible assumption) | assumption)
     obtain ⟨ad364, e364, hx364_0⟩ := Kd.at_int HR0_1.out a1_1 p364 q364
     cases e364
     replace hx364_0 := (HB.out.cell (World.block_lt_of_cell? w _ hx364_0)).trans hx364_0
     replace p364 := eq_true p364
     replace q364 := eq_true q364
     go_wp2
     go_ret
     exact ⟨rfx, mB HB.out⟩
    ·rw [if_neg c16] at H
     exact absurd H (by simp)
   ·rw [if_neg c15] at H
    exact absurd H (by simp)
  ·rw [if_neg c14] at H
   have c14b0 : (a1_0 == 2) = false := beq_eq_false_iff_ne.mpr c14
   have c14b1 : (a1_0 != 2) = true := bne_iff_ne.mpr c14
   by_cases c20 : 0 ≤ a1_1
   ·rw [if_pos c20] at H
    have c20b0 : decide (0 ≤ a1_1) = true := decide_eq_true c20
    clear c20
    by_cases c21 : a1_1 < (l0_2.length : Int)
    ·rw [if_pos c21] at H
     have c21b0 : decide (a1_1 < (l0_2.length : Int)) = true := decide_eq_true c21
     clear c21
     obtain rfl := Option.some.inj H
     have hnb22 := NB361_362.out
     have hnc22 := NB362_361.out
     obtain ⟨hcz23_0, hcz23_1, hcz23_2, hfz23_0, hfz23_1, hfz23_2⟩ := cel3 BK361.out
     obtain ⟨hcz24_0, hcz24_1, hfz24_0, hfz24_1⟩ := cel2 BK362.out
     have p365 : 0 ≤ (a1_1 : Int) := of_decide_eq_true (by first | (with_reducible assumption) | assumption)
     have q365 : a1_1 < (l0_2.length : Int) := of_decide_eq_true (by first | (with_reducible assumption) | assumption)
     obtain ⟨ad365, e365, hx365_0⟩ := Kd.at_int HR0_2.out a1_1 p365 q365
     cases e365
     replace hx365_0 := (HB.out.cell (World.block_lt_of_cell? w _ hx365_0)).trans hx365_0
     replace p365 := eq_true p365
     replace q365 := eq_true q365
     go_wp2
     go_ret
     exact ⟨rfx, mB HB.out⟩
    ·rw [if_neg c21] at H
     exact absurd H (by simp)
   ·rw [if_neg c20] at H
    exact absurd H (by simp)

/-! ### spec_NumIs: function 39 -/
def spec_NumIs.f (a0 : Bool) : Option (Int) := if a0 = true then (some 1) else (some 0)
set_option maxHeartbeats 8000000 in
set_option maxRecDepth 100000 in
theorem spec_NumIs.calls (a0 : Bool) (r : Int) (w : World) (h : spec_NumIs.f a0 = some r) :
  Calls Try.prog 39 #[.bool a0] w fun e w' => e = .returned (.int .i64 r) ∧ Drawn0 w w' := by
 have H : (if a0 = true then (some 1) else (some 0)) = some r := h
 clear h
 by_cases c2 : a0 = true
 ·subst c2
  have H1 : (some 1) = some r := by rw [if_pos rfl] at H; exact H
  clear H
  have H := H1
  clear H1
  obtain rfl := Option.some.inj H
  go_enter Try.func39, Try.ntmps39
  go_wp2
  go_ret
  exact ⟨by first | rfl | (simp; done) | (simp [*]; done), by repeat (first | exact Drawn0.refl _ | apply Drawn0.step)⟩
 ·replace c2 := Bool.eq_false_iff.mpr c2
  subst c2
  have H1 : (some 0) = some r := by rw [if_neg (show ¬ (false = true) by decide)] at H; exact H
  clear H
  have H := H1
  clear H1
  obtain rfl := Option.some.inj H
  go_enter Try.func39, Try.ntmps39
  go_wp2
  go_ret
  exact ⟨by first | rfl | (simp; done) | (simp [*]; done), by repeat (first | exact Drawn0.refl _ | apply Drawn0.step)⟩

/-! ### spec_NumOn: function 40 -/
def spec_NumOn.f (a0 : Int) : Option (Bool) := some (a0 != 0)
set_option maxHeartbeats 8000000 in
set_option maxRecDepth 100000 in
theorem spec_NumOn.calls (a0 : Int) (r : Bool) (w : World) (h : spec_NumOn.f a0 = some r) :
  Calls Try.prog 40 #[.int .i64 a0] w fun e w' => e = .returned (.bool r) ∧ Drawn0 w w' := by
 have H : (some (a0 != 0)) = some r := h
 clear h
 obtain rfl := Option.some.inj H
 go_enter Try.func40, Try.ntmps40
 go_wp2
 go_ret
 exact ⟨by first | rfl | (simp; done) | (simp [*]; done), by repeat (first | exact Drawn0.refl _ | apply Drawn0.step)⟩

/-! ### spec_NumAdd: function 52 -/
def spec_NumAdd.f (a0 : Int) (a1 : Int) : Option (Int) := (spec_NumCut.f a0).bind fun t366 => ((spec_NumCut.f a1).bind fun t367 => ((spec_NumCut.f (wrap64 (t366 + t367))).bind fun t368 => (some t368)))
set_option maxHeartbeats 8000000 in
set_option maxRecDepth 100000 in
theorem spec_NumAdd.calls (a0 : Int) (a1 : Int) (r : Int) (w : World) (h : spec_NumAdd.f a0 a1 = some r) :
  Calls Try.prog 52 #[.int .i64 a0, .int .i64 a1] w fun e w' => e = .returned (.int .i64 r) ∧ Drawn0 w w' := by
 have H : ((spec_NumCut.f a0).bind fun t366 => ((spec_NumCut.f a1).bind fun t367 => ((spec_NumCut.f (wrap64 (t366 + t367))).bind fun t368 => (some t368)))) = some r := h
 clear h
 replace H := Option.bind_eq_some_iff.mp H
 obtain ⟨t366, A30, H⟩ := H
 try dsimp only at H
 have A3 := z0 A30
 clear A30
 replace H := Option.bind_eq_some_iff.mp H
 obtain ⟨t367, A40, H⟩ := H
 try dsimp only at H
 have A4 := z0 A40
 clear A40
 replace H := Option.bind_eq_some_iff.mp H
 obtain ⟨t368, A50, H⟩ := H
 try dsimp only at H
 have A5 := z0 A50
 clear A50
 obtain rfl := Option.some.inj H
 go_enter Try.func52, Try.ntmps52
 go_wp2_with (first | ((with_reducible refine gate_callee (f := 43) rfl ?_); refine goesL_ (some 6) rfl rfl Try.func43 (by kernel_rfl) rfl #[.int .i64 a0] rfl argx ?_; (with_reducible refine (spec_NumCut.calls a0 t366 _ A3.out).mono ?_); rintro e w' ⟨rfl, ⟨nd, rfl⟩⟩; refine ⟨_, rfl, ?_⟩) | ((with_reducible refine gate_callee (f := 43) rfl ?_); refine goesL_ (some 8) rfl rfl Try.func43 (by kernel_rfl) rfl #[.int .i64 a1] rfl argx ?_; (with_reducible refine (spec_NumCut.calls a1 t367 _ A4.out).mono ?_); rintro e w' ⟨rfl, ⟨nd, rfl⟩⟩; refine ⟨_, rfl, ?_⟩) | ((with_reducible refine gate_callee (f := 43) rfl ?_); refine goesL_ (some 10) rfl rfl Try.func43 (by kernel_rfl) rfl #[.int .i64 (wrap64 (t366 + t367))] rfl argx ?_; (with_reducible refine (spec_NumCut.calls (wrap64 (t366 + t367)) t368 _ A5.out).mono ?_); rintro e w' ⟨rfl, ⟨nd, rfl⟩⟩; refine ⟨_, rfl, ?_⟩))
 go_ret
 exact ⟨by first | rfl | (simp; done) | (simp [*]; done), by repeat (first | exact Drawn0.refl _ | apply Drawn0.step)⟩

/-! ### spec_NumSub: function 53 -/
def spec_NumSub.f (a0 : Int) (a1 : Int) : Option (Int) := (spec_NumCut.f a0).bind fun t369 => ((spec_NumCut.f a1).bind fun t370 => ((spec_NumCut.f (wrap64 (t369 - t370))).bind fun t371 => (some t371)))
set_option maxHeartbeats 8000000 in
set_option maxRecDepth 100000 in
theorem spec_NumSub.calls (a0 : Int) (a1 : Int) (r : Int) (w : World) (h : spec_NumSub.f a0 a1 = some r) :
  Calls Try.prog 53 #[.int .i64 a0, .int .i64 a1] w fun e w' => e = .returned (.int .i64 r) ∧ Drawn0 w w' := by
 have H : ((spec_NumCut.f a0).bind fun t369 => ((spec_NumCut.f a1).bind fun t370 => ((spec_NumCut.f (wrap64 (t369 - t370))).bind fun t371 => (some t371)))) = some r := h
 clear h
 replace H := Option.bind_eq_some_iff.mp H
 obtain ⟨t369, A30, H⟩ := H
 try dsimp only at H
 have A3 := z0 A30
 clear A30
 replace H := Option.bind_eq_some_iff.mp H
 obtain ⟨t370, A40, H⟩ := H
 try dsimp only at H
 have A4 := z0 A40
 clear A40
 replace H := Option.bind_eq_some_iff.mp H
 obtain ⟨t371, A50, H⟩ := H
 try dsimp only at H
 have A5 := z0 A50
 clear A50
 obtain rfl := Option.some.inj H
 go_enter Try.func53, Try.ntmps53
 go_wp2_with (first | ((with_reducible refine gate_callee (f := 43) rfl ?_); refine goesL_ (some 6) rfl rfl Try.func43 (by kernel_rfl) rfl #[.int .i64 a0] rfl argx ?_; (with_reducible refine (spec_NumCut.calls a0 t369 _ A3.out).mono ?_); rintro e w' ⟨rfl, ⟨nd, rfl⟩⟩; refine ⟨_, rfl, ?_⟩) | ((with_reducible refine gate_callee (f := 43) rfl ?_); refine goesL_ (some 8) rfl rfl Try.func43 (by kernel_rfl) rfl #[.int .i64 a1] rfl argx ?_; (with_reducible refine (spec_NumCut.calls a1 t370 _ A4.out).mono ?_); rintro e w' ⟨rfl, ⟨nd, rfl⟩⟩; refine ⟨_, rfl, ?_⟩) | ((with_reducible refine gate_callee (f := 43) rfl ?_); refine goesL_ (some 10) rfl rfl Try.func43 (by kernel_rfl) rfl #[.int .i64 (wrap64 (t369 - t370))] rfl argx ?_; (with_reducible refine (spec_NumCut.calls (wrap64 (t369 - t370)) t371 _ A5.out).mono ?_); rintro e w' ⟨rfl, ⟨nd, rfl⟩⟩; refine ⟨_, rfl, ?_⟩))
 go_ret
 exact ⟨by first | rfl | (simp; done) | (simp [*]; done), by repeat (first | exact Drawn0.refl _ | apply Drawn0.step)⟩

/-! ### spec_NumMul: function 54 -/
def spec_NumMul.f (a0 : Int) (a1 : Int) : Option (Int) := (spec_NumCut.f a0).bind fun t372 => ((spec_NumCut.f a1).bind fun t373 => ((spec_NumCut.f (wrap64 (t372 * t373))).bind fun t374 => (some t374)))
set_option maxHeartbeats 8000000 in
set_option maxRecDepth 100000 in
theorem spec_NumMul.calls (a0 : Int) (a1 : Int) (r : Int) (w : World) (h : spec_NumMul.f a0 a1 = some r) :
  Calls Try.prog 54 #[.int .i64 a0, .int .i64 a1] w fun e w' => e = .returned (.int .i64 r) ∧ Drawn0 w w' := by
 have H : ((spec_NumCut.f a0).bind fun t372 => ((spec_NumCut.f a1).bind fun t373 => ((spec_NumCut.f (wrap64 (t372 * t373))).bind fun t374 => (some t374)))) = some r := h
 clear h
 replace H := Option.bind_eq_some_iff.mp H
 obtain ⟨t372, A30, H⟩ := H
 try dsimp only at H
 have A3 := z0 A30
 clear A30
 replace H := Option.bind_eq_some_iff.mp H
 obtain ⟨t373, A40, H⟩ := H
 try dsimp only at H
 have A4 := z0 A40
 clear A40
 replace H := Option.bind_eq_some_iff.mp H
 obtain ⟨t374, A50, H⟩ := H
 try dsimp only at H
 have A5 := z0 A50
 clear A50
 obtain rfl := Option.some.inj H
 go_enter Try.func54, Try.ntmps54
 go_wp2_with (first | ((with_reducible refine gate_callee (f := 43) rfl ?_); refine goesL_ (some 6) rfl rfl Try.func43 (by kernel_rfl) rfl #[.int .i64 a0] rfl argx ?_; (with_reducible refine (spec_NumCut.calls a0 t372 _ A3.out).mono ?_); rintro e w' ⟨rfl, ⟨nd, rfl⟩⟩; refine ⟨_, rfl, ?_⟩) | ((with_reducible refine gate_callee (f := 43) rfl ?_); refine goesL_ (some 8) rfl rfl Try.func43 (by kernel_rfl) rfl #[.int .i64 a1] rfl argx ?_; (with_reducible refine (spec_NumCut.calls a1 t373 _ A4.out).mono ?_); rintro e w' ⟨rfl, ⟨nd, rfl⟩⟩; refine ⟨_, rfl, ?_⟩) | ((with_reducible refine gate_callee (f := 43) rfl ?_); refine goesL_ (some 10) rfl rfl Try.func43 (by kernel_rfl) rfl #[.int .i64 (wrap64 (t372 * t373))] rfl argx ?_; (with_reducible refine (spec_NumCut.calls (wrap64 (t372 * t373)) t374 _ A5.out).mono ?_); rintro e w' ⟨rfl, ⟨nd, rfl⟩⟩; refine ⟨_, rfl, ?_⟩))
 go_ret
 exact ⟨by first | rfl | (simp; done) | (simp [*]; done), by repeat (first | exact Drawn0.refl _ | apply Drawn0.step)⟩

/-! ### spec_l3Two: function 41 -/
def spec_l3Two.f (a0 : Int) (a1 : Int) (a2 : Int) : Option (Int) := if a0 = 3 then ((spec_NumAdd.f a1 a2).bind fun t375 => (some t375)) else (if a0 = 4 then ((spec_NumSub.f a1 a2).bind fun t376 => (some t376)) else (if a0 = 5 then ((spec_NumMul.f a1 a2).bind fun t377 => (some t377)) else (if a0 = 6 then ((spec_NumIs.f (decide (a1 < a2))).bind fun t378 => (some t378)) else (if a0 = 7 then ((spec_NumIs.f (a1 == a2)).bind fun t379 => (some t379)) else (if a0 = 8 then ((spec_NumOn.f a1).bind fun t380 => (if t380 = true then ((spec_NumOn.f a2).bind fun t381 => ((spec_NumIs.f t381).bind fun t382 => (some t382))) else ((spec_NumIs.f false).bind fun t383 => (some t383)))) else ((spec_NumOn.f a1).bind fun t384 => (if t384 = true then ((spec_NumIs.f true).bind fun t385 => (some t385)) else ((spec_NumOn.f a2).bind fun t386 => ((spec_NumIs.f t386).bind fun t387 => (some t387))))))))))
set_option maxHeartbeats 8000000 in
set_option maxRecDepth 100000 in
theorem spec_l3Two.calls (a0 : Int) (a1 : Int) (a2 : Int) (r : Int) (w : World) (h : spec_l3Two.f a0 a1 a2 = some r) :
  Calls Try.prog 41 #[.int .i64 a0, .int .i64 a1, .int .i64 a2] w fun e w' => e = .returned (.int .i64 r) ∧ Drawn0 w w' := by
 have H : (if a0 = 3 then ((spec_NumAdd.f a1 a2).bind fun t375 => (some t375)) else (if a0 = 4 then ((spec_NumSub.f a1 a2).bind fun t376 => (some t376)) else (if a0 = 5 then ((spec_NumMul.f a1 a2).bind fun t377 => (some t377)) else (if a0 = 6 then ((spec_NumIs.f (decide (a1 < a2))).bind fun t378 => (some t378)) else (if a0 = 7 then ((spec_NumIs.f (a1 == a2)).bind fun t379 => (some t379)) else (if a0 = 8 then ((spec_NumOn.f a1).bind fun t380 => (if t380 = true then ((spec_NumOn.f a2).bind fun t381 => ((spec_NumIs.f t381).bind fun t382 => (some t382))) else ((spec_NumIs.f false).bind fun t383 => (some t383)))) else ((spec_NumOn.f a1).bind fun t384 => (if t384 = true then ((spec_NumIs.f true).bind fun t385 => (some t385)) else ((spec_NumOn.f a2).bind fun t386 => ((spec_NumIs.f t386).bind fun t387 => (some t387))))))))))) = some r := h
 clear h
 by_cases c4 : a0 = 3
 ·rw [if_pos c4] at H
  have c4b0 : (a0 == 3) = true := beq_iff_eq.mpr c4
  have c4b1 : (a0 != 3) = false := bne_eq_false_iff_eq.mpr c4
  clear c4
  replace H := Option.bind_eq_some_iff.mp H
  obtain ⟨t375, A50, H⟩ := H
  try dsimp only at H
  have A5 := z0 A50
  clear A50
  obtain rfl := Option.some.inj H
  go_enter Try.func41, Try.ntmps41
  go_wp2_with (first | ((with_reducible refine gate_callee (f := 52) rfl ?_); refine goesL_ (some 12) rfl rfl Try.func52 (by kernel_rfl) rfl #[.int .i64 a1, .int .i64 a2] rfl argx ?_; (with_reducible refine (spec_NumAdd.calls a1 a2 t375 _ A5.out).mono ?_); rintro e w' ⟨rfl, ⟨nd, rfl⟩⟩; refine ⟨_, rfl, ?_⟩))
  go_ret
  exact ⟨by first | rfl | (simp; done) | (simp [*]; done), by repeat (first | exact Drawn0.refl _ | apply Drawn0.step)⟩
 ·rw [if_neg c4] at H
  have c4b0 : (a0 == 3) = false := beq_eq_false_iff_ne.mpr c4
  have c4b1 : (a0 != 3) = true := bne_iff_ne.mpr c4
  by_cases c6 : a0 = 4
  ·rw [if_pos c6] at H
   have c6b0 : (a0 == 4) = true := beq_iff_eq.mpr c6
   have c6b1 : (a0 != 4) = false := bne_eq_false_iff_eq.mpr c6
   clear c6
   replace H := Option.bind_eq_some_iff.mp H
   obtain ⟨t376, A70, H⟩ := H
   try dsimp only at H
   have A7 := z0 A70
   clear A70
   obtain rfl := Option.some.inj H
   go_enter Try.func41, Try.ntmps41
   go_wp2_with (first | ((with_reducible refine gate_callee (f := 53) rfl ?_); refine goesL_ (some 17) rfl rfl Try.func53 (by kernel_rfl) rfl #[.int .i64 a1, .int .i64 a2] rfl argx ?_; (with_reducible refine (spec_NumSub.calls a1 a2 t376 _ A7.out).mono ?_); rintro e w' ⟨rfl, ⟨nd, rfl⟩⟩; refine ⟨_, rfl, ?_⟩))
   go_ret
   exact ⟨by first | rfl | (simp; done) | (simp [*]; done), by repeat (first | exact Drawn0.refl _ | apply Drawn0.step)⟩
  ·rw [if_neg c6] at H
   have c6b0 : (a0 == 4) = false := beq_eq_false_iff_ne.mpr c6
   have c6b1 : (a0 != 4) = true := bne_iff_ne.mpr c6
   by_cases c8 : a0 = 5
   ·rw [if_pos c8] at H
    have c8b0 : (a0 == 5) = true := beq_iff_eq.mpr c8
    have c8b1 : (a0 != 5) = false := bne_eq_false_iff_eq.mpr c8
    clear c8
    replace H := Option.bind_eq_some_iff.mp H
    obtain ⟨t377, A90, H⟩ := H
    try dsimp only at H
    have A9 := z0 A90
    clear A90
    obtain rfl := Option.some.inj H
    go_enter Try.func41, Try.ntmps41
    go_wp2_with (first | ((with_reducible refine gate_callee (f := 54) rfl ?_); refine goesL_ (some 22) rfl rfl Try.func54 (by kernel_rfl) rfl #[.int .i64 a1, .int .i64 a2] rfl argx ?_; (with_reducible refine (spec_NumMul.calls a1 a2 t377 _ A9.out).mono ?_); rintro e w' ⟨rfl, ⟨nd, rfl⟩⟩; refine ⟨_, rfl, ?_⟩))
    go_ret
    exact ⟨by first | rfl | (simp; done) | (simp [*]; done), by repeat (first | exact Drawn0.refl _ | apply Drawn0.step)⟩
   ·rw [if_neg c8] at H
    have c8b0 : (a0 == 5) = false := beq_eq_false_iff_ne.mpr c8
    have c8b1 : (a0 != 5) = true := bne_iff_ne.mpr c8
    by_cases c10 : a0 = 6
    ·rw [if_pos c10] at H
     have c10b0 : (a0 == 6) = true := beq_iff_eq.mpr c10
     have c10b1 : (a0 != 6) = false := bne_eq_false_iff_eq.mpr c10
     clear c10
     replace H := Option.bind_eq_some_iff.mp H
     obtain ⟨t378, A110, H⟩ := H
     try dsimp only at H
     have A11 := z0 A110
     clear A110
     obtain rfl := Option.some.inj H
     go_enter Try.func41, Try.ntmps41
     go_wp2_with (first | ((with_reducible refine gate_callee (f := 39) rfl ?_); refine goesL_ (some 28) rfl rfl Try.func39 (by kernel_rfl) rfl #[.bool (decide (a1 < a2))] rfl argx ?_; (with_reducible refine (spec_NumIs.calls (decide (a1 < a2)) t378 _ A11.out).mono ?_); rintro e w' ⟨rfl, ⟨nd, rfl⟩⟩; refine ⟨_, rfl, ?_⟩))
     go_ret
     exact ⟨by first | rfl | (simp; done) | (simp [*]; done), by repeat (first | exact Drawn0.refl _ | apply Drawn0.step)⟩
    ·rw [if_neg c10] at H
     have c10b0 : (a0 == 6) = false := beq_eq_false_iff_ne.mpr c10
     have c10b1 : (a0 != 6) = true := bne_iff_ne.mpr c10
     by_cases c12 : a0 = 7
     ·rw [if_pos c12] at H
      have c12b0 : (a0 == 7) = true := beq_iff_eq.mpr c12
      have c12b1 : (a0 != 7) = false := bne_eq_false_iff_eq.mpr c12
      clear c12
      replace H := Option.bind_eq_some_iff.mp H
      obtain ⟨t379, A130, H⟩ := H
      try dsimp only at H
      have A13 := z0 A130
      clear A130
      obtain rfl := Option.some.inj H
      go_enter Try.func41, Try.ntmps41
      go_wp2_with (first | ((with_reducible refine gate_callee (f := 39) rfl ?_); refine goesL_ (some 34) rfl rfl Try.func39 (by kernel_rfl) rfl #[.bool (a1 == a2)] rfl argx ?_; (with_reducible refine (spec_NumIs.calls (a1 == a2) t379 _ A13.out).mono ?_); rintro e w' ⟨rfl, ⟨nd, rfl⟩⟩; refine ⟨_, rfl, ?_⟩))
      go_ret
      exact ⟨by first | rfl | (simp; done) | (simp [*]; done), by repeat (first | exact Drawn0.refl _ | apply Drawn0.step)⟩
     ·rw [if_neg c12] at H
      have c12b0 : (a0 == 7) = false := beq_eq_false_iff_ne.mpr c12
      have c12b1 : (a0 != 7) = true := bne_iff_ne.mpr c12
      by_cases c14 : a0 = 8
      ·rw [if_pos c14] at H
       have c14b0 : (a0 == 8) = true := beq_iff_eq.mpr c14
       have c14b1 : (a0 != 8) = false := bne_eq_false_iff_eq.mpr c14
       clear c14
       replace H := Option.bind_eq_some_iff.mp H
       obtain ⟨t380, A150, H⟩ := H
       try dsimp only at H
       have A15 := z0 A150
       clear A150
       by_cases c16 : t380 = true
       ·subst c16
        have H1 : ((spec_NumOn.f a2).bind fun t381 => ((spec_NumIs.f t381).bind fun t382 => (some t382))) = some r := by rw [if_pos rfl] at H; exact H
        clear H
        have H := H1
        clear H1
        replace H := Option.bind_eq_some_iff.mp H
        obtain ⟨t381, A170, H⟩ := H
        try dsimp only at H
        have A17 := z0 A170
        clear A170
        replace H := Option.bind_eq_some_iff.mp H
        obtain ⟨t382, A180, H⟩ := H
        try dsimp only at H
        have A18 := z0 A180
        clear A180
        obtain rfl := Option.some.inj H
        go_enter Try.func41, Try.ntmps41
        go_wp2_with (first | ((with_reducible refine gate_callee (f := 40) rfl ?_); refine goesL_ (some 38) rfl rfl Try.func40 (by kernel_rfl) rfl #[.int .i64 a1] rfl argx ?_; (with_reducible refine (spec_NumOn.calls a1 true _ A15.out).mono ?_); rintro e w' ⟨rfl, ⟨nd, rfl⟩⟩; refine ⟨_, rfl, ?_⟩) | (go_at_call 40; (with_reducible refine (spec_NumOn.calls a2 t381 _ A17.out).mono ?_); rintro e w' ⟨rfl, ⟨nd, rfl⟩⟩) | ((with_reducible refine gate_callee (f := 39) rfl ?_); refine goesL_ (some 43) rfl rfl Try.func39 (by kernel_rfl) rfl #[.bool t381] rfl argx ?_; (with_reducible refine (spec_NumIs.calls t381 t382 _ A18.out).mono ?_); rintro e w' ⟨rfl, ⟨nd, rfl⟩⟩; refine ⟨_, rfl, ?_⟩))
        go_ret
        exact ⟨by first | rfl | (simp; done) | (simp [*]; done), by repeat (first | exact Drawn0.refl _ | apply Drawn0.step)⟩
       ·replace c16 := Bool.eq_false_iff.mpr c16
        subst c16
        have H1 : ((spec_NumIs.f false).bind fun t383 => (some t383)) = some r := by rw [if_neg (show ¬ (false = true) by decide)] at H; exact H
        clear H
        have H := H1
        clear H1
        replace H := Option.bind_eq_some_iff.mp H
        obtain ⟨t383, A190, H⟩ := H
        try dsimp only at H
        have A19 := z0 A190
        clear A190
        obtain rfl := Option.some.inj H
        go_enter Try.func41, Try.ntmps41
        go_wp2_with (first | ((with_reducible refine gate_callee (f := 40) rfl ?_); refine goesL_ (some 38) rfl rfl Try.func40 (by kernel_rfl) rfl #[.int .i64 a1] rfl argx ?_; (with_reducible refine (spec_NumOn.calls a1 false _ A15.out).mono ?_); rintro e w' ⟨rfl, ⟨nd, rfl⟩⟩; refine ⟨_, rfl, ?_⟩) | ((with_reducible refine gate_callee (f := 39) rfl ?_); refine goesL_ (some 43) rfl rfl Try.func39 (by kernel_rfl) rfl #[.bool false] rfl argx ?_; (with_reducible refine (spec_NumIs.calls false t383 _ A19.out).mono ?_); rintro e w' ⟨rfl, ⟨nd, rfl⟩⟩; refine ⟨_, rfl, ?_⟩))
        go_ret
        exact ⟨by first | rfl | (simp; done) | (simp [*]; done), by repeat (first | exact Drawn0.refl _ | apply Drawn0.step)⟩
      ·rw [if_neg c14] at H
       have c14b0 : (a0 == 8) = false := beq_eq_false_iff_ne.mpr c14
       have c14b1 : (a0 != 8) = true := bne_iff_ne.mpr c14
       replace H := Option.bind_eq_some_iff.mp H
       obtain ⟨t384, A200, H⟩ := H
       try dsimp only at H
       have A20 := z0 A200
       clear A200
       by_cases c21 : t384 = true
       ·subst c21
        have H1 : ((spec_NumIs.f true).bind fun t385 => (some t385)) = some r := by rw [if_pos rfl] at H; exact H
        clear H
        have H := H1
        clear H1
        replace H := Option.bind_eq_some_iff.mp H
        obtain ⟨t385, A220, H⟩ := H
        try dsimp only at H
        have A22 := z0 A220
        clear A220
        obtain rfl := Option.some.inj H
        go_enter Try.func41, Try.ntmps41
        go_wp2_with (first | ((with_reducible refine gate_callee (f := 40) rfl ?_); refine goesL_ (some 45) rfl rfl Try.func40 (by kernel_rfl) rfl #[.int .i64 a1] rfl argx ?_; (with_reducible refine (spec_NumOn.calls a1 true _ A20.out).mono ?_); rintro e w' ⟨rfl, ⟨nd, rfl⟩⟩; refine ⟨_, rfl, ?_⟩) | ((with_reducible refine gate_callee (f := 39) rfl ?_); refine goesL_ (some 50) rfl rfl Try.func39 (by kernel_rfl) rfl #[.bool true] rfl argx ?_; (with_reducible refine (spec_NumIs.calls true t385 _ A22.out).mono ?_); rintro e w' ⟨rfl, ⟨nd, rfl⟩⟩; refine ⟨_, rfl, ?_⟩))
        go_ret
        exact ⟨by first | rfl | (simp; done) | (simp [*]; done), by repeat (first | exact Drawn0.refl _ | apply Drawn0.step)⟩
       ·replace c21 := Bool.eq_false_iff.mpr c21
        subst c21
        have H1 : ((spec_NumOn.f a2).bind fun t386 => ((spec_NumIs.f t386).bind fun t387 => (some t387))) = some r := by rw [if_neg (show ¬ (false = true) by decide)] at H; exact H
        clear H
        have H := H1
        clear H1
        replace H := Option.bind_eq_some_iff.mp H
        obtain ⟨t386, A230, H⟩ := H
        try dsimp only at H
        have A23 := z0 A230
        clear A230
        replace H := Option.bind_eq_some_iff.mp H
        obtain ⟨t387, A240, H⟩ := H
        try dsimp only at H
        have A24 := z0 A240
        clear A240
        obtain rfl := Option.some.inj H
        go_enter Try.func41, Try.ntmps41
        go_wp2_with (first | ((with_reducible refine gate_callee (f := 40) rfl ?_); refine goesL_ (some 45) rfl rfl Try.func40 (by kernel_rfl) rfl #[.int .i64 a1] rfl argx ?_; (with_reducible refine (spec_NumOn.calls a1 false _ A20.out).mono ?_); rintro e w' ⟨rfl, ⟨nd, rfl⟩⟩; refine ⟨_, rfl, ?_⟩) | (go_at_call 40; (with_reducible refine (spec_NumOn.calls a2 t386 _ A23.out).mono ?_); rintro e w' ⟨rfl, ⟨nd, rfl⟩⟩) | ((with_reducible refine gate_callee (f := 39) rfl ?_); refine goesL_ (some 50) rfl rfl Try.func39 (by kernel_rfl) rfl #[.bool t386] rfl argx ?_; (with_reducible refine (spec_NumIs.calls t386 t387 _ A24.out).mono ?_); rintro e w' ⟨rfl, ⟨nd, rfl⟩⟩; refine ⟨_, rfl, ?_⟩))
        go_ret
        exact ⟨by first | rfl | (simp; done) | (simp [*]; done), by repeat (first | exact Drawn0.refl _ | apply Drawn0.step)⟩

/-! ### spec_l3Of: function 21 -/
def spec_l3Of.f : Nat → Int → Int → Int → Int → List (S27) → List Int → List Int → List Int → Option (Int)
 | 0, _, _, _, _, _, _, _, _ => none
 | k + 1, a0_0, a0_1, a0_2, a0_3, l0_4, l1_0, l1_1, l1_2 => if a0_0 = 1 then (some a0_1) else (if a0_0 = 2 then ((spec_l2Get.f l1_0 l1_1 l1_2 a0_2 a0_3).bind fun t390 => (some t390)) else (if a0_0 = 10 then (if 0 < (l0_4.length : Int) then ((spec_l3Of.f k ((rd_T27 l0_4 0).f0) ((rd_T27 l0_4 0).f1) ((rd_T27 l0_4 0).f2.f0) ((rd_T27 l0_4 0).f2.f1) ((rd_T27 l0_4 0).f3) l1_0 l1_1 l1_2).bind fun t392 => ((spec_NumOn.f t392).bind fun t393 => ((spec_NumIs.f (!t393)).bind fun t394 => (some t394)))) else (none)) else (if 0 < (l0_4.length : Int) then ((spec_l3Of.f k ((rd_T27 l0_4 0).f0) ((rd_T27 l0_4 0).f1) ((rd_T27 l0_4 0).f2.f0) ((rd_T27 l0_4 0).f2.f1) ((rd_T27 l0_4 0).f3) l1_0 l1_1 l1_2).bind fun t396 => (if 1 < (l0_4.length : Int) then ((spec_l3Of.f k ((rd_T27 l0_4 1).f0) ((rd_T27 l0_4 1).f1) ((rd_T27 l0_4 1).f2.f0) ((rd_T27 l0_4 1).f2.f1) ((rd_T27 l0_4 1).f3) l1_0 l1_1 l1_2).bind fun t398 => ((spec_l3Two.f a0_0 t396 t398).bind fun t399 => (some t399))) else (none))) else (none))))
theorem spec_l3Of.mono_l : ∀ k, (∀ y0 y1 y2 y3 y4 y5 y6 y7, LeO (spec_l3Of.f k y0 y1 y2 y3 y4 y5 y6 y7) (spec_l3Of.f (k + 1) y0 y1 y2 y3 y4 y5 y6 y7))
 | 0 => fun _ _ _ _ _ _ _ _ r h => by simp [spec_l3Of.f] at h
 | k + 1 => by
  have ih0 := spec_l3Of.mono_l k
  ·intro y0 y1 y2 y3 y4 y5 y6 y7
   unfold spec_l3Of.f
   repeat' first
   | (with_reducible exact ih0 _ _ _ _ _ _ _ _)
   | (with_reducible exact LeO.refl _)
   | (with_reducible exact LeO.none _)
   | (with_reducible refine LeO.ite ?_ ?_)
   | (with_reducible refine LeO.bind ?_ (fun _ => ?_))
   | exact ih0 _ _ _ _ _ _ _ _
   | exact LeO.none _
   | refine LeO.ite ?_ ?_
   | refine LeO.bind ?_ (fun _ => ?_)
theorem spec_l3Of.mono : ∀ a0 a1 a2 a3 a4 a5 a6 a7 k, LeO (spec_l3Of.f k a0 a1 a2 a3 a4 a5 a6 a7) (spec_l3Of.f (k + 1) a0 a1 a2 a3 a4 a5 a6 a7) := by
 intro a0 a1 a2 a3 a4 a5 a6 a7 k
 have ih0 := spec_l3Of.mono_l k
 exact ih0 a0 a1 a2 a3 a4 a5 a6 a7
def spec_l3Of.T7 : Bool × List (List Nat × List Nat) := (true, [([], []), ([0], [0]), ([1], [1]), ([2], [2]), ([], []), ([3, 4], [3, 4]), ([5, 5], [5]), ([6], [6]), ([7, 6], [7]), ([8, 8, 0, 1, 2, 3, 4, 5, 6, 7, 8], [8])])
def spec_l3Of.B7 : List Nat := [0, 1, 3, 7, 0, 31, 63, 127, 255, 511]
theorem spec_l3Of.tab7 : rtab .any (opsOf Try.f21 7) = spec_l3Of.T7 := by kernel_rfl
theorem spec_l3Of.bits7 : waitsOk spec_l3Of.T7.2 spec_l3Of.B7 = true := by kernel_rfl
def spec_l3Of.T8 : Bool × List (List Nat × List Nat) := (true, [([], []), ([0], [0]), ([], []), ([2], [2]), ([3], [3]), ([4], [4]), ([], []), ([5, 6], [5, 6]), ([], []), ([8], [8]), ([9], [9]), ([10], [10]), ([], []), ([11, 12, 7], [11, 12]), ([1, 7, 13, 13], [1, 7, 13]), ([14, 14, 0, 1, 2, 3, 4, 5, 6, 7, 8, 9, 10, 11, 12, 13, 14], [14])])
def spec_l3Of.B8 : List Nat := [0, 1, 0, 4, 12, 28, 0, 124, 0, 256, 768, 1792, 0, 8188, 16383, 32767]
theorem spec_l3Of.tab8 : rtab .any (opsOf Try.f21 8) = spec_l3Of.T8 := by kernel_rfl
theorem spec_l3Of.bits8 : waitsOk spec_l3Of.T8.2 spec_l3Of.B8 = true := by kernel_rfl
theorem q21_1 {p : Prop} (h : p := by exact ⟨(blk_cell BK388.out 0).trans rfl, (blk_cell BK388.out 1).trans rfl, (blk_cell BK388.out 2).trans rfl, (blk_cell BK388.out 3).trans rfl, (blk_cell BK388.out 4).trans rfl, (blk_cell BK389.out 0).trans rfl, (blk_cell BK389.out 1).trans rfl, (blk_cell BK389.out 2).trans rfl, ((HB.out.cell (World.block_lt_of_cell? w _ hw395_0)).trans hw395_0), ((HB.out.cell (World.block_lt_of_cell? w _ hw395_1)).trans hw395_1), ((HB.out.cell (World.block_lt_of_cell? w _ hw395_2)).trans hw395_2), ((HB.out.cell (World.block_lt_of_cell? w _ hw395_3)).trans hw395_3), ((HB.out.cell (World.block_lt_of_cell? w _ hw395_4)).trans hw395_4), ((HB.out.cell (World.block_lt_of_cell? w _ hw397_0)).trans hw397_0), ((HB.out.cell (World.block_lt_of_cell? w _ hw397_1)).trans hw397_1), ((HB.out.cell (World.block_lt_of_cell? w _ hw397_2)).trans hw397_2), ((HB.out.cell (World.block_lt_of_cell? w _ hw397_3)).trans hw397_3), ((HB.out.cell (World.block_lt_of_cell? w _ hw397_4)).trans hw397_4)⟩) : p := h
theorem q21_2 {p : Prop} (h : p := by exact ⟨(blk_cell BK388.out 0).trans rfl, (blk_cell BK388.out 1).trans rfl, (blk_cell BK388.out 2).trans rfl, (blk_cell BK388.out 3).trans rfl, (blk_cell BK388.out 4).trans rfl, (blk_cell BK389.out 0).trans rfl, (blk_cell BK389.out 1).trans rfl, (blk_cell BK389.out 2).trans rfl, ((HB.out.cell (World.block_lt_of_cell? w _ hw391_0)).trans hw391_0), ((HB.out.cell (World.block_lt_of_cell? w _ hw391_1)).trans hw391_1), ((HB.out.cell (World.block_lt_of_cell? w _ hw391_2)).trans hw391_2), ((HB.out.cell (World.block_lt_of_cell? w _ hw391_3)).trans hw391_3), ((HB.out.cell (World.block_lt_of_cell? w _ hw391_4)).trans hw391_4)⟩) : p := h
set_option maxHeartbeats 8000000 in
set_option maxRecDepth 100000 in
theorem spec_l3Of.calls (k : Nat) : ∀ (a0_0 : Int) (a0_1 : Int) (a0_2 : Int) (a0_3 : Int) (A0_4 : Option Addr) (c0_4 : Nat) (l0_4 : List (S27)) (A1_0 : Option Addr) (c1_0 : Nat) (l1_0 : List Int) (A1_1 : Option Addr) (c1_1 : Nat) (l1_1 : List Int) (A1_2 : Option Addr) (c1_2 : Nat) (l1_2 : List Int) (r : Int) (w : World) (hr0_4 : Kd.C k27 w A0_4 l0_4.length l0_4) (hc0_4 : l0_4.length ≤ c0_4) (hr1_0 : Kd.C (Kd.int .i64) w A1_0 l1_0.length l1_0) (hc1_0 : l1_0.length ≤ c1_0) (hr1_1 : Kd.C (Kd.int .i64) w A1_1 l1_1.length l1_1) (hc1_1 : l1_1.length ≤ c1_1) (hr1_2 : Kd.C (Kd.int .i64) w A1_2 l1_2.length l1_2) (hc1_2 : l1_2.length ≤ c1_2) (h : spec_l3Of.f k a0_0 a0_1 a0_2 a0_3 l0_4 l1_0 l1_1 l1_2 = some r),
  Calls Try.prog 21 #[.agg #[.int .i64 a0_0, .int .i64 a0_1, .int .i64 a0_2, .int .i64 a0_3, .slice A0_4 l0_4.length c0_4], .agg #[.slice A1_0 l1_0.length c1_0, .slice A1_1 l1_1.length c1_1, .slice A1_2 l1_2.length c1_2]] w fun e w' => e = .returned (.int .i64 r) ∧ Below w.heap.size w w' := by
 induction k using Nat.strongRecOn with
 | _ k ih =>
 intro a0_0 a0_1 a0_2 a0_3 A0_4 c0_4 l0_4 A1_0 c1_0 l1_0 A1_1 c1_1 l1_1 A1_2 c1_2 l1_2 r w hr0_4 hc0_4 hr1_0 hc1_0 hr1_1 hc1_1 hr1_2 hc1_2 h
 cases k with
 | zero => exact absurd h (by simp [spec_l3Of.f])
 | succ k =>
 simp only [spec_l3Of.f] at h
 have hu27 := Try.underlying27
 have hu30 := Try.underlying30
 have hu24 := Try.underlying24
 have HR0_4 := z0 hr0_4
 have HC0_4 := z0 hc0_4
 clear hr0_4 hc0_4
 have HR1_0 := z0 hr1_0
 have HC1_0 := z0 hc1_0
 clear hr1_0 hc1_0
 have HR1_1 := z0 hr1_1
 have HC1_1 := z0 hc1_1
 clear hr1_1 hc1_1
 have HR1_2 := z0 hr1_2
 have HC1_2 := z0 hc1_2
 clear hr1_2 hc1_2
 have HB := z0 (Below.refl w.heap.size w)
 have H : (if a0_0 = 1 then (some a0_1) else (if a0_0 = 2 then ((spec_l2Get.f l1_0 l1_1 l1_2 a0_2 a0_3).bind fun t390 => (some t390)) else (if a0_0 = 10 then (if 0 < (l0_4.length : Int) then ((spec_l3Of.f k ((rd_T27 l0_4 0).f0) ((rd_T27 l0_4 0).f1) ((rd_T27 l0_4 0).f2.f0) ((rd_T27 l0_4 0).f2.f1) ((rd_T27 l0_4 0).f3) l1_0 l1_1 l1_2).bind fun t392 => ((spec_NumOn.f t392).bind fun t393 => ((spec_NumIs.f (!t393)).bind fun t394 => (some t394)))) else (none)) else (if 0 < (l0_4.length : Int) then ((spec_l3Of.f k ((rd_T27 l0_4 0).f0) ((rd_T27 l0_4 0).f1) ((rd_T27 l0_4 0).f2.f0) ((rd_T27 l0_4 0).f2.f1) ((rd_T27 l0_4 0).f3) l1_0 l1_1 l1_2).bind fun t396 => (if 1 < (l0_4.length : Int) then ((spec_l3Of.f k ((rd_T27 l0_4 1).f0) ((rd_T27 l0_4 1).f1) ((rd_T27 l0_4 1).f2.f0) ((rd_T27 l0_4 1).f2.f1) ((rd_T27 l0_4 1).f3) l1_0 l1_1 l1_2).bind fun t398 => ((spec_l3Two.f a0_0 t396 t398).bind fun t399 => (some t399))) else (none))) else (none))))) = some r := h
 clear h
 have HF3 := z0 H
 clear H
 go_enter Try.func21, Try.ntmps21
 go_upto_if 7 with (first | ((with_reducible refine gate_dst (N := 2) rfl ?_); refine box_event ?hg (N := 2) ?hd (cs := #[.int .i64 a0_0, .int .i64 a0_1, .int .i64 a0_2, .int .i64 a0_3, .slice A0_4 l0_4.length c0_4]) (t := 27) ?hr ?_; (case hd => rfl); (case hg => rfl); (case hr => first | (go_simp; done) | (go_simp; rfl)); intro gb388 hg w4 hbox hb; have n_ := az (below_step (mB HB.out) hb) <| az (hbox) <| az ((by rw [hg]; exact (below_size (mB HB.out)) : w.heap.size ≤ gb388)) <| z0 ((by rw [hg]; exact (below_size (mB HB.out)) : w.heap.size ≤ gb388)); clear HB; obtain ⟨HB, BK388, GW388, GE388⟩ := n_; clear hb hbox hg) | ((with_reducible refine gate_dst (N := 3) rfl ?_); refine box_event ?hg (N := 3) ?hd (cs := #[.slice A1_0 l1_0.length c1_0, .slice A1_1 l1_1.length c1_1, .slice A1_2 l1_2.length c1_2]) (t := 30) ?hr ?_; (case hd => rfl); (case hg => rfl); (case hr => first | (go_simp; done) | (go_simp; rfl)); intro gb389 hg w5 hbox hb; have n_ := az (bB BK388.out hb) <| az (below_step (mB HB.out) hb) <| az (hbox) <| az ((by rw [hg]; exact (below_size (mB HB.out)) : w.heap.size ≤ gb389)) <| az ((by rw [hg]; exact (below_size (mB HB.out)) : w.heap.size ≤ gb389)) <| az ((nL hg BK388.out)) <| z0 ((nG hg BK388.out)); clear BK388 HB; obtain ⟨BK388, HB, BK389, GW389, GE389, NB388_389, NB389_388⟩ := n_; clear hb hbox hg; have hnb6 := NB388_389.out; have hnc6 := NB389_388.out; obtain ⟨hcz7_0, hcz7_1, hcz7_2, hcz7_3, hcz7_4, hfz7_0, hfz7_1, hfz7_2, hfz7_3, hfz7_4⟩ := cel5 BK388.out))
 (try simp only [Act.put, List.setIfInBounds_toArray, List.set_cons_zero, List.set_cons_succ])
 have H := HF3.out
 clear HF3
 (try clear hcz7_0); (try clear hcz7_1); (try clear hcz7_2); (try clear hcz7_3); (try clear hcz7_4); (try clear hfz7_0); (try clear hfz7_1); (try clear hfz7_2); (try clear hfz7_3); (try clear hfz7_4)
 by_cases c8 : a0_0 = 1
 ·rw [if_pos c8] at H
  have c8b0 : (a0_0 == 1) = true := beq_iff_eq.mpr c8
  have c8b1 : (a0_0 != 1) = false := bne_eq_false_iff_eq.mpr c8
  clear c8
  (first | rw [c8b0] | (simp only [i64_w, i32_w]; rw [c8b0]) | skip)
  obtain rfl := Option.some.inj H
  have hnb9 := NB388_389.out
  have hnc9 := NB389_388.out
  obtain ⟨hcz10_0, hcz10_1, hcz10_2, hcz10_3, hcz10_4, hfz10_0, hfz10_1, hfz10_2, hfz10_3, hfz10_4⟩ := cel5 BK388.out
  go_wp2
  go_ret
  exact ⟨rfx, mB HB.out⟩
 ·rw [if_neg c8] at H
  have c8b0 : (a0_0 == 1) = false := beq_eq_false_iff_ne.mpr c8
  have c8b1 : (a0_0 != 1) = true := bne_iff_ne.mpr c8
  (first | rw [c8b0] | (simp only [i64_w, i32_w]; rw [c8b0]) | skip)
  by_cases c11 : a0_0 = 2
  ·rw [if_pos c11] at H
   have c11b0 : (a0_0 == 2) = true := beq_iff_eq.mpr c11
   have c11b1 : (a0_0 != 2) = false := bne_eq_false_iff_eq.mpr c11
   clear c11
   replace H := Option.bind_eq_some_iff.mp H
   obtain ⟨t390, A120, H⟩ := H
   try dsimp only at H
   have A12 := z0 A120
   clear A120
   obtain rfl := Option.some.inj H
   have hnb13 := NB389_388.out
   have hnc13 := NB388_389.out
   obtain ⟨hcz14_0, hcz14_1, hcz14_2, hfz14_0, hfz14_1, hfz14_2⟩ := cel3 BK389.out
   obtain ⟨hcz15_0, hcz15_1, hcz15_2, hcz15_3, hcz15_4, hfz15_0, hfz15_1, hfz15_2, hfz15_3, hfz15_4⟩ := cel5 BK388.out
   go_wp2_with (first | ((with_reducible refine gate_callee (f := 38) rfl ?_); refine goesL_ (some 16) rfl rfl Try.func38 (by kernel_rfl) rfl #[.agg #[.slice A1_0 l1_0.length c1_0, .slice A1_1 l1_1.length c1_1, .slice A1_2 l1_2.length c1_2], .agg #[.int .i64 a0_2, .int .i64 a0_3]] rfl argx ?_; (with_reducible refine (spec_l2Get.calls _ _ l1_0 _ _ l1_1 _ _ l1_2 a0_2 a0_3 t390 _ ?side1 ?side2 ?side3 ?side4 ?side5 ?side6 A12.out).mono ?_); (case side1 => exact mC (Kd.C_below HR1_0.out HB.out)); (case side2 => exact HC1_0.out); (case side3 => exact mC (Kd.C_below HR1_1.out HB.out)); (case side4 => exact HC1_1.out); (case side5 => exact mC (Kd.C_below HR1_2.out HB.out)); (case side6 => exact HC1_2.out); rintro e w16 ⟨rfl, hb⟩; refine ⟨_, rfl, ?_⟩; have n_ := az (bB BK388.out hb) <| az (bB BK389.out hb) <| z0 (below_step (mB HB.out) hb); clear BK388 BK389 HB; obtain ⟨BK388, BK389, HB⟩ := n_; clear hb))
   go_ret
   exact ⟨rfx, mB HB.out⟩
  ·rw [if_neg c11] at H
   have c11b0 : (a0_0 == 2) = false := beq_eq_false_iff_ne.mpr c11
   have c11b1 : (a0_0 != 2) = true := bne_iff_ne.mpr c11
   by_cases c17 : a0_0 = 10
   ·rw [if_pos c17] at H
    have c17b0 : (a0_0 == 10) = true := beq_iff_eq.mpr c17
    have c17b1 : (a0_0 != 10) = false := bne_eq_false_iff_eq.mpr c17
    clear c17
    by_cases c18 : 0 < (l0_4.length : Int)
    ·rw [if_pos c18] at H
     have c18b0 : decide (0 < (l0_4.length : Int)) = true := decide_eq_true c18
     have c18b1 : decide (0 < l0_4.length) = true := decide_eq_true (by omega)
     clear c18
     replace H := Option.bind_eq_some_iff.mp H
     obtain ⟨t392, A190, H⟩ := H
     try dsimp only at H
     have A19 := z0 A190
     clear A190
     replace H := Option.bind_eq_some_iff.mp H
     obtain ⟨t393, A200, H⟩ := H
     try dsimp only at H
     have A20 := z0 A200
     clear A200
     replace H := Option.bind_eq_some_iff.mp H
     obtain ⟨t394, A210, H⟩ := H
     try dsimp only at H
     have A21 := z0 A210
     clear A210
     obtain rfl := Option.some.inj H
     try go_wp2
     have n_ := az (blk_drew BK388.out) <| az (blk_drew BK389.out) <| z0 (below_drew1 HB.out)
     clear BK388 BK389 HB
     obtain ⟨BK388, BK389, HB⟩ := n_
     have p391 : 0 ≤ (0 : Int) := (by omega)
     have q391 : 0 < (l0_4.length : Int) := of_decide_eq_true (by first | (with_reducible assumption) | assumption)
     obtain ⟨ad391, A391_4, c391_4, e391, hx391_0, hx391_1, hx391_2, hx391_3, hx391_4, hl391_4, hi391_4⟩ := at_T27 HR0_4.out 0 p391 q391
     have hw391_4 := hx391_4
     (try rw [show ((0 : Int)).toNat = 0 from rfl] at hw391_4)
     (try rw [show 0 * 5 = 0 from rfl] at hw391_4)
     (try rw [Addr.add_zero'] at hw391_4)
     have hw391_3 := hx391_3
     (try rw [show ((0 : Int)).toNat = 0 from rfl] at hw391_3)
     (try rw [show 0 * 5 = 0 from rfl] at hw391_3)
     (try rw [Addr.add_zero'] at hw391_3)
     have hw391_2 := hx391_2
     (try rw [show ((0 : Int)).toNat = 0 from rfl] at hw391_2)
     (try rw [show 0 * 5 = 0 from rfl] at hw391_2)
     (try rw [Addr.add_zero'] at hw391_2)
     have hw391_1 := hx391_1
     (try rw [show ((0 : Int)).toNat = 0 from rfl] at hw391_1)
     (try rw [show 0 * 5 = 0 from rfl] at hw391_1)
     (try rw [Addr.add_zero'] at hw391_1)
     have hw391_0 := hx391_0
     (try rw [show ((0 : Int)).toNat = 0 from rfl] at hw391_0)
     (try rw [show 0 * 5 = 0 from rfl] at hw391_0)
     (try rw [Addr.add_zero'] at hw391_0)
     cases e391
     have qi391 : (0 < l0_4.length) = True := eq_true (by omega)
     (try rw [show ((0 : Int)).toNat = 0 from rfl] at hx391_0)
     (try rw [show 0 * 5 = 0 from rfl] at hx391_0)
     (try rw [Addr.add_zero'] at hx391_0)
     (try rw [show ((0 : Int)).toNat = 0 from rfl] at hx391_1)
     (try rw [show 0 * 5 = 0 from rfl] at hx391_1)
     (try rw [Addr.add_zero'] at hx391_1)
     (try rw [show ((0 : Int)).toNat = 0 from rfl] at hx391_2)
     (try rw [show 0 * 5 = 0 from rfl] at hx391_2)
     (try rw [Addr.add_zero'] at hx391_2)
     (try rw [show ((0 : Int)).toNat = 0 from rfl] at hx391_3)
     (try rw [show 0 * 5 = 0 from rfl] at hx391_3)
     (try rw [Addr.add_zero'] at hx391_3)
     (try rw [show ((0 : Int)).toNat = 0 from rfl] at hx391_4)
     (try rw [show 0 * 5 = 0 from rfl] at hx391_4)
     (try rw [Addr.add_zero'] at hx391_4)
     replace hx391_0 := (HB.out.cell (World.block_lt_of_cell? w _ hx391_0)).trans hx391_0
     replace hx391_1 := (HB.out.cell (World.block_lt_of_cell? w _ hx391_1)).trans hx391_1
     replace hx391_2 := (HB.out.cell (World.block_lt_of_cell? w _ hx391_2)).trans hx391_2
     replace hx391_3 := (HB.out.cell (World.block_lt_of_cell? w _ hx391_3)).trans hx391_3
     replace hx391_4 := (HB.out.cell (World.block_lt_of_cell? w _ hx391_4)).trans hx391_4
     have HR391_4 := z0 hi391_4
     have HC391_4 := z0 hl391_4
     clear hi391_4 hl391_4
     replace p391 := eq_true p391
     replace q391 := eq_true q391
     refine start_ (n := 10) (S := fun w' => w'.cell? ⟨gb388, 0, none⟩ = some (.int .i64 a0_0) ∧ w'.cell? ⟨gb388, 1, none⟩ = some (.int .i64 a0_1) ∧ w'.cell? ⟨gb388, 2, none⟩ = some (.int .i64 a0_2) ∧ w'.cell? ⟨gb388, 3, none⟩ = some (.int .i64 a0_3) ∧ w'.cell? ⟨gb388, 4, none⟩ = some (.slice (some ad391) l0_4.length c0_4) ∧ w'.cell? ⟨gb389, 0, none⟩ = some (.slice A1_0 l1_0.length c1_0) ∧ w'.cell? ⟨gb389, 1, none⟩ = some (.slice A1_1 l1_1.length c1_1) ∧ w'.cell? ⟨gb389, 2, none⟩ = some (.slice A1_2 l1_2.length c1_2) ∧ w'.cell? ad391 = some (.int .i64 ((rd_T27 l0_4 0).f0)) ∧ w'.cell? ⟨ad391.block, ad391.off + 1, none⟩ = some (.int .i64 ((rd_T27 l0_4 0).f1)) ∧ w'.cell? ⟨ad391.block, ad391.off + 2, none⟩ = some (.int .i64 ((rd_T27 l0_4 0).f2.f0)) ∧ w'.cell? ⟨ad391.block, ad391.off + 3, none⟩ = some (.int .i64 ((rd_T27 l0_4 0).f2.f1)) ∧ w'.cell? ⟨ad391.block, ad391.off + 4, none⟩ = some (.slice A391_4 ((rd_T27 l0_4 0).f3).length c391_4)) (ds := []) #[false, false, false, false, false, false, false, false, false, false] (by kernel_rfl) rfl rfl q21_2 (fun hHeld => ?_); refine with_tabW spec_l3Of.tab7 spec_l3Of.bits7 (fun HT_ HW_ => ?_)
     generalize w5.drew = w22 at BK388 BK389 HB HR391_4 hx391_0 hx391_1 hx391_2 hx391_3 hx391_4 hHeld ⊢
     refine pure_ (i := 0) (N := some 19) (v := ?_) (a' := ?_) #[true, false, false, false, false, false, false, false, false, false] rfl rfl (any_of HT_.out (by kernel_rfl)) (fun _ _ _ h => h) (Or.inl ⟨by rfl, ?_⟩) ?_ ?_
     rotate_left
     ·intro w'
      go_simp
      with_reducible rfl
     rotate_left
     ·simp only [Act.put, List.setIfInBounds_toArray, List.set_cons_zero, List.set_cons_succ, i64_w, i32_w]
      rfl
     refine take_ (i := 1) (N := some 20) (v := ?_) (a' := ?_) #[true, true, false, false, false, false, false, false, false, false] rfl rfl (take_ofW HT_.out HW_.out (by kernel_rfl)) (fun _ _ _ h => h) (Or.inl ⟨by rfl, ?_⟩) hHeld ?_ ?_
     rotate_left
     ·rintro w' ⟨s0, s1, s2, s3, s4, s5, s6, s7, s8, s9, s10, s11, s12⟩
      go_simp
      with_reducible rfl
     rotate_left
     ·simp only [Act.put, List.setIfInBounds_toArray, List.set_cons_zero, List.set_cons_succ, i64_w, i32_w]
      rfl
     refine pure_ (i := 2) (N := some 21) (v := ?_) (a' := ?_) #[true, true, true, false, false, false, false, false, false, false] rfl rfl (any_of HT_.out (by kernel_rfl)) (fun _ _ _ h => h) (Or.inl ⟨by rfl, ?_⟩) ?_ ?_
     rotate_left
     ·intro w'
      go_simp
      with_reducible rfl
     rotate_left
     ·simp only [Act.put, List.setIfInBounds_toArray, List.set_cons_zero, List.set_cons_succ, i64_w, i32_w]
      rfl
     refine take_ (i := 3) (N := some 22) (v := ?_) (a' := ?_) #[true, true, true, true, false, false, false, false, false, false] rfl rfl (take_ofW HT_.out HW_.out (by kernel_rfl)) (fun _ _ _ h => h) (Or.inl ⟨by rfl, ?_⟩) hHeld ?_ ?_
     rotate_left
     ·rintro w' ⟨s0, s1, s2, s3, s4, s5, s6, s7, s8, s9, s10, s11, s12⟩
      go_simp
      with_reducible rfl
     rotate_left
     ·simp only [Act.put, List.setIfInBounds_toArray, List.set_cons_zero, List.set_cons_succ, i64_w, i32_w]
      rfl
     refine take_ (i := 4) (N := some 23) (v := ?_) (a' := ?_) #[true, true, true, true, true, false, false, false, false, false] rfl rfl (take_ofW HT_.out HW_.out (by kernel_rfl)) (fun _ _ _ h => h) (Or.inl ⟨by rfl, ?_⟩) hHeld ?_ ?_
     rotate_left
     ·rintro w' ⟨s0, s1, s2, s3, s4, s5, s6, s7, s8, s9, s10, s11, s12⟩
      go_simp
      with_reducible rfl
     rotate_left
     ·simp only [Act.put, List.setIfInBounds_toArray, List.set_cons_zero, List.set_cons_succ, i64_w, i32_w]
      rfl
     refine one_ (i := 5) (N := some 24) #[true, true, true, true, true, true, false, false, false, false] rfl rfl (one_of HT_.out (by kernel_rfl)) (by decide) (fun K hK => ?_)
     refine goes_ Try.func21 (by kernel_rfl) rfl #[.agg #[.int .i64 ((rd_T27 l0_4 0).f0), .int .i64 ((rd_T27 l0_4 0).f1), .int .i64 ((rd_T27 l0_4 0).f2.f0), .int .i64 ((rd_T27 l0_4 0).f2.f1), .slice A391_4 ((rd_T27 l0_4 0).f3).length c391_4], .agg #[.slice A1_0 l1_0.length c1_0, .slice A1_1 l1_1.length c1_1, .slice A1_2 l1_2.length c1_2]] (by rfl) rfl rfl argx ?_
     with_reducible refine (ih k (by omega) ((rd_T27 l0_4 0).f0) ((rd_T27 l0_4 0).f1) ((rd_T27 l0_4 0).f2.f0) ((rd_T27 l0_4 0).f2.f1) _ _ ((rd_T27 l0_4 0).f3) _ _ l1_0 _ _ l1_1 _ _ l1_2 t392 _ ?side1 ?side2 ?side3 ?side4 ?side5 ?side6 ?side7 ?side8 A19.out).mono ?_
     (case side1 => exact mC (Kd.C_below HR391_4.out HB.out))
     (case side2 => exact HC391_4.out)
     (case side3 => exact mC (Kd.C_below HR1_0.out HB.out))
     (case side4 => exact HC1_0.out)
     (case side5 => exact mC (Kd.C_below HR1_1.out HB.out))
     (case side6 => exact HC1_1.out)
     (case side7 => exact mC (Kd.C_below HR1_2.out HB.out))
     (case side8 => exact HC1_2.out)
     rintro e w23 ⟨rfl, hb⟩
     refine ⟨_, rfl, ?_⟩
     have n_ := az (bB BK388.out hb) <| az (bB BK389.out hb) <| z0 (below_step (mB HB.out) hb)
     clear BK388 BK389 HB
     obtain ⟨BK388, BK389, HB⟩ := n_
     (try clear hb)
     (try clear hb2)
     (try clear hk)
     (try clear hi)
     refine hK.out _ _ q21_2 (fun hHeld => ?_)
     clear hK K
     refine norm_ (a' := ?_) ?_ ?_
     rotate_left
     ·show Act.put _ (some 24) _ = _
      simp only [Act.put, List.setIfInBounds_toArray, List.set_cons_zero, List.set_cons_succ, i64_w, i32_w]
      rfl
     refine one_ (i := 6) (N := some 25) #[true, true, true, true, true, true, true, false, false, false] rfl rfl (one_of HT_.out (by kernel_rfl)) (by decide) (fun K hK => ?_)
     refine goes_ Try.func40 (by kernel_rfl) rfl #[.int .i64 t392] (by rfl) rfl rfl argx ?_
     with_reducible refine (spec_NumOn.calls t392 t393 _ A20.out).mono ?_
     rintro e w' ⟨rfl, ⟨nd, rfl⟩⟩
     refine ⟨_, rfl, ?_⟩
     refine hK.out _ _ q21_2 (fun hHeld => ?_)
     clear hK K
     refine norm_ (a' := ?_) ?_ ?_
     rotate_left
     ·show Act.put _ (some 25) _ = _
      simp only [Act.put, List.setIfInBounds_toArray, List.set_cons_zero, List.set_cons_succ, i64_w, i32_w]
      rfl
     refine pure_ (i := 7) (N := some 26) (v := ?_) (a' := ?_) #[true, true, true, true, true, true, true, true, false, false] rfl rfl (any_of HT_.out (by kernel_rfl)) (fun _ _ _ h => h) (Or.inl ⟨by rfl, ?_⟩) ?_ ?_
     rotate_left
     ·intro w'
      go_simp
      with_reducible rfl
     rotate_left
     ·simp only [Act.put, List.setIfInBounds_toArray, List.set_cons_zero, List.set_cons_succ, i64_w, i32_w]
      rfl
     refine one_ (i := 8) (N := some 27) #[true, true, true, true, true, true, true, true, true, false] rfl rfl (one_of HT_.out (by kernel_rfl)) (by decide) (fun K hK => ?_)
     refine goes_ Try.func39 (by kernel_rfl) rfl #[.bool (!t393)] (by rfl) rfl rfl argx ?_
     with_reducible refine (spec_NumIs.calls (!t393) t394 _ A21.out).mono ?_
     rintro e w' ⟨rfl, ⟨nd, rfl⟩⟩
     refine ⟨_, rfl, ?_⟩
     refine hK.out _ _ q21_2 (fun hHeld => ?_)
     clear hK K
     refine norm_ (a' := ?_) ?_ ?_
     rotate_left
     ·show Act.put _ (some 27) _ = _
      simp only [Act.put, List.setIfInBounds_toArray, List.set_cons_zero, List.set_cons_succ, i64_w, i32_w]
      rfl
     refine pure_ (i := 9) (N := some 4) (v := ?_) (a' := ?_) #[true, true, true, true, true, true, true, true, true, true] rfl rfl (any_of HT_.out (by kernel_rfl)) (fun _ _ _ h => h) (Or.inl ⟨by rfl, ?_⟩) ?_ ?_
     rotate_left
     ·intro w'
      go_simp
      with_reducible rfl
     rotate_left
     ·simp only [Act.put, List.setIfInBounds_toArray, List.set_cons_zero, List.set_cons_succ, i64_w, i32_w]
      rfl
     refine done_ (done_of HT_.out (by kernel_rfl)) ?_
     try go_wp2
     go_ret
     exact ⟨rfx, mB HB.out⟩
    ·rw [if_neg c18] at H
     exact absurd H (by simp)
   ·rw [if_neg c17] at H
    have c17b0 : (a0_0 == 10) = false := beq_eq_false_iff_ne.mpr c17
    have c17b1 : (a0_0 != 10) = true := bne_iff_ne.mpr c17
    by_cases c24 : 0 < (l0_4.length : Int)
    ·rw [if_pos c24] at H
     have c24b0 : decide (0 < (l0_4.length : Int)) = true := decide_eq_true c24
     have c24b1 : decide (0 < l0_4.length) = true := decide_eq_true (by omega)
     clear c24
     replace H := Option.bind_eq_some_iff.mp H
     obtain ⟨t396, A250, H⟩ := H
     try dsimp only at H
     have A25 := z0 A250
     clear A250
     by_cases c26 : 1 < (l0_4.length : Int)
     ·rw [if_pos c26] at H
      have c26b0 : decide (1 < (l0_4.length : Int)) = true := decide_eq_true c26
      have c26b1 : decide (1 < l0_4.length) = true := decide_eq_true (by omega)
      clear c26
      replace H := Option.bind_eq_some_iff.mp H
      obtain ⟨t398, A270, H⟩ := H
      try dsimp only at H
      have A27 := z0 A270
      clear A270
      replace H := Option.bind_eq_some_iff.mp H
      obtain ⟨t399, A280, H⟩ := H
      try dsimp only at H
      have A28 := z0 A280
      clear A280
      obtain rfl := Option.some.inj H
      try go_wp2
      have n_ := az (blk_drew BK388.out) <| az (blk_drew BK389.out) <| z0 (below_drew1 HB.out)
      clear BK388 BK389 HB
      obtain ⟨BK388, BK389, HB⟩ := n_
      have p395 : 0 ≤ (0 : Int) := (by omega)
      have q395 : 0 < (l0_4.length : Int) := of_decide_eq_true (by first | (with_reducible assumption) | assumption)
      obtain ⟨ad395, A395_4, c395_4, e395, hx395_0, hx395_1, hx395_2, hx395_3, hx395_4, hl395_4, hi395_4⟩ := at_T27 HR0_4.out 0 p395 q395
      have hw395_4 := hx395_4
      (try rw [show ((0 : Int)).toNat = 0 from rfl] at hw395_4)
      (try rw [show 0 * 5 = 0 from rfl] at hw395_4)
      (try rw [Addr.add_zero'] at hw395_4)
      have hw395_3 := hx395_3
      (try rw [show ((0 : Int)).toNat = 0 from rfl] at hw395_3)
      (try rw [show 0 * 5 = 0 from rfl] at hw395_3)
      (try rw [Addr.add_zero'] at hw395_3)
      have hw395_2 := hx395_2
      (try rw [show ((0 : Int)).toNat = 0 from rfl] at hw395_2)
      (try rw [show 0 * 5 = 0 from rfl] at hw395_2)
      (try rw [Addr.add_zero'] at hw395_2)
      have hw395_1 := hx395_1
      (try rw [show ((0 : Int)).toNat = 0 from rfl] at hw395_1)
      (try rw [show 0 * 5 = 0 from rfl] at hw395_1)
      (try rw [Addr.add_zero'] at hw395_1)
      have hw395_0 := hx395_0
      (try rw [show ((0 : Int)).toNat = 0 from rfl] at hw395_0)
      (try rw [show 0 * 5 = 0 from rfl] at hw395_0)
      (try rw [Addr.add_zero'] at hw395_0)
      cases e395
      have qi395 : (0 < l0_4.length) = True := eq_true (by omega)
      (try rw [show ((0 : Int)).toNat = 0 from rfl] at hx395_0)
      (try rw [show 0 * 5 = 0 from rfl] at hx395_0)
      (try rw [Addr.add_zero'] at hx395_0)
      (try rw [show ((0 : Int)).toNat = 0 from rfl] at hx395_1)
      (try rw [show 0 * 5 = 0 from rfl] at hx395_1)
      (try rw [Addr.add_zero'] at hx395_1)
      (try rw [show ((0 : Int)).toNat = 0 from rfl] at hx395_2)
      (try rw [show 0 * 5 = 0 from rfl] at hx395_2)
      (try rw [Addr.add_zero'] at hx395_2)
      (try rw [show ((0 : Int)).toNat = 0 from rfl] at hx395_3)
      (try rw [show 0 * 5 = 0 from rfl] at hx395_3)
      (try rw [Addr.add_zero'] at hx395_3)
      (try rw [show ((0 : Int)).toNat = 0 from rfl] at hx395_4)
      (try rw [show 0 * 5 = 0 from rfl] at hx395_4)
      (try rw [Addr.add_zero'] at hx395_4)
      replace hx395_0 := (HB.out.cell (World.block_lt_of_cell? w _ hx395_0)).trans hx395_0
      replace hx395_1 := (HB.out.cell (World.block_lt_of_cell? w _ hx395_1)).trans hx395_1
      replace hx395_2 := (HB.out.cell (World.block_lt_of_cell? w _ hx395_2)).trans hx395_2
      replace hx395_3 := (HB.out.cell (World.block_lt_of_cell? w _ hx395_3)).trans hx395_3
      replace hx395_4 := (HB.out.cell (World.block_lt_of_cell? w _ hx395_4)).trans hx395_4
      have HR395_4 := z0 hi395_4
      have HC395_4 := z0 hl395_4
      clear hi395_4 hl395_4
      replace p395 := eq_true p395
      replace q395 := eq_true q395
      have p397 : 0 ≤ (1 : Int) := (by omega)
      have q397 : 1 < (l0_4.length : Int) := of_decide_eq_true (by first | (with_reducible assumption) | assumption)
      obtain ⟨ad397, A397_4, c397_4, e397, hx397_0, hx397_1, hx397_2, hx397_3, hx397_4, hl397_4, hi397_4⟩ := at_T27 HR0_4.out 1 p397 q397
      have hw397_4 := hx397_4
      (try rw [show ((1 : Int)).toNat = 1 from rfl] at hw397_4)
      (try rw [show 1 * 5 = 5 from rfl] at hw397_4)
      (try simp only [Nat.reduceMul, Nat.reduceEqDiff, Go.Addr.add, ↓reduceIte] at hw397_4)
      have hw397_3 := hx397_3
      (try rw [show ((1 : Int)).toNat = 1 from rfl] at hw397_3)
      (try rw [show 1 * 5 = 5 from rfl] at hw397_3)
      (try simp only [Nat.reduceMul, Nat.reduceEqDiff, Go.Addr.add, ↓reduceIte] at hw397_3)
      have hw397_2 := hx397_2
      (try rw [show ((1 : Int)).toNat = 1 from rfl] at hw397_2)
      (try rw [show 1 * 5 = 5 from rfl] at hw397_2)
      (try simp only [Nat.reduceMul, Nat.reduceEqDiff, Go.Addr.add, ↓reduceIte] at hw397_2)
      have hw397_1 := hx397_1
      (try rw [show ((1 : Int)).toNat = 1 from rfl] at hw397_1)
      (try rw [show 1 * 5 = 5 from rfl] at hw397_1)
      (try simp only [Nat.reduceMul, Nat.reduceEqDiff, Go.Addr.add, ↓reduceIte] at hw397_1)
      have hw397_0 := hx397_0
      (try rw [show ((1 : Int)).toNat = 1 from rfl] at hw397_0)
      (try rw [show 1 * 5 = 5 from rfl] at hw397_0)
      (try simp only [Nat.reduceMul, Nat.reduceEqDiff, Go.Addr.add, ↓reduceIte] at hw397_0)
      obtain rfl : ad395 = ad397 := (by injection e397)
      (try simp only [show (1 : Int).toNat = 1 from rfl, Nat.reduceMul, Nat.reduceEqDiff, Go.Addr.add, ↓reduceIte] at hx397_0)
      (try simp only [show (1 : Int).toNat = 1 from rfl, Nat.reduceMul, Nat.reduceEqDiff, Go.Addr.add, ↓reduceIte] at hx397_1)
      (try simp only [show (1 : Int).toNat = 1 from rfl, Nat.reduceMul, Nat.reduceEqDiff, Go.Addr.add, ↓reduceIte] at hx397_2)
      (try simp only [show (1 : Int).toNat = 1 from rfl, Nat.reduceMul, Nat.reduceEqDiff, Go.Addr.add, ↓reduceIte] at hx397_3)
      (try simp only [show (1 : Int).toNat = 1 from rfl, Nat.reduceMul, Nat.reduceEqDiff, Go.Addr.add, ↓reduceIte] at hx397_4)
      have qi397 : (1 < l0_4.length) = True := eq_true (by omega)
      (try rw [show ((1 : Int)).toNat = 1 from rfl] at hx397_0)
      (try rw [show 1 * 5 = 5 from rfl] at hx397_0)
      (try rw [show ((1 : Int)).toNat = 1 from rfl] at hx397_1)
      (try rw [show 1 * 5 = 5 from rfl] at hx397_1)
      (try rw [show ((1 : Int)).toNat = 1 from rfl] at hx397_2)
      (try rw [show 1 * 5 = 5 from rfl] at hx397_2)
      (try rw [show ((1 : Int)).toNat = 1 from rfl] at hx397_3)
      (try rw [show 1 * 5 = 5 from rfl] at hx397_3)
      (try rw [show ((1 : Int)).toNat = 1 from rfl] at hx397_4)
      (try rw [show 1 * 5 = 5 from rfl] at hx397_4)
      replace hx397_0 := (HB.out.cell (World.block_lt_of_cell? w _ hx397_0)).trans hx397_0
      replace hx397_1 := (HB.out.cell (World.block_lt_of_cell? w _ hx397_1)).trans hx397_1
      replace hx397_2 := (HB.out.cell (World.block_lt_of_cell? w _ hx397_2)).trans hx397_2
      replace hx397_3 := (HB.out.cell (World.block_lt_of_cell? w _ hx397_3)).trans hx397_3
      replace hx397_4 := (HB.out.cell (World.block_lt_of_cell? w _ hx397_4)).trans hx397_4
      have HR397_4 := z0 hi397_4
      have HC397_4 := z0 hl397_4
      clear hi397_4 hl397_4
      replace p397 := eq_true p397
      replace q397 := eq_true q397
      refine start_ (n := 16) (S := fun w' => w'.cell? ⟨gb388, 0, none⟩ = some (.int .i64 a0_0) ∧ w'.cell? ⟨gb388, 1, none⟩ = some (.int .i64 a0_1) ∧ w'.cell? ⟨gb388, 2, none⟩ = some (.int .i64 a0_2) ∧ w'.cell? ⟨gb388, 3, none⟩ = some (.int .i64 a0_3) ∧ w'.cell? ⟨gb388, 4, none⟩ = some (.slice (some ad395) l0_4.length c0_4) ∧ w'.cell? ⟨gb389, 0, none⟩ = some (.slice A1_0 l1_0.length c1_0) ∧ w'.cell? ⟨gb389, 1, none⟩ = some (.slice A1_1 l1_1.length c1_1) ∧ w'.cell? ⟨gb389, 2, none⟩ = some (.slice A1_2 l1_2.length c1_2) ∧ w'.cell? ad395 = some (.int .i64 ((rd_T27 l0_4 0).f0)) ∧ w'.cell? ⟨ad395.block, ad395.off + 1, none⟩ = some (.int .i64 ((rd_T27 l0_4 0).f1)) ∧ w'.cell? ⟨ad395.block, ad395.off + 2, none⟩ = some (.int .i64 ((rd_T27 l0_4 0).f2.f0)) ∧ w'.cell? ⟨ad395.block, ad395.off + 3, none⟩ = some (.int .i64 ((rd_T27 l0_4 0).f2.f1)) ∧ w'.cell? ⟨ad395.block, ad395.off + 4, none⟩ = some (.slice A395_4 ((rd_T27 l0_4 0).f3).length c395_4) ∧ w'.cell? ⟨ad395.block, ad395.off + 5, none⟩ = some (.int .i64 ((rd_T27 l0_4 1).f0)) ∧ w'.cell? ⟨ad395.block, ad395.off + 5 + 1, none⟩ = some (.int .i64 ((rd_T27 l0_4 1).f1)) ∧ w'.cell? ⟨ad395.block, ad395.off + 5 + 2, none⟩ = some (.int .i64 ((rd_T27 l0_4 1).f2.f0)) ∧ w'.cell? ⟨ad395.block, ad395.off + 5 + 3, none⟩ = some (.int .i64 ((rd_T27 l0_4 1).f2.f1)) ∧ w'.cell? ⟨ad395.block, ad395.off + 5 + 4, none⟩ = some (.slice A397_4 ((rd_T27 l0_4 1).f3).length c397_4)) (ds := []) #[false, false, false, false, false, false, false, false, false, false, false, false, false, false, false, false] (by kernel_rfl) rfl rfl q21_1 (fun hHeld => ?_); refine with_tabW spec_l3Of.tab8 spec_l3Of.bits8 (fun HT_ HW_ => ?_)
      generalize w5.drew = w29 at BK388 BK389 HB HR395_4 HR397_4 hx395_0 hx395_1 hx395_2 hx395_3 hx395_4 hx397_0 hx397_1 hx397_2 hx397_3 hx397_4 hHeld ⊢
      refine pure_ (i := 0) (N := some 28) (v := ?_) (a' := ?_) #[true, false, false, false, false, false, false, false, false, false, false, false, false, false, false, false] rfl rfl (any_of HT_.out (by kernel_rfl)) (fun _ _ _ h => h) (Or.inl ⟨by rfl, ?_⟩) ?_ ?_
      rotate_left
      ·intro w'
       go_simp
       with_reducible rfl
      rotate_left
      ·simp only [Act.put, List.setIfInBounds_toArray, List.set_cons_zero, List.set_cons_succ, i64_w, i32_w]
       rfl
      refine pure_ (i := 2) (N := some 30) (v := ?_) (a' := ?_) #[true, false, true, false, false, false, false, false, false, false, false, false, false, false, false, false] rfl rfl (any_of HT_.out (by kernel_rfl)) (fun _ _ _ h => h) (Or.inl ⟨by rfl, ?_⟩) ?_ ?_
      rotate_left
      ·intro w'
       go_simp
       with_reducible rfl
      rotate_left
      ·simp only [Act.put, List.setIfInBounds_toArray, List.set_cons_zero, List.set_cons_succ, i64_w, i32_w]
       rfl
      refine pure_ (i := 8) (N := some 36) (v := ?_) (a' := ?_) #[true, false, true, false, false, false, false, false, true, false, false, false, false, false, false, false] rfl rfl (any_of HT_.out (by kernel_rfl)) (fun _ _ _ h => h) (Or.inl ⟨by rfl, ?_⟩) ?_ ?_
      rotate_left
      ·intro w'
       go_simp
       with_reducible rfl
      rotate_left
      ·simp only [Act.put, List.setIfInBounds_toArray, List.set_cons_zero, List.set_cons_succ, i64_w, i32_w]
       rfl
      refine take_ (i := 1) (N := some 29) (v := ?_) (a' := ?_) #[true, true, true, false, false, false, false, false, true, false, false, false, false, false, false, false] rfl rfl (take_ofW HT_.out HW_.out (by kernel_rfl)) (fun _ _ _ h => h) (Or.inl ⟨by rfl, ?_⟩) hHeld ?_ ?_
      rotate_left
      ·rintro w' ⟨s0, s1, s2, s3, s4, s5, s6, s7, s8, s9, s10, s11, s12, s13, s14, s15, s16, s17⟩
       go_simp
       with_reducible rfl
      rotate_left
      ·simp only [Act.put, List.setIfInBounds_toArray, List.set_cons_zero, List.set_cons_succ, i64_w, i32_w]
       rfl
      refine take_ (i := 3) (N := some 31) (v := ?_) (a' := ?_) #[true, true, true, true, false, false, false, false, true, false, false, false, false, false, false, false] rfl rfl (take_ofW HT_.out HW_.out (by kernel_rfl)) (fun _ _ _ h => h) (Or.inl ⟨by rfl, ?_⟩) hHeld ?_ ?_
      rotate_left
      ·rintro w' ⟨s0, s1, s2, s3, s4, s5, s6, s7, s8, s9, s10, s11, s12, s13, s14, s15, s16, s17⟩
       go_simp
       with_reducible rfl
      rotate_left
      ·simp only [Act.put, List.setIfInBounds_toArray, List.set_cons_zero, List.set_cons_succ, i64_w, i32_w]
       rfl
      refine pure_ (i := 4) (N := some 32) (v := ?_) (a' := ?_) #[true, true, true, true, true, false, false, false, true, false, false, false, false, false, false, false] rfl rfl (any_of HT_.out (by kernel_rfl)) (fun _ _ _ h => h) (Or.inl ⟨by rfl, ?_⟩) ?_ ?_
      rotate_left
      ·intro w'
       go_simp
       with_reducible rfl
      rotate_left
      ·simp only [Act.put, List.setIfInBounds_toArray, List.set_cons_zero, List.set_cons_succ, i64_w, i32_w]
       rfl
      refine take_ (i := 5) (N := some 33) (v := ?_) (a' := ?_) #[true, true, true, true, true, true, false, false, true, false, false, false, false, false, false, false] rfl rfl (take_ofW HT_.out HW_.out (by kernel_rfl)) (fun _ _ _ h => h) (Or.inl ⟨by rfl, ?_⟩) hHeld ?_ ?_
      rotate_left
      ·rintro w' ⟨s0, s1, s2, s3, s4, s5, s6, s7, s8, s9, s10, s11, s12, s13, s14, s15, s16, s17⟩
       go_simp
       with_reducible rfl
      rotate_left
      ·simp only [Act.put, List.setIfInBounds_toArray, List.set_cons_zero, List.set_cons_succ, i64_w, i32_w]
       rfl
      refine take_ (i := 6) (N := some 34) (v := ?_) (a' := ?_) #[true, true, true, true, true, true, true, false, true, false, false, false, false, false, false, false] rfl rfl (take_ofW HT_.out HW_.out (by kernel_rfl)) (fun _ _ _ h => h) (Or.inl ⟨by rfl, ?_⟩) hHeld ?_ ?_
      rotate_left
      ·rintro w' ⟨s0, s1, s2, s3, s4, s5, s6, s7, s8, s9, s10, s11, s12, s13, s14, s15, s16, s17⟩
       go_simp
       with_reducible rfl
      rotate_left
      ·simp only [Act.put, List.setIfInBounds_toArray, List.set_cons_zero, List.set_cons_succ, i64_w, i32_w]
       rfl
      refine take_ (i := 9) (N := some 37) (v := ?_) (a' := ?_) #[true, true, true, true, true, true, true, false, true, true, false, false, false, false, false, false] rfl rfl (take_ofW HT_.out HW_.out (by kernel_rfl)) (fun _ _ _ h => h) (Or.inl ⟨by rfl, ?_⟩) hHeld ?_ ?_
      rotate_left
      ·rintro w' ⟨s0, s1, s2, s3, s4, s5, s6, s7, s8, s9, s10, s11, s12, s13, s14, s15, s16, s17⟩
       go_simp
       with_reducible rfl
      rotate_left
      ·simp only [Act.put, List.setIfInBounds_toArray, List.set_cons_zero, List.set_cons_succ, i64_w, i32_w]
       rfl
      refine pure_ (i := 10) (N := some 38) (v := ?_) (a' := ?_) #[true, true, true, true, true, true, true, false, true, true, true, false, false, false, false, false] rfl rfl (any_of HT_.out (by kernel_rfl)) (fun _ _ _ h => h) (Or.inl ⟨by rfl, ?_⟩) ?_ ?_
      rotate_left
      ·intro w'
       go_simp
       with_reducible rfl
      rotate_left
      ·simp only [Act.put, List.setIfInBounds_toArray, List.set_cons_zero, List.set_cons_succ, i64_w, i32_w]
       rfl
      refine take_ (i := 11) (N := some 39) (v := ?_) (a' := ?_) #[true, true, true, true, true, true, true, false, true, true, true, true, false, false, false, false] rfl rfl (take_ofW HT_.out HW_.out (by kernel_rfl)) (fun _ _ _ h => h) (Or.inl ⟨by rfl, ?_⟩) hHeld ?_ ?_
      rotate_left
      ·rintro w' ⟨s0, s1, s2, s3, s4, s5, s6, s7, s8, s9, s10, s11, s12, s13, s14, s15, s16, s17⟩
       go_simp
       with_reducible rfl
      rotate_left
      ·simp only [Act.put, List.setIfInBounds_toArray, List.set_cons_zero, List.set_cons_succ, i64_w, i32_w]
       rfl
      refine take_ (i := 12) (N := some 40) (v := ?_) (a' := ?_) #[true, true, true, true, true, true, true, false, true, true, true, true, true, false, false, false] rfl rfl (take_ofW HT_.out HW_.out (by kernel_rfl)) (fun _ _ _ h => h) (Or.inl ⟨by rfl, ?_⟩) hHeld ?_ ?_
      rotate_left
      ·rintro w' ⟨s0, s1, s2, s3, s4, s5, s6, s7, s8, s9, s10, s11, s12, s13, s14, s15, s16, s17⟩
       go_simp
       with_reducible rfl
      rotate_left
      ·simp only [Act.put, List.setIfInBounds_toArray, List.set_cons_zero, List.set_cons_succ, i64_w, i32_w]
       rfl
      refine one_ (i := 7) (N := some 35) #[true, true, true, true, true, true, true, true, true, true, true, true, true, false, false, false] rfl rfl (one_of HT_.out (by kernel_rfl)) (by decide) (fun K hK => ?_)
      refine goes_ Try.func21 (by kernel_rfl) rfl #[.agg #[.int .i64 ((rd_T27 l0_4 0).f0), .int .i64 ((rd_T27 l0_4 0).f1), .int .i64 ((rd_T27 l0_4 0).f2.f0), .int .i64 ((rd_T27 l0_4 0).f2.f1), .slice A395_4 ((rd_T27 l0_4 0).f3).length c395_4], .agg #[.slice A1_0 l1_0.length c1_0, .slice A1_1 l1_1.length c1_1, .slice A1_2 l1_2.length c1_2]] (by rfl) rfl rfl argx ?_
      with_reducible refine (ih k (by omega) ((rd_T27 l0_4 0).f0) ((rd_T27 l0_4 0).f1) ((rd_T27 l0_4 0).f2.f0) ((rd_T27 l0_4 0).f2.f1) _ _ ((rd_T27 l0_4 0).f3) _ _ l1_0 _ _ l1_1 _ _ l1_2 t396 _ ?side1 ?side2 ?side3 ?side4 ?side5 ?side6 ?side7 ?side8 A25.out).mono ?_
      (case side1 => exact mC (Kd.C_below HR395_4.out HB.out))
      (case side2 => exact HC395_4.out)
      (case side3 => exact mC (Kd.C_below HR1_0.out HB.out))
      (case side4 => exact HC1_0.out)
      (case side5 => exact mC (Kd.C_below HR1_1.out HB.out))
      (case side6 => exact HC1_1.out)
      (case side7 => exact mC (Kd.C_below HR1_2.out HB.out))
      (case side8 => exact HC1_2.out)
      rintro e w30 ⟨rfl, hb⟩
      refine ⟨_, rfl, ?_⟩
      have n_ := az (bB BK388.out hb) <| az (bB BK389.out hb) <| z0 (below_step (mB HB.out) hb)
      clear BK388 BK389 HB
      obtain ⟨BK388, BK389, HB⟩ := n_
      (try clear hb)
      (try clear hb2)
      (try clear hk)
      (try clear hi)
      refine hK.out _ _ q21_1 (fun hHeld => ?_)
      clear hK K
      refine norm_ (a' := ?_) ?_ ?_
      rotate_left
      ·show Act.put _ (some 35) _ = _
       simp only [Act.put, List.setIfInBounds_toArray, List.set_cons_zero, List.set_cons_succ, i64_w, i32_w]
       rfl
      refine one_ (i := 13) (N := some 41) #[true, true, true, true, true, true, true, true, true, true, true, true, true, true, false, false] rfl rfl (one_of HT_.out (by kernel_rfl)) (by decide) (fun K hK => ?_)
      refine goes_ Try.func21 (by kernel_rfl) rfl #[.agg #[.int .i64 ((rd_T27 l0_4 1).f0), .int .i64 ((rd_T27 l0_4 1).f1), .int .i64 ((rd_T27 l0_4 1).f2.f0), .int .i64 ((rd_T27 l0_4 1).f2.f1), .slice A397_4 ((rd_T27 l0_4 1).f3).length c397_4], .agg #[.slice A1_0 l1_0.length c1_0, .slice A1_1 l1_1.length c1_1, .slice A1_2 l1_2.length c1_2]] (by rfl) rfl rfl argx ?_
      with_reducible refine (ih k (by omega) ((rd_T27 l0_4 1).f0) ((rd_T27 l0_4 1).f1) ((rd_T27 l0_4 1).f2.f0) ((rd_T27 l0_4 1).f2.f1) _ _ ((rd_T27 l0_4 1).f3) _ _ l1_0 _ _ l1_1 _ _ l1_2 t398 _ ?side1 ?side2 ?side3 ?side4 ?side5 ?side6 ?side7 ?side8 A27.out).mono ?_
      (case side1 => exact mC (Kd.C_below HR397_4.out HB.out))
      (case side2 => exact HC397_4.out)
      (case side3 => exact mC (Kd.C_below HR1_0.out HB.out))
      (case side4 => exact HC1_0.out)
      (case side5 => exact mC (Kd.C_below HR1_1.out HB.out))
      (case side6 => exact HC1_1.out)
      (case side7 => exact mC (Kd.C_below HR1_2.out HB.out))
      (case side8 => exact HC1_2.out)
      rintro e w31 ⟨rfl, hb⟩
      refine ⟨_, rfl, ?_⟩
      have n_ := az (bB BK388.out hb) <| az (bB BK389.out hb) <| z0 (below_step (mB HB.out) hb)
      clear BK388 BK389 HB
      obtain ⟨BK388, BK389, HB⟩ := n_
      (try clear hb)
      (try clear hb2)
      (try clear hk)
      (try clear hi)
      refine hK.out _ _ q21_1 (fun hHeld => ?_)
      clear hK K
      refine norm_ (a' := ?_) ?_ ?_
      rotate_left
      ·show Act.put _ (some 41) _ = _
       simp only [Act.put, List.setIfInBounds_toArray, List.set_cons_zero, List.set_cons_succ, i64_w, i32_w]
       rfl
      refine one_ (i := 14) (N := some 42) #[true, true, true, true, true, true, true, true, true, true, true, true, true, true, true, false] rfl rfl (one_of HT_.out (by kernel_rfl)) (by decide) (fun K hK => ?_)
      refine goes_ Try.func41 (by kernel_rfl) rfl #[.int .i64 a0_0, .int .i64 t396, .int .i64 t398] (by rfl) rfl rfl argx ?_
      with_reducible refine (spec_l3Two.calls a0_0 t396 t398 t399 _ A28.out).mono ?_
      rintro e w' ⟨rfl, ⟨nd, rfl⟩⟩
      refine ⟨_, rfl, ?_⟩
      refine hK.out _ _ q21_1 (fun hHeld => ?_)
      clear hK K
      refine norm_ (a' := ?_) ?_ ?_
      rotate_left
      ·show Act.put _ (some 42) _ = _
       simp only [Act.put, List.setIfInBounds_toArray, List.set_cons_zero, List.set_cons_succ, i64_w, i32_w]
       rfl
      refine pure_ (i := 15) (N := some 4) (v := ?_) (a' := ?_) #[true, true, true, true, true, true, true, true, true, true, true, true, true, true, true, true] rfl rfl (any_of HT_.out (by kernel_rfl)) (fun _ _ _ h => h) (Or.inl ⟨by rfl, ?_⟩) ?_ ?_
      rotate_left
      ·intro w'
       go_simp
       with_reducible rfl
      rotate_left
      ·simp only [Act.put, List.setIfInBounds_toArray, List.set_cons_zero, List.set_cons_succ, i64_w, i32_w]
       rfl
      refine done_ (done_of HT_.out (by kernel_rfl)) ?_
      try go_wp2
      go_ret
      exact ⟨rfx, mB HB.out⟩
     ·rw [if_neg c26] at H
      exact absurd H (by simp)
    ·rw [if_neg c24] at H
     exact absurd H (by simp)

/-! ### spec_ExprOf: function 7 -/
def spec_ExprOf.f (k : Nat) (a0_0 : Int) (a0_1 : Int) (a0_2 : Int) (a0_3 : Int) (l0_4 : List (S27)) (l1_0 : List Int) (l1_1 : List Int) (l1_2 : List Int) : Option (Int) := (spec_ExprOk.f k a0_0 a0_1 a0_2 a0_3 l0_4).bind fun t402 => (if t402 = true then ((spec_MemOk.f k l1_0 l1_1 l1_2).bind fun t403 => (if t403 = true then ((spec_l3Of.f k a0_0 a0_1 a0_2 a0_3 l0_4 l1_0 l1_1 l1_2).bind fun t404 => (some t404)) else (some 0))) else (some 0))
theorem spec_ExprOf.mono : ∀ a0 a1 a2 a3 a4 a5 a6 a7 k, LeO (spec_ExprOf.f k a0 a1 a2 a3 a4 a5 a6 a7) (spec_ExprOf.f (k + 1) a0 a1 a2 a3 a4 a5 a6 a7) := by
 intro a0 a1 a2 a3 a4 a5 a6 a7 k
 unfold spec_ExprOf.f
 repeat' first
   | (with_reducible exact spec_ExprOk.mono _ _ _ _ _ _)
   | (with_reducible exact spec_MemOk.mono _ _ _ _)
   | (with_reducible exact spec_l3Of.mono _ _ _ _ _ _ _ _ _)
   | (with_reducible exact LeO.refl _)
   | (with_reducible exact LeO.none _)
   | (with_reducible refine LeO.ite ?_ ?_)
   | (with_reducible refine LeO.bind ?_ (fun _ => ?_))
   | exact spec_ExprOk.mono _ _ _ _ _ _
   | exact spec_MemOk.mono _ _ _ _
   | exact spec_l3Of.mono _ _ _ _ _ _ _ _ _
   | exact LeO.none _
   | refine LeO.ite ?_ ?_
   | refine LeO.bind ?_ (fun _ => ?_)
set_option maxHeartbeats 8000000 in
set_option maxRecDepth 100000 in
theorem spec_ExprOf.calls (k : Nat) (a0_0 : Int) (a0_1 : Int) (a0_2 : Int) (a0_3 : Int) (A0_4 : Option Addr) (c0_4 : Nat) (l0_4 : List (S27)) (A1_0 : Option Addr) (c1_0 : Nat) (l1_0 : List Int) (A1_1 : Option Addr) (c1_1 : Nat) (l1_1 : List Int) (A1_2 : Option Addr) (c1_2 : Nat) (l1_2 : List Int) (r : Int) (w : World) (hr0_4 : Kd.C k27 w A0_4 l0_4.length l0_4) (hc0_4 : l0_4.length ≤ c0_4) (hr1_0 : Kd.C (Kd.int .i64) w A1_0 l1_0.length l1_0) (hc1_0 : l1_0.length ≤ c1_0) (hr1_1 : Kd.C (Kd.int .i64) w A1_1 l1_1.length l1_1) (hc1_1 : l1_1.length ≤ c1_1) (hr1_2 : Kd.C (Kd.int .i64) w A1_2 l1_2.length l1_2) (hc1_2 : l1_2.length ≤ c1_2) (h : spec_ExprOf.f k a0_0 a0_1 a0_2 a0_3 l0_4 l1_0 l1_1 l1_2 = some r) :
  Calls Try.prog 7 #[.agg #[.int .i64 a0_0, .int .i64 a0_1, .int .i64 a0_2, .int .i64 a0_3, .slice A0_4 l0_4.length c0_4], .agg #[.slice A1_0 l1_0.length c1_0, .slice A1_1 l1_1.length c1_1, .slice A1_2 l1_2.length c1_2]] w fun e w' => e = .returned (.int .i64 r) ∧ Below w.heap.size w w' := by
 have hu27 := Try.underlying27
 have hu30 := Try.underlying30
 have HR0_4 := z0 hr0_4
 have HC0_4 := z0 hc0_4
 clear hr0_4 hc0_4
 have HR1_0 := z0 hr1_0
 have HC1_0 := z0 hc1_0
 clear hr1_0 hc1_0
 have HR1_1 := z0 hr1_1
 have HC1_1 := z0 hc1_1
 clear hr1_1 hc1_1
 have HR1_2 := z0 hr1_2
 have HC1_2 := z0 hc1_2
 clear hr1_2 hc1_2
 have HB := z0 (Below.refl w.heap.size w)
 have H : ((spec_ExprOk.f k a0_0 a0_1 a0_2 a0_3 l0_4).bind fun t402 => (if t402 = true then ((spec_MemOk.f k l1_0 l1_1 l1_2).bind fun t403 => (if t403 = true then ((spec_l3Of.f k a0_0 a0_1 a0_2 a0_3 l0_4 l1_0 l1_1 l1_2).bind fun t404 => (some t404)) else (some 0))) else (some 0))) = some r := h
 clear h
 have HF3 := z0 H
 clear H
 go_enter Try.func7, Try.ntmps7
 go_upto_region 1 with (first | ((with_reducible refine gate_dst (N := 2) rfl ?_); refine box_event ?hg (N := 2) ?hd (cs := #[.int .i64 a0_0, .int .i64 a0_1, .int .i64 a0_2, .int .i64 a0_3, .slice A0_4 l0_4.length c0_4]) (t := 27) ?hr ?_; (case hd => rfl); (case hg => rfl); (case hr => first | (go_simp; done) | (go_simp; rfl)); intro gb400 hg w4 hbox hb; have n_ := az (below_step (mB HB.out) hb) <| az (hbox) <| az ((by rw [hg]; exact (below_size (mB HB.out)) : w.heap.size ≤ gb400)) <| z0 ((by rw [hg]; exact (below_size (mB HB.out)) : w.heap.size ≤ gb400)); clear HB; obtain ⟨HB, BK400, GW400, GE400⟩ := n_; clear hb hbox hg) | ((with_reducible refine gate_dst (N := 3) rfl ?_); refine box_event ?hg (N := 3) ?hd (cs := #[.slice A1_0 l1_0.length c1_0, .slice A1_1 l1_1.length c1_1, .slice A1_2 l1_2.length c1_2]) (t := 30) ?hr ?_; (case hd => rfl); (case hg => rfl); (case hr => first | (go_simp; done) | (go_simp; rfl)); intro gb401 hg w5 hbox hb; have n_ := az (bB BK400.out hb) <| az (below_step (mB HB.out) hb) <| az (hbox) <| az ((by rw [hg]; exact (below_size (mB HB.out)) : w.heap.size ≤ gb401)) <| az ((by rw [hg]; exact (below_size (mB HB.out)) : w.heap.size ≤ gb401)) <| az ((nL hg BK400.out)) <| z0 ((nG hg BK400.out)); clear BK400 HB; obtain ⟨BK400, HB, BK401, GW401, GE401, NB400_401, NB401_400⟩ := n_; clear hb hbox hg))
 (try simp only [Act.put, List.setIfInBounds_toArray, List.set_cons_zero, List.set_cons_succ])
 have H := HF3.out
 clear HF3
 try clear c1
 replace H := Option.bind_eq_some_iff.mp H
 obtain ⟨t402, A60, H⟩ := H
 try dsimp only at H
 have A6 := z0 A60
 clear A60
 by_cases c7 : t402 = true
 ·subst c7
  have H1 : ((spec_MemOk.f k l1_0 l1_1 l1_2).bind fun t403 => (if t403 = true then ((spec_l3Of.f k a0_0 a0_1 a0_2 a0_3 l0_4 l1_0 l1_1 l1_2).bind fun t404 => (some t404)) else (some 0))) = some r := by rw [if_pos rfl] at H; exact H
  clear H
  have H := H1
  clear H1
  replace H := Option.bind_eq_some_iff.mp H
  obtain ⟨t403, A80, H⟩ := H
  try dsimp only at H
  have A8 := z0 A80
  clear A80
  have HF9 := z0 H
  clear H
  have hnb10 := NB400_401.out
  have hnc10 := NB401_400.out
  obtain ⟨hcz11_0, hcz11_1, hcz11_2, hcz11_3, hcz11_4, hfz11_0, hfz11_1, hfz11_2, hfz11_3, hfz11_4⟩ := cel5 BK400.out
  go_upto_if 12 with (first | ((with_reducible refine gate_callee (f := 8) rfl ?_); refine goesL_ (some 6) rfl rfl Try.func8 (by kernel_rfl) rfl #[.agg #[.int .i64 a0_0, .int .i64 a0_1, .int .i64 a0_2, .int .i64 a0_3, .slice A0_4 l0_4.length c0_4]] rfl argx ?_; (with_reducible refine (spec_ExprOk.calls k a0_0 a0_1 a0_2 a0_3 _ _ l0_4 true _ ?side1 ?side2 A6.out).mono ?_); (case side1 => exact mC (Kd.C_below HR0_4.out HB.out)); (case side2 => exact HC0_4.out); rintro e w12 ⟨rfl, hb⟩; refine ⟨_, rfl, ?_⟩; have n_ := az (bB BK400.out hb) <| az (bB BK401.out hb) <| z0 (below_step (mB HB.out) hb); clear BK400 BK401 HB; obtain ⟨BK400, BK401, HB⟩ := n_; clear hb; obtain ⟨hcz13_0, hcz13_1, hcz13_2, hfz13_0, hfz13_1, hfz13_2⟩ := cel3 BK401.out) | (go_at_call 9; (with_reducible refine (spec_MemOk.calls k _ _ l1_0 _ _ l1_1 _ _ l1_2 t403 _ ?side1 ?side2 ?side3 ?side4 ?side5 ?side6 A8.out).mono ?_); (case side1 => exact mC (Kd.C_below HR1_0.out HB.out)); (case side2 => exact HC1_0.out); (case side3 => exact mC (Kd.C_below HR1_1.out HB.out)); (case side4 => exact HC1_1.out); (case side5 => exact mC (Kd.C_below HR1_2.out HB.out)); (case side6 => exact HC1_2.out); rintro e w14 ⟨rfl, hb⟩; have n_ := az (bB BK400.out hb) <| az (bB BK401.out hb) <| z0 (below_step (mB HB.out) hb); clear BK400 BK401 HB; obtain ⟨BK400, BK401, HB⟩ := n_; clear hb))
  (try simp only [Act.put, List.setIfInBounds_toArray, List.set_cons_zero, List.set_cons_succ])
  have H := HF9.out
  clear HF9
  (try clear c1); (try clear c7); (try clear hcz11_0); (try clear hcz11_1); (try clear hcz11_2); (try clear hcz11_3); (try clear hcz11_4); (try clear hcz13_0); (try clear hcz13_1); (try clear hcz13_2); (try clear hfz11_0); (try clear hfz11_1); (try clear hfz11_2); (try clear hfz11_3); (try clear hfz11_4); (try clear hfz13_0); (try clear hfz13_1); (try clear hfz13_2)
  by_cases c15 : t403 = true
  ·subst c15
   have H1 : ((spec_l3Of.f k a0_0 a0_1 a0_2 a0_3 l0_4 l1_0 l1_1 l1_2).bind fun t404 => (some t404)) = some r := by rw [if_pos rfl] at H; exact H
   clear H
   have H := H1
   clear H1
   replace H := Option.bind_eq_some_iff.mp H
   obtain ⟨t404, A160, H⟩ := H
   try dsimp only at H
   have A16 := z0 A160
   clear A160
   obtain rfl := Option.some.inj H
   have hnb17 := NB400_401.out
   have hnc17 := NB401_400.out
   obtain ⟨hcz18_0, hcz18_1, hcz18_2, hcz18_3, hcz18_4, hfz18_0, hfz18_1, hfz18_2, hfz18_3, hfz18_4⟩ := cel5 BK400.out
   obtain ⟨hcz19_0, hcz19_1, hcz19_2, hfz19_0, hfz19_1, hfz19_2⟩ := cel3 BK401.out
   go_wp2_with (first | ((with_reducible refine gate_callee (f := 21) rfl ?_); refine goesL_ (some 15) rfl rfl Try.func21 (by kernel_rfl) rfl #[.agg #[.int .i64 a0_0, .int .i64 a0_1, .int .i64 a0_2, .int .i64 a0_3, .slice A0_4 l0_4.length c0_4], .agg #[.slice A1_0 l1_0.length c1_0, .slice A1_1 l1_1.length c1_1, .slice A1_2 l1_2.length c1_2]] rfl argx ?_; (with_reducible refine (spec_l3Of.calls k a0_0 a0_1 a0_2 a0_3 _ _ l0_4 _ _ l1_0 _ _ l1_1 _ _ l1_2 t404 _ ?side1 ?side2 ?side3 ?side4 ?side5 ?side6 ?side7 ?side8 A16.out).mono ?_); (case side1 => exact mC (Kd.C_below HR0_4.out HB.out)); (case side2 => exact HC0_4.out); (case side3 => exact mC (Kd.C_below HR1_0.out HB.out)); (case side4 => exact HC1_0.out); (case side5 => exact mC (Kd.C_below HR1_1.out HB.out)); (case side6 => exact HC1_1.out); (case side7 => exact mC (Kd.C_below HR1_2.out HB.out)); (case side8 => exact HC1_2.out); rintro e w20 ⟨rfl, hb⟩; refine ⟨_, rfl, ?_⟩; have n_ := az (bB BK400.out hb) <| az (bB BK401.out hb) <| z0 (below_step (mB HB.out) hb); clear BK400 BK401 HB; obtain ⟨BK400, BK401, HB⟩ := n_; clear hb))
   go_ret
   exact ⟨rfx, mB HB.out⟩
  ·replace c15 := Bool.eq_false_iff.mpr c15
   subst c15
   have H1 : (some 0) = some r := by rw [if_neg (show ¬ (false = true) by decide)] at H; exact H
   clear H
   have H := H1
   clear H1
   obtain rfl := Option.some.inj H
   go_wp2
   go_ret
   exact ⟨rfx, mB HB.out⟩
 ·replace c7 := Bool.eq_false_iff.mpr c7
  subst c7
  have H1 : (some 0) = some r := by rw [if_neg (show ¬ (false = true) by decide)] at H; exact H
  clear H
  have H := H1
  clear H1
  obtain rfl := Option.some.inj H
  have hnb21 := NB400_401.out
  have hnc21 := NB401_400.out
  obtain ⟨hcz22_0, hcz22_1, hcz22_2, hcz22_3, hcz22_4, hfz22_0, hfz22_1, hfz22_2, hfz22_3, hfz22_4⟩ := cel5 BK400.out
  go_wp2_with (first | ((with_reducible refine gate_callee (f := 8) rfl ?_); refine goesL_ (some 6) rfl rfl Try.func8 (by kernel_rfl) rfl #[.agg #[.int .i64 a0_0, .int .i64 a0_1, .int .i64 a0_2, .int .i64 a0_3, .slice A0_4 l0_4.length c0_4]] rfl argx ?_; (with_reducible refine (spec_ExprOk.calls k a0_0 a0_1 a0_2 a0_3 _ _ l0_4 false _ ?side1 ?side2 A6.out).mono ?_); (case side1 => exact mC (Kd.C_below HR0_4.out HB.out)); (case side2 => exact HC0_4.out); rintro e w23 ⟨rfl, hb⟩; refine ⟨_, rfl, ?_⟩; have n_ := az (bB BK400.out hb) <| az (bB BK401.out hb) <| z0 (below_step (mB HB.out) hb); clear BK400 BK401 HB; obtain ⟨BK400, BK401, HB⟩ := n_; clear hb))
  go_ret
  exact ⟨rfx, mB HB.out⟩

/-! ### impl_Addr_letter: function 72 -/
def impl_Addr_letter.f (a0_0 : Int) (a0_1 : Int) : Option (ByteArray) := if 0 ≤ a0_0 then (if a0_0 ≤ (wrap64 (a0_0 + 1)) then (if (wrap64 (a0_0 + 1)) ≤ 4 then (some ((⟨#[32, 105, 111, 118]⟩ : ByteArray).extract (a0_0 : Int).toNat ((wrap64 (a0_0 + 1)) : Int).toNat)) else (none)) else (none)) else (none)
set_option maxHeartbeats 8000000 in
set_option maxRecDepth 100000 in
theorem impl_Addr_letter.calls (a0_0 : Int) (a0_1 : Int) (r : ByteArray) (w : World) (h : impl_Addr_letter.f a0_0 a0_1 = some r) :
  Calls Try.prog 72 #[.agg #[.int .i64 a0_0, .int .i64 a0_1]] w fun e w' => e = .returned (.string r) ∧ Below w.heap.size w w' := by
 have hu24 := Try.underlying24
 have HB := z0 (Below.refl w.heap.size w)
 have H : (if 0 ≤ a0_0 then (if a0_0 ≤ (wrap64 (a0_0 + 1)) then (if (wrap64 (a0_0 + 1)) ≤ 4 then (some ((⟨#[32, 105, 111, 118]⟩ : ByteArray).extract (a0_0 : Int).toNat ((wrap64 (a0_0 + 1)) : Int).toNat)) else (none)) else (none)) else (none)) = some r := h
 clear h
 by_cases c2 : 0 ≤ a0_0
 ·rw [if_pos c2] at H
  have c2b0 := eq_true c2
  have c2b1 : decide (0 ≤ a0_0) = true := decide_eq_true c2
  clear c2
  by_cases c3 : a0_0 ≤ (wrap64 (a0_0 + 1))
  ·rw [if_pos c3] at H
   have c3b0 := eq_true c3
   have c3b1 : decide (a0_0 ≤ (wrap64 (a0_0 + 1))) = true := decide_eq_true c3
   by_cases c4 : (wrap64 (a0_0 + 1)) ≤ 4
   ·rw [if_pos c4] at H
    have c4b0 := eq_true c4
    have c4b1 : decide ((wrap64 (a0_0 + 1)) ≤ 4) = true := decide_eq_true c4
    obtain rfl := Option.some.inj H
    go_enter Try.func72, Try.ntmps72
    go_wp2_with (first | ((with_reducible refine gate_dst (N := 1) rfl ?_); refine box_event ?hg (N := 1) ?hd (cs := #[.int .i64 a0_0, .int .i64 a0_1]) (t := 24) ?hr ?_; (case hd => rfl); (case hg => rfl); (case hr => first | (go_simp; done) | (go_simp; rfl)); intro gb472 hg w5 hbox hb; have n_ := az (below_step (mB HB.out) hb) <| az (hbox) <| az ((by rw [hg]; exact (below_size (mB HB.out)) : w.heap.size ≤ gb472)) <| z0 ((by rw [hg]; exact (below_size (mB HB.out)) : w.heap.size ≤ gb472)); clear HB; obtain ⟨HB, BK472, GW472, GE472⟩ := n_; clear hb hbox hg; obtain ⟨hcz6_0, hcz6_1, hfz6_0, hfz6_1⟩ := cel2 BK472.out))
    go_ret
    exact ⟨rfx, mB HB.out⟩
   ·rw [if_neg c4] at H
    exact absurd H (by simp)
  ·rw [if_neg c3] at H
   exact absurd H (by simp)
 ·rw [if_neg c2] at H
  exact absurd H (by simp)

end Go.Proofs.Ytacbbpbopmdpeaa.B
namespace Go.Proofs.Ytacbbpbopmdpeaa.B
open Go.RowKit Go.Proofs.YtacbbpbopmdpeaaW.PrintWords Go.Proofs.YtacbbpbopmdpeaaW.PrintLast Go.Proofs.YtacbbpbopmdpeaaW.PrintMore
attribute [local go_sem] max2_int min2_int max_two min_two max_three min_three max_four min_four   -- for this text's walks alone
set_option linter.unusedVariables false
set_option linter.unusedSimpArgs false

attribute [local go_sem high] eqA24
/-! ### laws_wqPut: function 11 -/
mutual
def laws_wqPut.j0 : Nat → Int → Bool → Int → Int → Int → Int → List (S27) → Int → Int → Option (Int × Int × Int × Int × (List (S27)))
 | 0, _, _, _, _, _, _, _, _, _ => none
 | k + 1, x2, x17, x406000, x406001, x406002, x406003, x406004, x407000, x407001 => if x17 = true then (some (1, x2, 0, 0, ([] : List (S27)))) else (laws_wqPut.l0 k x2 0 x406000 x406001 x406002 x406003 x406004 x407000 x407001 x406000 x406001 x406002 x406003 ([] : List (S27)))
def laws_wqPut.l0 : Nat → Int → Int → Int → Int → Int → Int → List (S27) → Int → Int → Int → Int → Int → Int → List (S27) → Option (Int × Int × Int × Int × (List (S27)))
 | 0, _, _, _, _, _, _, _, _, _, _, _, _, _, _ => none
 | k + 1, x2, x8, x406000, x406001, x406002, x406003, x406004, x407000, x407001, x409000, x409001, x409002, x409003, x409004 => if x8 < (x406004.length : Int) then (if 0 ≤ x8 then ((laws_wqPut.f k ((rd_T27 x406004 x8).f0) ((rd_T27 x406004 x8).f1) ((rd_T27 x406004 x8).f2.f0) ((rd_T27 x406004 x8).f2.f1) ((rd_T27 x406004 x8).f3) x407000 x407001 x2).bind fun bt410 => (if x409004.length < 2513169434916 then (laws_wqPut.l0 k x2 (wrap64 (x8 + 1)) x406000 x406001 x406002 x406003 x406004 x407000 x407001 x409000 x409001 x409002 x409003 (x409004 ++ [(⟨bt410.1, bt410.2.1, (⟨bt410.2.2.1, bt410.2.2.2.1⟩ : S24), bt410.2.2.2.2⟩ : S27)])) else (none))) else (none)) else (some (x409000, x409001, x409002, x409003, x409004))
def laws_wqPut.f : Nat → Int → Int → Int → Int → List (S27) → Int → Int → Int → Option (Int × Int × Int × Int × (List (S27)))
 | 0, _, _, _, _, _, _, _, _ => none
 | k + 1, a0_0, a0_1, a0_2, a0_3, l0_4, a1_0, a1_1, a2 => if a0_0 = 2 then (laws_wqPut.j0 k a2 (a0_2 == a1_0 && (a0_3 == a1_1)) a0_0 a0_1 a0_2 a0_3 l0_4 a1_0 a1_1) else (laws_wqPut.j0 k a2 false a0_0 a0_1 a0_2 a0_3 l0_4 a1_0 a1_1)
end
theorem laws_wqPut.mono_l : ∀ k, (∀ y0 y1 y2 y3 y4 y5 y6 y7, LeO (laws_wqPut.f k y0 y1 y2 y3 y4 y5 y6 y7) (laws_wqPut.f (k + 1) y0 y1 y2 y3 y4 y5 y6 y7)) ∧ (∀ y0 y1 y2 y3 y4 y5 y6 y7 y8, LeO (laws_wqPut.j0 k y0 y1 y2 y3 y4 y5 y6 y7 y8) (laws_wqPut.j0 (k + 1) y0 y1 y2 y3 y4 y5 y6 y7 y8)) ∧ (∀ y0 y1 y2 y3 y4 y5 y6 y7 y8 y9 y10 y11 y12 y13, LeO (laws_wqPut.l0 k y0 y1 y2 y3 y4 y5 y6 y7 y8 y9 y10 y11 y12 y13) (laws_wqPut.l0 (k + 1) y0 y1 y2 y3 y4 y5 y6 y7 y8 y9 y10 y11 y12 y13))
 | 0 => ⟨fun _ _ _ _ _ _ _ _ r h => by simp [laws_wqPut.f] at h, fun _ _ _ _ _ _ _ _ _ r h => by simp [laws_wqPut.j0] at h, fun _ _ _ _ _ _ _ _ _ _ _ _ _ _ r h => by simp [laws_wqPut.l0] at h⟩
 | k + 1 => by
  obtain ⟨ih0, ih1, ih2⟩ := laws_wqPut.mono_l k
  refine ⟨?_, ?_, ?_⟩
  ·intro y0 y1 y2 y3 y4 y5 y6 y7
   unfold laws_wqPut.f
   repeat' first
   | (with_reducible exact ih0 _ _ _ _ _ _ _ _)
   | (with_reducible exact ih1 _ _ _ _ _ _ _ _ _)
   | (with_reducible exact ih2 _ _ _ _ _ _ _ _ _ _ _ _ _ _)
   | (with_reducible exact LeO.refl _)
   | (with_reducible exact LeO.none _)
   | (with_reducible refine LeO.ite ?_ ?_)
   | (with_reducible refine LeO.bind ?_ (fun _ => ?_))
   | exact ih0 _ _ _ _ _ _ _ _
   | exact ih1 _ _ _ _ _ _ _ _ _
   | exact ih2 _ _ _ _ _ _ _ _ _ _ _ _ _ _
   | exact LeO.none _
   | refine LeO.ite ?_ ?_
   | refine LeO.bind ?_ (fun _ => ?_)
  ·intro y0 y1 y2 y3 y4 y5 y6 y7 y8
   unfold laws_wqPut.j0
   repeat' first
   | (with_reducible exact ih0 _ _ _ _ _ _ _ _)
   | (with_reducible exact ih1 _ _ _ _ _ _ _ _ _)
   | (with_reducible exact ih2 _ _ _ _ _ _ _ _ _ _ _ _ _ _)
   | (with_reducible exact LeO.refl _)
   | (with_reducible exact LeO.none _)
   | (with_reducible refine LeO.ite ?_ ?_)
   | (with_reducible refine LeO.bind ?_ (fun _ => ?_))
   | exact ih0 _ _ _ _ _ _ _ _
   | exact ih1 _ _ _ _ _ _ _ _ _
   | exact ih2 _ _ _ _ _ _ _ _ _ _ _ _ _ _
   | exact LeO.none _
   | refine LeO.ite ?_ ?_
   | refine LeO.bind ?_ (fun _ => ?_)
  ·intro y0 y1 y2 y3 y4 y5 y6 y7 y8 y9 y10 y11 y12 y13
   unfold laws_wqPut.l0
   repeat' first
   | (with_reducible exact ih0 _ _ _ _ _ _ _ _)
   | (with_reducible exact ih1 _ _ _ _ _ _ _ _ _)
   | (with_reducible exact ih2 _ _ _ _ _ _ _ _ _ _ _ _ _ _)
   | (with_reducible exact LeO.refl _)
   | (with_reducible exact LeO.none _)
   | (with_reducible refine LeO.ite ?_ ?_)
   | (with_reducible refine LeO.bind ?_ (fun _ => ?_))
   | exact ih0 _ _ _ _ _ _ _ _
   | exact ih1 _ _ _ _ _ _ _ _ _
   | exact ih2 _ _ _ _ _ _ _ _ _ _ _ _ _ _
   | exact LeO.none _
   | refine LeO.ite ?_ ?_
   | refine LeO.bind ?_ (fun _ => ?_)
def laws_wqPut.T8 : Bool × List (List Nat × List Nat) := (true, [([], []), ([0], [0]), ([], []), ([2], [2]), ([], []), ([3, 4], [3, 4]), ([5], [5]), ([], []), ([], []), ([6, 7, 8], [6, 7, 8]), ([9], [9]), ([1, 10, 9], [1, 10]), ([0, 1, 2, 3, 4, 5, 6, 7, 8, 9, 10, 11], []), ([12, 11, 11, 0, 1, 2, 3, 4, 5, 6, 7, 8, 9, 10, 11], [11, 12])])
def laws_wqPut.B8 : List Nat := [0, 1, 0, 4, 0, 28, 60, 0, 0, 508, 1020, 2047, 4095, 8191]
theorem laws_wqPut.tab8 : rtab .any (opsOf Try.f11 8) = laws_wqPut.T8 := by kernel_rfl
theorem laws_wqPut.bits8 : waitsOk laws_wqPut.T8.2 laws_wqPut.B8 = true := by kernel_rfl
theorem q11_1 {p : Prop} (h : p := by exact ⟨(blk_cell BK408.out 0).trans rfl, (blk_cell BK408.out 1).trans rfl, (blk_cell BK408.out 2).trans rfl, (blk_cell BK408.out 3).trans rfl, (blk_cell BK408.out 4).trans rfl, (blk_cell BK405.out 0).trans rfl, (blk_cell BK405.out 1).trans rfl, (blk_cell BK405.out 2).trans rfl, (blk_cell BK405.out 3).trans rfl, (blk_cell BK405.out 4).trans rfl, (blk_cell BK406.out 0).trans rfl, (blk_cell BK406.out 1).trans rfl, ((HB.out.cell (World.block_lt_of_cell? w _ hw409_0)).trans hw409_0), ((HB.out.cell (World.block_lt_of_cell? w _ hw409_1)).trans hw409_1), ((HB.out.cell (World.block_lt_of_cell? w _ hw409_2)).trans hw409_2), ((HB.out.cell (World.block_lt_of_cell? w _ hw409_3)).trans hw409_3), ((HB.out.cell (World.block_lt_of_cell? w _ hw409_4)).trans hw409_4)⟩) : p := h
set_option maxHeartbeats 8000000 in
set_option maxRecDepth 100000 in
theorem laws_wqPut.calls (k : Nat) : ∀ (a0_0 : Int) (a0_1 : Int) (a0_2 : Int) (a0_3 : Int) (A0_4 : Option Addr) (c0_4 : Nat) (l0_4 : List (S27)) (a1_0 : Int) (a1_1 : Int) (a2 : Int) (r1 : Int) (r2 : Int) (r3 : Int) (r4 : Int) (r5 : List (S27)) (w : World) (hr0_4 : Kd.C k27 w A0_4 l0_4.length l0_4) (hc0_4 : l0_4.length ≤ c0_4) (h : laws_wqPut.f k a0_0 a0_1 a0_2 a0_3 l0_4 a1_0 a1_1 a2 = some (r1, r2, r3, r4, r5)),
  Calls Try.prog 11 #[.agg #[.int .i64 a0_0, .int .i64 a0_1, .int .i64 a0_2, .int .i64 a0_3, .slice A0_4 l0_4.length c0_4], .agg #[.int .i64 a1_0, .int .i64 a1_1], .int .i64 a2] w fun e w' => ∃ v4_ : Value, e = .returned (.agg #[.int .i64 r1, .int .i64 r2, .int .i64 r3, .int .i64 r4, v4_]) ∧ Kd.R k27 27 w' w.heap.size (fun _ => True) v4_ r5 ∧ Below w.heap.size w w' := by
 induction k using Nat.strongRecOn with
 | _ k ih =>
 intro a0_0 a0_1 a0_2 a0_3 A0_4 c0_4 l0_4 a1_0 a1_1 a2 r1 r2 r3 r4 r5 w hr0_4 hc0_4 h
 cases k with
 | zero => exact absurd h (by simp [laws_wqPut.f])
 | succ k =>
 simp only [laws_wqPut.f] at h
 have hu27 := Try.underlying27
 have hu24 := Try.underlying24
 have HR0_4 := z0 hr0_4
 have HC0_4 := z0 hc0_4
 clear hr0_4 hc0_4
 have HB := z0 (Below.refl w.heap.size w)
 have H : (if a0_0 = 2 then (laws_wqPut.j0 k a2 (a0_2 == a1_0 && (a0_3 == a1_1)) a0_0 a0_1 a0_2 a0_3 l0_4 a1_0 a1_1) else (laws_wqPut.j0 k a2 false a0_0 a0_1 a0_2 a0_3 l0_4 a1_0 a1_1)) = some (r1, r2, r3, r4, r5) := h
 clear h
 have HC4 := z0 H
 clear H
 go_enter Try.func11, Try.ntmps11
 go_upto_region 1 with (first | ((with_reducible refine gate_dst (N := 3) rfl ?_); refine box_event ?hg (N := 3) ?hd (cs := #[.int .i64 a0_0, .int .i64 a0_1, .int .i64 a0_2, .int .i64 a0_3, .slice A0_4 l0_4.length c0_4]) (t := 27) ?hr ?_; (case hd => rfl); (case hg => rfl); (case hr => first | (go_simp; done) | (go_simp; rfl)); intro gb405 hg w5 hbox hb; have n_ := az (below_step (mB HB.out) hb) <| az (hbox) <| az ((by rw [hg]; exact (below_size (mB HB.out)) : w.heap.size ≤ gb405)) <| z0 ((by rw [hg]; exact (below_size (mB HB.out)) : w.heap.size ≤ gb405)); clear HB; obtain ⟨HB, BK405, GW405, GE405⟩ := n_; clear hb hbox hg) | ((with_reducible refine gate_dst (N := 4) rfl ?_); refine box_event ?hg (N := 4) ?hd (cs := #[.int .i64 a1_0, .int .i64 a1_1]) (t := 24) ?hr ?_; (case hd => rfl); (case hg => rfl); (case hr => first | (go_simp; done) | (go_simp; rfl)); intro gb406 hg w6 hbox hb; have n_ := az (bB BK405.out hb) <| az (below_step (mB HB.out) hb) <| az (hbox) <| az ((by rw [hg]; exact (below_size (mB HB.out)) : w.heap.size ≤ gb406)) <| az ((by rw [hg]; exact (below_size (mB HB.out)) : w.heap.size ≤ gb406)) <| az ((nL hg BK405.out)) <| z0 ((nG hg BK405.out)); clear BK405 HB; obtain ⟨BK405, HB, BK406, GW406, GE406, NB405_406, NB406_405⟩ := n_; clear hb hbox hg) | ((with_reducible refine gate_dst (N := 6) rfl ?_); refine box_event ?hg (N := 6) ?hd (cs := #[.int .i64 0, .int .i64 0, .int .i64 0, .int .i64 0, .slice none 0 0]) (t := 27) ?hr ?_; (case hd => rfl); (case hg => rfl); (case hr => first | (go_simp; done) | (go_simp; rfl)); intro gb407 hg w7 hbox hb; have n_ := az (bB BK405.out hb) <| az (bB BK406.out hb) <| az (below_step (mB HB.out) hb) <| az (hbox) <| az ((by rw [hg]; exact (below_size (mB HB.out)) : w.heap.size ≤ gb407)) <| az ((by rw [hg]; exact (below_size (mB HB.out)) : w.heap.size ≤ gb407)) <| az ((nL hg BK405.out)) <| az ((nG hg BK405.out)) <| az ((nL hg BK406.out)) <| z0 ((nG hg BK406.out)); clear BK405 BK406 HB; obtain ⟨BK405, BK406, HB, BK407, GW407, GE407, NB405_407, NB407_405, NB406_407, NB407_406⟩ := n_; clear hb hbox hg))
 (try simp only [Act.put, List.setIfInBounds_toArray, List.set_cons_zero, List.set_cons_succ])
 go_cut [17] (fun v17 wc => ∃ (kq : Nat) (x17_3 : Bool), v17 = .bool x17_3 ∧ Aside0 (laws_wqPut.j0 kq a2 x17_3 a0_0 a0_1 a0_2 a0_3 l0_4 a1_0 a1_1 = some (r1, r2, r3, r4, r5)) ∧ Aside0 (kq ≤ k) ∧ Aside0 (wc.heap[gb405]? = some (.cells #[.int .i64 a0_0, .int .i64 a0_1, .int .i64 a0_2, .int .i64 a0_3, (.slice A0_4 l0_4.length c0_4)] 27 (0, 0))) ∧ Aside0 (wc.heap[gb406]? = some (.cells #[.int .i64 a1_0, .int .i64 a1_1] 24 (0, 0))) ∧ Aside0 (wc.heap[gb407]? = some (.cells #[.int .i64 0, .int .i64 0, .int .i64 0, .int .i64 0, (.slice none 0 0)] 27 (0, 0))) ∧ Aside0 (Below w.heap.size w wc))
 case first =>
  have H := HC4.out
  clear HC4
  by_cases c8 : a0_0 = 2
  ·rw [if_pos c8] at H
   have c8b0 : (a0_0 == 2) = true := beq_iff_eq.mpr c8
   have c8b1 : (a0_0 != 2) = false := bne_eq_false_iff_eq.mpr c8
   clear c8
   (first | rw [c8b0] | (simp only [i64_w, i32_w]; rw [c8b0]) | skip)
   have H' := z0 H
   clear H
   have hnb9 := NB405_406.out
   have hnc9 := NB406_405.out
   have hnb10 := NB405_407.out
   have hnc10 := NB407_405.out
   obtain ⟨hcz11_0, hcz11_1, hcz11_2, hcz11_3, hcz11_4, hfz11_0, hfz11_1, hfz11_2, hfz11_3, hfz11_4⟩ := cel5 BK405.out
   have hnb12 := NB406_407.out
   have hnc12 := NB407_406.out
   obtain ⟨hcz13_0, hcz13_1, hfz13_0, hfz13_1⟩ := cel2 BK406.out
   go_wp2
   go_meet
   case rel => exact ⟨_, ((a0_2 == a1_0 && (a0_3 == a1_1))), rfy, H', ⟨by first | omega | exact Nat.le_refl _⟩, ⟨mK BK405.out⟩, ⟨mK BK406.out⟩, ⟨mK BK407.out⟩, ⟨mB HB.out⟩⟩
  ·rw [if_neg c8] at H
   have c8b0 : (a0_0 == 2) = false := beq_eq_false_iff_ne.mpr c8
   have c8b1 : (a0_0 != 2) = true := bne_iff_ne.mpr c8
   (first | rw [c8b0] | (simp only [i64_w, i32_w]; rw [c8b0]) | skip)
   have H' := z0 H
   clear H
   have hnb14 := NB405_406.out
   have hnc14 := NB406_405.out
   have hnb15 := NB405_407.out
   have hnc15 := NB407_405.out
   obtain ⟨hcz16_0, hcz16_1, hcz16_2, hcz16_3, hcz16_4, hfz16_0, hfz16_1, hfz16_2, hfz16_3, hfz16_4⟩ := cel5 BK405.out
   go_wp2
   go_meet
   case rel => exact ⟨_, (false), rfy, H', ⟨by first | omega | exact Nat.le_refl _⟩, ⟨mK BK405.out⟩, ⟨mK BK406.out⟩, ⟨mK BK407.out⟩, ⟨mB HB.out⟩⟩
 case rest =>
  clear HC4
  skip
  obtain ⟨kq, x17_3, rfl, HA, HJ3, BK405, BK406, BK407, HB⟩ := hcut
  cases kq with
  | zero => exact absurd HA.out (by simp [laws_wqPut.j0])
  | succ kj3 =>
   have H := HA.out
   clear HA
   simp only [laws_wqPut.j0] at H
   by_cases c17 : x17_3 = true
   ·subst c17
    have H1 : (some (1, a2, 0, 0, ([] : List (S27)))) = some (r1, r2, r3, r4, r5) := by rw [if_pos rfl] at H; exact H
    clear H
    have H := H1
    clear H1
    simp only [Option.some.injEq, Prod.mk.injEq] at H
    obtain ⟨rfl, rfl, rfl, rfl, rfl⟩ := H
    have hnb18 := NB407_405.out
    have hnc18 := NB405_407.out
    have hnb19 := NB407_406.out
    have hnc19 := NB406_407.out
    obtain ⟨hcz20_0, hcz20_1, hcz20_2, hcz20_3, hcz20_4, hfz20_0, hfz20_1, hfz20_2, hfz20_3, hfz20_4⟩ := cel5 BK407.out
    go_wp2
    refine bodyPost_ret (results_cell_row rfl _ _ gb407 27 #[.int .i64 1, .int .i64 a2, .int .i64 0, .int .i64 0, .slice none 0 0] (0, 0) _ rfl (pF BK407.out) Try.underlying27 rfl (by kernel_rfl)) rfl ?_
    exact ⟨_, rfx, by first | exact Kd.R_nil _ _ _ _ _ | exact Kd.N_nil _ _ _ _ _ | exact Kd.V_nil _ _ _ _ _ | exact Kd.Q_nil _ _ _ _ _ | exact Kd.S_nil _ _ _ _ _, mB HB.out⟩
   ·replace c17 := Bool.eq_false_iff.mpr c17
    subst c17
    have H1 : (laws_wqPut.l0 kj3 a2 0 a0_0 a0_1 a0_2 a0_3 l0_4 a1_0 a1_1 a0_0 a0_1 a0_2 a0_3 ([] : List (S27))) = some (r1, r2, r3, r4, r5) := by rw [if_neg (show ¬ (false = true) by decide)] at H; exact H
    clear H
    have H := H1
    clear H1
    have H' := z0 H
    clear H
    have hnb21 := NB405_406.out
    have hnc21 := NB406_405.out
    have hnb22 := NB405_407.out
    have hnc22 := NB407_405.out
    obtain ⟨hcz23_0, hcz23_1, hcz23_2, hcz23_3, hcz23_4, hfz23_0, hfz23_1, hfz23_2, hfz23_3, hfz23_4⟩ := cel5 BK405.out
    go_wp2_with (first | ((with_reducible refine gate_dst (N := 7) rfl ?_); refine box_event ?hg (N := 7) ?hd (cs := #[.int .i64 0, .int .i64 0, .int .i64 0, .int .i64 0, .slice none 0 0]) (t := 27) ?hr ?_; (case hd => rfl); (case hg => rfl); (case hr => first | (go_simp; done) | (go_simp; rfl)); intro gb408 hg w24 hbox hb; have n_ := az (bB BK405.out hb) <| az (bB BK406.out hb) <| az (bB BK407.out hb) <| az (below_step (mB HB.out) hb) <| az (hbox) <| az ((by rw [hg]; exact (below_size (mB HB.out)) : w.heap.size ≤ gb408)) <| az ((by rw [hg]; exact (below_size (mB HB.out)) : w.heap.size ≤ gb408)) <| az ((nL hg BK405.out)) <| az ((nG hg BK405.out)) <| az ((nL hg BK406.out)) <| az ((nG hg BK406.out)) <| az ((nL hg BK407.out)) <| z0 ((nG hg BK407.out)); clear BK405 BK406 BK407 HB; obtain ⟨BK405, BK406, BK407, HB, BK408, GW408, GE408, NB405_408, NB408_405, NB406_408, NB408_406, NB407_408, NB408_407⟩ := n_; clear hb hbox hg; have hnb25 := NB408_405.out; have hnc25 := NB405_408.out; have hnb26 := NB408_406.out; have hnc26 := NB406_408.out; have hnb27 := NB408_407.out; have hnc27 := NB407_408.out; obtain ⟨hcz28_0, hcz28_1, hcz28_2, hcz28_3, hcz28_4, hfz28_0, hfz28_1, hfz28_2, hfz28_3, hfz28_4⟩ := cel5 BK408.out))
    go_loopg [8] kj3 (fun kq v8 w' => ∃ (x8_2 : Int) (x409004_2 : List (S27)) (u409004 : Value), v8 = .int .i64 x8_2 ∧ Aside0 (laws_wqPut.l0 kq a2 x8_2 a0_0 a0_1 a0_2 a0_3 l0_4 a1_0 a1_1 a0_0 a0_1 a0_2 a0_3 x409004_2 = some (r1, r2, r3, r4, r5)) ∧ Aside0 (kq ≤ kj3) ∧ Aside0 (Kd.R k27 27 w' w.heap.size (fun k_ => k_ ≠ gb405 ∧ k_ ≠ gb407 ∧ k_ ≠ gb408) u409004 x409004_2) ∧ Aside0 (w'.heap[gb405]? = some (.cells #[.int .i64 a0_0, .int .i64 a0_1, .int .i64 a0_2, .int .i64 a0_3, (.slice A0_4 l0_4.length c0_4)] 27 (0, 0))) ∧ Aside0 (w'.heap[gb406]? = some (.cells #[.int .i64 a1_0, .int .i64 a1_1] 24 (0, 0))) ∧ Aside0 (w'.heap[gb407]? = some (.cells #[.int .i64 0, .int .i64 0, .int .i64 0, .int .i64 0, (.slice none 0 0)] 27 (0, 0))) ∧ Aside0 (w'.heap[gb408]? = some (.cells #[.int .i64 a0_0, .int .i64 a0_1, .int .i64 a0_2, .int .i64 a0_3, u409004] 27 (0, 0))) ∧ Aside0 (Below w.heap.size w w'))
    case atStart => exact ⟨(0), (([] : List (S27))), (.slice none 0 0), rfy, H', ⟨Nat.le_refl _⟩, ⟨by first | exact Kd.R_nil _ _ _ _ _ | exact Kd.N_nil _ _ _ _ _ | exact Kd.V_nil _ _ _ _ _ | exact Kd.Q_nil _ _ _ _ _ | exact Kd.S_nil _ _ _ _ _⟩, ⟨mF BK405.out⟩, ⟨mF BK406.out⟩, ⟨mF BK407.out⟩, ⟨by (with_reducible repeat (first | refine blk_drewN ?_ _ | refine blk_drew ?_ | refine blk_alloc ?_ _)); refine blk_put (cs := #[.int .i64 a0_0, .int .i64 a0_1, .int .i64 a0_2, .int .i64 a0_3, .slice A0_4 l0_4.length c0_4]) ?_ 4 _ rfl; (with_reducible repeat (first | refine blk_drewN ?_ _ | refine blk_drew ?_ | refine blk_alloc ?_ _)); refine blk_put (cs := #[.int .i64 a0_0, .int .i64 a0_1, .int .i64 a0_2, .int .i64 a0_3, .slice none 0 0]) ?_ 4 _ rfl; (with_reducible repeat (first | refine blk_drewN ?_ _ | refine blk_drew ?_ | refine blk_alloc ?_ _)); refine blk_put (cs := #[.int .i64 a0_0, .int .i64 a0_1, .int .i64 a0_2, .int .i64 0, .slice none 0 0]) ?_ 3 _ rfl; (with_reducible repeat (first | refine blk_drewN ?_ _ | refine blk_drew ?_ | refine blk_alloc ?_ _)); refine blk_put (cs := #[.int .i64 a0_0, .int .i64 a0_1, .int .i64 0, .int .i64 0, .slice none 0 0]) ?_ 2 _ rfl; (with_reducible repeat (first | refine blk_drewN ?_ _ | refine blk_drew ?_ | refine blk_alloc ?_ _)); refine blk_put (cs := #[.int .i64 a0_0, .int .i64 0, .int .i64 0, .int .i64 0, .slice none 0 0]) ?_ 1 _ rfl; (with_reducible repeat (first | refine blk_drewN ?_ _ | refine blk_drew ?_ | refine blk_alloc ?_ _)); refine blk_put (cs := #[.int .i64 0, .int .i64 0, .int .i64 0, .int .i64 0, .slice none 0 0]) ?_ 0 _ rfl; (with_reducible repeat (first | refine blk_drewN ?_ _ | refine blk_drew ?_ | refine blk_alloc ?_ _)); exact BK408.out⟩, ⟨mB HB.out⟩⟩
    case round =>
     clear H'
     (try clear c17); (try clear hcz20_0); (try clear hcz20_1); (try clear hcz20_2); (try clear hcz20_3); (try clear hcz20_4); (try clear hcz23_0); (try clear hcz23_1); (try clear hcz23_2); (try clear hcz23_3); (try clear hcz23_4); (try clear hcz28_0); (try clear hcz28_1); (try clear hcz28_2); (try clear hcz28_3); (try clear hcz28_4); (try clear hfz20_0); (try clear hfz20_1); (try clear hfz20_2); (try clear hfz20_3); (try clear hfz20_4); (try clear hfz23_0); (try clear hfz23_1); (try clear hfz23_2); (try clear hfz23_3); (try clear hfz23_4); (try clear hfz28_0); (try clear hfz28_1); (try clear hfz28_2); (try clear hfz28_3); (try clear hfz28_4)
     obtain ⟨x8_2, x409004_2, u409004, rfl, HA, HK2, HO_409004, BK405, BK406, BK407, BK408, HB⟩ := hrel
     cases gk with
     | zero => exact absurd HA.out (by simp [laws_wqPut.l0])
     | succ k2 =>
      have H := HA.out
      clear HA
      simp only [laws_wqPut.l0] at H
      by_cases c29 : x8_2 < (l0_4.length : Int)
      ·rw [if_pos c29] at H
       have c29b0 : decide (x8_2 < (l0_4.length : Int)) = true := decide_eq_true c29
       clear c29
       by_cases c30 : 0 ≤ x8_2
       ·rw [if_pos c30] at H
        have c30b0 : decide (0 ≤ x8_2) = true := decide_eq_true c30
        clear c30
        replace H := Option.bind_eq_some_iff.mp H
        obtain ⟨⟨t410, t411, t412, t413, t414⟩, A310, H⟩ := H
        try dsimp only at H
        have A31 := z0 A310
        clear A310
        by_cases c32 : x409004_2.length < 2513169434916
        ·rw [if_pos c32] at H
         have LMc32 := z0 c32
         clear c32
         obtain ⟨y417, hy417⟩ : ∃ y_ : List (S27), y_ = (x409004_2 ++ [(⟨t410, t411, (⟨t412, t413⟩ : S24), t414⟩ : S27)]) := ⟨_, rfl⟩
         replace H : (laws_wqPut.l0 k2 a2 (wrap64 (x8_2 + 1)) a0_0 a0_1 a0_2 a0_3 l0_4 a1_0 a1_1 a0_0 a0_1 a0_2 a0_3 y417) = some (r1, r2, r3, r4, r5) := by first | (rw [hy417]; with_reducible exact H) | (have H2_ := (Option.bind_some _ _).symm.trans H; rw [hy417]; with_reducible exact H2_) | (have H2_ := (Option.bind_some _ _).symm.trans H; with_reducible exact H2_) | with_reducible exact H | (rw [hy417]; exact H) | exact H
         have Ny417 := z0 hy417
         clear hy417
         have H' := z0 H
         clear H
         have hnb33 := NB405_406.out
         have hnc33 := NB406_405.out
         have hnb34 := NB405_407.out
         have hnc34 := NB407_405.out
         have hnb35 := NB405_408.out
         have hnc35 := NB408_405.out
         obtain ⟨hcz36_0, hcz36_1, hcz36_2, hcz36_3, hcz36_4, hfz36_0, hfz36_1, hfz36_2, hfz36_3, hfz36_4⟩ := cel5 BK405.out
         try go_wp2
         have n_ := az (Kd.R_drew HO_409004.out) <| az (blk_drew BK405.out) <| az (blk_drew BK406.out) <| az (blk_drew BK407.out) <| az (blk_drew BK408.out) <| z0 (below_drew1 HB.out)
         clear HO_409004 BK405 BK406 BK407 BK408 HB
         obtain ⟨HO_409004, BK405, BK406, BK407, BK408, HB⟩ := n_
         have p409 : 0 ≤ (x8_2 : Int) := of_decide_eq_true (by first | (with_reducible assumption) | assumption)
         have q409 : x8_2 < (l0_4.length : Int) := of_decide_eq_true (by first | (with_reducible assumption) | assumption)
         obtain ⟨ad409, A409_4, c409_4, e409, hx409_0, hx409_1, hx409_2, hx409_3, hx409_4, hl409_4, hi409_4⟩ := at_T27 HR0_4.out x8_2 p409 q409
         have hw409_4 := hx409_4
         have hw409_3 := hx409_3
         have hw409_2 := hx409_2
         have hw409_1 := hx409_1
         have hw409_0 := hx409_0
         cases e409
         replace hx409_0 := (HB.out.cell (World.block_lt_of_cell? w _ hx409_0)).trans hx409_0
         replace hx409_1 := (HB.out.cell (World.block_lt_of_cell? w _ hx409_1)).trans hx409_1
         replace hx409_2 := (HB.out.cell (World.block_lt_of_cell? w _ hx409_2)).trans hx409_2
         replace hx409_3 := (HB.out.cell (World.block_lt_of_cell? w _ hx409_3)).trans hx409_3
         replace hx409_4 := (HB.out.cell (World.block_lt_of_cell? w _ hx409_4)).trans hx409_4
         have HR409_4 := z0 hi409_4
         have HC409_4 := z0 hl409_4
         clear hi409_4 hl409_4
         replace p409 := eq_true p409
         replace q409 := eq_true q409
         refine start_ (n := 14) (S := fun w' => w'.cell? ⟨gb408, 0, none⟩ = some (.int .i64 a0_0) ∧ w'.cell? ⟨gb408, 1, none⟩ = some (.int .i64 a0_1) ∧ w'.cell? ⟨gb408, 2, none⟩ = some (.int .i64 a0_2) ∧ w'.cell? ⟨gb408, 3, none⟩ = some (.int .i64 a0_3) ∧ w'.cell? ⟨gb408, 4, none⟩ = some (u409004) ∧ w'.cell? ⟨gb405, 0, none⟩ = some (.int .i64 a0_0) ∧ w'.cell? ⟨gb405, 1, none⟩ = some (.int .i64 a0_1) ∧ w'.cell? ⟨gb405, 2, none⟩ = some (.int .i64 a0_2) ∧ w'.cell? ⟨gb405, 3, none⟩ = some (.int .i64 a0_3) ∧ w'.cell? ⟨gb405, 4, none⟩ = some (.slice (some ad409) l0_4.length c0_4) ∧ w'.cell? ⟨gb406, 0, none⟩ = some (.int .i64 a1_0) ∧ w'.cell? ⟨gb406, 1, none⟩ = some (.int .i64 a1_1) ∧ w'.cell? (ad409.add ((x8_2).toNat * 5)) = some (.int .i64 ((rd_T27 l0_4 x8_2).f0)) ∧ w'.cell? ⟨(ad409.add ((x8_2).toNat * 5)).block, (ad409.add ((x8_2).toNat * 5)).off + 1, none⟩ = some (.int .i64 ((rd_T27 l0_4 x8_2).f1)) ∧ w'.cell? ⟨(ad409.add ((x8_2).toNat * 5)).block, (ad409.add ((x8_2).toNat * 5)).off + 2, none⟩ = some (.int .i64 ((rd_T27 l0_4 x8_2).f2.f0)) ∧ w'.cell? ⟨(ad409.add ((x8_2).toNat * 5)).block, (ad409.add ((x8_2).toNat * 5)).off + 3, none⟩ = some (.int .i64 ((rd_T27 l0_4 x8_2).f2.f1)) ∧ w'.cell? ⟨(ad409.add ((x8_2).toNat * 5)).block, (ad409.add ((x8_2).toNat * 5)).off + 4, none⟩ = some (.slice A409_4 ((rd_T27 l0_4 x8_2).f3).length c409_4)) (ds := [13]) #[false, false, false, false, false, false, false, false, false, false, false, false, false, false] (by kernel_rfl) rfl rfl q11_1 (fun hHeld => ?_); refine with_tabW laws_wqPut.tab8 laws_wqPut.bits8 (fun HT_ HW_ => ?_)
         generalize wr.drew = w37 at HO_409004 BK405 BK406 BK407 BK408 HB HR409_4 hx409_0 hx409_1 hx409_2 hx409_3 hx409_4 hHeld ⊢
         refine pure_ (i := 0) (N := some 29) (v := ?_) (a' := ?_) #[true, false, false, false, false, false, false, false, false, false, false, false, false, false] rfl rfl (any_of HT_.out (by kernel_rfl)) (fun _ _ _ h => h) (Or.inl ⟨by rfl, ?_⟩) ?_ ?_
         rotate_left
         ·intro w'
          go_simp
          with_reducible rfl
         rotate_left
         ·simp only [Act.put, List.setIfInBounds_toArray, List.set_cons_zero, List.set_cons_succ, i64_w, i32_w]
          rfl
         refine pure_ (i := 2) (N := some 31) (v := ?_) (a' := ?_) #[true, false, true, false, false, false, false, false, false, false, false, false, false, false] rfl rfl (any_of HT_.out (by kernel_rfl)) (fun _ _ _ h => h) (Or.inl ⟨by rfl, ?_⟩) ?_ ?_
         rotate_left
         ·intro w'
          go_simp
          with_reducible rfl
         rotate_left
         ·simp only [Act.put, List.setIfInBounds_toArray, List.set_cons_zero, List.set_cons_succ, i64_w, i32_w]
          rfl
         refine pure_ (i := 4) (N := some 33) (v := ?_) (a' := ?_) #[true, false, true, false, true, false, false, false, false, false, false, false, false, false] rfl rfl (any_of HT_.out (by kernel_rfl)) (fun _ _ _ h => h) (Or.inl ⟨by rfl, ?_⟩) ?_ ?_
         rotate_left
         ·intro w'
          go_simp
          with_reducible rfl
         rotate_left
         ·simp only [Act.put, List.setIfInBounds_toArray, List.set_cons_zero, List.set_cons_succ, i64_w, i32_w]
          rfl
         refine pure_ (i := 8) (N := some 37) (v := ?_) (a' := ?_) #[true, false, true, false, true, false, false, false, true, false, false, false, false, false] rfl rfl (any_of HT_.out (by kernel_rfl)) (fun _ _ _ h => h) (Or.inl ⟨by rfl, ?_⟩) ?_ ?_
         rotate_left
         ·intro w'
          go_simp
          with_reducible rfl
         rotate_left
         ·simp only [Act.put, List.setIfInBounds_toArray, List.set_cons_zero, List.set_cons_succ, i64_w, i32_w]
          rfl
         refine take_ (i := 1) (N := some 30) (v := ?_) (a' := ?_) #[true, true, true, false, true, false, false, false, true, false, false, false, false, false] rfl rfl (take_ofW HT_.out HW_.out (by kernel_rfl)) (fun _ _ _ h => h) (Or.inl ⟨by rfl, ?_⟩) hHeld ?_ ?_
         rotate_left
         ·rintro w' ⟨s0, s1, s2, s3, s4, s5, s6, s7, s8, s9, s10, s11, s12, s13, s14, s15, s16⟩
          go_simp
          with_reducible rfl
         rotate_left
         ·simp only [Act.put, List.setIfInBounds_toArray, List.set_cons_zero, List.set_cons_succ, i64_w, i32_w]
          rfl
         refine take_ (i := 3) (N := some 32) (v := ?_) (a' := ?_) #[true, true, true, true, true, false, false, false, true, false, false, false, false, false] rfl rfl (take_ofW HT_.out HW_.out (by kernel_rfl)) (fun _ _ _ h => h) (Or.inl ⟨by rfl, ?_⟩) hHeld ?_ ?_
         rotate_left
         ·rintro w' ⟨s0, s1, s2, s3, s4, s5, s6, s7, s8, s9, s10, s11, s12, s13, s14, s15, s16⟩
          go_simp
          with_reducible rfl
         rotate_left
         ·simp only [Act.put, List.setIfInBounds_toArray, List.set_cons_zero, List.set_cons_succ, i64_w, i32_w]
          rfl
         refine pure_ (i := 5) (N := some 34) (v := ?_) (a' := ?_) #[true, true, true, true, true, true, false, false, true, false, false, false, false, false] rfl rfl (any_of HT_.out (by kernel_rfl)) (fun _ _ _ h => h) (Or.inl ⟨by rfl, ?_⟩) ?_ ?_
         rotate_left
         ·intro w'
          go_simp
          with_reducible rfl
         rotate_left
         ·simp only [Act.put, List.setIfInBounds_toArray, List.set_cons_zero, List.set_cons_succ, i64_w, i32_w]
          rfl
         refine take_ (i := 6) (N := some 35) (v := ?_) (a' := ?_) #[true, true, true, true, true, true, true, false, true, false, false, false, false, false] rfl rfl (take_ofW HT_.out HW_.out (by kernel_rfl)) (fun _ _ _ h => h) (Or.inl ⟨by rfl, ?_⟩) hHeld ?_ ?_
         rotate_left
         ·rintro w' ⟨s0, s1, s2, s3, s4, s5, s6, s7, s8, s9, s10, s11, s12, s13, s14, s15, s16⟩
          go_simp
          with_reducible rfl
         rotate_left
         ·simp only [Act.put, List.setIfInBounds_toArray, List.set_cons_zero, List.set_cons_succ, i64_w, i32_w]
          rfl
         refine take_ (i := 7) (N := some 36) (v := ?_) (a' := ?_) #[true, true, true, true, true, true, true, true, true, false, false, false, false, false] rfl rfl (take_ofW HT_.out HW_.out (by kernel_rfl)) (fun _ _ _ h => h) (Or.inl ⟨by rfl, ?_⟩) hHeld ?_ ?_
         rotate_left
         ·rintro w' ⟨s0, s1, s2, s3, s4, s5, s6, s7, s8, s9, s10, s11, s12, s13, s14, s15, s16⟩
          go_simp
          with_reducible rfl
         rotate_left
         ·simp only [Act.put, List.setIfInBounds_toArray, List.set_cons_zero, List.set_cons_succ, i64_w, i32_w]
          rfl
         refine one_ (i := 9) (N := some 38) #[true, true, true, true, true, true, true, true, true, true, false, false, false, false] rfl rfl (one_of HT_.out (by kernel_rfl)) (by decide) (fun K hK => ?_)
         refine goes_ Try.func11 (by kernel_rfl) rfl #[.agg #[.int .i64 ((rd_T27 l0_4 x8_2).f0), .int .i64 ((rd_T27 l0_4 x8_2).f1), .int .i64 ((rd_T27 l0_4 x8_2).f2.f0), .int .i64 ((rd_T27 l0_4 x8_2).f2.f1), .slice A409_4 ((rd_T27 l0_4 x8_2).f3).length c409_4], .agg #[.int .i64 a1_0, .int .i64 a1_1], .int .i64 a2] (by rfl) rfl rfl argx ?_
         with_reducible refine (ih k2 (by have := HJ3.out; have := HK2.out; omega) ((rd_T27 l0_4 x8_2).f0) ((rd_T27 l0_4 x8_2).f1) ((rd_T27 l0_4 x8_2).f2.f0) ((rd_T27 l0_4 x8_2).f2.f1) _ _ ((rd_T27 l0_4 x8_2).f3) a1_0 a1_1 a2 t410 t411 t412 t413 t414 _ ?side1 ?side2 A31.out).mono ?_
         (case side1 => exact mC (Kd.C_below HR409_4.out HB.out))
         (case side2 => exact HC409_4.out)
         rintro e w38 ⟨v415, rfl, ho0, hb⟩
         refine ⟨_, rfl, ?_⟩
         have n_ := az (Kd.R_elder' (mR HO_409004.out) (by first | exact Kd.R_base ho0 | exact Kd.R_base ho0) hb) <| And.intro (z0 (Kd.R_lower (Kd.R_newB (Kd.R_newB (Kd.R_newB (Kd.R_new' ho0 (Kd.R_lt (mR HO_409004.out))) (g := gb405) (o := .cells #[.int .i64 a0_0, .int .i64 a0_1, .int .i64 a0_2, .int .i64 a0_3, .slice (some ad409) l0_4.length c0_4] 27 (0, 0)) (mK BK405.out)) (g := gb407) (o := .cells #[.int .i64 0, .int .i64 0, .int .i64 0, .int .i64 0, .slice none 0 0] 27 (0, 0)) (mK BK407.out)) (g := gb408) (o := .cells #[.int .i64 a0_0, .int .i64 a0_1, .int .i64 a0_2, .int .i64 a0_3, u409004] 27 (0, 0)) (mK BK408.out)) (below_size (mB HB.out)))) <| az (bB BK405.out hb) <| az (bB BK406.out hb) <| az (bB BK407.out hb) <| az (bB BK408.out hb) <| z0 (below_step (mB HB.out) hb)
         clear HO_409004 BK405 BK406 BK407 BK408 HB
         obtain ⟨HO_409004, HO416, BK405, BK406, BK407, BK408, HB⟩ := n_
         (try clear hb)
         (try clear hb2)
         (try clear hk)
         (try clear hi)
         (try clear ho0)
         obtain ⟨Ao40, co40, eo40⟩ := Kd.R_slice HO416.out
         (first | subst eo40 | (injection eo40 with f1_ f2_ f3_; have f4_ := f1_.symm; have f5_ := f3_.symm; clear f1_ f2_ f3_; subst f4_; subst f5_))
         refine hK.out _ _ q11_1 (fun hHeld => ?_)
         clear hK K
         refine norm_ (a' := ?_) ?_ ?_
         rotate_left
         ·show Act.put _ (some 38) _ = _
          simp only [Act.put, List.setIfInBounds_toArray, List.set_cons_zero, List.set_cons_succ, i64_w, i32_w]
          rfl
         refine one_ (i := 10) (N := some 39) #[true, true, true, true, true, true, true, true, true, true, true, false, false, false] rfl rfl (one_of HT_.out (by kernel_rfl)) (by decide) (fun K hK => ?_)
         refine value_ (w1 := ?_) (v := ?_) (by rfl) rfl ?_ ?_
         rotate_left 2
         ·go_simp
          constructor
          ·rfl
          ·rfl
         refine hK.out _ _ ⟨(blk_cell (blk_alloc BK408.out _) 0).trans rfl, (blk_cell (blk_alloc BK408.out _) 1).trans rfl, (blk_cell (blk_alloc BK408.out _) 2).trans rfl, (blk_cell (blk_alloc BK408.out _) 3).trans rfl, (blk_cell (blk_alloc BK408.out _) 4).trans rfl, (blk_cell (blk_alloc BK405.out _) 0).trans rfl, (blk_cell (blk_alloc BK405.out _) 1).trans rfl, (blk_cell (blk_alloc BK405.out _) 2).trans rfl, (blk_cell (blk_alloc BK405.out _) 3).trans rfl, (blk_cell (blk_alloc BK405.out _) 4).trans rfl, (blk_cell (blk_alloc BK406.out _) 0).trans rfl, (blk_cell (blk_alloc BK406.out _) 1).trans rfl, (World.cell?_alloc_lt _ _ _ (World.block_lt_of_cell? _ _ (((HB.out.cell (World.block_lt_of_cell? w _ hw409_0)).trans hw409_0)))).trans (((HB.out.cell (World.block_lt_of_cell? w _ hw409_0)).trans hw409_0)), (World.cell?_alloc_lt _ _ _ (World.block_lt_of_cell? _ _ (((HB.out.cell (World.block_lt_of_cell? w _ hw409_1)).trans hw409_1)))).trans (((HB.out.cell (World.block_lt_of_cell? w _ hw409_1)).trans hw409_1)), (World.cell?_alloc_lt _ _ _ (World.block_lt_of_cell? _ _ (((HB.out.cell (World.block_lt_of_cell? w _ hw409_2)).trans hw409_2)))).trans (((HB.out.cell (World.block_lt_of_cell? w _ hw409_2)).trans hw409_2)), (World.cell?_alloc_lt _ _ _ (World.block_lt_of_cell? _ _ (((HB.out.cell (World.block_lt_of_cell? w _ hw409_3)).trans hw409_3)))).trans (((HB.out.cell (World.block_lt_of_cell? w _ hw409_3)).trans hw409_3)), (World.cell?_alloc_lt _ _ _ (World.block_lt_of_cell? _ _ (((HB.out.cell (World.block_lt_of_cell? w _ hw409_4)).trans hw409_4)))).trans (((HB.out.cell (World.block_lt_of_cell? w _ hw409_4)).trans hw409_4))⟩ (fun hHeld => ?_)
         clear hK K
         refine norm_ (a' := ?_) ?_ ?_
         rotate_left
         ·show Act.put _ (some 39) _ = _
          simp only [Act.put, List.setIfInBounds_toArray, List.set_cons_zero, List.set_cons_succ, i64_w, i32_w]
          rfl
         refine one_ (i := 11) (N := some 40) #[true, true, true, true, true, true, true, true, true, true, true, true, false, false] rfl rfl (one_of HT_.out (by kernel_rfl)) (by decide) (fun K hK => ?_)
         refine Kd.R_append_step k27 (w0 := w) w.heap.size (by rfl) (.tmp 30) (.tmp 39) 25 27 (.agg #[(.int .i64 0), (.int .i64 0), (.int .i64 0), (.int .i64 0), (.slice none 0 0)]) 56 rfl Try.underlying25 info27 rfl (by decide) (by omega) u409004 x409004_2 (⟨t410, t411, (⟨t412, t413⟩ : S24), t414⟩ : S27) [.int .i64 t410, .int .i64 t411, .int .i64 t412, .int .i64 t413, .slice Ao40 t414.length co40] (fun k_ => k_ ≠ gb405 ∧ k_ ≠ gb407 ∧ k_ ≠ gb408) (fun k_ => ((fun k_ => k_ ≠ gb405 ∧ k_ ≠ gb407 ∧ k_ ≠ gb408)) k_ ∧ nB k_ u409004) rfl rfl ?aP (fun _ hk => hk) ?aF ?aO ?aB ?aS ?aL ?_
         (case aP => exact k27_mkM _ _ _ (⟨t410, t411, (⟨t412, t413⟩ : S24), t414⟩ : S27) (Kd.R_mono (HO416.out) (fun k_ hk => ⟨⟨hk.1.1.2, ⟨hk.1.2, hk.2⟩⟩, hk.1.1.1.2⟩)))
         (case aB => exact (mB HB.out))
         (case aF => exact (fun k_ hk => ⟨fB BK405.out hk, fB BK407.out hk, fB BK408.out hk⟩))
         (case aO => exact (by (with_reducible repeat (first | apply Kd.R_alloc | apply Kd.R_drewN | apply Kd.R_drew)); exact Kd.R_mono HO_409004.out (fun _ hk => ⟨hk.1.1, ⟨hk.1.2.1, hk.1.2.2⟩⟩)))
         (case aS => exact (below_size (mB HB.out)))
         (case aL => have := LMc32.out; omega)
         intro v418 w39 ho hb hg hat
         rw [← Ny417.out] at ho
         have n_ := az (blk_grown (g := gb405) (o := .cells #[.int .i64 a0_0, .int .i64 a0_1, .int .i64 a0_2, .int .i64 a0_3, .slice (some ad409) l0_4.length c0_4] 27 (0, 0)) (mK BK405.out) hg (Kd.R_away HO_409004.out (fun _ hk => hk.1.1))) <| az (blk_grown (g := gb406) (o := .cells #[.int .i64 a1_0, .int .i64 a1_1] 24 (0, 0)) (mK BK406.out) hg (Kd.R_ne HO_409004.out BK406.out (by decide))) <| az (blk_grown (g := gb407) (o := .cells #[.int .i64 0, .int .i64 0, .int .i64 0, .int .i64 0, .slice none 0 0] 27 (0, 0)) (mK BK407.out) hg (Kd.R_away HO_409004.out (fun _ hk => hk.1.2.1))) <| az (blk_grown (g := gb408) (o := .cells #[.int .i64 a0_0, .int .i64 a0_1, .int .i64 a0_2, .int .i64 a0_3, u409004] 27 (0, 0)) (mK BK408.out) hg (Kd.R_away HO_409004.out (fun _ hk => hk.1.2.2))) <| az (hb) <| z0 (ho)
         clear BK405 BK406 BK407 BK408 HB HO_409004 HO416
         obtain ⟨BK405, BK406, BK407, BK408, HB, HO419⟩ := n_
         clear ho hb hg hat
         obtain ⟨Ao41, co41, eo41⟩ := Kd.R_slice HO419.out
         (first | subst eo41 | (injection eo41 with f1_ f2_ f3_; have f4_ := f1_.symm; have f5_ := f3_.symm; clear f1_ f2_ f3_; subst f4_; subst f5_))
         refine hK.out _ _ q11_1 (fun hHeld => ?_)
         clear hK K
         refine norm_ (a' := ?_) ?_ ?_
         rotate_left
         ·show Act.put _ (some 40) _ = _
          simp only [Act.put, List.setIfInBounds_toArray, List.set_cons_zero, List.set_cons_succ, i64_w, i32_w]
          rfl
         refine pure_ (i := 12) (N := some 41) (v := ?_) (a' := ?_) #[true, true, true, true, true, true, true, true, true, true, true, true, true, false] rfl rfl (any_of HT_.out (by kernel_rfl)) (fun _ _ _ h => h) (Or.inl ⟨by rfl, ?_⟩) ?_ ?_
         rotate_left
         ·intro w'
          go_simp
          with_reducible rfl
         rotate_left
         ·simp only [Act.put, List.setIfInBounds_toArray, List.set_cons_zero, List.set_cons_succ, i64_w, i32_w]
          rfl
         refine last_ (i := 13) (N := none) #[true, true, true, true, true, true, true, true, true, true, true, true, true, true] rfl rfl (one_of HT_.out (by kernel_rfl)) (by decide) (fun K hK => ?_)
         have hs42 : w39.cell? ⟨gb408, 4, none⟩ = some (u409004) := (blk_cell BK408.out 4).trans rfl
         have hfs42 := blk_frozen BK408.out 4
         have hns42_0 := NB405_408.out
         have hns42_1 := NB406_408.out
         have hns42_2 := NB407_408.out
         have hms42_0 := NB408_405.out
         have hms42_1 := NB408_406.out
         have hms42_2 := NB408_407.out
         refine skip_ (w1 := ?_) (by rfl) rfl ?_ ?_
         rotate_left
         ·go_simp
          rfl
         refine hK.out _ _ ?_
         clear hK K
         refine done_ (done_of HT_.out (by kernel_rfl)) ?_
         try go_wp2
         go_roundg k2
         case measure => have := HJ3.out; have := HK2.out; omega
         case rel => exact ⟨(wrap64 (x8_2 + 1)), (y417), (.slice Ao41 y417.length co41), rfy, H', ⟨by have := HJ3.out; have := HK2.out; omega⟩, ⟨by (with_reducible repeat (first | apply Kd.R_alloc | apply Kd.R_drewN | apply Kd.R_drew)); exact Kd.R_mono (Kd.R_far (p := ⟨gb408, 4, none⟩) (Kd.R_mono HO419.out (fun k_ hk => (⟨hk, hk.2.2⟩ : _ ∧ k_ ≠ gb408))) (fun _ hk => hk.2) (.slice Ao41 y417.length co41)) (fun _ hk => ⟨hk.1.1, ⟨hk.1.2.1, hk.1.2.2⟩⟩)⟩, ⟨mF BK405.out⟩, ⟨mF BK406.out⟩, ⟨mF BK407.out⟩, ⟨by (with_reducible repeat (first | refine blk_drewN ?_ _ | refine blk_drew ?_ | refine blk_alloc ?_ _)); refine blk_put (cs := #[.int .i64 a0_0, .int .i64 a0_1, .int .i64 a0_2, .int .i64 a0_3, u409004]) ?_ 4 _ rfl; (with_reducible repeat (first | refine blk_drewN ?_ _ | refine blk_drew ?_ | refine blk_alloc ?_ _)); exact BK408.out⟩, ⟨mB HB.out⟩⟩
        ·rw [if_neg c32] at H
         exact absurd H (by simp)
       ·rw [if_neg c30] at H
        exact absurd H (by simp)
      ·rw [if_neg c29] at H
       have c29b0 : decide (x8_2 < (l0_4.length : Int)) = false := decide_eq_false c29
       clear c29
       simp only [Option.some.injEq, Prod.mk.injEq] at H
       obtain ⟨rfl, rfl, rfl, rfl, rfl⟩ := H
       have hnb43 := NB405_406.out
       have hnc43 := NB406_405.out
       have hnb44 := NB405_407.out
       have hnc44 := NB407_405.out
       have hnb45 := NB405_408.out
       have hnc45 := NB408_405.out
       obtain ⟨hcz46_0, hcz46_1, hcz46_2, hcz46_3, hcz46_4, hfz46_0, hfz46_1, hfz46_2, hfz46_3, hfz46_4⟩ := cel5 BK405.out
       have hnb47 := NB408_406.out
       have hnc47 := NB406_408.out
       have hnb48 := NB408_407.out
       have hnc48 := NB407_408.out
       obtain ⟨hcz49_0, hcz49_1, hcz49_2, hcz49_3, hcz49_4, hfz49_0, hfz49_1, hfz49_2, hfz49_3, hfz49_4⟩ := cel5 BK408.out
       have hnb50 := NB407_406.out
       have hnc50 := NB406_407.out
       obtain ⟨hcz51_0, hcz51_1, hcz51_2, hcz51_3, hcz51_4, hfz51_0, hfz51_1, hfz51_2, hfz51_3, hfz51_4⟩ := cel5 BK407.out
       obtain ⟨Ao52, co52, eo52⟩ := Kd.R_slice HO_409004.out
       subst eo52
       go_wp2
       refine bodyPost_ret (results_cell_row rfl _ _ gb407 27 #[.int .i64 a0_0, .int .i64 a0_1, .int .i64 a0_2, .int .i64 a0_3, .slice Ao52 x409004_2.length co52] (0, 0) _ rfl (pF BK407.out) Try.underlying27 rfl (by kernel_rfl)) rfl ?_
       exact ⟨_, rfx, by (with_reducible repeat (first | apply Kd.R_alloc | apply Kd.R_drewN | apply Kd.R_drew)); exact Kd.R_mono (Kd.R_far (p := ⟨gb407, 4, none⟩) (Kd.R_far (p := ⟨gb407, 3, none⟩) (Kd.R_far (p := ⟨gb407, 2, none⟩) (Kd.R_far (p := ⟨gb407, 1, none⟩) (Kd.R_far (p := ⟨gb407, 0, none⟩) (Kd.R_mono HO_409004.out (fun k_ hk => (⟨hk, hk.2.1⟩ : _ ∧ k_ ≠ gb407))) (fun _ hk => hk.2) (.int .i64 a0_0)) (fun _ hk => hk.2) (.int .i64 a0_1)) (fun _ hk => hk.2) (.int .i64 a0_2)) (fun _ hk => hk.2) (.int .i64 a0_3)) (fun _ hk => hk.2) (.slice Ao52 x409004_2.length co52)) (fun _ hk => trivial), mB HB.out⟩

end Go.Proofs.Ytacbbpbopmdpeaa.B
namespace Go.Proofs.Ytacbbpbopmdpeaa.B
open Go.RowKit Go.Proofs.YtacbbpbopmdpeaaW.PrintWords Go.Proofs.YtacbbpbopmdpeaaW.PrintLast Go.Proofs.YtacbbpbopmdpeaaW.PrintMore
attribute [local go_sem] max2_int min2_int max_two min_two max_three min_three max_four min_four   -- for this text's walks alone
set_option linter.unusedVariables false
set_option linter.unusedSimpArgs false

/-! ### spec_DrawMemGet: function 5 -/
def spec_DrawMemGet.f (k : Nat) (l0 : List Int) : Option (List Int × List Int × List Int × Int × Int) := (spec_l12Open.f l0).bind fun bt337 => ((spec_l2MemBent.f k bt337.1 bt337.2).bind fun bt340 => ((spec_l2AddrBent.f k bt337.1 bt340.2.2.2).bind fun bt351 => (some (bt340.1, bt340.2.1, bt340.2.2.1, bt351.1, bt351.2.1))))
set_option maxHeartbeats 8000000 in
set_option maxRecDepth 100000 in
theorem spec_DrawMemGet.calls (k : Nat) (A0 : Option Addr) (c0 : Nat) (l0 : List Int) (r1 : List Int) (r2 : List Int) (r3 : List Int) (r4 : Int) (r5 : Int) (w : World) (hr0 : Kd.C (Kd.int .u8) w A0 l0.length l0) (hc0 : l0.length ≤ c0) (h : spec_DrawMemGet.f k l0 = some (r1, r2, r3, r4, r5)) :
  Calls Try.prog 5 #[.slice A0 l0.length c0] w fun e w' => ∃ v0_ v1_ v2_ : Value, e = .returned (.tuple #[.agg #[v0_, v1_, v2_], .agg #[.int .i64 r4, .int .i64 r5]]) ∧ Kd.R (Kd.int .i64) 3 w' w.heap.size (fun k_ => nB k_ v1_ ∧ nB k_ v2_) v0_ r1 ∧ Kd.R (Kd.int .i64) 3 w' w.heap.size (fun k_ => nB k_ v0_ ∧ nB k_ v2_) v1_ r2 ∧ Kd.R (Kd.int .i64) 3 w' w.heap.size (fun k_ => nB k_ v0_ ∧ nB k_ v1_) v2_ r3 ∧ Below w.heap.size w w' := by
 have hu30 := Try.underlying30
 have hu24 := Try.underlying24
 have HR0 := z0 hr0
 have HC0 := z0 hc0
 clear hr0 hc0
 have HB := z0 (Below.refl w.heap.size w)
 have H : ((spec_l12Open.f l0).bind fun bt337 => ((spec_l2MemBent.f k bt337.1 bt337.2).bind fun bt340 => ((spec_l2AddrBent.f k bt337.1 bt340.2.2.2).bind fun bt351 => (some (bt340.1, bt340.2.1, bt340.2.2.1, bt351.1, bt351.2.1))))) = some (r1, r2, r3, r4, r5) := h
 clear h
 replace H := Option.bind_eq_some_iff.mp H
 obtain ⟨⟨t337, t338⟩, A20, H⟩ := H
 try dsimp only at H
 have A2 := z0 A20
 clear A20
 replace H := Option.bind_eq_some_iff.mp H
 obtain ⟨⟨t340, t343, t346, t349⟩, A30, H⟩ := H
 try dsimp only at H
 have A3 := z0 A30
 clear A30
 replace H := Option.bind_eq_some_iff.mp H
 obtain ⟨⟨t351, t352, t353⟩, A40, H⟩ := H
 try dsimp only at H
 have A4 := z0 A40
 clear A40
 simp only [Option.some.injEq, Prod.mk.injEq] at H
 obtain ⟨rfl, rfl, rfl, rfl, rfl⟩ := H
 go_enter Try.func5, Try.ntmps5
 try go_wp2_with (first | ((with_reducible refine gate_dst (N := 2) rfl ?_); refine box_event ?hg (N := 2) ?hd (cs := #[.slice none 0 0, .slice none 0 0, .slice none 0 0]) (t := 30) ?hr ?_; (case hd => rfl); (case hg => rfl); (case hr => first | (go_simp; done) | (go_simp; rfl)); intro gb335 hg w5 hbox hb; have n_ := az (below_step (mB HB.out) hb) <| az (hbox) <| az ((by rw [hg]; exact (below_size (mB HB.out)) : w.heap.size ≤ gb335)) <| z0 ((by rw [hg]; exact (below_size (mB HB.out)) : w.heap.size ≤ gb335)); clear HB; obtain ⟨HB, BK335, GW335, GE335⟩ := n_; clear hb hbox hg) | ((with_reducible refine gate_dst (N := 3) rfl ?_); refine box_event ?hg (N := 3) ?hd (cs := #[.int .i64 0, .int .i64 0]) (t := 24) ?hr ?_; (case hd => rfl); (case hg => rfl); (case hr => first | (go_simp; done) | (go_simp; rfl)); intro gb336 hg w6 hbox hb; have n_ := az (bB BK335.out hb) <| az (below_step (mB HB.out) hb) <| az (hbox) <| az ((by rw [hg]; exact (below_size (mB HB.out)) : w.heap.size ≤ gb336)) <| az ((by rw [hg]; exact (below_size (mB HB.out)) : w.heap.size ≤ gb336)) <| az ((nL hg BK335.out)) <| z0 ((nG hg BK335.out)); clear BK335 HB; obtain ⟨BK335, HB, BK336, GW336, GE336, NB335_336, NB336_335⟩ := n_; clear hb hbox hg) | ((with_reducible refine gate_callee (f := 15) rfl ?_); refine goesL_ (some 7) rfl rfl Try.func15 (by kernel_rfl) rfl #[.slice A0 l0.length c0] rfl argx ?_; (with_reducible refine (spec_l12Open.calls _ _ l0 t337 t338 w _ ?side1 ?side2 ?side3 A2.out).mono ?_); (case side1 => exact mB HB.out); (case side2 => exact HR0.out); (case side3 => exact HC0.out); rintro e w7 ⟨g339, rfl, hi, hb, hb2⟩; refine ⟨_, rfl, ?_⟩; have n_ := az (bB BK335.out hb2) <| az (bB BK336.out hb2) <| az (hb) <| az (hi) <| az (IsS66.ne_blk hi (bB BK335.out hb2) (by decide)) <| az (Ne.symm (IsS66.ne_blk hi (bB BK335.out hb2) (by decide))) <| az (IsS66.ne_blk hi (bB BK336.out hb2) (by decide)) <| z0 (Ne.symm (IsS66.ne_blk hi (bB BK336.out hb2) (by decide))); clear BK335 BK336 HB; obtain ⟨BK335, BK336, HB, HI339, NB339_335, NB335_339, NB339_336, NB336_339⟩ := n_; clear hb hb2 hi) | ((with_reducible refine gate_callee (f := 17) rfl ?_); refine goesL_ (some 9) rfl rfl Try.func17 (by kernel_rfl) rfl #[.pointer (some ⟨g339, 0, none⟩)] rfl argx ?_; (with_reducible refine (spec_l2MemBent.calls k g339 t337 t338 t340 t343 t346 t349 w _ ?side1 ?side2 A3.out).mono ?_); (case side1 => exact mI66_1 HI339.out); (case side2 => exact mB66HI339 HB.out); rintro e w8 ⟨v341, v344, v347, rfl, ho0, ho1, ho2, hi, hb, hk⟩; refine ⟨_, rfl, ?_⟩; have n_ := az (kB hk BK335.out NB335_339.out) <| az (kB hk BK336.out NB336_339.out) <| az (Kd.R_lower ho0 (below_size (mB66HI339 HB.out))) <| az (Kd.R_lower ho1 (below_size (mB66HI339 HB.out))) <| az (Kd.R_lower ho2 (below_size (mB66HI339 HB.out))) <| az (hb) <| z0 (hi); clear BK335 BK336 HB HI339; obtain ⟨BK335, BK336, HO342, HO345, HO348, HB, HI339⟩ := n_; clear hb hk hi ho0; (try clear ho1); (try clear ho2)) | ((with_reducible refine gate_dst (N := 5) rfl ?_); refine box_event ?hg (N := 5) ?hd (cs := #[.slice none 0 0, .slice none 0 0, .slice none 0 0]) (t := 30) ?hr ?_; (case hd => rfl); (case hg => rfl); (case hr => first | (go_simp; done) | (go_simp; rfl)); intro gb350 hg w9 hbox hb; have n_ := az (Kd.R_below (mR HO342.out) hb) <| az (Kd.R_below (mR HO345.out) hb) <| az (Kd.R_below (mR HO348.out) hb) <| az (bB BK335.out hb) <| az (bB BK336.out hb) <| az (IsS66.below (mI66_1 HI339.out) hb) <| az (below_step (mB66HI339 HB.out) hb) <| az (hbox) <| az ((by rw [hg]; exact (below_size (mB66HI339 HB.out)) : w.heap.size ≤ gb350)) <| az ((by rw [hg]; exact (below_size (mB66HI339 HB.out)) : w.heap.size ≤ gb350)) <| az ((nL hg BK335.out)) <| az ((nG hg BK335.out)) <| az ((nL hg BK336.out)) <| az ((nG hg BK336.out)) <| az ((by rw [hg]; exact Nat.ne_of_lt (IsS66.lt (show IsS66 w _ g339 t337 t349 from mI66_1 HI339.out)) : g339 ≠ gb350)) <| z0 ((by rw [hg]; exact Nat.ne_of_gt (IsS66.lt (show IsS66 w _ g339 t337 t349 from mI66_1 HI339.out)) : gb350 ≠ g339)); clear HO342 HO345 HO348 BK335 BK336 HI339 HB; obtain ⟨HO342, HO345, HO348, BK335, BK336, HI339, HB, BK350, GW350, GE350, NB335_350, NB350_335, NB336_350, NB350_336, NB339_350, NB350_339⟩ := n_; clear hb hbox hg; obtain ⟨Ao10, co10, eo10⟩ := Kd.R_slice HO342.out; subst eo10; have hnb11 := NB350_335.out; have hnc11 := NB335_350.out; have hnb12 := NB350_336.out; have hnc12 := NB336_350.out; have hnb13 := NB350_339.out; have hnc13 := NB339_350.out; obtain ⟨hcz14_0, hcz14_1, hcz14_2, hfz14_0, hfz14_1, hfz14_2⟩ := cel3 BK350.out; obtain ⟨Ao15, co15, eo15⟩ := Kd.R_slice HO345.out; subst eo15; obtain ⟨Ao16, co16, eo16⟩ := Kd.R_slice HO348.out; subst eo16))
 have n0_ : Aside0 (Kd.R (Kd.int .i64) 3 (((w9.setCell ⟨gb350, 0, none⟩ (.slice Ao10 t340.length co10)).setCell ⟨gb350, 1, none⟩ (.slice Ao15 t343.length co15)).setCell ⟨gb350, 2, none⟩ (.slice Ao16 t346.length co16)) w.heap.size (fun k_ => nB k_ (.slice Ao15 t343.length co15) ∧ nB k_ (.slice Ao16 t346.length co16)) (.slice Ao10 t340.length co10) t340) := ⟨by (with_reducible repeat (first | apply Kd.R_alloc | apply Kd.R_drewN | apply Kd.R_drew)); exact Kd.R_mono (Kd.R_far (p := ⟨gb350, 2, none⟩) (Kd.R_far (p := ⟨gb350, 1, none⟩) (Kd.R_far (p := ⟨gb350, 0, none⟩) (Kd.R_types HO342.out BK350.out (by decide)) (fun _ hk => hk.2) (.slice Ao10 t340.length co10)) (fun _ hk => hk.2) (.slice Ao15 t343.length co15)) (fun _ hk => hk.2) (.slice Ao16 t346.length co16)) (fun _ hk => ⟨hk.1.1, hk.1.2⟩)⟩
 have n1_ : Aside0 (Kd.R (Kd.int .i64) 3 (((w9.setCell ⟨gb350, 0, none⟩ (.slice Ao10 t340.length co10)).setCell ⟨gb350, 1, none⟩ (.slice Ao15 t343.length co15)).setCell ⟨gb350, 2, none⟩ (.slice Ao16 t346.length co16)) w.heap.size (fun k_ => nB k_ (.slice Ao10 t340.length co10) ∧ nB k_ (.slice Ao16 t346.length co16)) (.slice Ao15 t343.length co15) t343) := ⟨by (with_reducible repeat (first | apply Kd.R_alloc | apply Kd.R_drewN | apply Kd.R_drew)); exact Kd.R_mono (Kd.R_far (p := ⟨gb350, 2, none⟩) (Kd.R_far (p := ⟨gb350, 1, none⟩) (Kd.R_far (p := ⟨gb350, 0, none⟩) (Kd.R_types HO345.out BK350.out (by decide)) (fun _ hk => hk.2) (.slice Ao10 t340.length co10)) (fun _ hk => hk.2) (.slice Ao15 t343.length co15)) (fun _ hk => hk.2) (.slice Ao16 t346.length co16)) (fun _ hk => ⟨hk.1.1, hk.1.2⟩)⟩
 have n2_ : Aside0 (Kd.R (Kd.int .i64) 3 (((w9.setCell ⟨gb350, 0, none⟩ (.slice Ao10 t340.length co10)).setCell ⟨gb350, 1, none⟩ (.slice Ao15 t343.length co15)).setCell ⟨gb350, 2, none⟩ (.slice Ao16 t346.length co16)) w.heap.size (fun k_ => nB k_ (.slice Ao10 t340.length co10) ∧ nB k_ (.slice Ao15 t343.length co15)) (.slice Ao16 t346.length co16) t346) := ⟨by (with_reducible repeat (first | apply Kd.R_alloc | apply Kd.R_drewN | apply Kd.R_drew)); exact Kd.R_mono (Kd.R_far (p := ⟨gb350, 2, none⟩) (Kd.R_far (p := ⟨gb350, 1, none⟩) (Kd.R_far (p := ⟨gb350, 0, none⟩) (Kd.R_types HO348.out BK350.out (by decide)) (fun _ hk => hk.2) (.slice Ao10 t340.length co10)) (fun _ hk => hk.2) (.slice Ao15 t343.length co15)) (fun _ hk => hk.2) (.slice Ao16 t346.length co16)) (fun _ hk => ⟨hk.1.1, hk.1.2⟩)⟩
 have n3_ : Aside0 ((((w9.setCell ⟨gb350, 0, none⟩ (.slice Ao10 t340.length co10)).setCell ⟨gb350, 1, none⟩ (.slice Ao15 t343.length co15)).setCell ⟨gb350, 2, none⟩ (.slice Ao16 t346.length co16)).heap[gb335]? = some (.cells #[.slice none 0 0, .slice none 0 0, .slice none 0 0] 30 (0, 0))) := ⟨mF BK335.out⟩
 have n4_ : Aside0 ((((w9.setCell ⟨gb350, 0, none⟩ (.slice Ao10 t340.length co10)).setCell ⟨gb350, 1, none⟩ (.slice Ao15 t343.length co15)).setCell ⟨gb350, 2, none⟩ (.slice Ao16 t346.length co16)).heap[gb336]? = some (.cells #[.int .i64 0, .int .i64 0] 24 (0, 0))) := ⟨mF BK336.out⟩
 have n5_ : Aside0 ((((w9.setCell ⟨gb350, 0, none⟩ (.slice Ao10 t340.length co10)).setCell ⟨gb350, 1, none⟩ (.slice Ao15 t343.length co15)).setCell ⟨gb350, 2, none⟩ (.slice Ao16 t346.length co16)).heap[gb350]? = some (.cells #[.slice Ao10 t340.length co10, .slice Ao15 t343.length co15, .slice Ao16 t346.length co16] 30 (0, 0))) := ⟨pF BK350.out⟩
 have n6_ : Aside0 (IsS66 w (((w9.setCell ⟨gb350, 0, none⟩ (.slice Ao10 t340.length co10)).setCell ⟨gb350, 1, none⟩ (.slice Ao15 t343.length co15)).setCell ⟨gb350, 2, none⟩ (.slice Ao16 t346.length co16)) g339 t337 t349) := ⟨mI66_1 HI339.out⟩
 have n7_ : Aside0 (Below w.heap.size w (((w9.setCell ⟨gb350, 0, none⟩ (.slice Ao10 t340.length co10)).setCell ⟨gb350, 1, none⟩ (.slice Ao15 t343.length co15)).setCell ⟨gb350, 2, none⟩ (.slice Ao16 t346.length co16))) := ⟨mB66HI339 HB.out⟩
 (try clear HO342)
 (try clear HO345)
 (try clear HO348)
 (try clear BK335)
 (try clear BK336)
 (try clear BK350)
 (try clear HI339)
 (try clear HB)
 generalize (((w9.setCell ⟨gb350, 0, none⟩ (.slice Ao10 t340.length co10)).setCell ⟨gb350, 1, none⟩ (.slice Ao15 t343.length co15)).setCell ⟨gb350, 2, none⟩ (.slice Ao16 t346.length co16)) = w17 at n0_ n1_ n2_ n3_ n4_ n5_ n6_ n7_ ⊢
 have HO342 := n0_
 have HO345 := n1_
 have HO348 := n2_
 have BK335 := n3_
 have BK336 := n4_
 have BK350 := n5_
 have HI339 := n6_
 have HB := n7_
 clear n0_ n1_ n2_ n3_ n4_ n5_ n6_ n7_
 have n_ := az (Kd.R_drew HO342.out) <| az (Kd.R_drew HO345.out) <| az (Kd.R_drew HO348.out) <| az (blk_drew BK335.out) <| az (blk_drew BK336.out) <| az (blk_drew BK350.out) <| az (IsS66.drew HI339.out) <| z0 (below_drew1 HB.out)
 clear HO342 HO345 HO348 BK335 BK336 BK350 HI339 HB
 obtain ⟨HO342, HO345, HO348, BK335, BK336, BK350, HI339, HB⟩ := n_
 refine start_ (n := 5) (S := fun w' => w'.cell? ⟨gb350, 0, none⟩ = some (.slice Ao10 t340.length co10) ∧ w'.cell? ⟨gb350, 1, none⟩ = some (.slice Ao15 t343.length co15) ∧ w'.cell? ⟨gb350, 2, none⟩ = some (.slice Ao16 t346.length co16)) (ds := []) #[false, false, false, false, false] (by kernel_rfl) rfl rfl ⟨(blk_cell BK350.out 0).trans rfl, (blk_cell BK350.out 1).trans rfl, (blk_cell BK350.out 2).trans rfl⟩ (fun hHeld => ?_)
 generalize w17.drew = w18 at HO342 HO345 HO348 BK335 BK336 BK350 HI339 HB hHeld ⊢
 refine pure_ (i := 1) (N := some 11) (v := ?_) (a' := ?_) #[false, true, false, false, false] rfl rfl (by kernel_rfl) (fun _ _ _ h => h) (Or.inl ⟨by rfl, ?_⟩) ?_ ?_
 rotate_left
 ·intro w'
  go_simp
  with_reducible rfl
 rotate_left
 ·simp only [Act.put, List.setIfInBounds_toArray, List.set_cons_zero, List.set_cons_succ, i64_w, i32_w]
  rfl
 refine take_ (i := 0) (N := some 10) (v := ?_) (a' := ?_) #[true, true, false, false, false] rfl rfl (by kernel_rfl) (fun _ _ _ h => h) (Or.inl ⟨by rfl, ?_⟩) hHeld ?_ ?_
 rotate_left
 ·rintro w' ⟨s0, s1, s2⟩
  go_simp
  with_reducible rfl
 rotate_left
 ·simp only [Act.put, List.setIfInBounds_toArray, List.set_cons_zero, List.set_cons_succ, i64_w, i32_w]
  rfl
 refine one_ (i := 2) (N := some 12) #[true, true, true, false, false] rfl rfl (by kernel_rfl) (by decide) (fun K hK => ?_)
 refine goes_ Try.func18 (by kernel_rfl) rfl #[.pointer (some ⟨g339, 0, none⟩)] (by rfl) rfl rfl argx ?_
 with_reducible refine (spec_l2AddrBent.calls k g339 t337 t349 t351 t352 t353 w _ ?side1 ?side2 A4.out).mono ?_
 (case side1 => exact mI66_1 HI339.out)
 (case side2 => exact mB66HI339 HB.out)
 rintro e w19 ⟨rfl, hi, hb, hk⟩
 refine ⟨_, rfl, ?_⟩
 have n_ := az (kB hk BK335.out NB335_339.out) <| az (kB hk BK336.out NB336_339.out) <| And.intro (z0 (Kd.R_mono (Kd.R_keep (IsS66.apart (show IsS66 w _ g339 t337 t349 from mI66_1 HI339.out) (mR HO342.out) (by decide)) hk (fun _ h => h.2)) (fun _ h => h.1))) <| And.intro (z0 (Kd.R_mono (Kd.R_keep (IsS66.apart (show IsS66 w _ g339 t337 t349 from mI66_1 HI339.out) (mR HO345.out) (by decide)) hk (fun _ h => h.2)) (fun _ h => h.1))) <| And.intro (z0 (Kd.R_mono (Kd.R_keep (IsS66.apart (show IsS66 w _ g339 t337 t349 from mI66_1 HI339.out) (mR HO348.out) (by decide)) hk (fun _ h => h.2)) (fun _ h => h.1))) <| az (kB hk BK350.out NB350_339.out) <| az (hb) <| z0 (hi)
 clear BK335 BK336 HO342 HO345 HO348 BK350 HB HI339
 obtain ⟨BK335, BK336, HO342, HO345, HO348, BK350, HB, HI339⟩ := n_
 (try clear hb)
 (try clear hb2)
 (try clear hk)
 (try clear hi)
 refine hK.out _ _ ⟨(blk_cell BK350.out 0).trans rfl, (blk_cell BK350.out 1).trans rfl, (blk_cell BK350.out 2).trans rfl⟩ (fun hHeld => ?_)
 clear hK K
 refine norm_ (a' := ?_) ?_ ?_
 rotate_left
 ·show Act.put _ (some 12) _ = _
  simp only [Act.put, List.setIfInBounds_toArray, List.set_cons_zero, List.set_cons_succ, i64_w, i32_w]
  rfl
 refine one_ (i := 3) (N := none) #[true, true, true, true, false] rfl rfl (by kernel_rfl) (by decide) (fun K hK => ?_)
 have hs20 : w19.cell? ⟨gb335, 0, none⟩ = some (.slice none 0 0) := (blk_cell BK335.out 0).trans rfl
 have hfs20 := blk_frozen BK335.out 0
 have hns20_1 := NB336_335.out
 have hns20_2 := NB350_335.out
 have hms20_1 := NB335_336.out
 have hms20_2 := NB335_350.out
 have hs21 : w19.cell? ⟨gb335, 1, none⟩ = some (.slice none 0 0) := (blk_cell BK335.out 1).trans rfl
 have hfs21 := blk_frozen BK335.out 1
 have hns21_1 := NB336_335.out
 have hns21_2 := NB350_335.out
 have hms21_1 := NB335_336.out
 have hms21_2 := NB335_350.out
 have hs22 : w19.cell? ⟨gb335, 2, none⟩ = some (.slice none 0 0) := (blk_cell BK335.out 2).trans rfl
 have hfs22 := blk_frozen BK335.out 2
 have hns22_1 := NB336_335.out
 have hns22_2 := NB350_335.out
 have hms22_1 := NB335_336.out
 have hms22_2 := NB335_350.out
 refine skip_ (w1 := ?_) (by rfl) rfl ?_ ?_
 rotate_left
 ·go_simp
  rfl
 refine hK.out _ _ ⟨((cell_far (p := ⟨gb335, _, none⟩) NB350_335.out _).trans (((cell_far (p := ⟨gb335, _, none⟩) NB350_335.out _).trans (((cell_far (p := ⟨gb335, _, none⟩) NB350_335.out _).trans (hHeld.1)))))), ((cell_far (p := ⟨gb335, _, none⟩) NB350_335.out _).trans (((cell_far (p := ⟨gb335, _, none⟩) NB350_335.out _).trans (((cell_far (p := ⟨gb335, _, none⟩) NB350_335.out _).trans (hHeld.2.1)))))), ((cell_far (p := ⟨gb335, _, none⟩) NB350_335.out _).trans (((cell_far (p := ⟨gb335, _, none⟩) NB350_335.out _).trans (((cell_far (p := ⟨gb335, _, none⟩) NB350_335.out _).trans (hHeld.2.2))))))⟩ (fun hHeld => ?_)
 clear hK K
 refine one_ (i := 4) (N := none) #[true, true, true, true, true] rfl rfl (by kernel_rfl) (by decide) (fun K hK => ?_)
 have hs23 : w19.cell? ⟨gb336, 0, none⟩ = some (.int .i64 0) := (blk_cell BK336.out 0).trans rfl
 have hfs23 := blk_frozen BK336.out 0
 have hns23_0 := NB335_336.out
 have hns23_2 := NB350_336.out
 have hms23_0 := NB336_335.out
 have hms23_2 := NB336_350.out
 have hs24 : w19.cell? ⟨gb336, 1, none⟩ = some (.int .i64 0) := (blk_cell BK336.out 1).trans rfl
 have hfs24 := blk_frozen BK336.out 1
 have hns24_0 := NB335_336.out
 have hns24_2 := NB350_336.out
 have hms24_0 := NB336_335.out
 have hms24_2 := NB336_350.out
 refine skip_ (w1 := ?_) (by rfl) rfl ?_ ?_
 rotate_left
 ·go_simp
  rfl
 refine hK.out _ _ ⟨((cell_far (p := ⟨gb336, _, none⟩) NB350_336.out _).trans (((cell_far (p := ⟨gb336, _, none⟩) NB350_336.out _).trans (hHeld.1)))), ((cell_far (p := ⟨gb336, _, none⟩) NB350_336.out _).trans (((cell_far (p := ⟨gb336, _, none⟩) NB350_336.out _).trans (hHeld.2.1)))), ((cell_far (p := ⟨gb336, _, none⟩) NB350_336.out _).trans (((cell_far (p := ⟨gb336, _, none⟩) NB350_336.out _).trans (hHeld.2.2))))⟩ (fun hHeld => ?_)
 clear hK K
 refine done_ (by kernel_rfl) ?_
 try go_wp2
 refine bodyPost_ret (results_cc rfl _ _ gb335 gb336 30 24 #[.slice Ao10 t340.length co10, .slice Ao15 t343.length co15, .slice Ao16 t346.length co16] #[.int .i64 t351, .int .i64 t352] (0, 0) (0, 0) _ _ rfl (by (with_reducible repeat (first | refine blk_drewN ?_ _ | refine blk_drew ?_ | refine blk_alloc ?_ _)); refine blk_far ?_ NB335_336.out _; (with_reducible repeat (first | refine blk_drewN ?_ _ | refine blk_drew ?_ | refine blk_alloc ?_ _)); refine blk_far ?_ NB335_336.out _; (with_reducible repeat (first | refine blk_drewN ?_ _ | refine blk_drew ?_ | refine blk_alloc ?_ _)); refine blk_put (cs := #[.slice Ao10 t340.length co10, .slice Ao15 t343.length co15, .slice none 0 0]) ?_ 2 _ rfl; (with_reducible repeat (first | refine blk_drewN ?_ _ | refine blk_drew ?_ | refine blk_alloc ?_ _)); refine blk_put (cs := #[.slice Ao10 t340.length co10, .slice none 0 0, .slice none 0 0]) ?_ 1 _ rfl; (with_reducible repeat (first | refine blk_drewN ?_ _ | refine blk_drew ?_ | refine blk_alloc ?_ _)); refine blk_put (cs := #[.slice none 0 0, .slice none 0 0, .slice none 0 0]) ?_ 0 _ rfl; (with_reducible repeat (first | refine blk_drewN ?_ _ | refine blk_drew ?_ | refine blk_alloc ?_ _)); exact BK335.out) Try.underlying30 rfl (by kernel_rfl) rfl (by (with_reducible repeat (first | refine blk_drewN ?_ _ | refine blk_drew ?_ | refine blk_alloc ?_ _)); refine blk_put (cs := #[.int .i64 t351, .int .i64 0]) ?_ 1 _ rfl; (with_reducible repeat (first | refine blk_drewN ?_ _ | refine blk_drew ?_ | refine blk_alloc ?_ _)); refine blk_put (cs := #[.int .i64 0, .int .i64 0]) ?_ 0 _ rfl; (with_reducible repeat (first | refine blk_drewN ?_ _ | refine blk_drew ?_ | refine blk_alloc ?_ _)); refine blk_far ?_ NB336_335.out _; (with_reducible repeat (first | refine blk_drewN ?_ _ | refine blk_drew ?_ | refine blk_alloc ?_ _)); refine blk_far ?_ NB336_335.out _; (with_reducible repeat (first | refine blk_drewN ?_ _ | refine blk_drew ?_ | refine blk_alloc ?_ _)); refine blk_far ?_ NB336_335.out _; (with_reducible repeat (first | refine blk_drewN ?_ _ | refine blk_drew ?_ | refine blk_alloc ?_ _)); exact BK336.out) Try.underlying24 rfl (by kernel_rfl)) rfl ?_
 exact ⟨_, _, _, rfx, by (with_reducible repeat (first | apply Kd.R_alloc | apply Kd.R_drewN | apply Kd.R_drew)); exact Kd.R_mono (Kd.R_far (p := ⟨gb336, 1, none⟩) (Kd.R_far (p := ⟨gb336, 0, none⟩) (Kd.R_far (p := ⟨gb335, 2, none⟩) (Kd.R_far (p := ⟨gb335, 1, none⟩) (Kd.R_far (p := ⟨gb335, 0, none⟩) (Kd.R_types (Kd.R_types HO342.out BK335.out (by decide)) BK336.out (by decide)) (fun _ hk => hk.1.2) (.slice Ao10 t340.length co10)) (fun _ hk => hk.1.2) (.slice Ao15 t343.length co15)) (fun _ hk => hk.1.2) (.slice Ao16 t346.length co16)) (fun _ hk => hk.2) (.int .i64 t351)) (fun _ hk => hk.2) (.int .i64 t352)) (fun _ hk => ⟨hk.1.1.1, hk.1.1.2⟩), by (with_reducible repeat (first | apply Kd.R_alloc | apply Kd.R_drewN | apply Kd.R_drew)); exact Kd.R_mono (Kd.R_far (p := ⟨gb336, 1, none⟩) (Kd.R_far (p := ⟨gb336, 0, none⟩) (Kd.R_far (p := ⟨gb335, 2, none⟩) (Kd.R_far (p := ⟨gb335, 1, none⟩) (Kd.R_far (p := ⟨gb335, 0, none⟩) (Kd.R_types (Kd.R_types HO345.out BK335.out (by decide)) BK336.out (by decide)) (fun _ hk => hk.1.2) (.slice Ao10 t340.length co10)) (fun _ hk => hk.1.2) (.slice Ao15 t343.length co15)) (fun _ hk => hk.1.2) (.slice Ao16 t346.length co16)) (fun _ hk => hk.2) (.int .i64 t351)) (fun _ hk => hk.2) (.int .i64 t352)) (fun _ hk => ⟨hk.1.1.1, hk.1.1.2⟩), by (with_reducible repeat (first | apply Kd.R_alloc | apply Kd.R_drewN | apply Kd.R_drew)); exact Kd.R_mono (Kd.R_far (p := ⟨gb336, 1, none⟩) (Kd.R_far (p := ⟨gb336, 0, none⟩) (Kd.R_far (p := ⟨gb335, 2, none⟩) (Kd.R_far (p := ⟨gb335, 1, none⟩) (Kd.R_far (p := ⟨gb335, 0, none⟩) (Kd.R_types (Kd.R_types HO348.out BK335.out (by decide)) BK336.out (by decide)) (fun _ hk => hk.1.2) (.slice Ao10 t340.length co10)) (fun _ hk => hk.1.2) (.slice Ao15 t343.length co15)) (fun _ hk => hk.1.2) (.slice Ao16 t346.length co16)) (fun _ hk => hk.2) (.int .i64 t351)) (fun _ hk => hk.2) (.int .i64 t352)) (fun _ hk => ⟨hk.1.1.1, hk.1.1.2⟩), mB66HI339 HB.out⟩

end Go.Proofs.Ytacbbpbopmdpeaa.B
