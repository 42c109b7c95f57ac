/- Printed functions of this seat, in one text. -/
import Derived.Test.YtiofkhfmdophpaaB0
import Derived.Test.YtiofkhfmdophpaaSq
import Derived.Test.YtiofkhfmdophpaaPkB
import Derived.Test.YtiofkhfmdophpaaPkA
namespace Go.Proofs.Ytiofkhfmdophpaa.B
open Go.RowKit Go.Proofs.YtiofkhfmdophpaaW.PrintWords Go.Proofs.YtiofkhfmdophpaaW.PrintLast Go.Proofs.YtiofkhfmdophpaaW.PrintMore
attribute [local go_sem] max2_int min2_int max_two min_two max_three min_three max_four min_four   -- for this text's walks alone
set_option linter.unusedVariables false
set_option linter.unusedSimpArgs false

/-! ### impl_two: function 180 -/
def impl_two.f (a0 : Int) (a1 : Int) (a2 : Int) : Option (Int) := if a0 = 3 then ((impl_NumAdd.f a1 a2).bind fun t1302 => (some t1302)) else (if a0 = 4 then ((impl_NumSub.f a1 a2).bind fun t1303 => (some t1303)) else (if a0 = 5 then ((impl_NumMul.f a1 a2).bind fun t1304 => (some t1304)) else (if a0 = 6 then ((impl_NumIs.f (decide (a1 < a2))).bind fun t1305 => (some t1305)) else (if a0 = 7 then ((impl_NumIs.f (a1 == a2)).bind fun t1306 => (some t1306)) else (if a0 = 8 then ((impl_NumOn.f a1).bind fun t1307 => (if t1307 = true then ((impl_NumOn.f a2).bind fun t1308 => ((impl_NumIs.f t1308).bind fun t1309 => (some t1309))) else ((impl_NumIs.f false).bind fun t1310 => (some t1310)))) else ((impl_NumOn.f a1).bind fun t1311 => (if t1311 = true then ((impl_NumIs.f true).bind fun t1312 => (some t1312)) else ((impl_NumOn.f a2).bind fun t1313 => ((impl_NumIs.f t1313).bind fun t1314 => (some t1314))))))))))
set_option maxHeartbeats 8000000 in
set_option maxRecDepth 100000 in
theorem impl_two.calls (a0 : Int) (a1 : Int) (a2 : Int) (r : Int) (w : World) (h : impl_two.f a0 a1 a2 = some r) :
  Calls Try.prog 180 #[.int .i64 a0, .int .i64 a1, .int .i64 a2] w fun e w' => e = .returned (.int .i64 r) ∧ Below w.heap.size w w' := by
 have HB := z0 (Below.refl w.heap.size w)
 have H : (if a0 = 3 then ((impl_NumAdd.f a1 a2).bind fun t1302 => (some t1302)) else (if a0 = 4 then ((impl_NumSub.f a1 a2).bind fun t1303 => (some t1303)) else (if a0 = 5 then ((impl_NumMul.f a1 a2).bind fun t1304 => (some t1304)) else (if a0 = 6 then ((impl_NumIs.f (decide (a1 < a2))).bind fun t1305 => (some t1305)) else (if a0 = 7 then ((impl_NumIs.f (a1 == a2)).bind fun t1306 => (some t1306)) else (if a0 = 8 then ((impl_NumOn.f a1).bind fun t1307 => (if t1307 = true then ((impl_NumOn.f a2).bind fun t1308 => ((impl_NumIs.f t1308).bind fun t1309 => (some t1309))) else ((impl_NumIs.f false).bind fun t1310 => (some t1310)))) else ((impl_NumOn.f a1).bind fun t1311 => (if t1311 = true then ((impl_NumIs.f true).bind fun t1312 => (some t1312)) else ((impl_NumOn.f a2).bind fun t1313 => ((impl_NumIs.f t1313).bind fun t1314 => (some t1314))))))))))) = some r := h
 clear h
 by_cases c4 : a0 = 3
 ·rw [if_pos c4] at H
  have c4b0 : (a0 == 3) = true := beq_iff_eq.mpr c4
  have c4b1 : (a0 != 3) = false := bne_eq_false_iff_eq.mpr c4
  clear c4
  replace H := Option.bind_eq_some_iff.mp H
  obtain ⟨t1302, A50, H⟩ := H
  try dsimp only at H
  have A5 := z0 A50
  clear A50
  obtain rfl := Option.some.inj H
  go_enter Try.func180, Try.ntmps180
  go_wp2_with (first | ((with_reducible refine gate_callee (f := 44) rfl ?_); refine goesL_ (some 12) rfl rfl Try.func44 (by kernel_rfl) rfl #[.int .i64 a1, .int .i64 a2] rfl argx ?_; (with_reducible refine (impl_NumAdd.calls a1 a2 t1302 _ A5.out).mono ?_); rintro e w6 ⟨rfl, hb⟩; refine ⟨_, rfl, ?_⟩; have n0_ := z0 (below_step (mB HB.out) hb); clear HB; have HB := n0_; clear n0_; (try clear hb); (try clear hb2); (try clear hk); (try clear hi)))
  go_ret
  exact ⟨rfx, mB HB.out⟩
 ·rw [if_neg c4] at H
  have c4b0 : (a0 == 3) = false := beq_eq_false_iff_ne.mpr c4
  have c4b1 : (a0 != 3) = true := bne_iff_ne.mpr c4
  by_cases c7 : a0 = 4
  ·rw [if_pos c7] at H
   have c7b0 : (a0 == 4) = true := beq_iff_eq.mpr c7
   have c7b1 : (a0 != 4) = false := bne_eq_false_iff_eq.mpr c7
   clear c7
   replace H := Option.bind_eq_some_iff.mp H
   obtain ⟨t1303, A80, H⟩ := H
   try dsimp only at H
   have A8 := z0 A80
   clear A80
   obtain rfl := Option.some.inj H
   go_enter Try.func180, Try.ntmps180
   go_wp2_with (first | ((with_reducible refine gate_callee (f := 45) rfl ?_); refine goesL_ (some 17) rfl rfl Try.func45 (by kernel_rfl) rfl #[.int .i64 a1, .int .i64 a2] rfl argx ?_; (with_reducible refine (impl_NumSub.calls a1 a2 t1303 _ A8.out).mono ?_); rintro e w9 ⟨rfl, hb⟩; refine ⟨_, rfl, ?_⟩; have n0_ := z0 (below_step (mB HB.out) hb); clear HB; have HB := n0_; clear n0_; (try clear hb); (try clear hb2); (try clear hk); (try clear hi)))
   go_ret
   exact ⟨rfx, mB HB.out⟩
  ·rw [if_neg c7] at H
   have c7b0 : (a0 == 4) = false := beq_eq_false_iff_ne.mpr c7
   have c7b1 : (a0 != 4) = true := bne_iff_ne.mpr c7
   by_cases c10 : a0 = 5
   ·rw [if_pos c10] at H
    have c10b0 : (a0 == 5) = true := beq_iff_eq.mpr c10
    have c10b1 : (a0 != 5) = false := bne_eq_false_iff_eq.mpr c10
    clear c10
    replace H := Option.bind_eq_some_iff.mp H
    obtain ⟨t1304, A110, H⟩ := H
    try dsimp only at H
    have A11 := z0 A110
    clear A110
    obtain rfl := Option.some.inj H
    go_enter Try.func180, Try.ntmps180
    go_wp2_with (first | ((with_reducible refine gate_callee (f := 46) rfl ?_); refine goesL_ (some 22) rfl rfl Try.func46 (by kernel_rfl) rfl #[.int .i64 a1, .int .i64 a2] rfl argx ?_; (with_reducible refine (impl_NumMul.calls a1 a2 t1304 _ A11.out).mono ?_); rintro e w12 ⟨rfl, hb⟩; refine ⟨_, rfl, ?_⟩; have n0_ := z0 (below_step (mB HB.out) hb); clear HB; have HB := n0_; clear n0_; (try clear hb); (try clear hb2); (try clear hk); (try clear hi)))
    go_ret
    exact ⟨rfx, mB HB.out⟩
   ·rw [if_neg c10] at H
    have c10b0 : (a0 == 5) = false := beq_eq_false_iff_ne.mpr c10
    have c10b1 : (a0 != 5) = true := bne_iff_ne.mpr c10
    by_cases c13 : a0 = 6
    ·rw [if_pos c13] at H
     have c13b0 : (a0 == 6) = true := beq_iff_eq.mpr c13
     have c13b1 : (a0 != 6) = false := bne_eq_false_iff_eq.mpr c13
     clear c13
     replace H := Option.bind_eq_some_iff.mp H
     obtain ⟨t1305, A140, H⟩ := H
     try dsimp only at H
     have A14 := z0 A140
     clear A140
     obtain rfl := Option.some.inj H
     go_enter Try.func180, Try.ntmps180
     go_wp2_with (first | ((with_reducible refine gate_callee (f := 40) rfl ?_); refine goesL_ (some 28) rfl rfl Try.func40 (by kernel_rfl) rfl #[.bool (decide (a1 < a2))] rfl argx ?_; (with_reducible refine (impl_NumIs.calls (decide (a1 < a2)) t1305 _ A14.out).mono ?_); rintro e w' ⟨rfl, ⟨nd, rfl⟩⟩; refine ⟨_, rfl, ?_⟩))
     go_ret
     exact ⟨rfx, mB HB.out⟩
    ·rw [if_neg c13] at H
     have c13b0 : (a0 == 6) = false := beq_eq_false_iff_ne.mpr c13
     have c13b1 : (a0 != 6) = true := bne_iff_ne.mpr c13
     by_cases c15 : a0 = 7
     ·rw [if_pos c15] at H
      have c15b0 : (a0 == 7) = true := beq_iff_eq.mpr c15
      have c15b1 : (a0 != 7) = false := bne_eq_false_iff_eq.mpr c15
      clear c15
      replace H := Option.bind_eq_some_iff.mp H
      obtain ⟨t1306, A160, H⟩ := H
      try dsimp only at H
      have A16 := z0 A160
      clear A160
      obtain rfl := Option.some.inj H
      go_enter Try.func180, Try.ntmps180
      go_wp2_with (first | ((with_reducible refine gate_callee (f := 40) rfl ?_); refine goesL_ (some 34) rfl rfl Try.func40 (by kernel_rfl) rfl #[.bool (a1 == a2)] rfl argx ?_; (with_reducible refine (impl_NumIs.calls (a1 == a2) t1306 _ A16.out).mono ?_); rintro e w' ⟨rfl, ⟨nd, rfl⟩⟩; refine ⟨_, rfl, ?_⟩))
      go_ret
      exact ⟨rfx, mB HB.out⟩
     ·rw [if_neg c15] at H
      have c15b0 : (a0 == 7) = false := beq_eq_false_iff_ne.mpr c15
      have c15b1 : (a0 != 7) = true := bne_iff_ne.mpr c15
      by_cases c17 : a0 = 8
      ·rw [if_pos c17] at H
       have c17b0 : (a0 == 8) = true := beq_iff_eq.mpr c17
       have c17b1 : (a0 != 8) = false := bne_eq_false_iff_eq.mpr c17
       clear c17
       replace H := Option.bind_eq_some_iff.mp H
       obtain ⟨t1307, A180, H⟩ := H
       try dsimp only at H
       have A18 := z0 A180
       clear A180
       by_cases c19 : t1307 = true
       ·subst c19
        have H1 : ((impl_NumOn.f a2).bind fun t1308 => ((impl_NumIs.f t1308).bind fun t1309 => (some t1309))) = some r := by rw [if_pos rfl] at H; exact H
        clear H
        have H := H1
        clear H1
        replace H := Option.bind_eq_some_iff.mp H
        obtain ⟨t1308, A200, H⟩ := H
        try dsimp only at H
        have A20 := z0 A200
        clear A200
        replace H := Option.bind_eq_some_iff.mp H
        obtain ⟨t1309, A210, H⟩ := H
        try dsimp only at H
        have A21 := z0 A210
        clear A210
        obtain rfl := Option.some.inj H
        go_enter Try.func180, Try.ntmps180
        go_wp2_with (first | ((with_reducible refine gate_callee (f := 41) rfl ?_); refine goesL_ (some 38) rfl rfl Try.func41 (by kernel_rfl) rfl #[.int .i64 a1] rfl argx ?_; (with_reducible refine (impl_NumOn.calls a1 true _ A18.out).mono ?_); rintro e w' ⟨rfl, ⟨nd, rfl⟩⟩; refine ⟨_, rfl, ?_⟩) | (go_at_call 41; (with_reducible refine (impl_NumOn.calls a2 t1308 _ A20.out).mono ?_); rintro e w' ⟨rfl, ⟨nd, rfl⟩⟩) | ((with_reducible refine gate_callee (f := 40) rfl ?_); refine goesL_ (some 43) rfl rfl Try.func40 (by kernel_rfl) rfl #[.bool t1308] rfl argx ?_; (with_reducible refine (impl_NumIs.calls t1308 t1309 _ A21.out).mono ?_); rintro e w' ⟨rfl, ⟨nd, rfl⟩⟩; refine ⟨_, rfl, ?_⟩))
        go_ret
        exact ⟨rfx, mB HB.out⟩
       ·replace c19 := Bool.eq_false_iff.mpr c19
        subst c19
        have H1 : ((impl_NumIs.f false).bind fun t1310 => (some t1310)) = some r := by rw [if_neg (show ¬ (false = true) by decide)] at H; exact H
        clear H
        have H := H1
        clear H1
        replace H := Option.bind_eq_some_iff.mp H
        obtain ⟨t1310, A220, H⟩ := H
        try dsimp only at H
        have A22 := z0 A220
        clear A220
        obtain rfl := Option.some.inj H
        go_enter Try.func180, Try.ntmps180
        go_wp2_with (first | ((with_reducible refine gate_callee (f := 41) rfl ?_); refine goesL_ (some 38) rfl rfl Try.func41 (by kernel_rfl) rfl #[.int .i64 a1] rfl argx ?_; (with_reducible refine (impl_NumOn.calls a1 false _ A18.out).mono ?_); rintro e w' ⟨rfl, ⟨nd, rfl⟩⟩; refine ⟨_, rfl, ?_⟩) | ((with_reducible refine gate_callee (f := 40) rfl ?_); refine goesL_ (some 43) rfl rfl Try.func40 (by kernel_rfl) rfl #[.bool false] rfl argx ?_; (with_reducible refine (impl_NumIs.calls false t1310 _ A22.out).mono ?_); rintro e w' ⟨rfl, ⟨nd, rfl⟩⟩; refine ⟨_, rfl, ?_⟩))
        go_ret
        exact ⟨rfx, mB HB.out⟩
      ·rw [if_neg c17] at H
       have c17b0 : (a0 == 8) = false := beq_eq_false_iff_ne.mpr c17
       have c17b1 : (a0 != 8) = true := bne_iff_ne.mpr c17
       replace H := Option.bind_eq_some_iff.mp H
       obtain ⟨t1311, A230, H⟩ := H
       try dsimp only at H
       have A23 := z0 A230
       clear A230
       by_cases c24 : t1311 = true
       ·subst c24
        have H1 : ((impl_NumIs.f true).bind fun t1312 => (some t1312)) = some r := by rw [if_pos rfl] at H; exact H
        clear H
        have H := H1
        clear H1
        replace H := Option.bind_eq_some_iff.mp H
        obtain ⟨t1312, A250, H⟩ := H
        try dsimp only at H
        have A25 := z0 A250
        clear A250
        obtain rfl := Option.some.inj H
        go_enter Try.func180, Try.ntmps180
        go_wp2_with (first | ((with_reducible refine gate_callee (f := 41) rfl ?_); refine goesL_ (some 45) rfl rfl Try.func41 (by kernel_rfl) rfl #[.int .i64 a1] rfl argx ?_; (with_reducible refine (impl_NumOn.calls a1 true _ A23.out).mono ?_); rintro e w' ⟨rfl, ⟨nd, rfl⟩⟩; refine ⟨_, rfl, ?_⟩) | ((with_reducible refine gate_callee (f := 40) rfl ?_); refine goesL_ (some 50) rfl rfl Try.func40 (by kernel_rfl) rfl #[.bool true] rfl argx ?_; (with_reducible refine (impl_NumIs.calls true t1312 _ A25.out).mono ?_); rintro e w' ⟨rfl, ⟨nd, rfl⟩⟩; refine ⟨_, rfl, ?_⟩))
        go_ret
        exact ⟨rfx, mB HB.out⟩
       ·replace c24 := Bool.eq_false_iff.mpr c24
        subst c24
        have H1 : ((impl_NumOn.f a2).bind fun t1313 => ((impl_NumIs.f t1313).bind fun t1314 => (some t1314))) = some r := by rw [if_neg (show ¬ (false = true) by decide)] at H; exact H
        clear H
        have H := H1
        clear H1
        replace H := Option.bind_eq_some_iff.mp H
        obtain ⟨t1313, A260, H⟩ := H
        try dsimp only at H
        have A26 := z0 A260
        clear A260
        replace H := Option.bind_eq_some_iff.mp H
        obtain ⟨t1314, A270, H⟩ := H
        try dsimp only at H
        have A27 := z0 A270
        clear A270
        obtain rfl := Option.some.inj H
        go_enter Try.func180, Try.ntmps180
        go_wp2_with (first | ((with_reducible refine gate_callee (f := 41) rfl ?_); refine goesL_ (some 45) rfl rfl Try.func41 (by kernel_rfl) rfl #[.int .i64 a1] rfl argx ?_; (with_reducible refine (impl_NumOn.calls a1 false _ A23.out).mono ?_); rintro e w' ⟨rfl, ⟨nd, rfl⟩⟩; refine ⟨_, rfl, ?_⟩) | (go_at_call 41; (with_reducible refine (impl_NumOn.calls a2 t1313 _ A26.out).mono ?_); rintro e w' ⟨rfl, ⟨nd, rfl⟩⟩) | ((with_reducible refine gate_callee (f := 40) rfl ?_); refine goesL_ (some 50) rfl rfl Try.func40 (by kernel_rfl) rfl #[.bool t1313] rfl argx ?_; (with_reducible refine (impl_NumIs.calls t1313 t1314 _ A27.out).mono ?_); rintro e w' ⟨rfl, ⟨nd, rfl⟩⟩; refine ⟨_, rfl, ?_⟩))
        go_ret
        exact ⟨rfx, mB HB.out⟩

/-! ### spec_l2List: function 78 -/
def spec_l2List.l0 : Nat → List Int → Int → Option (Bool)
 | 0, _, _ => none
 | k + 1, x0, x3 => if x3 < (x0.length : Int) then (if 0 ≤ x3 then ((spec_NumCut.f (rd x0 x3)).bind fun t224 => (if t224 = (rd x0 x3) then (spec_l2List.l0 k x0 (wrap64 (x3 + 1))) else (some false))) else (none)) else (some ((x0.length : Int) == 6))
def spec_l2List.f (k : Nat) (l0 : List Int) : Option (Bool) := spec_l2List.l0 k l0 0
theorem spec_l2List.mono_l : ∀ k, (∀ y0 y1, LeO (spec_l2List.l0 k y0 y1) (spec_l2List.l0 (k + 1) y0 y1))
 | 0 => fun _ _ r h => by simp [spec_l2List.l0] at h
 | k + 1 => by
  have ih0 := spec_l2List.mono_l k
  ·intro y0 y1
   unfold spec_l2List.l0
   repeat' first
   | (with_reducible exact ih0 _ _)
   | (with_reducible exact LeO.refl _)
   | (with_reducible exact LeO.none _)
   | (with_reducible refine LeO.ite ?_ ?_)
   | (with_reducible refine LeO.bind ?_ (fun _ => ?_))
   | exact ih0 _ _
   | exact LeO.none _
   | refine LeO.ite ?_ ?_
   | refine LeO.bind ?_ (fun _ => ?_)
theorem spec_l2List.mono : ∀ a0 k, LeO (spec_l2List.f k a0) (spec_l2List.f (k + 1) a0) := by
 intro a0 k
 have ih0 := spec_l2List.mono_l k
 unfold spec_l2List.f
 repeat' first
   | (with_reducible exact ih0 _ _)
   | (with_reducible exact LeO.refl _)
   | (with_reducible exact LeO.none _)
   | (with_reducible refine LeO.ite ?_ ?_)
   | (with_reducible refine LeO.bind ?_ (fun _ => ?_))
   | exact ih0 _ _
   | exact LeO.none _
   | refine LeO.ite ?_ ?_
   | refine LeO.bind ?_ (fun _ => ?_)
theorem q78_1 {p : Prop} (h : p := by first | (with_reducible assumption) | assumption) : p := h
set_option maxHeartbeats 8000000 in
set_option maxRecDepth 100000 in
theorem spec_l2List.calls (k : Nat) (A0 : Option Addr) (c0 : Nat) (l0 : List Int) (r : Bool) (w : World) (hr0 : Kd.C (Kd.int .i64) w A0 l0.length l0) (hc0 : l0.length ≤ c0) (h : spec_l2List.f k l0 = some r) :
  Calls Try.prog 78 #[.slice A0 l0.length c0] w fun e w' => e = .returned (.bool r) ∧ Drawn0 w w' := by
 have HR0 := z0 hr0
 have HC0 := z0 hc0
 clear hr0 hc0
 have H : (spec_l2List.l0 k l0 0) = some r := h
 clear h
 have H' := z0 H
 clear H
 go_enter Try.func78, Try.ntmps78
 go_wp2
 repeat (go_quiet (fail); try go_wp2)
 go_loopg [3] k (fun kq v3 w' => ∃ (x3_1 : Int), v3 = .int .i64 x3_1 ∧ Aside0 (spec_l2List.l0 kq l0 x3_1 = some r) ∧ Aside0 (kq ≤ k) ∧ Drawn0 w w')
 case atStart => exact ⟨(0), rfy, H', ⟨Nat.le_refl _⟩, by repeat (first | exact Drawn0.refl _ | apply Drawn0.step)⟩
 case round =>
  clear H'
  obtain ⟨x3_1, rfl, HA, HK1, ⟨m1, rfl⟩⟩ := hrel
  cases gk with
  | zero => exact absurd HA.out (by simp [spec_l2List.l0])
  | succ k1 =>
   have H := HA.out
   clear HA
   simp only [spec_l2List.l0] at H
   by_cases c2 : x3_1 < (l0.length : Int)
   ·rw [if_pos c2] at H
    have c2b0 : decide (x3_1 < (l0.length : Int)) = true := decide_eq_true c2
    clear c2
    by_cases c3 : 0 ≤ x3_1
    ·rw [if_pos c3] at H
     have c3b0 : decide (0 ≤ x3_1) = true := decide_eq_true c3
     clear c3
     replace H := Option.bind_eq_some_iff.mp H
     obtain ⟨t224, A40, H⟩ := H
     try dsimp only at H
     have A4 := z0 A40
     clear A40
     by_cases c5 : t224 = (rd l0 x3_1)
     ·rw [if_pos c5] at H
      have c5b0 : (t224 == (rd l0 x3_1)) = true := beq_iff_eq.mpr c5
      have c5b1 : (t224 != (rd l0 x3_1)) = false := bne_eq_false_iff_eq.mpr c5
      clear c5
      have H' := z0 H
      clear H
      have p223 : 0 ≤ (x3_1 : Int) := of_decide_eq_true q78_1
      have q223 : x3_1 < (l0.length : Int) := of_decide_eq_true q78_1
      obtain ⟨ad223, e223, hx223_0⟩ := Kd.at_int HR0.out x3_1 p223 q223
      cases e223
      replace p223 := eq_true p223
      replace q223 := eq_true q223
      go_wp2_with (first | (go_at_call 83; (with_reducible refine (spec_NumCut.calls (rd l0 x3_1) t224 _ A4.out).mono ?_); rintro e w' ⟨rfl, ⟨nd, rfl⟩⟩; (try first | exact ⟨rfl, _, World.drewN_drewN _ _ _⟩ | exact ⟨rfl, _, Eq.trans (World.drewN_drewN _ _ _) (congrArg (World.drewN _) (Nat.add_assoc _ _ _))⟩); have p225 : 0 ≤ (x3_1 : Int) := of_decide_eq_true q78_1; have q225 : x3_1 < (l0.length : Int) := of_decide_eq_true q78_1; obtain ⟨ad225, e225, hx225_0⟩ := Kd.at_int HR0.out x3_1 p225 q225; obtain rfl : ad223 = ad225 := (by injection e225); replace p225 := eq_true p225; replace q225 := eq_true q225))
      repeat (go_quiet (first | (go_at_call 83; (with_reducible refine (spec_NumCut.calls (rd l0 x3_1) t224 _ A4.out).mono ?_); rintro e w' ⟨rfl, ⟨nd, rfl⟩⟩; (try first | exact ⟨rfl, _, World.drewN_drewN _ _ _⟩ | exact ⟨rfl, _, Eq.trans (World.drewN_drewN _ _ _) (congrArg (World.drewN _) (Nat.add_assoc _ _ _))⟩); have p225 : 0 ≤ (x3_1 : Int) := of_decide_eq_true q78_1; have q225 : x3_1 < (l0.length : Int) := of_decide_eq_true q78_1; obtain ⟨ad225, e225, hx225_0⟩ := Kd.at_int HR0.out x3_1 p225 q225; obtain rfl : ad223 = ad225 := (by injection e225); replace p225 := eq_true p225; replace q225 := eq_true q225)); try go_wp2_with (first | (go_at_call 83; (with_reducible refine (spec_NumCut.calls (rd l0 x3_1) t224 _ A4.out).mono ?_); rintro e w' ⟨rfl, ⟨nd, rfl⟩⟩; (try first | exact ⟨rfl, _, World.drewN_drewN _ _ _⟩ | exact ⟨rfl, _, Eq.trans (World.drewN_drewN _ _ _) (congrArg (World.drewN _) (Nat.add_assoc _ _ _))⟩); have p225 : 0 ≤ (x3_1 : Int) := of_decide_eq_true q78_1; have q225 : x3_1 < (l0.length : Int) := of_decide_eq_true q78_1; obtain ⟨ad225, e225, hx225_0⟩ := Kd.at_int HR0.out x3_1 p225 q225; obtain rfl : ad223 = ad225 := (by injection e225); replace p225 := eq_true p225; replace q225 := eq_true q225)))
      go_roundg k1
      case measure => have := HK1.out; omega
      case rel => exact ⟨(wrap64 (x3_1 + 1)), rfy, H', ⟨by have := HK1.out; omega⟩, by repeat (first | exact Drawn0.refl _ | apply Drawn0.step)⟩
     ·rw [if_neg c5] at H
      have c5b0 : (t224 == (rd l0 x3_1)) = false := beq_eq_false_iff_ne.mpr c5
      have c5b1 : (t224 != (rd l0 x3_1)) = true := bne_iff_ne.mpr c5
      obtain rfl := Option.some.inj H
      have p223 : 0 ≤ (x3_1 : Int) := of_decide_eq_true q78_1
      have q223 : x3_1 < (l0.length : Int) := of_decide_eq_true q78_1
      obtain ⟨ad223, e223, hx223_0⟩ := Kd.at_int HR0.out x3_1 p223 q223
      cases e223
      replace p223 := eq_true p223
      replace q223 := eq_true q223
      go_wp2_with (first | (go_at_call 83; (with_reducible refine (spec_NumCut.calls (rd l0 x3_1) t224 _ A4.out).mono ?_); rintro e w' ⟨rfl, ⟨nd, rfl⟩⟩; (try first | exact ⟨rfl, _, World.drewN_drewN _ _ _⟩ | exact ⟨rfl, _, Eq.trans (World.drewN_drewN _ _ _) (congrArg (World.drewN _) (Nat.add_assoc _ _ _))⟩); have p225 : 0 ≤ (x3_1 : Int) := of_decide_eq_true q78_1; have q225 : x3_1 < (l0.length : Int) := of_decide_eq_true q78_1; obtain ⟨ad225, e225, hx225_0⟩ := Kd.at_int HR0.out x3_1 p225 q225; obtain rfl : ad223 = ad225 := (by injection e225); replace p225 := eq_true p225; replace q225 := eq_true q225))
      repeat (go_quiet (first | (go_at_call 83; (with_reducible refine (spec_NumCut.calls (rd l0 x3_1) t224 _ A4.out).mono ?_); rintro e w' ⟨rfl, ⟨nd, rfl⟩⟩; (try first | exact ⟨rfl, _, World.drewN_drewN _ _ _⟩ | exact ⟨rfl, _, Eq.trans (World.drewN_drewN _ _ _) (congrArg (World.drewN _) (Nat.add_assoc _ _ _))⟩); have p225 : 0 ≤ (x3_1 : Int) := of_decide_eq_true q78_1; have q225 : x3_1 < (l0.length : Int) := of_decide_eq_true q78_1; obtain ⟨ad225, e225, hx225_0⟩ := Kd.at_int HR0.out x3_1 p225 q225; obtain rfl : ad223 = ad225 := (by injection e225); replace p225 := eq_true p225; replace q225 := eq_true q225)); try go_wp2_with (first | (go_at_call 83; (with_reducible refine (spec_NumCut.calls (rd l0 x3_1) t224 _ A4.out).mono ?_); rintro e w' ⟨rfl, ⟨nd, rfl⟩⟩; (try first | exact ⟨rfl, _, World.drewN_drewN _ _ _⟩ | exact ⟨rfl, _, Eq.trans (World.drewN_drewN _ _ _) (congrArg (World.drewN _) (Nat.add_assoc _ _ _))⟩); have p225 : 0 ≤ (x3_1 : Int) := of_decide_eq_true q78_1; have q225 : x3_1 < (l0.length : Int) := of_decide_eq_true q78_1; obtain ⟨ad225, e225, hx225_0⟩ := Kd.at_int HR0.out x3_1 p225 q225; obtain rfl : ad223 = ad225 := (by injection e225); replace p225 := eq_true p225; replace q225 := eq_true q225)))
      go_ret
      exact ⟨by first | rfl | (simp; done) | (simp [*]; done), by repeat (first | exact Drawn0.refl _ | apply Drawn0.step)⟩
    ·rw [if_neg c3] at H
     exact absurd H (by simp)
   ·rw [if_neg c2] at H
    have c2b0 : decide (x3_1 < (l0.length : Int)) = false := decide_eq_false c2
    clear c2
    obtain rfl := Option.some.inj H
    go_wp2
    repeat (go_quiet (fail); try go_wp2)
    go_ret
    exact ⟨by first | rfl | (simp; done) | (simp [*]; done), by repeat (first | exact Drawn0.refl _ | apply Drawn0.step)⟩

/-! ### spec_MemOk: function 39 -/
def spec_MemOk.f (k : Nat) (l0_0 : List Int) (l0_1 : List Int) (l0_2 : List Int) : Option (Bool) := (spec_l2List.f k l0_0).bind fun t227 => (if t227 = true then ((spec_l2List.f k l0_1).bind fun t228 => (if t228 = true then ((spec_l2List.f k l0_2).bind fun t229 => (some t229)) else (some false))) else (some false))
theorem spec_MemOk.mono : ∀ a0 a1 a2 k, LeO (spec_MemOk.f k a0 a1 a2) (spec_MemOk.f (k + 1) a0 a1 a2) := by
 intro a0 a1 a2 k
 unfold spec_MemOk.f
 repeat' first
   | (with_reducible exact spec_l2List.mono _ _)
   | (with_reducible exact LeO.refl _)
   | (with_reducible exact LeO.none _)
   | (with_reducible refine LeO.ite ?_ ?_)
   | (with_reducible refine LeO.bind ?_ (fun _ => ?_))
   | exact spec_l2List.mono _ _
   | exact LeO.none _
   | refine LeO.ite ?_ ?_
   | refine LeO.bind ?_ (fun _ => ?_)
set_option maxHeartbeats 8000000 in
set_option maxRecDepth 100000 in
theorem spec_MemOk.calls (k : Nat) (A0_0 : Option Addr) (c0_0 : Nat) (l0_0 : List Int) (A0_1 : Option Addr) (c0_1 : Nat) (l0_1 : List Int) (A0_2 : Option Addr) (c0_2 : Nat) (l0_2 : List Int) (r : Bool) (w : World) (hr0_0 : Kd.C (Kd.int .i64) w A0_0 l0_0.length l0_0) (hc0_0 : l0_0.length ≤ c0_0) (hr0_1 : Kd.C (Kd.int .i64) w A0_1 l0_1.length l0_1) (hc0_1 : l0_1.length ≤ c0_1) (hr0_2 : Kd.C (Kd.int .i64) w A0_2 l0_2.length l0_2) (hc0_2 : l0_2.length ≤ c0_2) (h : spec_MemOk.f k l0_0 l0_1 l0_2 = some r) :
  Calls Try.prog 39 #[.agg #[.slice A0_0 l0_0.length c0_0, .slice A0_1 l0_1.length c0_1, .slice A0_2 l0_2.length c0_2]] w fun e w' => e = .returned (.bool r) ∧ Below w.heap.size w w' := by
 have hu44 := Try.underlying44
 have HR0_0 := z0 hr0_0
 have HC0_0 := z0 hc0_0
 clear hr0_0 hc0_0
 have HR0_1 := z0 hr0_1
 have HC0_1 := z0 hc0_1
 clear hr0_1 hc0_1
 have HR0_2 := z0 hr0_2
 have HC0_2 := z0 hc0_2
 clear hr0_2 hc0_2
 have HB := z0 (Below.refl w.heap.size w)
 have H : ((spec_l2List.f k l0_0).bind fun t227 => (if t227 = true then ((spec_l2List.f k l0_1).bind fun t228 => (if t228 = true then ((spec_l2List.f k l0_2).bind fun t229 => (some t229)) else (some false))) else (some false))) = some r := h
 clear h
 have HF2 := z0 H
 clear H
 go_enter Try.func39, Try.ntmps39
 go_upto_region 1 with (first | ((with_reducible refine gate_dst (N := 1) rfl ?_); refine box_event ?hg (N := 1) ?hd (cs := #[.slice A0_0 l0_0.length c0_0, .slice A0_1 l0_1.length c0_1, .slice A0_2 l0_2.length c0_2]) (t := 44) ?hr ?_; (case hd => rfl); (case hg => rfl); (case hr => first | (go_simp; done) | (go_simp; rfl)); intro gb226 hg w3 hbox hb; have n_ := az (below_step (mB HB.out) hb) <| az (hbox) <| az ((by rw [hg]; exact (below_size (mB HB.out)) : w.heap.size ≤ gb226)) <| z0 ((by rw [hg]; exact (below_size (mB HB.out)) : w.heap.size ≤ gb226)); clear HB; obtain ⟨HB, BK226, GW226, GE226⟩ := n_; clear hb hbox hg))
 (try simp only [Act.put, List.setIfInBounds_toArray, List.set_cons_zero, List.set_cons_succ])
 have H := HF2.out
 clear HF2
 try clear c3
 replace H := Option.bind_eq_some_iff.mp H
 obtain ⟨t227, A40, H⟩ := H
 try dsimp only at H
 have A4 := z0 A40
 clear A40
 by_cases c5 : t227 = true
 ·subst c5
  have H1 : ((spec_l2List.f k l0_1).bind fun t228 => (if t228 = true then ((spec_l2List.f k l0_2).bind fun t229 => (some t229)) else (some false))) = some r := by rw [if_pos rfl] at H; exact H
  clear H
  have H := H1
  clear H1
  replace H := Option.bind_eq_some_iff.mp H
  obtain ⟨t228, A60, H⟩ := H
  try dsimp only at H
  have A6 := z0 A60
  clear A60
  by_cases c7 : t228 = true
  ·subst c7
   have H1 : ((spec_l2List.f k l0_2).bind fun t229 => (some t229)) = some r := by rw [if_pos rfl] at H; exact H
   clear H
   have H := H1
   clear H1
   replace H := Option.bind_eq_some_iff.mp H
   obtain ⟨t229, A80, H⟩ := H
   try dsimp only at H
   have A8 := z0 A80
   clear A80
   obtain rfl := Option.some.inj H
   obtain ⟨hcz9_0, hcz9_1, hcz9_2, hfz9_0, hfz9_1, hfz9_2⟩ := cel3 BK226.out
   go_wp2_with (first | ((with_reducible refine gate_callee (f := 78) rfl ?_); refine goesL_ (some 5) rfl rfl Try.func78 (by kernel_rfl) rfl #[.slice A0_0 l0_0.length c0_0] rfl argx ?_; (with_reducible refine (spec_l2List.calls k _ _ l0_0 true _ ?side1 ?side2 A4.out).mono ?_); (case side1 => exact mC (Kd.C_below HR0_0.out HB.out)); (case side2 => exact HC0_0.out); rintro e w' ⟨rfl, ⟨nd, rfl⟩⟩; refine ⟨_, rfl, ?_⟩) | (go_at_call 78; (with_reducible refine (spec_l2List.calls k _ _ l0_1 true _ ?side1 ?side2 A6.out).mono ?_); (case side1 => exact mC (Kd.C_below HR0_1.out (mB HB.out))); (case side2 => exact HC0_1.out); rintro e w' ⟨rfl, ⟨nd, rfl⟩⟩) | (go_at_call 78; (with_reducible refine (spec_l2List.calls k _ _ l0_2 t229 _ ?side1 ?side2 A8.out).mono ?_); (case side1 => exact mC (Kd.C_below HR0_2.out (mB HB.out))); (case side2 => exact HC0_2.out); rintro e w' ⟨rfl, ⟨nd, rfl⟩⟩))
   go_ret
   exact ⟨rfx, mB HB.out⟩
  ·replace c7 := Bool.eq_false_iff.mpr c7
   subst c7
   have H1 : (some false) = some r := by rw [if_neg (show ¬ (false = true) by decide)] at H; exact H
   clear H
   have H := H1
   clear H1
   obtain rfl := Option.some.inj H
   obtain ⟨hcz10_0, hcz10_1, hcz10_2, hfz10_0, hfz10_1, hfz10_2⟩ := cel3 BK226.out
   go_wp2_with (first | ((with_reducible refine gate_callee (f := 78) rfl ?_); refine goesL_ (some 5) rfl rfl Try.func78 (by kernel_rfl) rfl #[.slice A0_0 l0_0.length c0_0] rfl argx ?_; (with_reducible refine (spec_l2List.calls k _ _ l0_0 true _ ?side1 ?side2 A4.out).mono ?_); (case side1 => exact mC (Kd.C_below HR0_0.out HB.out)); (case side2 => exact HC0_0.out); rintro e w' ⟨rfl, ⟨nd, rfl⟩⟩; refine ⟨_, rfl, ?_⟩) | (go_at_call 78; (with_reducible refine (spec_l2List.calls k _ _ l0_1 false _ ?side1 ?side2 A6.out).mono ?_); (case side1 => exact mC (Kd.C_below HR0_1.out (mB HB.out))); (case side2 => exact HC0_1.out); rintro e w' ⟨rfl, ⟨nd, rfl⟩⟩))
   go_ret
   exact ⟨rfx, mB HB.out⟩
 ·replace c5 := Bool.eq_false_iff.mpr c5
  subst c5
  have H1 : (some false) = some r := by rw [if_neg (show ¬ (false = true) by decide)] at H; exact H
  clear H
  have H := H1
  clear H1
  obtain rfl := Option.some.inj H
  obtain ⟨hcz11_0, hcz11_1, hcz11_2, hfz11_0, hfz11_1, hfz11_2⟩ := cel3 BK226.out
  go_wp2_with (first | ((with_reducible refine gate_callee (f := 78) rfl ?_); refine goesL_ (some 5) rfl rfl Try.func78 (by kernel_rfl) rfl #[.slice A0_0 l0_0.length c0_0] rfl argx ?_; (with_reducible refine (spec_l2List.calls k _ _ l0_0 false _ ?side1 ?side2 A4.out).mono ?_); (case side1 => exact mC (Kd.C_below HR0_0.out HB.out)); (case side2 => exact HC0_0.out); rintro e w' ⟨rfl, ⟨nd, rfl⟩⟩; refine ⟨_, rfl, ?_⟩))
  go_ret
  exact ⟨rfx, mB HB.out⟩

/-! ### spec_l2Get: function 88 -/
def spec_l2Get.f (l0_0 : List Int) (l0_1 : List Int) (l0_2 : List Int) (a1_0 : Int) (a1_1 : Int) : Option (Int) := if a1_0 = 1 then (if 0 ≤ a1_1 then (if a1_1 < (l0_0.length : Int) then (some (rd l0_0 a1_1)) else (none)) else (none)) else (if a1_0 = 2 then (if 0 ≤ a1_1 then (if a1_1 < (l0_1.length : Int) then (some (rd l0_1 a1_1)) else (none)) else (none)) else (if 0 ≤ a1_1 then (if a1_1 < (l0_2.length : Int) then (some (rd l0_2 a1_1)) else (none)) else (none)))
set_option maxHeartbeats 8000000 in
set_option maxRecDepth 100000 in
theorem spec_l2Get.calls (A0_0 : Option Addr) (c0_0 : Nat) (l0_0 : List Int) (A0_1 : Option Addr) (c0_1 : Nat) (l0_1 : List Int) (A0_2 : Option Addr) (c0_2 : Nat) (l0_2 : List Int) (a1_0 : Int) (a1_1 : Int) (r : Int) (w : World) (hr0_0 : Kd.C (Kd.int .i64) w A0_0 l0_0.length l0_0) (hc0_0 : l0_0.length ≤ c0_0) (hr0_1 : Kd.C (Kd.int .i64) w A0_1 l0_1.length l0_1) (hc0_1 : l0_1.length ≤ c0_1) (hr0_2 : Kd.C (Kd.int .i64) w A0_2 l0_2.length l0_2) (hc0_2 : l0_2.length ≤ c0_2) (h : spec_l2Get.f l0_0 l0_1 l0_2 a1_0 a1_1 = some r) :
  Calls Try.prog 88 #[.agg #[.slice A0_0 l0_0.length c0_0, .slice A0_1 l0_1.length c0_1, .slice A0_2 l0_2.length c0_2], .agg #[.int .i64 a1_0, .int .i64 a1_1]] w fun e w' => e = .returned (.int .i64 r) ∧ Below w.heap.size w w' := by
 have hu44 := Try.underlying44
 have hu29 := Try.underlying29
 have HR0_0 := z0 hr0_0
 have HC0_0 := z0 hc0_0
 clear hr0_0 hc0_0
 have HR0_1 := z0 hr0_1
 have HC0_1 := z0 hc0_1
 clear hr0_1 hc0_1
 have HR0_2 := z0 hr0_2
 have HC0_2 := z0 hc0_2
 clear hr0_2 hc0_2
 have HB := z0 (Below.refl w.heap.size w)
 have H : (if a1_0 = 1 then (if 0 ≤ a1_1 then (if a1_1 < (l0_0.length : Int) then (some (rd l0_0 a1_1)) else (none)) else (none)) else (if a1_0 = 2 then (if 0 ≤ a1_1 then (if a1_1 < (l0_1.length : Int) then (some (rd l0_1 a1_1)) else (none)) else (none)) else (if 0 ≤ a1_1 then (if a1_1 < (l0_2.length : Int) then (some (rd l0_2 a1_1)) else (none)) else (none)))) = some r := h
 clear h
 have HF3 := z0 H
 clear H
 go_enter Try.func88, Try.ntmps88
 go_upto_if 7 with (first | ((with_reducible refine gate_dst (N := 2) rfl ?_); refine box_event ?hg (N := 2) ?hd (cs := #[.slice A0_0 l0_0.length c0_0, .slice A0_1 l0_1.length c0_1, .slice A0_2 l0_2.length c0_2]) (t := 44) ?hr ?_; (case hd => rfl); (case hg => rfl); (case hr => first | (go_simp; done) | (go_simp; rfl)); intro gb230 hg w4 hbox hb; have n_ := az (below_step (mB HB.out) hb) <| az (hbox) <| az ((by rw [hg]; exact (below_size (mB HB.out)) : w.heap.size ≤ gb230)) <| z0 ((by rw [hg]; exact (below_size (mB HB.out)) : w.heap.size ≤ gb230)); clear HB; obtain ⟨HB, BK230, GW230, GE230⟩ := n_; clear hb hbox hg) | ((with_reducible refine gate_dst (N := 3) rfl ?_); refine box_event ?hg (N := 3) ?hd (cs := #[.int .i64 a1_0, .int .i64 a1_1]) (t := 29) ?hr ?_; (case hd => rfl); (case hg => rfl); (case hr => first | (go_simp; done) | (go_simp; rfl)); intro gb231 hg w5 hbox hb; have n_ := az (bB BK230.out hb) <| az (below_step (mB HB.out) hb) <| az (hbox) <| az ((by rw [hg]; exact (below_size (mB HB.out)) : w.heap.size ≤ gb231)) <| az ((by rw [hg]; exact (below_size (mB HB.out)) : w.heap.size ≤ gb231)) <| az ((nL hg BK230.out)) <| z0 ((nG hg BK230.out)); clear BK230 HB; obtain ⟨BK230, HB, BK231, GW231, GE231, NB230_231, NB231_230⟩ := n_; clear hb hbox hg; have hnb6 := NB231_230.out; have hnc6 := NB230_231.out; obtain ⟨hcz7_0, hcz7_1, hfz7_0, hfz7_1⟩ := cel2 BK231.out))
 (try simp only [Act.put, List.setIfInBounds_toArray, List.set_cons_zero, List.set_cons_succ])
 have H := HF3.out
 clear HF3
 (try clear hcz7_0); (try clear hcz7_1); (try clear hfz7_0); (try clear hfz7_1)
 by_cases c8 : a1_0 = 1
 ·rw [if_pos c8] at H
  have c8b0 : (a1_0 == 1) = true := beq_iff_eq.mpr c8
  have c8b1 : (a1_0 != 1) = false := bne_eq_false_iff_eq.mpr c8
  clear c8
  (first | rw [c8b0] | (simp only [i64_w, i32_w]; rw [c8b0]) | skip)
  by_cases c9 : 0 ≤ a1_1
  ·rw [if_pos c9] at H
   have c9b0 : decide (0 ≤ a1_1) = true := decide_eq_true c9
   clear c9
   by_cases c10 : a1_1 < (l0_0.length : Int)
   ·rw [if_pos c10] at H
    have c10b0 : decide (a1_1 < (l0_0.length : Int)) = true := decide_eq_true c10
    clear c10
    obtain rfl := Option.some.inj H
    have hnb11 := NB230_231.out
    have hnc11 := NB231_230.out
    obtain ⟨hcz12_0, hcz12_1, hcz12_2, hfz12_0, hfz12_1, hfz12_2⟩ := cel3 BK230.out
    obtain ⟨hcz13_0, hcz13_1, hfz13_0, hfz13_1⟩ := cel2 BK231.out
    have p232 : 0 ≤ (a1_1 : Int) := of_decide_eq_true (by first | (with_reducible assumption) | assumption)
    have q232 : a1_1 < (l0_0.length : Int) := of_decide_eq_true (by first | (with_reducible assumption) | assumption)
    obtain ⟨ad232, e232, hx232_0⟩ := Kd.at_int HR0_0.out a1_1 p232 q232
    cases e232
    replace hx232_0 := (HB.out.cell (World.block_lt_of_cell? w _ hx232_0)).trans hx232_0
    replace p232 := eq_true p232
    replace q232 := eq_true q232
    go_wp2
    go_ret
    exact ⟨rfx, mB HB.out⟩
   ·rw [if_neg c10] at H
    exact absurd H (by simp)
  ·rw [if_neg c9] at H
   exact absurd H (by simp)
 ·rw [if_neg c8] at H
  have c8b0 : (a1_0 == 1) = false := beq_eq_false_iff_ne.mpr c8
  have c8b1 : (a1_0 != 1) = true := bne_iff_ne.mpr c8
  (first | rw [c8b0] | (simp only [i64_w, i32_w]; rw [c8b0]) | skip)
  by_cases c14 : a1_0 = 2
  ·rw [if_pos c14] at H
   have c14b0 : (a1_0 == 2) = true := beq_iff_eq.mpr c14
   have c14b1 : (a1_0 != 2) = false := bne_eq_false_iff_eq.mpr c14
   clear c14
   by_cases c15 : 0 ≤ a1_1
   ·rw [if_pos c15] at H
    have c15b0 : decide (0 ≤ a1_1) = true := decide_eq_true c15
    clear c15
    by_cases c16 : a1_1 < (l0_1.length : Int)
    ·rw [if_pos c16] at H
     have c16b0 : decide (a1_1 < (l0_1.length : Int)) = true := decide_eq_true c16
     clear c16
     obtain rfl := Option.some.inj H
     have hnb17 := NB230_231.out
     have hnc17 := NB231_230.out
     obtain ⟨hcz18_0, hcz18_1, hcz18_2, hfz18_0, hfz18_1, hfz18_2⟩ := cel3 BK230.out
     obtain ⟨hcz19_0, hcz19_1, hfz19_0, hfz19_1⟩ := cel2 BK231.out
     have p233 : 0 ≤ (a1_1 : Int) := of_decide_eq_true (by first | (with_reducible assumption) | assumption)
     have q233 : a1_1 < (l0_1.length : Int) := of_decide_eq_true (by first | (with_reducible assumption) | assumption)
     obtain ⟨ad233, e233, hx233_0⟩ := Kd.at_int HR0_1.out a1_1 p233 q233
     cases e233
     replace hx233_0 := (HB.out.cell (World.block_lt_of_cell? w _ hx233_0)).trans hx233_0
     replace p233 := eq_true p233
     replace q233 := eq_true q233
     go_wp2
     go_ret
     exact ⟨rfx, mB HB.out⟩
    ·rw [if_neg c16] at H
     exact absurd H (by simp)
   ·rw [if_neg c15] at H
    exact absurd H (by simp)
  ·rw [if_neg c14] at H
   have c14b0 : (a1_0 == 2) = false := beq_eq_false_iff_ne.mpr c14
   have c14b1 : (a1_0 != 2) = true := bne_iff_ne.mpr c14
   by_cases c20 : 0 ≤ a1_1
   ·rw [if_pos c20] at H
    have c20b0 : decide (0 ≤ a1_1) = true := decide_eq_true c20
    clear c20
    by_cases c21 : a1_1 < (l0_2.length : Int)
    ·rw [if_pos c21] at H
     have c21b0 : decide (a1_1 < (l0_2.length : Int)) = true := decide_eq_true c21
     clear c21
     obtain rfl := Option.some.inj H
     have hnb22 := NB230_231.out
     have hnc22 := NB231_230.out
     obtain ⟨hcz23_0, hcz23_1, hcz23_2, hfz23_0, hfz23_1, hfz23_2⟩ := cel3 BK230.out
     obtain ⟨hcz24_0, hcz24_1, hfz24_0, hfz24_1⟩ := cel2 BK231.out
     have p234 : 0 ≤ (a1_1 : Int) := of_decide_eq_true (by first | (with_reducible assumption) | assumption)
     have q234 : a1_1 < (l0_2.length : Int) := of_decide_eq_true (by first | (with_reducible assumption) | assumption)
     obtain ⟨ad234, e234, hx234_0⟩ := Kd.at_int HR0_2.out a1_1 p234 q234
     cases e234
     replace hx234_0 := (HB.out.cell (World.block_lt_of_cell? w _ hx234_0)).trans hx234_0
     replace p234 := eq_true p234
     replace q234 := eq_true q234
     go_wp2
     go_ret
     exact ⟨rfx, mB HB.out⟩
    ·rw [if_neg c21] at H
     exact absurd H (by simp)
   ·rw [if_neg c20] at H
    exact absurd H (by simp)

/-! ### spec_NumIs: function 89 -/
def spec_NumIs.f (a0 : Bool) : Option (Int) := if a0 = true then (some 1) else (some 0)
set_option maxHeartbeats 8000000 in
set_option maxRecDepth 100000 in
theorem spec_NumIs.calls (a0 : Bool) (r : Int) (w : World) (h : spec_NumIs.f a0 = some r) :
  Calls Try.prog 89 #[.bool a0] w fun e w' => e = .returned (.int .i64 r) ∧ Drawn0 w w' := by
 have H : (if a0 = true then (some 1) else (some 0)) = some r := h
 clear h
 by_cases c2 : a0 = true
 ·subst c2
  have H1 : (some 1) = some r := by rw [if_pos rfl] at H; exact H
  clear H
  have H := H1
  clear H1
  obtain rfl := Option.some.inj H
  go_enter Try.func89, Try.ntmps89
  go_wp2
  go_ret
  exact ⟨by first | rfl | (simp; done) | (simp [*]; done), by repeat (first | exact Drawn0.refl _ | apply Drawn0.step)⟩
 ·replace c2 := Bool.eq_false_iff.mpr c2
  subst c2
  have H1 : (some 0) = some r := by rw [if_neg (show ¬ (false = true) by decide)] at H; exact H
  clear H
  have H := H1
  clear H1
  obtain rfl := Option.some.inj H
  go_enter Try.func89, Try.ntmps89
  go_wp2
  go_ret
  exact ⟨by first | rfl | (simp; done) | (simp [*]; done), by repeat (first | exact Drawn0.refl _ | apply Drawn0.step)⟩

/-! ### spec_NumOn: function 90 -/
def spec_NumOn.f (a0 : Int) : Option (Bool) := some (a0 != 0)
set_option maxHeartbeats 8000000 in
set_option maxRecDepth 100000 in
theorem spec_NumOn.calls (a0 : Int) (r : Bool) (w : World) (h : spec_NumOn.f a0 = some r) :
  Calls Try.prog 90 #[.int .i64 a0] w fun e w' => e = .returned (.bool r) ∧ Drawn0 w w' := by
 have H : (some (a0 != 0)) = some r := h
 clear h
 obtain rfl := Option.some.inj H
 go_enter Try.func90, Try.ntmps90
 go_wp2
 go_ret
 exact ⟨by first | rfl | (simp; done) | (simp [*]; done), by repeat (first | exact Drawn0.refl _ | apply Drawn0.step)⟩

/-! ### spec_NumAdd: function 113 -/
def spec_NumAdd.f (a0 : Int) (a1 : Int) : Option (Int) := (spec_NumCut.f a0).bind fun t235 => ((spec_NumCut.f a1).bind fun t236 => ((spec_NumCut.f (wrap64 (t235 + t236))).bind fun t237 => (some t237)))
set_option maxHeartbeats 8000000 in
set_option maxRecDepth 100000 in
theorem spec_NumAdd.calls (a0 : Int) (a1 : Int) (r : Int) (w : World) (h : spec_NumAdd.f a0 a1 = some r) :
  Calls Try.prog 113 #[.int .i64 a0, .int .i64 a1] w fun e w' => e = .returned (.int .i64 r) ∧ Drawn0 w w' := by
 have H : ((spec_NumCut.f a0).bind fun t235 => ((spec_NumCut.f a1).bind fun t236 => ((spec_NumCut.f (wrap64 (t235 + t236))).bind fun t237 => (some t237)))) = some r := h
 clear h
 replace H := Option.bind_eq_some_iff.mp H
 obtain ⟨t235, A30, H⟩ := H
 try dsimp only at H
 have A3 := z0 A30
 clear A30
 replace H := Option.bind_eq_some_iff.mp H
 obtain ⟨t236, A40, H⟩ := H
 try dsimp only at H
 have A4 := z0 A40
 clear A40
 replace H := Option.bind_eq_some_iff.mp H
 obtain ⟨t237, A50, H⟩ := H
 try dsimp only at H
 have A5 := z0 A50
 clear A50
 obtain rfl := Option.some.inj H
 go_enter Try.func113, Try.ntmps113
 go_wp2_with (first | ((with_reducible refine gate_callee (f := 83) rfl ?_); refine goesL_ (some 6) rfl rfl Try.func83 (by kernel_rfl) rfl #[.int .i64 a0] rfl argx ?_; (with_reducible refine (spec_NumCut.calls a0 t235 _ A3.out).mono ?_); rintro e w' ⟨rfl, ⟨nd, rfl⟩⟩; refine ⟨_, rfl, ?_⟩) | ((with_reducible refine gate_callee (f := 83) rfl ?_); refine goesL_ (some 8) rfl rfl Try.func83 (by kernel_rfl) rfl #[.int .i64 a1] rfl argx ?_; (with_reducible refine (spec_NumCut.calls a1 t236 _ A4.out).mono ?_); rintro e w' ⟨rfl, ⟨nd, rfl⟩⟩; refine ⟨_, rfl, ?_⟩) | ((with_reducible refine gate_callee (f := 83) rfl ?_); refine goesL_ (some 10) rfl rfl Try.func83 (by kernel_rfl) rfl #[.int .i64 (wrap64 (t235 + t236))] rfl argx ?_; (with_reducible refine (spec_NumCut.calls (wrap64 (t235 + t236)) t237 _ A5.out).mono ?_); rintro e w' ⟨rfl, ⟨nd, rfl⟩⟩; refine ⟨_, rfl, ?_⟩))
 go_ret
 exact ⟨by first | rfl | (simp; done) | (simp [*]; done), by repeat (first | exact Drawn0.refl _ | apply Drawn0.step)⟩

/-! ### spec_NumSub: function 114 -/
def spec_NumSub.f (a0 : Int) (a1 : Int) : Option (Int) := (spec_NumCut.f a0).bind fun t238 => ((spec_NumCut.f a1).bind fun t239 => ((spec_NumCut.f (wrap64 (t238 - t239))).bind fun t240 => (some t240)))
set_option maxHeartbeats 8000000 in
set_option maxRecDepth 100000 in
theorem spec_NumSub.calls (a0 : Int) (a1 : Int) (r : Int) (w : World) (h : spec_NumSub.f a0 a1 = some r) :
  Calls Try.prog 114 #[.int .i64 a0, .int .i64 a1] w fun e w' => e = .returned (.int .i64 r) ∧ Drawn0 w w' := by
 have H : ((spec_NumCut.f a0).bind fun t238 => ((spec_NumCut.f a1).bind fun t239 => ((spec_NumCut.f (wrap64 (t238 - t239))).bind fun t240 => (some t240)))) = some r := h
 clear h
 replace H := Option.bind_eq_some_iff.mp H
 obtain ⟨t238, A30, H⟩ := H
 try dsimp only at H
 have A3 := z0 A30
 clear A30
 replace H := Option.bind_eq_some_iff.mp H
 obtain ⟨t239, A40, H⟩ := H
 try dsimp only at H
 have A4 := z0 A40
 clear A40
 replace H := Option.bind_eq_some_iff.mp H
 obtain ⟨t240, A50, H⟩ := H
 try dsimp only at H
 have A5 := z0 A50
 clear A50
 obtain rfl := Option.some.inj H
 go_enter Try.func114, Try.ntmps114
 go_wp2_with (first | ((with_reducible refine gate_callee (f := 83) rfl ?_); refine goesL_ (some 6) rfl rfl Try.func83 (by kernel_rfl) rfl #[.int .i64 a0] rfl argx ?_; (with_reducible refine (spec_NumCut.calls a0 t238 _ A3.out).mono ?_); rintro e w' ⟨rfl, ⟨nd, rfl⟩⟩; refine ⟨_, rfl, ?_⟩) | ((with_reducible refine gate_callee (f := 83) rfl ?_); refine goesL_ (some 8) rfl rfl Try.func83 (by kernel_rfl) rfl #[.int .i64 a1] rfl argx ?_; (with_reducible refine (spec_NumCut.calls a1 t239 _ A4.out).mono ?_); rintro e w' ⟨rfl, ⟨nd, rfl⟩⟩; refine ⟨_, rfl, ?_⟩) | ((with_reducible refine gate_callee (f := 83) rfl ?_); refine goesL_ (some 10) rfl rfl Try.func83 (by kernel_rfl) rfl #[.int .i64 (wrap64 (t238 - t239))] rfl argx ?_; (with_reducible refine (spec_NumCut.calls (wrap64 (t238 - t239)) t240 _ A5.out).mono ?_); rintro e w' ⟨rfl, ⟨nd, rfl⟩⟩; refine ⟨_, rfl, ?_⟩))
 go_ret
 exact ⟨by first | rfl | (simp; done) | (simp [*]; done), by repeat (first | exact Drawn0.refl _ | apply Drawn0.step)⟩

/-! ### spec_NumMul: function 115 -/
def spec_NumMul.f (a0 : Int) (a1 : Int) : Option (Int) := (spec_NumCut.f a0).bind fun t241 => ((spec_NumCut.f a1).bind fun t242 => ((spec_NumCut.f (wrap64 (t241 * t242))).bind fun t243 => (some t243)))
set_option maxHeartbeats 8000000 in
set_option maxRecDepth 100000 in
theorem spec_NumMul.calls (a0 : Int) (a1 : Int) (r : Int) (w : World) (h : spec_NumMul.f a0 a1 = some r) :
  Calls Try.prog 115 #[.int .i64 a0, .int .i64 a1] w fun e w' => e = .returned (.int .i64 r) ∧ Drawn0 w w' := by
 have H : ((spec_NumCut.f a0).bind fun t241 => ((spec_NumCut.f a1).bind fun t242 => ((spec_NumCut.f (wrap64 (t241 * t242))).bind fun t243 => (some t243)))) = some r := h
 clear h
 replace H := Option.bind_eq_some_iff.mp H
 obtain ⟨t241, A30, H⟩ := H
 try dsimp only at H
 have A3 := z0 A30
 clear A30
 replace H := Option.bind_eq_some_iff.mp H
 obtain ⟨t242, A40, H⟩ := H
 try dsimp only at H
 have A4 := z0 A40
 clear A40
 replace H := Option.bind_eq_some_iff.mp H
 obtain ⟨t243, A50, H⟩ := H
 try dsimp only at H
 have A5 := z0 A50
 clear A50
 obtain rfl := Option.some.inj H
 go_enter Try.func115, Try.ntmps115
 go_wp2_with (first | ((with_reducible refine gate_callee (f := 83) rfl ?_); refine goesL_ (some 6) rfl rfl Try.func83 (by kernel_rfl) rfl #[.int .i64 a0] rfl argx ?_; (with_reducible refine (spec_NumCut.calls a0 t241 _ A3.out).mono ?_); rintro e w' ⟨rfl, ⟨nd, rfl⟩⟩; refine ⟨_, rfl, ?_⟩) | ((with_reducible refine gate_callee (f := 83) rfl ?_); refine goesL_ (some 8) rfl rfl Try.func83 (by kernel_rfl) rfl #[.int .i64 a1] rfl argx ?_; (with_reducible refine (spec_NumCut.calls a1 t242 _ A4.out).mono ?_); rintro e w' ⟨rfl, ⟨nd, rfl⟩⟩; refine ⟨_, rfl, ?_⟩) | ((with_reducible refine gate_callee (f := 83) rfl ?_); refine goesL_ (some 10) rfl rfl Try.func83 (by kernel_rfl) rfl #[.int .i64 (wrap64 (t241 * t242))] rfl argx ?_; (with_reducible refine (spec_NumCut.calls (wrap64 (t241 * t242)) t243 _ A5.out).mono ?_); rintro e w' ⟨rfl, ⟨nd, rfl⟩⟩; refine ⟨_, rfl, ?_⟩))
 go_ret
 exact ⟨by first | rfl | (simp; done) | (simp [*]; done), by repeat (first | exact Drawn0.refl _ | apply Drawn0.step)⟩

/-! ### spec_l3Two: function 91 -/
def spec_l3Two.f (a0 : Int) (a1 : Int) (a2 : Int) : Option (Int) := if a0 = 3 then ((spec_NumAdd.f a1 a2).bind fun t244 => (some t244)) else (if a0 = 4 then ((spec_NumSub.f a1 a2).bind fun t245 => (some t245)) else (if a0 = 5 then ((spec_NumMul.f a1 a2).bind fun t246 => (some t246)) else (if a0 = 6 then ((spec_NumIs.f (decide (a1 < a2))).bind fun t247 => (some t247)) else (if a0 = 7 then ((spec_NumIs.f (a1 == a2)).bind fun t248 => (some t248)) else (if a0 = 8 then ((spec_NumOn.f a1).bind fun t249 => (if t249 = true then ((spec_NumOn.f a2).bind fun t250 => ((spec_NumIs.f t250).bind fun t251 => (some t251))) else ((spec_NumIs.f false).bind fun t252 => (some t252)))) else ((spec_NumOn.f a1).bind fun t253 => (if t253 = true then ((spec_NumIs.f true).bind fun t254 => (some t254)) else ((spec_NumOn.f a2).bind fun t255 => ((spec_NumIs.f t255).bind fun t256 => (some t256))))))))))
set_option maxHeartbeats 8000000 in
set_option maxRecDepth 100000 in
theorem spec_l3Two.calls (a0 : Int) (a1 : Int) (a2 : Int) (r : Int) (w : World) (h : spec_l3Two.f a0 a1 a2 = some r) :
  Calls Try.prog 91 #[.int .i64 a0, .int .i64 a1, .int .i64 a2] w fun e w' => e = .returned (.int .i64 r) ∧ Drawn0 w w' := by
 have H : (if a0 = 3 then ((spec_NumAdd.f a1 a2).bind fun t244 => (some t244)) else (if a0 = 4 then ((spec_NumSub.f a1 a2).bind fun t245 => (some t245)) else (if a0 = 5 then ((spec_NumMul.f a1 a2).bind fun t246 => (some t246)) else (if a0 = 6 then ((spec_NumIs.f (decide (a1 < a2))).bind fun t247 => (some t247)) else (if a0 = 7 then ((spec_NumIs.f (a1 == a2)).bind fun t248 => (some t248)) else (if a0 = 8 then ((spec_NumOn.f a1).bind fun t249 => (if t249 = true then ((spec_NumOn.f a2).bind fun t250 => ((spec_NumIs.f t250).bind fun t251 => (some t251))) else ((spec_NumIs.f false).bind fun t252 => (some t252)))) else ((spec_NumOn.f a1).bind fun t253 => (if t253 = true then ((spec_NumIs.f true).bind fun t254 => (some t254)) else ((spec_NumOn.f a2).bind fun t255 => ((spec_NumIs.f t255).bind fun t256 => (some t256))))))))))) = some r := h
 clear h
 by_cases c4 : a0 = 3
 ·rw [if_pos c4] at H
  have c4b0 : (a0 == 3) = true := beq_iff_eq.mpr c4
  have c4b1 : (a0 != 3) = false := bne_eq_false_iff_eq.mpr c4
  clear c4
  replace H := Option.bind_eq_some_iff.mp H
  obtain ⟨t244, A50, H⟩ := H
  try dsimp only at H
  have A5 := z0 A50
  clear A50
  obtain rfl := Option.some.inj H
  go_enter Try.func91, Try.ntmps91
  go_wp2_with (first | ((with_reducible refine gate_callee (f := 113) rfl ?_); refine goesL_ (some 12) rfl rfl Try.func113 (by kernel_rfl) rfl #[.int .i64 a1, .int .i64 a2] rfl argx ?_; (with_reducible refine (spec_NumAdd.calls a1 a2 t244 _ A5.out).mono ?_); rintro e w' ⟨rfl, ⟨nd, rfl⟩⟩; refine ⟨_, rfl, ?_⟩))
  go_ret
  exact ⟨by first | rfl | (simp; done) | (simp [*]; done), by repeat (first | exact Drawn0.refl _ | apply Drawn0.step)⟩
 ·rw [if_neg c4] at H
  have c4b0 : (a0 == 3) = false := beq_eq_false_iff_ne.mpr c4
  have c4b1 : (a0 != 3) = true := bne_iff_ne.mpr c4
  by_cases c6 : a0 = 4
  ·rw [if_pos c6] at H
   have c6b0 : (a0 == 4) = true := beq_iff_eq.mpr c6
   have c6b1 : (a0 != 4) = false := bne_eq_false_iff_eq.mpr c6
   clear c6
   replace H := Option.bind_eq_some_iff.mp H
   obtain ⟨t245, A70, H⟩ := H
   try dsimp only at H
   have A7 := z0 A70
   clear A70
   obtain rfl := Option.some.inj H
   go_enter Try.func91, Try.ntmps91
   go_wp2_with (first | ((with_reducible refine gate_callee (f := 114) rfl ?_); refine goesL_ (some 17) rfl rfl Try.func114 (by kernel_rfl) rfl #[.int .i64 a1, .int .i64 a2] rfl argx ?_; (with_reducible refine (spec_NumSub.calls a1 a2 t245 _ A7.out).mono ?_); rintro e w' ⟨rfl, ⟨nd, rfl⟩⟩; refine ⟨_, rfl, ?_⟩))
   go_ret
   exact ⟨by first | rfl | (simp; done) | (simp [*]; done), by repeat (first | exact Drawn0.refl _ | apply Drawn0.step)⟩
  ·rw [if_neg c6] at H
   have c6b0 : (a0 == 4) = false := beq_eq_false_iff_ne.mpr c6
   have c6b1 : (a0 != 4) = true := bne_iff_ne.mpr c6
   by_cases c8 : a0 = 5
   ·rw [if_pos c8] at H
    have c8b0 : (a0 == 5) = true := beq_iff_eq.mpr c8
    have c8b1 : (a0 != 5) = false := bne_eq_false_iff_eq.mpr c8
    clear c8
    replace H := Option.bind_eq_some_iff.mp H
    obtain ⟨t246, A90, H⟩ := H
    try dsimp only at H
    have A9 := z0 A90
    clear A90
    obtain rfl := Option.some.inj H
    go_enter Try.func91, Try.ntmps91
    go_wp2_with (first | ((with_reducible refine gate_callee (f := 115) rfl ?_); refine goesL_ (some 22) rfl rfl Try.func115 (by kernel_rfl) rfl #[.int .i64 a1, .int .i64 a2] rfl argx ?_; (with_reducible refine (spec_NumMul.calls a1 a2 t246 _ A9.out).mono ?_); rintro e w' ⟨rfl, ⟨nd, rfl⟩⟩; refine ⟨_, rfl, ?_⟩))
    go_ret
    exact ⟨by first | rfl | (simp; done) | (simp [*]; done), by repeat (first | exact Drawn0.refl _ | apply Drawn0.step)⟩
   ·rw [if_neg c8] at H
    have c8b0 : (a0 == 5) = false := beq_eq_false_iff_ne.mpr c8
    have c8b1 : (a0 != 5) = true := bne_iff_ne.mpr c8
    by_cases c10 : a0 = 6
    ·rw [if_pos c10] at H
     have c10b0 : (a0 == 6) = true := beq_iff_eq.mpr c10
     have c10b1 : (a0 != 6) = false := bne_eq_false_iff_eq.mpr c10
     clear c10
     replace H := Option.bind_eq_some_iff.mp H
     obtain ⟨t247, A110, H⟩ := H
     try dsimp only at H
     have A11 := z0 A110
     clear A110
     obtain rfl := Option.some.inj H
     go_enter Try.func91, Try.ntmps91
     go_wp2_with (first | ((with_reducible refine gate_callee (f := 89) rfl ?_); refine goesL_ (some 28) rfl rfl Try.func89 (by kernel_rfl) rfl #[.bool (decide (a1 < a2))] rfl argx ?_; (with_reducible refine (spec_NumIs.calls (decide (a1 < a2)) t247 _ A11.out).mono ?_); rintro e w' ⟨rfl, ⟨nd, rfl⟩⟩; refine ⟨_, rfl, ?_⟩))
     go_ret
     exact ⟨by first | rfl | (simp; done) | (simp [*]; done), by repeat (first | exact Drawn0.refl _ | apply Drawn0.step)⟩
    ·rw [if_neg c10] at H
     have c10b0 : (a0 == 6) = false := beq_eq_false_iff_ne.mpr c10
     have c10b1 : (a0 != 6) = true := bne_iff_ne.mpr c10
     by_cases c12 : a0 = 7
     ·rw [if_pos c12] at H
      have c12b0 : (a0 == 7) = true := beq_iff_eq.mpr c12
      have c12b1 : (a0 != 7) = false := bne_eq_false_iff_eq.mpr c12
      clear c12
      replace H := Option.bind_eq_some_iff.mp H
      obtain ⟨t248, A130, H⟩ := H
      try dsimp only at H
      have A13 := z0 A130
      clear A130
      obtain rfl := Option.some.inj H
      go_enter Try.func91, Try.ntmps91
      go_wp2_with (first | ((with_reducible refine gate_callee (f := 89) rfl ?_); refine goesL_ (some 34) rfl rfl Try.func89 (by kernel_rfl) rfl #[.bool (a1 == a2)] rfl argx ?_; (with_reducible refine (spec_NumIs.calls (a1 == a2) t248 _ A13.out).mono ?_); rintro e w' ⟨rfl, ⟨nd, rfl⟩⟩; refine ⟨_, rfl, ?_⟩))
      go_ret
      exact ⟨by first | rfl | (simp; done) | (simp [*]; done), by repeat (first | exact Drawn0.refl _ | apply Drawn0.step)⟩
     ·rw [if_neg c12] at H
      have c12b0 : (a0 == 7) = false := beq_eq_false_iff_ne.mpr c12
      have c12b1 : (a0 != 7) = true := bne_iff_ne.mpr c12
      by_cases c14 : a0 = 8
      ·rw [if_pos c14] at H
       have c14b0 : (a0 == 8) = true := beq_iff_eq.mpr c14
       have c14b1 : (a0 != 8) = false := bne_eq_false_iff_eq.mpr c14
       clear c14
       replace H := Option.bind_eq_some_iff.mp H
       obtain ⟨t249, A150, H⟩ := H
       try dsimp only at H
       have A15 := z0 A150
       clear A150
       by_cases c16 : t249 = true
       ·subst c16
        have H1 : ((spec_NumOn.f a2).bind fun t250 => ((spec_NumIs.f t250).bind fun t251 => (some t251))) = some r := by rw [if_pos rfl] at H; exact H
        clear H
        have H := H1
        clear H1
        replace H := Option.bind_eq_some_iff.mp H
        obtain ⟨t250, A170, H⟩ := H
        try dsimp only at H
        have A17 := z0 A170
        clear A170
        replace H := Option.bind_eq_some_iff.mp H
        obtain ⟨t251, A180, H⟩ := H
        try dsimp only at H
        have A18 := z0 A180
        clear A180
        obtain rfl := Option.some.inj H
        go_enter Try.func91, Try.ntmps91
        go_wp2_with (first | ((with_reducible refine gate_callee (f := 90) rfl ?_); refine goesL_ (some 38) rfl rfl Try.func90 (by kernel_rfl) rfl #[.int .i64 a1] rfl argx ?_; (with_reducible refine (spec_NumOn.calls a1 true _ A15.out).mono ?_); rintro e w' ⟨rfl, ⟨nd, rfl⟩⟩; refine ⟨_, rfl, ?_⟩) | (go_at_call 90; (with_reducible refine (spec_NumOn.calls a2 t250 _ A17.out).mono ?_); rintro e w' ⟨rfl, ⟨nd, rfl⟩⟩) | ((with_reducible refine gate_callee (f := 89) rfl ?_); refine goesL_ (some 43) rfl rfl Try.func89 (by kernel_rfl) rfl #[.bool t250] rfl argx ?_; (with_reducible refine (spec_NumIs.calls t250 t251 _ A18.out).mono ?_); rintro e w' ⟨rfl, ⟨nd, rfl⟩⟩; refine ⟨_, rfl, ?_⟩))
        go_ret
        exact ⟨by first | rfl | (simp; done) | (simp [*]; done), by repeat (first | exact Drawn0.refl _ | apply Drawn0.step)⟩
       ·replace c16 := Bool.eq_false_iff.mpr c16
        subst c16
        have H1 : ((spec_NumIs.f false).bind fun t252 => (some t252)) = some r := by rw [if_neg (show ¬ (false = true) by decide)] at H; exact H
        clear H
        have H := H1
        clear H1
        replace H := Option.bind_eq_some_iff.mp H
        obtain ⟨t252, A190, H⟩ := H
        try dsimp only at H
        have A19 := z0 A190
        clear A190
        obtain rfl := Option.some.inj H
        go_enter Try.func91, Try.ntmps91
        go_wp2_with (first | ((with_reducible refine gate_callee (f := 90) rfl ?_); refine goesL_ (some 38) rfl rfl Try.func90 (by kernel_rfl) rfl #[.int .i64 a1] rfl argx ?_; (with_reducible refine (spec_NumOn.calls a1 false _ A15.out).mono ?_); rintro e w' ⟨rfl, ⟨nd, rfl⟩⟩; refine ⟨_, rfl, ?_⟩) | ((with_reducible refine gate_callee (f := 89) rfl ?_); refine goesL_ (some 43) rfl rfl Try.func89 (by kernel_rfl) rfl #[.bool false] rfl argx ?_; (with_reducible refine (spec_NumIs.calls false t252 _ A19.out).mono ?_); rintro e w' ⟨rfl, ⟨nd, rfl⟩⟩; refine ⟨_, rfl, ?_⟩))
        go_ret
        exact ⟨by first | rfl | (simp; done) | (simp [*]; done), by repeat (first | exact Drawn0.refl _ | apply Drawn0.step)⟩
      ·rw [if_neg c14] at H
       have c14b0 : (a0 == 8) = false := beq_eq_false_iff_ne.mpr c14
       have c14b1 : (a0 != 8) = true := bne_iff_ne.mpr c14
       replace H := Option.bind_eq_some_iff.mp H
       obtain ⟨t253, A200, H⟩ := H
       try dsimp only at H
       have A20 := z0 A200
       clear A200
       by_cases c21 : t253 = true
       ·subst c21
        have H1 : ((spec_NumIs.f true).bind fun t254 => (some t254)) = some r := by rw [if_pos rfl] at H; exact H
        clear H
        have H := H1
        clear H1
        replace H := Option.bind_eq_some_iff.mp H
        obtain ⟨t254, A220, H⟩ := H
        try dsimp only at H
        have A22 := z0 A220
        clear A220
        obtain rfl := Option.some.inj H
        go_enter Try.func91, Try.ntmps91
        go_wp2_with (first | ((with_reducible refine gate_callee (f := 90) rfl ?_); refine goesL_ (some 45) rfl rfl Try.func90 (by kernel_rfl) rfl #[.int .i64 a1] rfl argx ?_; (with_reducible refine (spec_NumOn.calls a1 true _ A20.out).mono ?_); rintro e w' ⟨rfl, ⟨nd, rfl⟩⟩; refine ⟨_, rfl, ?_⟩) | ((with_reducible refine gate_callee (f := 89) rfl ?_); refine goesL_ (some 50) rfl rfl Try.func89 (by kernel_rfl) rfl #[.bool true] rfl argx ?_; (with_reducible refine (spec_NumIs.calls true t254 _ A22.out).mono ?_); rintro e w' ⟨rfl, ⟨nd, rfl⟩⟩; refine ⟨_, rfl, ?_⟩))
        go_ret
        exact ⟨by first | rfl | (simp; done) | (simp [*]; done), by repeat (first | exact Drawn0.refl _ | apply Drawn0.step)⟩
       ·replace c21 := Bool.eq_false_iff.mpr c21
        subst c21
        have H1 : ((spec_NumOn.f a2).bind fun t255 => ((spec_NumIs.f t255).bind fun t256 => (some t256))) = some r := by rw [if_neg (show ¬ (false = true) by decide)] at H; exact H
        clear H
        have H := H1
        clear H1
        replace H := Option.bind_eq_some_iff.mp H
        obtain ⟨t255, A230, H⟩ := H
        try dsimp only at H
        have A23 := z0 A230
        clear A230
        replace H := Option.bind_eq_some_iff.mp H
        obtain ⟨t256, A240, H⟩ := H
        try dsimp only at H
        have A24 := z0 A240
        clear A240
        obtain rfl := Option.some.inj H
        go_enter Try.func91, Try.ntmps91
        go_wp2_with (first | ((with_reducible refine gate_callee (f := 90) rfl ?_); refine goesL_ (some 45) rfl rfl Try.func90 (by kernel_rfl) rfl #[.int .i64 a1] rfl argx ?_; (with_reducible refine (spec_NumOn.calls a1 false _ A20.out).mono ?_); rintro e w' ⟨rfl, ⟨nd, rfl⟩⟩; refine ⟨_, rfl, ?_⟩) | (go_at_call 90; (with_reducible refine (spec_NumOn.calls a2 t255 _ A23.out).mono ?_); rintro e w' ⟨rfl, ⟨nd, rfl⟩⟩) | ((with_reducible refine gate_callee (f := 89) rfl ?_); refine goesL_ (some 50) rfl rfl Try.func89 (by kernel_rfl) rfl #[.bool t255] rfl argx ?_; (with_reducible refine (spec_NumIs.calls t255 t256 _ A24.out).mono ?_); rintro e w' ⟨rfl, ⟨nd, rfl⟩⟩; refine ⟨_, rfl, ?_⟩))
        go_ret
        exact ⟨by first | rfl | (simp; done) | (simp [*]; done), by repeat (first | exact Drawn0.refl _ | apply Drawn0.step)⟩

/-! ### spec_l3Of: function 61 -/
def spec_l3Of.f : Nat → Int → Int → Int → Int → List (S32) → List Int → List Int → List Int → Option (Int)
 | 0, _, _, _, _, _, _, _, _ => none
 | k + 1, a0_0, a0_1, a0_2, a0_3, l0_4, l1_0, l1_1, l1_2 => if a0_0 = 1 then (some a0_1) else (if a0_0 = 2 then ((spec_l2Get.f l1_0 l1_1 l1_2 a0_2 a0_3).bind fun t259 => (some t259)) else (if a0_0 = 10 then (if 0 < (l0_4.length : Int) then ((spec_l3Of.f k ((rd_T32 l0_4 0).f0) ((rd_T32 l0_4 0).f1) ((rd_T32 l0_4 0).f2.f0) ((rd_T32 l0_4 0).f2.f1) ((rd_T32 l0_4 0).f3) l1_0 l1_1 l1_2).bind fun t261 => ((spec_NumOn.f t261).bind fun t262 => ((spec_NumIs.f (!t262)).bind fun t263 => (some t263)))) else (none)) else (if 0 < (l0_4.length : Int) then ((spec_l3Of.f k ((rd_T32 l0_4 0).f0) ((rd_T32 l0_4 0).f1) ((rd_T32 l0_4 0).f2.f0) ((rd_T32 l0_4 0).f2.f1) ((rd_T32 l0_4 0).f3) l1_0 l1_1 l1_2).bind fun t265 => (if 1 < (l0_4.length : Int) then ((spec_l3Of.f k ((rd_T32 l0_4 1).f0) ((rd_T32 l0_4 1).f1) ((rd_T32 l0_4 1).f2.f0) ((rd_T32 l0_4 1).f2.f1) ((rd_T32 l0_4 1).f3) l1_0 l1_1 l1_2).bind fun t267 => ((spec_l3Two.f a0_0 t265 t267).bind fun t268 => (some t268))) else (none))) else (none))))
theorem spec_l3Of.mono_l : ∀ k, (∀ y0 y1 y2 y3 y4 y5 y6 y7, LeO (spec_l3Of.f k y0 y1 y2 y3 y4 y5 y6 y7) (spec_l3Of.f (k + 1) y0 y1 y2 y3 y4 y5 y6 y7))
 | 0 => fun _ _ _ _ _ _ _ _ r h => by simp [spec_l3Of.f] at h
 | k + 1 => by
  have ih0 := spec_l3Of.mono_l k
  ·intro y0 y1 y2 y3 y4 y5 y6 y7
   unfold spec_l3Of.f
   repeat' first
   | (with_reducible exact ih0 _ _ _ _ _ _ _ _)
   | (with_reducible exact LeO.refl _)
   | (with_reducible exact LeO.none _)
   | (with_reducible refine LeO.ite ?_ ?_)
   | (with_reducible refine LeO.bind ?_ (fun _ => ?_))
   | exact ih0 _ _ _ _ _ _ _ _
   | exact LeO.none _
   | refine LeO.ite ?_ ?_
   | refine LeO.bind ?_ (fun _ => ?_)
theorem spec_l3Of.mono : ∀ a0 a1 a2 a3 a4 a5 a6 a7 k, LeO (spec_l3Of.f k a0 a1 a2 a3 a4 a5 a6 a7) (spec_l3Of.f (k + 1) a0 a1 a2 a3 a4 a5 a6 a7) := by
 intro a0 a1 a2 a3 a4 a5 a6 a7 k
 have ih0 := spec_l3Of.mono_l k
 exact ih0 a0 a1 a2 a3 a4 a5 a6 a7
def spec_l3Of.T7 : Bool × List (List Nat × List Nat) := (true, [([], []), ([0], [0]), ([1], [1]), ([2], [2]), ([], []), ([3, 4], [3, 4]), ([5, 5], [5]), ([6], [6]), ([7, 6], [7]), ([8, 8, 0, 1, 2, 3, 4, 5, 6, 7, 8], [8])])
def spec_l3Of.B7 : List Nat := [0, 1, 3, 7, 0, 31, 63, 127, 255, 511]
theorem spec_l3Of.tab7 : rtab .any (opsOf Try.f61 7) = spec_l3Of.T7 := by kernel_rfl
theorem spec_l3Of.bits7 : waitsOk spec_l3Of.T7.2 spec_l3Of.B7 = true := by kernel_rfl
def spec_l3Of.T8 : Bool × List (List Nat × List Nat) := (true, [([], []), ([0], [0]), ([], []), ([2], [2]), ([3], [3]), ([4], [4]), ([], []), ([5, 6], [5, 6]), ([], []), ([8], [8]), ([9], [9]), ([10], [10]), ([], []), ([11, 12, 7], [11, 12]), ([1, 7, 13, 13], [1, 7, 13]), ([14, 14, 0, 1, 2, 3, 4, 5, 6, 7, 8, 9, 10, 11, 12, 13, 14], [14])])
def spec_l3Of.B8 : List Nat := [0, 1, 0, 4, 12, 28, 0, 124, 0, 256, 768, 1792, 0, 8188, 16383, 32767]
theorem spec_l3Of.tab8 : rtab .any (opsOf Try.f61 8) = spec_l3Of.T8 := by kernel_rfl
theorem spec_l3Of.bits8 : waitsOk spec_l3Of.T8.2 spec_l3Of.B8 = true := by kernel_rfl
theorem q61_1 {p : Prop} (h : p := by exact ⟨(blk_cell BK257.out 0).trans rfl, (blk_cell BK257.out 1).trans rfl, (blk_cell BK257.out 2).trans rfl, (blk_cell BK257.out 3).trans rfl, (blk_cell BK257.out 4).trans rfl, (blk_cell BK258.out 0).trans rfl, (blk_cell BK258.out 1).trans rfl, (blk_cell BK258.out 2).trans rfl, ((HB.out.cell (World.block_lt_of_cell? w _ hw264_0)).trans hw264_0), ((HB.out.cell (World.block_lt_of_cell? w _ hw264_1)).trans hw264_1), ((HB.out.cell (World.block_lt_of_cell? w _ hw264_2)).trans hw264_2), ((HB.out.cell (World.block_lt_of_cell? w _ hw264_3)).trans hw264_3), ((HB.out.cell (World.block_lt_of_cell? w _ hw264_4)).trans hw264_4), ((HB.out.cell (World.block_lt_of_cell? w _ hw266_0)).trans hw266_0), ((HB.out.cell (World.block_lt_of_cell? w _ hw266_1)).trans hw266_1), ((HB.out.cell (World.block_lt_of_cell? w _ hw266_2)).trans hw266_2), ((HB.out.cell (World.block_lt_of_cell? w _ hw266_3)).trans hw266_3), ((HB.out.cell (World.block_lt_of_cell? w _ hw266_4)).trans hw266_4)⟩) : p := h
theorem q61_2 {p : Prop} (h : p := by exact ⟨(blk_cell BK257.out 0).trans rfl, (blk_cell BK257.out 1).trans rfl, (blk_cell BK257.out 2).trans rfl, (blk_cell BK257.out 3).trans rfl, (blk_cell BK257.out 4).trans rfl, (blk_cell BK258.out 0).trans rfl, (blk_cell BK258.out 1).trans rfl, (blk_cell BK258.out 2).trans rfl, ((HB.out.cell (World.block_lt_of_cell? w _ hw260_0)).trans hw260_0), ((HB.out.cell (World.block_lt_of_cell? w _ hw260_1)).trans hw260_1), ((HB.out.cell (World.block_lt_of_cell? w _ hw260_2)).trans hw260_2), ((HB.out.cell (World.block_lt_of_cell? w _ hw260_3)).trans hw260_3), ((HB.out.cell (World.block_lt_of_cell? w _ hw260_4)).trans hw260_4)⟩) : p := h
set_option maxHeartbeats 8000000 in
set_option maxRecDepth 100000 in
theorem spec_l3Of.calls (k : Nat) : ∀ (a0_0 : Int) (a0_1 : Int) (a0_2 : Int) (a0_3 : Int) (A0_4 : Option Addr) (c0_4 : Nat) (l0_4 : List (S32)) (A1_0 : Option Addr) (c1_0 : Nat) (l1_0 : List Int) (A1_1 : Option Addr) (c1_1 : Nat) (l1_1 : List Int) (A1_2 : Option Addr) (c1_2 : Nat) (l1_2 : List Int) (r : Int) (w : World) (hr0_4 : Kd.C k32 w A0_4 l0_4.length l0_4) (hc0_4 : l0_4.length ≤ c0_4) (hr1_0 : Kd.C (Kd.int .i64) w A1_0 l1_0.length l1_0) (hc1_0 : l1_0.length ≤ c1_0) (hr1_1 : Kd.C (Kd.int .i64) w A1_1 l1_1.length l1_1) (hc1_1 : l1_1.length ≤ c1_1) (hr1_2 : Kd.C (Kd.int .i64) w A1_2 l1_2.length l1_2) (hc1_2 : l1_2.length ≤ c1_2) (h : spec_l3Of.f k a0_0 a0_1 a0_2 a0_3 l0_4 l1_0 l1_1 l1_2 = some r),
  Calls Try.prog 61 #[.agg #[.int .i64 a0_0, .int .i64 a0_1, .int .i64 a0_2, .int .i64 a0_3, .slice A0_4 l0_4.length c0_4], .agg #[.slice A1_0 l1_0.length c1_0, .slice A1_1 l1_1.length c1_1, .slice A1_2 l1_2.length c1_2]] w fun e w' => e = .returned (.int .i64 r) ∧ Below w.heap.size w w' := by
 induction k using Nat.strongRecOn with
 | _ k ih =>
 intro a0_0 a0_1 a0_2 a0_3 A0_4 c0_4 l0_4 A1_0 c1_0 l1_0 A1_1 c1_1 l1_1 A1_2 c1_2 l1_2 r w hr0_4 hc0_4 hr1_0 hc1_0 hr1_1 hc1_1 hr1_2 hc1_2 h
 cases k with
 | zero => exact absurd h (by simp [spec_l3Of.f])
 | succ k =>
 simp only [spec_l3Of.f] at h
 have hu32 := Try.underlying32
 have hu44 := Try.underlying44
 have hu29 := Try.underlying29
 have HR0_4 := z0 hr0_4
 have HC0_4 := z0 hc0_4
 clear hr0_4 hc0_4
 have HR1_0 := z0 hr1_0
 have HC1_0 := z0 hc1_0
 clear hr1_0 hc1_0
 have HR1_1 := z0 hr1_1
 have HC1_1 := z0 hc1_1
 clear hr1_1 hc1_1
 have HR1_2 := z0 hr1_2
 have HC1_2 := z0 hc1_2
 clear hr1_2 hc1_2
 have HB := z0 (Below.refl w.heap.size w)
 have H : (if a0_0 = 1 then (some a0_1) else (if a0_0 = 2 then ((spec_l2Get.f l1_0 l1_1 l1_2 a0_2 a0_3).bind fun t259 => (some t259)) else (if a0_0 = 10 then (if 0 < (l0_4.length : Int) then ((spec_l3Of.f k ((rd_T32 l0_4 0).f0) ((rd_T32 l0_4 0).f1) ((rd_T32 l0_4 0).f2.f0) ((rd_T32 l0_4 0).f2.f1) ((rd_T32 l0_4 0).f3) l1_0 l1_1 l1_2).bind fun t261 => ((spec_NumOn.f t261).bind fun t262 => ((spec_NumIs.f (!t262)).bind fun t263 => (some t263)))) else (none)) else (if 0 < (l0_4.length : Int) then ((spec_l3Of.f k ((rd_T32 l0_4 0).f0) ((rd_T32 l0_4 0).f1) ((rd_T32 l0_4 0).f2.f0) ((rd_T32 l0_4 0).f2.f1) ((rd_T32 l0_4 0).f3) l1_0 l1_1 l1_2).bind fun t265 => (if 1 < (l0_4.length : Int) then ((spec_l3Of.f k ((rd_T32 l0_4 1).f0) ((rd_T32 l0_4 1).f1) ((rd_T32 l0_4 1).f2.f0) ((rd_T32 l0_4 1).f2.f1) ((rd_T32 l0_4 1).f3) l1_0 l1_1 l1_2).bind fun t267 => ((spec_l3Two.f a0_0 t265 t267).bind fun t268 => (some t268))) else (none))) else (none))))) = some r := h
 clear h
 have HF3 := z0 H
 clear H
 go_enter Try.func61, Try.ntmps61
 go_upto_if 7 with (first | ((with_reducible refine gate_dst (N := 2) rfl ?_); refine box_event ?hg (N := 2) ?hd (cs := #[.int .i64 a0_0, .int .i64 a0_1, .int .i64 a0_2, .int .i64 a0_3, .slice A0_4 l0_4.length c0_4]) (t := 32) ?hr ?_; (case hd => rfl); (case hg => rfl); (case hr => first | (go_simp; done) | (go_simp; rfl)); intro gb257 hg w4 hbox hb; have n_ := az (below_step (mB HB.out) hb) <| az (hbox) <| az ((by rw [hg]; exact (below_size (mB HB.out)) : w.heap.size ≤ gb257)) <| z0 ((by rw [hg]; exact (below_size (mB HB.out)) : w.heap.size ≤ gb257)); clear HB; obtain ⟨HB, BK257, GW257, GE257⟩ := n_; clear hb hbox hg) | ((with_reducible refine gate_dst (N := 3) rfl ?_); refine box_event ?hg (N := 3) ?hd (cs := #[.slice A1_0 l1_0.length c1_0, .slice A1_1 l1_1.length c1_1, .slice A1_2 l1_2.length c1_2]) (t := 44) ?hr ?_; (case hd => rfl); (case hg => rfl); (case hr => first | (go_simp; done) | (go_simp; rfl)); intro gb258 hg w5 hbox hb; have n_ := az (bB BK257.out hb) <| az (below_step (mB HB.out) hb) <| az (hbox) <| az ((by rw [hg]; exact (below_size (mB HB.out)) : w.heap.size ≤ gb258)) <| az ((by rw [hg]; exact (below_size (mB HB.out)) : w.heap.size ≤ gb258)) <| az ((nL hg BK257.out)) <| z0 ((nG hg BK257.out)); clear BK257 HB; obtain ⟨BK257, HB, BK258, GW258, GE258, NB257_258, NB258_257⟩ := n_; clear hb hbox hg; have hnb6 := NB257_258.out; have hnc6 := NB258_257.out; obtain ⟨hcz7_0, hcz7_1, hcz7_2, hcz7_3, hcz7_4, hfz7_0, hfz7_1, hfz7_2, hfz7_3, hfz7_4⟩ := cel5 BK257.out))
 (try simp only [Act.put, List.setIfInBounds_toArray, List.set_cons_zero, List.set_cons_succ])
 have H := HF3.out
 clear HF3
 (try clear hcz7_0); (try clear hcz7_1); (try clear hcz7_2); (try clear hcz7_3); (try clear hcz7_4); (try clear hfz7_0); (try clear hfz7_1); (try clear hfz7_2); (try clear hfz7_3); (try clear hfz7_4)
 by_cases c8 : a0_0 = 1
 ·rw [if_pos c8] at H
  have c8b0 : (a0_0 == 1) = true := beq_iff_eq.mpr c8
  have c8b1 : (a0_0 != 1) = false := bne_eq_false_iff_eq.mpr c8
  clear c8
  (first | rw [c8b0] | (simp only [i64_w, i32_w]; rw [c8b0]) | skip)
  obtain rfl := Option.some.inj H
  have hnb9 := NB257_258.out
  have hnc9 := NB258_257.out
  obtain ⟨hcz10_0, hcz10_1, hcz10_2, hcz10_3, hcz10_4, hfz10_0, hfz10_1, hfz10_2, hfz10_3, hfz10_4⟩ := cel5 BK257.out
  go_wp2
  go_ret
  exact ⟨rfx, mB HB.out⟩
 ·rw [if_neg c8] at H
  have c8b0 : (a0_0 == 1) = false := beq_eq_false_iff_ne.mpr c8
  have c8b1 : (a0_0 != 1) = true := bne_iff_ne.mpr c8
  (first | rw [c8b0] | (simp only [i64_w, i32_w]; rw [c8b0]) | skip)
  by_cases c11 : a0_0 = 2
  ·rw [if_pos c11] at H
   have c11b0 : (a0_0 == 2) = true := beq_iff_eq.mpr c11
   have c11b1 : (a0_0 != 2) = false := bne_eq_false_iff_eq.mpr c11
   clear c11
   replace H := Option.bind_eq_some_iff.mp H
   obtain ⟨t259, A120, H⟩ := H
   try dsimp only at H
   have A12 := z0 A120
   clear A120
   obtain rfl := Option.some.inj H
   have hnb13 := NB258_257.out
   have hnc13 := NB257_258.out
   obtain ⟨hcz14_0, hcz14_1, hcz14_2, hfz14_0, hfz14_1, hfz14_2⟩ := cel3 BK258.out
   obtain ⟨hcz15_0, hcz15_1, hcz15_2, hcz15_3, hcz15_4, hfz15_0, hfz15_1, hfz15_2, hfz15_3, hfz15_4⟩ := cel5 BK257.out
   go_wp2_with (first | ((with_reducible refine gate_callee (f := 88) rfl ?_); refine goesL_ (some 16) rfl rfl Try.func88 (by kernel_rfl) rfl #[.agg #[.slice A1_0 l1_0.length c1_0, .slice A1_1 l1_1.length c1_1, .slice A1_2 l1_2.length c1_2], .agg #[.int .i64 a0_2, .int .i64 a0_3]] rfl argx ?_; (with_reducible refine (spec_l2Get.calls _ _ l1_0 _ _ l1_1 _ _ l1_2 a0_2 a0_3 t259 _ ?side1 ?side2 ?side3 ?side4 ?side5 ?side6 A12.out).mono ?_); (case side1 => exact mC (Kd.C_below HR1_0.out HB.out)); (case side2 => exact HC1_0.out); (case side3 => exact mC (Kd.C_below HR1_1.out HB.out)); (case side4 => exact HC1_1.out); (case side5 => exact mC (Kd.C_below HR1_2.out HB.out)); (case side6 => exact HC1_2.out); rintro e w16 ⟨rfl, hb⟩; refine ⟨_, rfl, ?_⟩; have n_ := az (bB BK257.out hb) <| az (bB BK258.out hb) <| z0 (below_step (mB HB.out) hb); clear BK257 BK258 HB; obtain ⟨BK257, BK258, HB⟩ := n_; clear hb))
   go_ret
   exact ⟨rfx, mB HB.out⟩
  ·rw [if_neg c11] at H
   have c11b0 : (a0_0 == 2) = false := beq_eq_false_iff_ne.mpr c11
   have c11b1 : (a0_0 != 2) = true := bne_iff_ne.mpr c11
   by_cases c17 : a0_0 = 10
   ·rw [if_pos c17] at H
    have c17b0 : (a0_0 == 10) = true := beq_iff_eq.mpr c17
    have c17b1 : (a0_0 != 10) = false := bne_eq_false_iff_eq.mpr c17
    clear c17
    by_cases c18 : 0 < (l0_4.length : Int)
    ·rw [if_pos c18] at H
     have c18b0 : decide (0 < (l0_4.length : Int)) = true := decide_eq_true c18
     have c18b1 : decide (0 < l0_4.length) = true := decide_eq_true (by omega)
     clear c18
     replace H := Option.bind_eq_some_iff.mp H
     obtain ⟨t261, A190, H⟩ := H
     try dsimp only at H
     have A19 := z0 A190
     clear A190
     replace H := Option.bind_eq_some_iff.mp H
     obtain ⟨t262, A200, H⟩ := H
     try dsimp only at H
     have A20 := z0 A200
     clear A200
     replace H := Option.bind_eq_some_iff.mp H
     obtain ⟨t263, A210, H⟩ := H
     try dsimp only at H
     have A21 := z0 A210
     clear A210
     obtain rfl := Option.some.inj H
     try go_wp2
     have n_ := az (blk_drew BK257.out) <| az (blk_drew BK258.out) <| z0 (below_drew1 HB.out)
     clear BK257 BK258 HB
     obtain ⟨BK257, BK258, HB⟩ := n_
     have p260 : 0 ≤ (0 : Int) := (by omega)
     have q260 : 0 < (l0_4.length : Int) := of_decide_eq_true (by first | (with_reducible assumption) | assumption)
     obtain ⟨ad260, A260_4, c260_4, e260, hx260_0, hx260_1, hx260_2, hx260_3, hx260_4, hl260_4, hi260_4⟩ := at_T32 HR0_4.out 0 p260 q260
     have hw260_4 := hx260_4
     (try rw [show ((0 : Int)).toNat = 0 from rfl] at hw260_4)
     (try rw [show 0 * 5 = 0 from rfl] at hw260_4)
     (try rw [Addr.add_zero'] at hw260_4)
     have hw260_3 := hx260_3
     (try rw [show ((0 : Int)).toNat = 0 from rfl] at hw260_3)
     (try rw [show 0 * 5 = 0 from rfl] at hw260_3)
     (try rw [Addr.add_zero'] at hw260_3)
     have hw260_2 := hx260_2
     (try rw [show ((0 : Int)).toNat = 0 from rfl] at hw260_2)
     (try rw [show 0 * 5 = 0 from rfl] at hw260_2)
     (try rw [Addr.add_zero'] at hw260_2)
     have hw260_1 := hx260_1
     (try rw [show ((0 : Int)).toNat = 0 from rfl] at hw260_1)
     (try rw [show 0 * 5 = 0 from rfl] at hw260_1)
     (try rw [Addr.add_zero'] at hw260_1)
     have hw260_0 := hx260_0
     (try rw [show ((0 : Int)).toNat = 0 from rfl] at hw260_0)
     (try rw [show 0 * 5 = 0 from rfl] at hw260_0)
     (try rw [Addr.add_zero'] at hw260_0)
     cases e260
     have qi260 : (0 < l0_4.length) = True := eq_true (by omega)
     (try rw [show ((0 : Int)).toNat = 0 from rfl] at hx260_0)
     (try rw [show 0 * 5 = 0 from rfl] at hx260_0)
     (try rw [Addr.add_zero'] at hx260_0)
     (try rw [show ((0 : Int)).toNat = 0 from rfl] at hx260_1)
     (try rw [show 0 * 5 = 0 from rfl] at hx260_1)
     (try rw [Addr.add_zero'] at hx260_1)
     (try rw [show ((0 : Int)).toNat = 0 from rfl] at hx260_2)
     (try rw [show 0 * 5 = 0 from rfl] at hx260_2)
     (try rw [Addr.add_zero'] at hx260_2)
     (try rw [show ((0 : Int)).toNat = 0 from rfl] at hx260_3)
     (try rw [show 0 * 5 = 0 from rfl] at hx260_3)
     (try rw [Addr.add_zero'] at hx260_3)
     (try rw [show ((0 : Int)).toNat = 0 from rfl] at hx260_4)
     (try rw [show 0 * 5 = 0 from rfl] at hx260_4)
     (try rw [Addr.add_zero'] at hx260_4)
     replace hx260_0 := (HB.out.cell (World.block_lt_of_cell? w _ hx260_0)).trans hx260_0
     replace hx260_1 := (HB.out.cell (World.block_lt_of_cell? w _ hx260_1)).trans hx260_1
     replace hx260_2 := (HB.out.cell (World.block_lt_of_cell? w _ hx260_2)).trans hx260_2
     replace hx260_3 := (HB.out.cell (World.block_lt_of_cell? w _ hx260_3)).trans hx260_3
     replace hx260_4 := (HB.out.cell (World.block_lt_of_cell? w _ hx260_4)).trans hx260_4
     have HR260_4 := z0 hi260_4
     have HC260_4 := z0 hl260_4
     clear hi260_4 hl260_4
     replace p260 := eq_true p260
     replace q260 := eq_true q260
     refine start_ (n := 10) (S := fun w' => w'.cell? ⟨gb257, 0, none⟩ = some (.int .i64 a0_0) ∧ w'.cell? ⟨gb257, 1, none⟩ = some (.int .i64 a0_1) ∧ w'.cell? ⟨gb257, 2, none⟩ = some (.int .i64 a0_2) ∧ w'.cell? ⟨gb257, 3, none⟩ = some (.int .i64 a0_3) ∧ w'.cell? ⟨gb257, 4, none⟩ = some (.slice (some ad260) l0_4.length c0_4) ∧ w'.cell? ⟨gb258, 0, none⟩ = some (.slice A1_0 l1_0.length c1_0) ∧ w'.cell? ⟨gb258, 1, none⟩ = some (.slice A1_1 l1_1.length c1_1) ∧ w'.cell? ⟨gb258, 2, none⟩ = some (.slice A1_2 l1_2.length c1_2) ∧ w'.cell? ad260 = some (.int .i64 ((rd_T32 l0_4 0).f0)) ∧ w'.cell? ⟨ad260.block, ad260.off + 1, none⟩ = some (.int .i64 ((rd_T32 l0_4 0).f1)) ∧ w'.cell? ⟨ad260.block, ad260.off + 2, none⟩ = some (.int .i64 ((rd_T32 l0_4 0).f2.f0)) ∧ w'.cell? ⟨ad260.block, ad260.off + 3, none⟩ = some (.int .i64 ((rd_T32 l0_4 0).f2.f1)) ∧ w'.cell? ⟨ad260.block, ad260.off + 4, none⟩ = some (.slice A260_4 ((rd_T32 l0_4 0).f3).length c260_4)) (ds := []) #[false, false, false, false, false, false, false, false, false, false] (by kernel_rfl) rfl rfl q61_2 (fun hHeld => ?_); refine with_tabW spec_l3Of.tab7 spec_l3Of.bits7 (fun HT_ HW_ => ?_)
     generalize w5.drew = w22 at BK257 BK258 HB HR260_4 hx260_0 hx260_1 hx260_2 hx260_3 hx260_4 hHeld ⊢
     refine pure_ (i := 0) (N := some 19) (v := ?_) (a' := ?_) #[true, false, false, false, false, false, false, false, false, false] rfl rfl (any_of HT_.out (by kernel_rfl)) (fun _ _ _ h => h) (Or.inl ⟨by rfl, ?_⟩) ?_ ?_
     rotate_left
     ·intro w'
      go_simp
      with_reducible rfl
     rotate_left
     ·simp only [Act.put, List.setIfInBounds_toArray, List.set_cons_zero, List.set_cons_succ, i64_w, i32_w]
      rfl
     refine take_ (i := 1) (N := some 20) (v := ?_) (a' := ?_) #[true, true, false, false, false, false, false, false, false, false] rfl rfl (take_ofW HT_.out HW_.out (by kernel_rfl)) (fun _ _ _ h => h) (Or.inl ⟨by rfl, ?_⟩) hHeld ?_ ?_
     rotate_left
     ·rintro w' ⟨s0, s1, s2, s3, s4, s5, s6, s7, s8, s9, s10, s11, s12⟩
      go_simp
      with_reducible rfl
     rotate_left
     ·simp only [Act.put, List.setIfInBounds_toArray, List.set_cons_zero, List.set_cons_succ, i64_w, i32_w]
      rfl
     refine pure_ (i := 2) (N := some 21) (v := ?_) (a' := ?_) #[true, true, true, false, false, false, false, false, false, false] rfl rfl (any_of HT_.out (by kernel_rfl)) (fun _ _ _ h => h) (Or.inl ⟨by rfl, ?_⟩) ?_ ?_
     rotate_left
     ·intro w'
      go_simp
      with_reducible rfl
     rotate_left
     ·simp only [Act.put, List.setIfInBounds_toArray, List.set_cons_zero, List.set_cons_succ, i64_w, i32_w]
      rfl
     refine take_ (i := 3) (N := some 22) (v := ?_) (a' := ?_) #[true, true, true, true, false, false, false, false, false, false] rfl rfl (take_ofW HT_.out HW_.out (by kernel_rfl)) (fun _ _ _ h => h) (Or.inl ⟨by rfl, ?_⟩) hHeld ?_ ?_
     rotate_left
     ·rintro w' ⟨s0, s1, s2, s3, s4, s5, s6, s7, s8, s9, s10, s11, s12⟩
      go_simp
      with_reducible rfl
     rotate_left
     ·simp only [Act.put, List.setIfInBounds_toArray, List.set_cons_zero, List.set_cons_succ, i64_w, i32_w]
      rfl
     refine take_ (i := 4) (N := some 23) (v := ?_) (a' := ?_) #[true, true, true, true, true, false, false, false, false, false] rfl rfl (take_ofW HT_.out HW_.out (by kernel_rfl)) (fun _ _ _ h => h) (Or.inl ⟨by rfl, ?_⟩) hHeld ?_ ?_
     rotate_left
     ·rintro w' ⟨s0, s1, s2, s3, s4, s5, s6, s7, s8, s9, s10, s11, s12⟩
      go_simp
      with_reducible rfl
     rotate_left
     ·simp only [Act.put, List.setIfInBounds_toArray, List.set_cons_zero, List.set_cons_succ, i64_w, i32_w]
      rfl
     refine one_ (i := 5) (N := some 24) #[true, true, true, true, true, true, false, false, false, false] rfl rfl (one_of HT_.out (by kernel_rfl)) (by decide) (fun K hK => ?_)
     refine goes_ Try.func61 (by kernel_rfl) rfl #[.agg #[.int .i64 ((rd_T32 l0_4 0).f0), .int .i64 ((rd_T32 l0_4 0).f1), .int .i64 ((rd_T32 l0_4 0).f2.f0), .int .i64 ((rd_T32 l0_4 0).f2.f1), .slice A260_4 ((rd_T32 l0_4 0).f3).length c260_4], .agg #[.slice A1_0 l1_0.length c1_0, .slice A1_1 l1_1.length c1_1, .slice A1_2 l1_2.length c1_2]] (by rfl) rfl rfl argx ?_
     with_reducible refine (ih k (by omega) ((rd_T32 l0_4 0).f0) ((rd_T32 l0_4 0).f1) ((rd_T32 l0_4 0).f2.f0) ((rd_T32 l0_4 0).f2.f1) _ _ ((rd_T32 l0_4 0).f3) _ _ l1_0 _ _ l1_1 _ _ l1_2 t261 _ ?side1 ?side2 ?side3 ?side4 ?side5 ?side6 ?side7 ?side8 A19.out).mono ?_
     (case side1 => exact mC (Kd.C_below HR260_4.out HB.out))
     (case side2 => exact HC260_4.out)
     (case side3 => exact mC (Kd.C_below HR1_0.out HB.out))
     (case side4 => exact HC1_0.out)
     (case side5 => exact mC (Kd.C_below HR1_1.out HB.out))
     (case side6 => exact HC1_1.out)
     (case side7 => exact mC (Kd.C_below HR1_2.out HB.out))
     (case side8 => exact HC1_2.out)
     rintro e w23 ⟨rfl, hb⟩
     refine ⟨_, rfl, ?_⟩
     have n_ := az (bB BK257.out hb) <| az (bB BK258.out hb) <| z0 (below_step (mB HB.out) hb)
     clear BK257 BK258 HB
     obtain ⟨BK257, BK258, HB⟩ := n_
     (try clear hb)
     (try clear hb2)
     (try clear hk)
     (try clear hi)
     refine hK.out _ _ q61_2 (fun hHeld => ?_)
     clear hK K
     refine norm_ (a' := ?_) ?_ ?_
     rotate_left
     ·show Act.put _ (some 24) _ = _
      simp only [Act.put, List.setIfInBounds_toArray, List.set_cons_zero, List.set_cons_succ, i64_w, i32_w]
      rfl
     refine one_ (i := 6) (N := some 25) #[true, true, true, true, true, true, true, false, false, false] rfl rfl (one_of HT_.out (by kernel_rfl)) (by decide) (fun K hK => ?_)
     refine goes_ Try.func90 (by kernel_rfl) rfl #[.int .i64 t261] (by rfl) rfl rfl argx ?_
     with_reducible refine (spec_NumOn.calls t261 t262 _ A20.out).mono ?_
     rintro e w' ⟨rfl, ⟨nd, rfl⟩⟩
     refine ⟨_, rfl, ?_⟩
     refine hK.out _ _ q61_2 (fun hHeld => ?_)
     clear hK K
     refine norm_ (a' := ?_) ?_ ?_
     rotate_left
     ·show Act.put _ (some 25) _ = _
      simp only [Act.put, List.setIfInBounds_toArray, List.set_cons_zero, List.set_cons_succ, i64_w, i32_w]
      rfl
     refine pure_ (i := 7) (N := some 26) (v := ?_) (a' := ?_) #[true, true, true, true, true, true, true, true, false, false] rfl rfl (any_of HT_.out (by kernel_rfl)) (fun _ _ _ h => h) (Or.inl ⟨by rfl, ?_⟩) ?_ ?_
     rotate_left
     ·intro w'
      go_simp
      with_reducible rfl
     rotate_left
     ·simp only [Act.put, List.setIfInBounds_toArray, List.set_cons_zero, List.set_cons_succ, i64_w, i32_w]
      rfl
     refine one_ (i := 8) (N := some 27) #[true, true, true, true, true, true, true, true, true, false] rfl rfl (one_of HT_.out (by kernel_rfl)) (by decide) (fun K hK => ?_)
     refine goes_ Try.func89 (by kernel_rfl) rfl #[.bool (!t262)] (by rfl) rfl rfl argx ?_
     with_reducible refine (spec_NumIs.calls (!t262) t263 _ A21.out).mono ?_
     rintro e w' ⟨rfl, ⟨nd, rfl⟩⟩
     refine ⟨_, rfl, ?_⟩
     refine hK.out _ _ q61_2 (fun hHeld => ?_)
     clear hK K
     refine norm_ (a' := ?_) ?_ ?_
     rotate_left
     ·show Act.put _ (some 27) _ = _
      simp only [Act.put, List.setIfInBounds_toArray, List.set_cons_zero, List.set_cons_succ, i64_w, i32_w]
      rfl
     refine pure_ (i := 9) (N := some 4) (v := ?_) (a' := ?_) #[true, true, true, true, true, true, true, true, true, true] rfl rfl (any_of HT_.out (by kernel_rfl)) (fun _ _ _ h => h) (Or.inl ⟨by rfl, ?_⟩) ?_ ?_
     rotate_left
     ·intro w'
      go_simp
      with_reducible rfl
     rotate_left
     ·simp only [Act.put, List.setIfInBounds_toArray, List.set_cons_zero, List.set_cons_succ, i64_w, i32_w]
      rfl
     refine done_ (done_of HT_.out (by kernel_rfl)) ?_
     try go_wp2
     go_ret
     exact ⟨rfx, mB HB.out⟩
    ·rw [if_neg c18] at H
     exact absurd H (by simp)
   ·rw [if_neg c17] at H
    have c17b0 : (a0_0 == 10) = false := beq_eq_false_iff_ne.mpr c17
    have c17b1 : (a0_0 != 10) = true := bne_iff_ne.mpr c17
    by_cases c24 : 0 < (l0_4.length : Int)
    ·rw [if_pos c24] at H
     have c24b0 : decide (0 < (l0_4.length : Int)) = true := decide_eq_true c24
     have c24b1 : decide (0 < l0_4.length) = true := decide_eq_true (by omega)
     clear c24
     replace H := Option.bind_eq_some_iff.mp H
     obtain ⟨t265, A250, H⟩ := H
     try dsimp only at H
     have A25 := z0 A250
     clear A250
     by_cases c26 : 1 < (l0_4.length : Int)
     ·rw [if_pos c26] at H
      have c26b0 : decide (1 < (l0_4.length : Int)) = true := decide_eq_true c26
      have c26b1 : decide (1 < l0_4.length) = true := decide_eq_true (by omega)
      clear c26
      replace H := Option.bind_eq_some_iff.mp H
      obtain ⟨t267, A270, H⟩ := H
      try dsimp only at H
      have A27 := z0 A270
      clear A270
      replace H := Option.bind_eq_some_iff.mp H
      obtain ⟨t268, A280, H⟩ := H
      try dsimp only at H
      have A28 := z0 A280
      clear A280
      obtain rfl := Option.some.inj H
      try go_wp2
      have n_ := az (blk_drew BK257.out) <| az (blk_drew BK258.out) <| z0 (below_drew1 HB.out)
      clear BK257 BK258 HB
      obtain ⟨BK257, BK258, HB⟩ := n_
      have p264 : 0 ≤ (0 : Int) := (by omega)
      have q264 : 0 < (l0_4.length : Int) := of_decide_eq_true (by first | (with_reducible assumption) | assumption)
      obtain ⟨ad264, A264_4, c264_4, e264, hx264_0, hx264_1, hx264_2, hx264_3, hx264_4, hl264_4, hi264_4⟩ := at_T32 HR0_4.out 0 p264 q264
      have hw264_4 := hx264_4
      (try rw [show ((0 : Int)).toNat = 0 from rfl] at hw264_4)
      (try rw [show 0 * 5 = 0 from rfl] at hw264_4)
      (try rw [Addr.add_zero'] at hw264_4)
      have hw264_3 := hx264_3
      (try rw [show ((0 : Int)).toNat = 0 from rfl] at hw264_3)
      (try rw [show 0 * 5 = 0 from rfl] at hw264_3)
      (try rw [Addr.add_zero'] at hw264_3)
      have hw264_2 := hx264_2
      (try rw [show ((0 : Int)).toNat = 0 from rfl] at hw264_2)
      (try rw [show 0 * 5 = 0 from rfl] at hw264_2)
      (try rw [Addr.add_zero'] at hw264_2)
      have hw264_1 := hx264_1
      (try rw [show ((0 : Int)).toNat = 0 from rfl] at hw264_1)
      (try rw [show 0 * 5 = 0 from rfl] at hw264_1)
      (try rw [Addr.add_zero'] at hw264_1)
      have hw264_0 := hx264_0
      (try rw [show ((0 : Int)).toNat = 0 from rfl] at hw264_0)
      (try rw [show 0 * 5 = 0 from rfl] at hw264_0)
      (try rw [Addr.add_zero'] at hw264_0)
      cases e264
      have qi264 : (0 < l0_4.length) = True := eq_true (by omega)
      (try rw [show ((0 : Int)).toNat = 0 from rfl] at hx264_0)
      (try rw [show 0 * 5 = 0 from rfl] at hx264_0)
      (try rw [Addr.add_zero'] at hx264_0)
      (try rw [show ((0 : Int)).toNat = 0 from rfl] at hx264_1)
      (try rw [show 0 * 5 = 0 from rfl] at hx264_1)
      (try rw [Addr.add_zero'] at hx264_1)
      (try rw [show ((0 : Int)).toNat = 0 from rfl] at hx264_2)
      (try rw [show 0 * 5 = 0 from rfl] at hx264_2)
      (try rw [Addr.add_zero'] at hx264_2)
      (try rw [show ((0 : Int)).toNat = 0 from rfl] at hx264_3)
      (try rw [show 0 * 5 = 0 from rfl] at hx264_3)
      (try rw [Addr.add_zero'] at hx264_3)
      (try rw [show ((0 : Int)).toNat = 0 from rfl] at hx264_4)
      (try rw [show 0 * 5 = 0 from rfl] at hx264_4)
      (try rw [Addr.add_zero'] at hx264_4)
      replace hx264_0 := (HB.out.cell (World.block_lt_of_cell? w _ hx264_0)).trans hx264_0
      replace hx264_1 := (HB.out.cell (World.block_lt_of_cell? w _ hx264_1)).trans hx264_1
      replace hx264_2 := (HB.out.cell (World.block_lt_of_cell? w _ hx264_2)).trans hx264_2
      replace hx264_3 := (HB.out.cell (World.block_lt_of_cell? w _ hx264_3)).trans hx264_3
      replace hx264_4 := (HB.out.cell (World.block_lt_of_cell? w _ hx264_4)).trans hx264_4
      have HR264_4 := z0 hi264_4
      have HC264_4 := z0 hl264_4
      clear hi264_4 hl264_4
      replace p264 := eq_true p264
      replace q264 := eq_true q264
      have p266 : 0 ≤ (1 : Int) := (by omega)
      have q266 : 1 < (l0_4.length : Int) := of_decide_eq_true (by first | (with_reducible assumption) | assumption)
      obtain ⟨ad266, A266_4, c266_4, e266, hx266_0, hx266_1, hx266_2, hx266_3, hx266_4, hl266_4, hi266_4⟩ := at_T32 HR0_4.out 1 p266 q266
      have hw266_4 := hx266_4
      (try rw [show ((1 : Int)).toNat = 1 from rfl] at hw266_4)
      (try rw [show 1 * 5 = 5 from rfl] at hw266_4)
      (try simp only [Nat.reduceMul, Nat.reduceEqDiff, Go.Addr.add, ↓reduceIte] at hw266_4)
      have hw266_3 := hx266_3
      (try rw [show ((1 : Int)).toNat = 1 from rfl] at hw266_3)
      (try rw [show 1 * 5 = 5 from rfl] at hw266_3)
      (try simp only [Nat.reduceMul, Nat.reduceEqDiff, Go.Addr.add, ↓reduceIte] at hw266_3)
      have hw266_2 := hx266_2
      (try rw [show ((1 : Int)).toNat = 1 from rfl] at hw266_2)
      (try rw [show 1 * 5 = 5 from rfl] at hw266_2)
      (try simp only [Nat.reduceMul, Nat.reduceEqDiff, Go.Addr.add, ↓reduceIte] at hw266_2)
      have hw266_1 := hx266_1
      (try rw [show ((1 : Int)).toNat = 1 from rfl] at hw266_1)
      (try rw [show 1 * 5 = 5 from rfl] at hw266_1)
      (try simp only [Nat.reduceMul, Nat.reduceEqDiff, Go.Addr.add, ↓reduceIte] at hw266_1)
      have hw266_0 := hx266_0
      (try rw [show ((1 : Int)).toNat = 1 from rfl] at hw266_0)
      (try rw [show 1 * 5 = 5 from rfl] at hw266_0)
      (try simp only [Nat.reduceMul, Nat.reduceEqDiff, Go.Addr.add, ↓reduceIte] at hw266_0)
      obtain rfl : ad264 = ad266 := (by injection e266)
      (try simp only [show (1 : Int).toNat = 1 from rfl, Nat.reduceMul, Nat.reduceEqDiff, Go.Addr.add, ↓reduceIte] at hx266_0)
      (try simp only [show (1 : Int).toNat = 1 from rfl, Nat.reduceMul, Nat.reduceEqDiff, Go.Addr.add, ↓reduceIte] at hx266_1)
      (try simp only [show (1 : Int).toNat = 1 from rfl, Nat.reduceMul, Nat.reduceEqDiff, Go.Addr.add, ↓reduceIte] at hx266_2)
      (try simp only [show (1 : Int).toNat = 1 from rfl, Nat.reduceMul, Nat.reduceEqDiff, Go.Addr.add, ↓reduceIte] at hx266_3)
      (try simp only [show (1 : Int).toNat = 1 from rfl, Nat.reduceMul, Nat.reduceEqDiff, Go.Addr.add, ↓reduceIte] at hx266_4)
      have qi266 : (1 < l0_4.length) = True := eq_true (by omega)
      (try rw [show ((1 : Int)).toNat = 1 from rfl] at hx266_0)
      (try rw [show 1 * 5 = 5 from rfl] at hx266_0)
      (try rw [show ((1 : Int)).toNat = 1 from rfl] at hx266_1)
      (try rw [show 1 * 5 = 5 from rfl] at hx266_1)
      (try rw [show ((1 : Int)).toNat = 1 from rfl] at hx266_2)
      (try rw [show 1 * 5 = 5 from rfl] at hx266_2)
      (try rw [show ((1 : Int)).toNat = 1 from rfl] at hx266_3)
      (try rw [show 1 * 5 = 5 from rfl] at hx266_3)
      (try rw [show ((1 : Int)).toNat = 1 from rfl] at hx266_4)
      (try rw [show 1 * 5 = 5 from rfl] at hx266_4)
      replace hx266_0 := (HB.out.cell (World.block_lt_of_cell? w _ hx266_0)).trans hx266_0
      replace hx266_1 := (HB.out.cell (World.block_lt_of_cell? w _ hx266_1)).trans hx266_1
      replace hx266_2 := (HB.out.cell (World.block_lt_of_cell? w _ hx266_2)).trans hx266_2
      replace hx266_3 := (HB.out.cell (World.block_lt_of_cell? w _ hx266_3)).trans hx266_3
      replace hx266_4 := (HB.out.cell (World.block_lt_of_cell? w _ hx266_4)).trans hx266_4
      have HR266_4 := z0 hi266_4
      have HC266_4 := z0 hl266_4
      clear hi266_4 hl266_4
      replace p266 := eq_true p266
      replace q266 := eq_true q266
      refine start_ (n := 16) (S := fun w' => w'.cell? ⟨gb257, 0, none⟩ = some (.int .i64 a0_0) ∧ w'.cell? ⟨gb257, 1, none⟩ = some (.int .i64 a0_1) ∧ w'.cell? ⟨gb257, 2, none⟩ = some (.int .i64 a0_2) ∧ w'.cell? ⟨gb257, 3, none⟩ = some (.int .i64 a0_3) ∧ w'.cell? ⟨gb257, 4, none⟩ = some (.slice (some ad264) l0_4.length c0_4) ∧ w'.cell? ⟨gb258, 0, none⟩ = some (.slice A1_0 l1_0.length c1_0) ∧ w'.cell? ⟨gb258, 1, none⟩ = some (.slice A1_1 l1_1.length c1_1) ∧ w'.cell? ⟨gb258, 2, none⟩ = some (.slice A1_2 l1_2.length c1_2) ∧ w'.cell? ad264 = some (.int .i64 ((rd_T32 l0_4 0).f0)) ∧ w'.cell? ⟨ad264.block, ad264.off + 1, none⟩ = some (.int .i64 ((rd_T32 l0_4 0).f1)) ∧ w'.cell? ⟨ad264.block, ad264.off + 2, none⟩ = some (.int .i64 ((rd_T32 l0_4 0).f2.f0)) ∧ w'.cell? ⟨ad264.block, ad264.off + 3, none⟩ = some (.int .i64 ((rd_T32 l0_4 0).f2.f1)) ∧ w'.cell? ⟨ad264.block, ad264.off + 4, none⟩ = some (.slice A264_4 ((rd_T32 l0_4 0).f3).length c264_4) ∧ w'.cell? ⟨ad264.block, ad264.off + 5, none⟩ = some (.int .i64 ((rd_T32 l0_4 1).f0)) ∧ w'.cell? ⟨ad264.block, ad264.off + 5 + 1, none⟩ = some (.int .i64 ((rd_T32 l0_4 1).f1)) ∧ w'.cell? ⟨ad264.block, ad264.off + 5 + 2, none⟩ = some (.int .i64 ((rd_T32 l0_4 1).f2.f0)) ∧ w'.cell? ⟨ad264.block, ad264.off + 5 + 3, none⟩ = some (.int .i64 ((rd_T32 l0_4 1).f2.f1)) ∧ w'.cell? ⟨ad264.block, ad264.off + 5 + 4, none⟩ = some (.slice A266_4 ((rd_T32 l0_4 1).f3).length c266_4)) (ds := []) #[false, false, false, false, false, false, false, false, false, false, false, false, false, false, false, false] (by kernel_rfl) rfl rfl q61_1 (fun hHeld => ?_); refine with_tabW spec_l3Of.tab8 spec_l3Of.bits8 (fun HT_ HW_ => ?_)
      generalize w5.drew = w29 at BK257 BK258 HB HR264_4 HR266_4 hx264_0 hx264_1 hx264_2 hx264_3 hx264_4 hx266_0 hx266_1 hx266_2 hx266_3 hx266_4 hHeld ⊢
      refine pure_ (i := 0) (N := some 28) (v := ?_) (a' := ?_) #[true, false, false, false, false, false, false, false, false, false, false, false, false, false, false, false] rfl rfl (any_of HT_.out (by kernel_rfl)) (fun _ _ _ h => h) (Or.inl ⟨by rfl, ?_⟩) ?_ ?_
      rotate_left
      ·intro w'
       go_simp
       with_reducible rfl
      rotate_left
      ·simp only [Act.put, List.setIfInBounds_toArray, List.set_cons_zero, List.set_cons_succ, i64_w, i32_w]
       rfl
      refine pure_ (i := 2) (N := some 30) (v := ?_) (a' := ?_) #[true, false, true, false, false, false, false, false, false, false, false, false, false, false, false, false] rfl rfl (any_of HT_.out (by kernel_rfl)) (fun _ _ _ h => h) (Or.inl ⟨by rfl, ?_⟩) ?_ ?_
      rotate_left
      ·intro w'
       go_simp
       with_reducible rfl
      rotate_left
      ·simp only [Act.put, List.setIfInBounds_toArray, List.set_cons_zero, List.set_cons_succ, i64_w, i32_w]
       rfl
      refine pure_ (i := 8) (N := some 36) (v := ?_) (a' := ?_) #[true, false, true, false, false, false, false, false, true, false, false, false, false, false, false, false] rfl rfl (any_of HT_.out (by kernel_rfl)) (fun _ _ _ h => h) (Or.inl ⟨by rfl, ?_⟩) ?_ ?_
      rotate_left
      ·intro w'
       go_simp
       with_reducible rfl
      rotate_left
      ·simp only [Act.put, List.setIfInBounds_toArray, List.set_cons_zero, List.set_cons_succ, i64_w, i32_w]
       rfl
      refine take_ (i := 1) (N := some 29) (v := ?_) (a' := ?_) #[true, true, true, false, false, false, false, false, true, false, false, false, false, false, false, false] rfl rfl (take_ofW HT_.out HW_.out (by kernel_rfl)) (fun _ _ _ h => h) (Or.inl ⟨by rfl, ?_⟩) hHeld ?_ ?_
      rotate_left
      ·rintro w' ⟨s0, s1, s2, s3, s4, s5, s6, s7, s8, s9, s10, s11, s12, s13, s14, s15, s16, s17⟩
       go_simp
       with_reducible rfl
      rotate_left
      ·simp only [Act.put, List.setIfInBounds_toArray, List.set_cons_zero, List.set_cons_succ, i64_w, i32_w]
       rfl
      refine take_ (i := 3) (N := some 31) (v := ?_) (a' := ?_) #[true, true, true, true, false, false, false, false, true, false, false, false, false, false, false, false] rfl rfl (take_ofW HT_.out HW_.out (by kernel_rfl)) (fun _ _ _ h => h) (Or.inl ⟨by rfl, ?_⟩) hHeld ?_ ?_
      rotate_left
      ·rintro w' ⟨s0, s1, s2, s3, s4, s5, s6, s7, s8, s9, s10, s11, s12, s13, s14, s15, s16, s17⟩
       go_simp
       with_reducible rfl
      rotate_left
      ·simp only [Act.put, List.setIfInBounds_toArray, List.set_cons_zero, List.set_cons_succ, i64_w, i32_w]
       rfl
      refine pure_ (i := 4) (N := some 32) (v := ?_) (a' := ?_) #[true, true, true, true, true, false, false, false, true, false, false, false, false, false, false, false] rfl rfl (any_of HT_.out (by kernel_rfl)) (fun _ _ _ h => h) (Or.inl ⟨by rfl, ?_⟩) ?_ ?_
      rotate_left
      ·intro w'
       go_simp
       with_reducible rfl
      rotate_left
      ·simp only [Act.put, List.setIfInBounds_toArray, List.set_cons_zero, List.set_cons_succ, i64_w, i32_w]
       rfl
      refine take_ (i := 5) (N := some 33) (v := ?_) (a' := ?_) #[true, true, true, true, true, true, false, false, true, false, false, false, false, false, false, false] rfl rfl (take_ofW HT_.out HW_.out (by kernel_rfl)) (fun _ _ _ h => h) (Or.inl ⟨by rfl, ?_⟩) hHeld ?_ ?_
      rotate_left
      ·rintro w' ⟨s0, s1, s2, s3, s4, s5, s6, s7, s8, s9, s10, s11, s12, s13, s14, s15, s16, s17⟩
       go_simp
       with_reducible rfl
      rotate_left
      ·simp only [Act.put, List.setIfInBounds_toArray, List.set_cons_zero, List.set_cons_succ, i64_w, i32_w]
       rfl
      refine take_ (i := 6) (N := some 34) (v := ?_) (a' := ?_) #[true, true, true, true, true, true, true, false, true, false, false, false, false, false, false, false] rfl rfl (take_ofW HT_.out HW_.out (by kernel_rfl)) (fun _ _ _ h => h) (Or.inl ⟨by rfl, ?_⟩) hHeld ?_ ?_
      rotate_left
      ·rintro w' ⟨s0, s1, s2, s3, s4, s5, s6, s7, s8, s9, s10, s11, s12, s13, s14, s15, s16, s17⟩
       go_simp
       with_reducible rfl
      rotate_left
      ·simp only [Act.put, List.setIfInBounds_toArray, List.set_cons_zero, List.set_cons_succ, i64_w, i32_w]
       rfl
      refine take_ (i := 9) (N := some 37) (v := ?_) (a' := ?_) #[true, true, true, true, true, true, true, false, true, true, false, false, false, false, false, false] rfl rfl (take_ofW HT_.out HW_.out (by kernel_rfl)) (fun _ _ _ h => h) (Or.inl ⟨by rfl, ?_⟩) hHeld ?_ ?_
      rotate_left
      ·rintro w' ⟨s0, s1, s2, s3, s4, s5, s6, s7, s8, s9, s10, s11, s12, s13, s14, s15, s16, s17⟩
       go_simp
       with_reducible rfl
      rotate_left
      ·simp only [Act.put, List.setIfInBounds_toArray, List.set_cons_zero, List.set_cons_succ, i64_w, i32_w]
       rfl
      refine pure_ (i := 10) (N := some 38) (v := ?_) (a' := ?_) #[true, true, true, true, true, true, true, false, true, true, true, false, false, false, false, false] rfl rfl (any_of HT_.out (by kernel_rfl)) (fun _ _ _ h => h) (Or.inl ⟨by rfl, ?_⟩) ?_ ?_
      rotate_left
      ·intro w'
       go_simp
       with_reducible rfl
      rotate_left
      ·simp only [Act.put, List.setIfInBounds_toArray, List.set_cons_zero, List.set_cons_succ, i64_w, i32_w]
       rfl
      refine take_ (i := 11) (N := some 39) (v := ?_) (a' := ?_) #[true, true, true, true, true, true, true, false, true, true, true, true, false, false, false, false] rfl rfl (take_ofW HT_.out HW_.out (by kernel_rfl)) (fun _ _ _ h => h) (Or.inl ⟨by rfl, ?_⟩) hHeld ?_ ?_
      rotate_left
      ·rintro w' ⟨s0, s1, s2, s3, s4, s5, s6, s7, s8, s9, s10, s11, s12, s13, s14, s15, s16, s17⟩
       go_simp
       with_reducible rfl
      rotate_left
      ·simp only [Act.put, List.setIfInBounds_toArray, List.set_cons_zero, List.set_cons_succ, i64_w, i32_w]
       rfl
      refine take_ (i := 12) (N := some 40) (v := ?_) (a' := ?_) #[true, true, true, true, true, true, true, false, true, true, true, true, true, false, false, false] rfl rfl (take_ofW HT_.out HW_.out (by kernel_rfl)) (fun _ _ _ h => h) (Or.inl ⟨by rfl, ?_⟩) hHeld ?_ ?_
      rotate_left
      ·rintro w' ⟨s0, s1, s2, s3, s4, s5, s6, s7, s8, s9, s10, s11, s12, s13, s14, s15, s16, s17⟩
       go_simp
       with_reducible rfl
      rotate_left
      ·simp only [Act.put, List.setIfInBounds_toArray, List.set_cons_zero, List.set_cons_succ, i64_w, i32_w]
       rfl
      refine one_ (i := 7) (N := some 35) #[true, true, true, true, true, true, true, true, true, true, true, true, true, false, false, false] rfl rfl (one_of HT_.out (by kernel_rfl)) (by decide) (fun K hK => ?_)
      refine goes_ Try.func61 (by kernel_rfl) rfl #[.agg #[.int .i64 ((rd_T32 l0_4 0).f0), .int .i64 ((rd_T32 l0_4 0).f1), .int .i64 ((rd_T32 l0_4 0).f2.f0), .int .i64 ((rd_T32 l0_4 0).f2.f1), .slice A264_4 ((rd_T32 l0_4 0).f3).length c264_4], .agg #[.slice A1_0 l1_0.length c1_0, .slice A1_1 l1_1.length c1_1, .slice A1_2 l1_2.length c1_2]] (by rfl) rfl rfl argx ?_
      with_reducible refine (ih k (by omega) ((rd_T32 l0_4 0).f0) ((rd_T32 l0_4 0).f1) ((rd_T32 l0_4 0).f2.f0) ((rd_T32 l0_4 0).f2.f1) _ _ ((rd_T32 l0_4 0).f3) _ _ l1_0 _ _ l1_1 _ _ l1_2 t265 _ ?side1 ?side2 ?side3 ?side4 ?side5 ?side6 ?side7 ?side8 A25.out).mono ?_
      (case side1 => exact mC (Kd.C_below HR264_4.out HB.out))
      (case side2 => exact HC264_4.out)
      (case side3 => exact mC (Kd.C_below HR1_0.out HB.out))
      (case side4 => exact HC1_0.out)
      (case side5 => exact mC (Kd.C_below HR1_1.out HB.out))
      (case side6 => exact HC1_1.out)
      (case side7 => exact mC (Kd.C_below HR1_2.out HB.out))
      (case side8 => exact HC1_2.out)
      rintro e w30 ⟨rfl, hb⟩
      refine ⟨_, rfl, ?_⟩
      have n_ := az (bB BK257.out hb) <| az (bB BK258.out hb) <| z0 (below_step (mB HB.out) hb)
      clear BK257 BK258 HB
      obtain ⟨BK257, BK258, HB⟩ := n_
      (try clear hb)
      (try clear hb2)
      (try clear hk)
      (try clear hi)
      refine hK.out _ _ q61_1 (fun hHeld => ?_)
      clear hK K
      refine norm_ (a' := ?_) ?_ ?_
      rotate_left
      ·show Act.put _ (some 35) _ = _
       simp only [Act.put, List.setIfInBounds_toArray, List.set_cons_zero, List.set_cons_succ, i64_w, i32_w]
       rfl
      refine one_ (i := 13) (N := some 41) #[true, true, true, true, true, true, true, true, true, true, true, true, true, true, false, false] rfl rfl (one_of HT_.out (by kernel_rfl)) (by decide) (fun K hK => ?_)
      refine goes_ Try.func61 (by kernel_rfl) rfl #[.agg #[.int .i64 ((rd_T32 l0_4 1).f0), .int .i64 ((rd_T32 l0_4 1).f1), .int .i64 ((rd_T32 l0_4 1).f2.f0), .int .i64 ((rd_T32 l0_4 1).f2.f1), .slice A266_4 ((rd_T32 l0_4 1).f3).length c266_4], .agg #[.slice A1_0 l1_0.length c1_0, .slice A1_1 l1_1.length c1_1, .slice A1_2 l1_2.length c1_2]] (by rfl) rfl rfl argx ?_
      with_reducible refine (ih k (by omega) ((rd_T32 l0_4 1).f0) ((rd_T32 l0_4 1).f1) ((rd_T32 l0_4 1).f2.f0) ((rd_T32 l0_4 1).f2.f1) _ _ ((rd_T32 l0_4 1).f3) _ _ l1_0 _ _ l1_1 _ _ l1_2 t267 _ ?side1 ?side2 ?side3 ?side4 ?side5 ?side6 ?side7 ?side8 A27.out).mono ?_
      (case side1 => exact mC (Kd.C_below HR266_4.out HB.out))
      (case side2 => exact HC266_4.out)
      (case side3 => exact mC (Kd.C_below HR1_0.out HB.out))
      (case side4 => exact HC1_0.out)
      (case side5 => exact mC (Kd.C_below HR1_1.out HB.out))
      (case side6 => exact HC1_1.out)
      (case side7 => exact mC (Kd.C_below HR1_2.out HB.out))
      (case side8 => exact HC1_2.out)
      rintro e w31 ⟨rfl, hb⟩
      refine ⟨_, rfl, ?_⟩
      have n_ := az (bB BK257.out hb) <| az (bB BK258.out hb) <| z0 (below_step (mB HB.out) hb)
      clear BK257 BK258 HB
      obtain ⟨BK257, BK258, HB⟩ := n_
      (try clear hb)
      (try clear hb2)
      (try clear hk)
      (try clear hi)
      refine hK.out _ _ q61_1 (fun hHeld => ?_)
      clear hK K
      refine norm_ (a' := ?_) ?_ ?_
      rotate_left
      ·show Act.put _ (some 41) _ = _
       simp only [Act.put, List.setIfInBounds_toArray, List.set_cons_zero, List.set_cons_succ, i64_w, i32_w]
       rfl
      refine one_ (i := 14) (N := some 42) #[true, true, true, true, true, true, true, true, true, true, true, true, true, true, true, false] rfl rfl (one_of HT_.out (by kernel_rfl)) (by decide) (fun K hK => ?_)
      refine goes_ Try.func91 (by kernel_rfl) rfl #[.int .i64 a0_0, .int .i64 t265, .int .i64 t267] (by rfl) rfl rfl argx ?_
      with_reducible refine (spec_l3Two.calls a0_0 t265 t267 t268 _ A28.out).mono ?_
      rintro e w' ⟨rfl, ⟨nd, rfl⟩⟩
      refine ⟨_, rfl, ?_⟩
      refine hK.out _ _ q61_1 (fun hHeld => ?_)
      clear hK K
      refine norm_ (a' := ?_) ?_ ?_
      rotate_left
      ·show Act.put _ (some 42) _ = _
       simp only [Act.put, List.setIfInBounds_toArray, List.set_cons_zero, List.set_cons_succ, i64_w, i32_w]
       rfl
      refine pure_ (i := 15) (N := some 4) (v := ?_) (a' := ?_) #[true, true, true, true, true, true, true, true, true, true, true, true, true, true, true, true] rfl rfl (any_of HT_.out (by kernel_rfl)) (fun _ _ _ h => h) (Or.inl ⟨by rfl, ?_⟩) ?_ ?_
      rotate_left
      ·intro w'
       go_simp
       with_reducible rfl
      rotate_left
      ·simp only [Act.put, List.setIfInBounds_toArray, List.set_cons_zero, List.set_cons_succ, i64_w, i32_w]
       rfl
      refine done_ (done_of HT_.out (by kernel_rfl)) ?_
      try go_wp2
      go_ret
      exact ⟨rfx, mB HB.out⟩
     ·rw [if_neg c26] at H
      exact absurd H (by simp)
    ·rw [if_neg c24] at H
     exact absurd H (by simp)

/-! ### spec_ExprOf: function 24 -/
def spec_ExprOf.f (k : Nat) (a0_0 : Int) (a0_1 : Int) (a0_2 : Int) (a0_3 : Int) (l0_4 : List (S32)) (l1_0 : List Int) (l1_1 : List Int) (l1_2 : List Int) : Option (Int) := (spec_ExprOk.f k a0_0 a0_1 a0_2 a0_3 l0_4).bind fun t271 => (if t271 = true then ((spec_MemOk.f k l1_0 l1_1 l1_2).bind fun t272 => (if t272 = true then ((spec_l3Of.f k a0_0 a0_1 a0_2 a0_3 l0_4 l1_0 l1_1 l1_2).bind fun t273 => (some t273)) else (some 0))) else (some 0))
theorem spec_ExprOf.mono : ∀ a0 a1 a2 a3 a4 a5 a6 a7 k, LeO (spec_ExprOf.f k a0 a1 a2 a3 a4 a5 a6 a7) (spec_ExprOf.f (k + 1) a0 a1 a2 a3 a4 a5 a6 a7) := by
 intro a0 a1 a2 a3 a4 a5 a6 a7 k
 unfold spec_ExprOf.f
 repeat' first
   | (with_reducible exact spec_ExprOk.mono _ _ _ _ _ _)
   | (with_reducible exact spec_MemOk.mono _ _ _ _)
   | (with_reducible exact spec_l3Of.mono _ _ _ _ _ _ _ _ _)
   | (with_reducible exact LeO.refl _)
   | (with_reducible exact LeO.none _)
   | (with_reducible refine LeO.ite ?_ ?_)
   | (with_reducible refine LeO.bind ?_ (fun _ => ?_))
   | exact spec_ExprOk.mono _ _ _ _ _ _
   | exact spec_MemOk.mono _ _ _ _
   | exact spec_l3Of.mono _ _ _ _ _ _ _ _ _
   | exact LeO.none _
   | refine LeO.ite ?_ ?_
   | refine LeO.bind ?_ (fun _ => ?_)
set_option maxHeartbeats 8000000 in
set_option maxRecDepth 100000 in
theorem spec_ExprOf.calls (k : Nat) (a0_0 : Int) (a0_1 : Int) (a0_2 : Int) (a0_3 : Int) (A0_4 : Option Addr) (c0_4 : Nat) (l0_4 : List (S32)) (A1_0 : Option Addr) (c1_0 : Nat) (l1_0 : List Int) (A1_1 : Option Addr) (c1_1 : Nat) (l1_1 : List Int) (A1_2 : Option Addr) (c1_2 : Nat) (l1_2 : List Int) (r : Int) (w : World) (hr0_4 : Kd.C k32 w A0_4 l0_4.length l0_4) (hc0_4 : l0_4.length ≤ c0_4) (hr1_0 : Kd.C (Kd.int .i64) w A1_0 l1_0.length l1_0) (hc1_0 : l1_0.length ≤ c1_0) (hr1_1 : Kd.C (Kd.int .i64) w A1_1 l1_1.length l1_1) (hc1_1 : l1_1.length ≤ c1_1) (hr1_2 : Kd.C (Kd.int .i64) w A1_2 l1_2.length l1_2) (hc1_2 : l1_2.length ≤ c1_2) (h : spec_ExprOf.f k a0_0 a0_1 a0_2 a0_3 l0_4 l1_0 l1_1 l1_2 = some r) :
  Calls Try.prog 24 #[.agg #[.int .i64 a0_0, .int .i64 a0_1, .int .i64 a0_2, .int .i64 a0_3, .slice A0_4 l0_4.length c0_4], .agg #[.slice A1_0 l1_0.length c1_0, .slice A1_1 l1_1.length c1_1, .slice A1_2 l1_2.length c1_2]] w fun e w' => e = .returned (.int .i64 r) ∧ Below w.heap.size w w' := by
 have hu32 := Try.underlying32
 have hu44 := Try.underlying44
 have HR0_4 := z0 hr0_4
 have HC0_4 := z0 hc0_4
 clear hr0_4 hc0_4
 have HR1_0 := z0 hr1_0
 have HC1_0 := z0 hc1_0
 clear hr1_0 hc1_0
 have HR1_1 := z0 hr1_1
 have HC1_1 := z0 hc1_1
 clear hr1_1 hc1_1
 have HR1_2 := z0 hr1_2
 have HC1_2 := z0 hc1_2
 clear hr1_2 hc1_2
 have HB := z0 (Below.refl w.heap.size w)
 have H : ((spec_ExprOk.f k a0_0 a0_1 a0_2 a0_3 l0_4).bind fun t271 => (if t271 = true then ((spec_MemOk.f k l1_0 l1_1 l1_2).bind fun t272 => (if t272 = true then ((spec_l3Of.f k a0_0 a0_1 a0_2 a0_3 l0_4 l1_0 l1_1 l1_2).bind fun t273 => (some t273)) else (some 0))) else (some 0))) = some r := h
 clear h
 have HF3 := z0 H
 clear H
 go_enter Try.func24, Try.ntmps24
 go_upto_region 1 with (first | ((with_reducible refine gate_dst (N := 2) rfl ?_); refine box_event ?hg (N := 2) ?hd (cs := #[.int .i64 a0_0, .int .i64 a0_1, .int .i64 a0_2, .int .i64 a0_3, .slice A0_4 l0_4.length c0_4]) (t := 32) ?hr ?_; (case hd => rfl); (case hg => rfl); (case hr => first | (go_simp; done) | (go_simp; rfl)); intro gb269 hg w4 hbox hb; have n_ := az (below_step (mB HB.out) hb) <| az (hbox) <| az ((by rw [hg]; exact (below_size (mB HB.out)) : w.heap.size ≤ gb269)) <| z0 ((by rw [hg]; exact (below_size (mB HB.out)) : w.heap.size ≤ gb269)); clear HB; obtain ⟨HB, BK269, GW269, GE269⟩ := n_; clear hb hbox hg) | ((with_reducible refine gate_dst (N := 3) rfl ?_); refine box_event ?hg (N := 3) ?hd (cs := #[.slice A1_0 l1_0.length c1_0, .slice A1_1 l1_1.length c1_1, .slice A1_2 l1_2.length c1_2]) (t := 44) ?hr ?_; (case hd => rfl); (case hg => rfl); (case hr => first | (go_simp; done) | (go_simp; rfl)); intro gb270 hg w5 hbox hb; have n_ := az (bB BK269.out hb) <| az (below_step (mB HB.out) hb) <| az (hbox) <| az ((by rw [hg]; exact (below_size (mB HB.out)) : w.heap.size ≤ gb270)) <| az ((by rw [hg]; exact (below_size (mB HB.out)) : w.heap.size ≤ gb270)) <| az ((nL hg BK269.out)) <| z0 ((nG hg BK269.out)); clear BK269 HB; obtain ⟨BK269, HB, BK270, GW270, GE270, NB269_270, NB270_269⟩ := n_; clear hb hbox hg))
 (try simp only [Act.put, List.setIfInBounds_toArray, List.set_cons_zero, List.set_cons_succ])
 have H := HF3.out
 clear HF3
 skip
 replace H := Option.bind_eq_some_iff.mp H
 obtain ⟨t271, A60, H⟩ := H
 try dsimp only at H
 have A6 := z0 A60
 clear A60
 by_cases c7 : t271 = true
 ·subst c7
  have H1 : ((spec_MemOk.f k l1_0 l1_1 l1_2).bind fun t272 => (if t272 = true then ((spec_l3Of.f k a0_0 a0_1 a0_2 a0_3 l0_4 l1_0 l1_1 l1_2).bind fun t273 => (some t273)) else (some 0))) = some r := by rw [if_pos rfl] at H; exact H
  clear H
  have H := H1
  clear H1
  replace H := Option.bind_eq_some_iff.mp H
  obtain ⟨t272, A80, H⟩ := H
  try dsimp only at H
  have A8 := z0 A80
  clear A80
  have HF9 := z0 H
  clear H
  have hnb10 := NB269_270.out
  have hnc10 := NB270_269.out
  obtain ⟨hcz11_0, hcz11_1, hcz11_2, hcz11_3, hcz11_4, hfz11_0, hfz11_1, hfz11_2, hfz11_3, hfz11_4⟩ := cel5 BK269.out
  go_upto_if 12 with (first | ((with_reducible refine gate_callee (f := 16) rfl ?_); refine goesL_ (some 6) rfl rfl Try.func16 (by kernel_rfl) rfl #[.agg #[.int .i64 a0_0, .int .i64 a0_1, .int .i64 a0_2, .int .i64 a0_3, .slice A0_4 l0_4.length c0_4]] rfl argx ?_; (with_reducible refine (spec_ExprOk.calls k a0_0 a0_1 a0_2 a0_3 _ _ l0_4 true _ ?side1 ?side2 A6.out).mono ?_); (case side1 => exact mC (Kd.C_below HR0_4.out HB.out)); (case side2 => exact HC0_4.out); rintro e w12 ⟨rfl, hb⟩; refine ⟨_, rfl, ?_⟩; have n_ := az (bB BK269.out hb) <| az (bB BK270.out hb) <| z0 (below_step (mB HB.out) hb); clear BK269 BK270 HB; obtain ⟨BK269, BK270, HB⟩ := n_; clear hb; obtain ⟨hcz13_0, hcz13_1, hcz13_2, hfz13_0, hfz13_1, hfz13_2⟩ := cel3 BK270.out) | (go_at_call 39; (with_reducible refine (spec_MemOk.calls k _ _ l1_0 _ _ l1_1 _ _ l1_2 t272 _ ?side1 ?side2 ?side3 ?side4 ?side5 ?side6 A8.out).mono ?_); (case side1 => exact mC (Kd.C_below HR1_0.out HB.out)); (case side2 => exact HC1_0.out); (case side3 => exact mC (Kd.C_below HR1_1.out HB.out)); (case side4 => exact HC1_1.out); (case side5 => exact mC (Kd.C_below HR1_2.out HB.out)); (case side6 => exact HC1_2.out); rintro e w14 ⟨rfl, hb⟩; have n_ := az (bB BK269.out hb) <| az (bB BK270.out hb) <| z0 (below_step (mB HB.out) hb); clear BK269 BK270 HB; obtain ⟨BK269, BK270, HB⟩ := n_; clear hb))
  (try simp only [Act.put, List.setIfInBounds_toArray, List.set_cons_zero, List.set_cons_succ])
  have H := HF9.out
  clear HF9
  (try clear c7); (try clear hcz11_0); (try clear hcz11_1); (try clear hcz11_2); (try clear hcz11_3); (try clear hcz11_4); (try clear hcz13_0); (try clear hcz13_1); (try clear hcz13_2); (try clear hfz11_0); (try clear hfz11_1); (try clear hfz11_2); (try clear hfz11_3); (try clear hfz11_4); (try clear hfz13_0); (try clear hfz13_1); (try clear hfz13_2)
  by_cases c15 : t272 = true
  ·subst c15
   have H1 : ((spec_l3Of.f k a0_0 a0_1 a0_2 a0_3 l0_4 l1_0 l1_1 l1_2).bind fun t273 => (some t273)) = some r := by rw [if_pos rfl] at H; exact H
   clear H
   have H := H1
   clear H1
   replace H := Option.bind_eq_some_iff.mp H
   obtain ⟨t273, A160, H⟩ := H
   try dsimp only at H
   have A16 := z0 A160
   clear A160
   obtain rfl := Option.some.inj H
   have hnb17 := NB269_270.out
   have hnc17 := NB270_269.out
   obtain ⟨hcz18_0, hcz18_1, hcz18_2, hcz18_3, hcz18_4, hfz18_0, hfz18_1, hfz18_2, hfz18_3, hfz18_4⟩ := cel5 BK269.out
   obtain ⟨hcz19_0, hcz19_1, hcz19_2, hfz19_0, hfz19_1, hfz19_2⟩ := cel3 BK270.out
   go_wp2_with (first | ((with_reducible refine gate_callee (f := 61) rfl ?_); refine goesL_ (some 15) rfl rfl Try.func61 (by kernel_rfl) rfl #[.agg #[.int .i64 a0_0, .int .i64 a0_1, .int .i64 a0_2, .int .i64 a0_3, .slice A0_4 l0_4.length c0_4], .agg #[.slice A1_0 l1_0.length c1_0, .slice A1_1 l1_1.length c1_1, .slice A1_2 l1_2.length c1_2]] rfl argx ?_; (with_reducible refine (spec_l3Of.calls k a0_0 a0_1 a0_2 a0_3 _ _ l0_4 _ _ l1_0 _ _ l1_1 _ _ l1_2 t273 _ ?side1 ?side2 ?side3 ?side4 ?side5 ?side6 ?side7 ?side8 A16.out).mono ?_); (case side1 => exact mC (Kd.C_below HR0_4.out HB.out)); (case side2 => exact HC0_4.out); (case side3 => exact mC (Kd.C_below HR1_0.out HB.out)); (case side4 => exact HC1_0.out); (case side5 => exact mC (Kd.C_below HR1_1.out HB.out)); (case side6 => exact HC1_1.out); (case side7 => exact mC (Kd.C_below HR1_2.out HB.out)); (case side8 => exact HC1_2.out); rintro e w20 ⟨rfl, hb⟩; refine ⟨_, rfl, ?_⟩; have n_ := az (bB BK269.out hb) <| az (bB BK270.out hb) <| z0 (below_step (mB HB.out) hb); clear BK269 BK270 HB; obtain ⟨BK269, BK270, HB⟩ := n_; clear hb))
   go_ret
   exact ⟨rfx, mB HB.out⟩
  ·replace c15 := Bool.eq_false_iff.mpr c15
   subst c15
   have H1 : (some 0) = some r := by rw [if_neg (show ¬ (false = true) by decide)] at H; exact H
   clear H
   have H := H1
   clear H1
   obtain rfl := Option.some.inj H
   go_wp2
   go_ret
   exact ⟨rfx, mB HB.out⟩
 ·replace c7 := Bool.eq_false_iff.mpr c7
  subst c7
  have H1 : (some 0) = some r := by rw [if_neg (show ¬ (false = true) by decide)] at H; exact H
  clear H
  have H := H1
  clear H1
  obtain rfl := Option.some.inj H
  have hnb21 := NB269_270.out
  have hnc21 := NB270_269.out
  obtain ⟨hcz22_0, hcz22_1, hcz22_2, hcz22_3, hcz22_4, hfz22_0, hfz22_1, hfz22_2, hfz22_3, hfz22_4⟩ := cel5 BK269.out
  go_wp2_with (first | ((with_reducible refine gate_callee (f := 16) rfl ?_); refine goesL_ (some 6) rfl rfl Try.func16 (by kernel_rfl) rfl #[.agg #[.int .i64 a0_0, .int .i64 a0_1, .int .i64 a0_2, .int .i64 a0_3, .slice A0_4 l0_4.length c0_4]] rfl argx ?_; (with_reducible refine (spec_ExprOk.calls k a0_0 a0_1 a0_2 a0_3 _ _ l0_4 false _ ?side1 ?side2 A6.out).mono ?_); (case side1 => exact mC (Kd.C_below HR0_4.out HB.out)); (case side2 => exact HC0_4.out); rintro e w23 ⟨rfl, hb⟩; refine ⟨_, rfl, ?_⟩; have n_ := az (bB BK269.out hb) <| az (bB BK270.out hb) <| z0 (below_step (mB HB.out) hb); clear BK269 BK270 HB; obtain ⟨BK269, BK270, HB⟩ := n_; clear hb))
  go_ret
  exact ⟨rfx, mB HB.out⟩

/-! ### laws_wqNot: function 38 -/
def laws_wqNot.f (a0_0 : Int) (a0_1 : Int) (a0_2 : Int) (a0_3 : Int) (l0_4 : List (S32)) : Option (Int × Int × Int × Int × (List (S32))) := some (10, 0, 0, 0, (([(⟨a0_0, a0_1, (⟨a0_2, a0_3⟩ : S29), l0_4⟩ : S32)] : List (S32))))
set_option maxHeartbeats 8000000 in
set_option maxRecDepth 100000 in
theorem laws_wqNot.calls (a0_0 : Int) (a0_1 : Int) (a0_2 : Int) (a0_3 : Int) (P0_4_ : Nat → Prop) (A0_4 : Option Addr) (c0_4 : Nat) (l0_4 : List (S32)) (r1 : Int) (r2 : Int) (r3 : Int) (r4 : Int) (r5 : List (S32)) (w : World) (hs0_4 : Kd.V k32 32 w w.heap.size (fun k_ => P0_4_ k_) (.slice A0_4 l0_4.length c0_4) l0_4) (h : laws_wqNot.f a0_0 a0_1 a0_2 a0_3 l0_4 = some (r1, r2, r3, r4, r5)) :
  Calls Try.prog 38 #[.agg #[.int .i64 a0_0, .int .i64 a0_1, .int .i64 a0_2, .int .i64 a0_3, .slice A0_4 l0_4.length c0_4]] w fun e w' => ∃ v4_ : Value, e = .returned (.agg #[.int .i64 r1, .int .i64 r2, .int .i64 r3, .int .i64 r4, v4_]) ∧ Kd.N k32 32 w' w.heap.size (fun k_ => (P0_4_ k_ ∨ w.heap.size ≤ k_)) v4_ r5 ∧ Below w.heap.size w w' := by
 have hu32 := Try.underlying32
 have HO0_4 := z0 (show Kd.V k32 32 w w.heap.size (fun k_ => (P0_4_ k_ ∨ w.heap.size ≤ k_)) (.slice A0_4 l0_4.length c0_4) l0_4 from Kd.V_mono hs0_4 (fun k_ hk => .inl hk))
 have HB := z0 (Below.refl w.heap.size w)
 have H : (some (10, 0, 0, 0, (([(⟨a0_0, a0_1, (⟨a0_2, a0_3⟩ : S29), l0_4⟩ : S32)] : List (S32))))) = some (r1, r2, r3, r4, r5) := h
 clear h
 obtain ⟨y915, hy915⟩ : ∃ y_ : List (S32), y_ = (([(⟨a0_0, a0_1, (⟨a0_2, a0_3⟩ : S29), l0_4⟩ : S32)] : List (S32))) := ⟨_, rfl⟩
 replace H : (some (10, 0, 0, 0, y915)) = some (r1, r2, r3, r4, r5) := by first | (rw [hy915]; with_reducible exact H) | (have H2_ := (Option.bind_some _ _).symm.trans H; rw [hy915]; with_reducible exact H2_) | (have H2_ := (Option.bind_some _ _).symm.trans H; with_reducible exact H2_) | with_reducible exact H | (rw [hy915]; exact H) | exact H
 have Ny915 := z0 hy915
 clear hy915
 simp only [Option.some.injEq, Prod.mk.injEq] at H
 obtain ⟨rfl, rfl, rfl, rfl, rfl⟩ := H
 go_enter Try.func38, Try.ntmps38
 go_wp2_with (first | ((with_reducible refine gate_dst (N := 1) rfl ?_); refine box_event ?hg (N := 1) ?hd (cs := #[.int .i64 a0_0, .int .i64 a0_1, .int .i64 a0_2, .int .i64 a0_3, .slice A0_4 l0_4.length c0_4]) (t := 32) ?hr ?_; (case hd => rfl); (case hg => rfl); (case hr => first | (go_simp; done) | (go_simp; rfl)); intro gb913 hg w2 hbox hb; have n_ := az (Kd.V_below (Kd.V_elderB (mV HO0_4.out) gb913 (Nat.le_of_eq hg.symm)) hb) <| az (below_step (mB HB.out) hb) <| az (hbox) <| az ((by rw [hg]; exact (below_size (mB HB.out)) : w.heap.size ≤ gb913)) <| z0 ((by rw [hg]; exact (below_size (mB HB.out)) : w.heap.size ≤ gb913)); clear HO0_4 HB; obtain ⟨HO0_4, HB, BK913, GW913, GE913⟩ := n_; clear hb hbox hg) | ((with_reducible refine gate_dst (N := 2) rfl ?_); refine box_event ?hg (N := 2) ?hd (cs := #[.int .i64 0, .int .i64 0, .int .i64 0, .int .i64 0, .slice none 0 0]) (t := 32) ?hr ?_; (case hd => rfl); (case hg => rfl); (case hr => first | (go_simp; done) | (go_simp; rfl)); intro gb914 hg w3 hbox hb; have n_ := az (Kd.V_below (Kd.V_elderB (mV HO0_4.out) gb914 (Nat.le_of_eq hg.symm)) hb) <| az (bB BK913.out hb) <| az (below_step (mB HB.out) hb) <| az (hbox) <| az ((by rw [hg]; exact (below_size (mB HB.out)) : w.heap.size ≤ gb914)) <| az ((by rw [hg]; exact (below_size (mB HB.out)) : w.heap.size ≤ gb914)) <| az ((nL hg BK913.out)) <| z0 ((nG hg BK913.out)); clear HO0_4 BK913 HB; obtain ⟨HO0_4, BK913, HB, BK914, GW914, GE914, NB913_914, NB914_913⟩ := n_; clear hb hbox hg; have hnb4 := NB913_914.out; have hnc4 := NB914_913.out; obtain ⟨hcz5_0, hcz5_1, hcz5_2, hcz5_3, hcz5_4, hfz5_0, hfz5_1, hfz5_2, hfz5_3, hfz5_4⟩ := cel5 BK913.out) | ((with_reducible refine gate_dst (N := 4) rfl ?_); refine Kd.N_lit k32 _ 32 ?hg (N' := 4) ?hd (xs := ([(⟨a0_0, a0_1, (⟨a0_2, a0_3⟩ : S29), l0_4⟩ : S32)] : List (S32))) (inner := [.int .i64 a0_0, .int .i64 a0_1, .int .i64 a0_2, .int .i64 a0_3, .slice A0_4 l0_4.length c0_4]) (ok := (fun k_ => (P0_4_ k_ ∨ w.heap.size ≤ k_) ∧ k_ ≠ gb913 ∧ k_ ≠ gb914)) (okp := (fun k_ => (P0_4_ k_ ∨ w.heap.size ≤ k_) ∧ k_ ≠ gb913 ∧ k_ ≠ gb914)) ?hr ?hp (fun _ hk => hk) ((show ∀ k_, w3.heap.size ≤ k_ → (fun k_ => (P0_4_ k_ ∨ w.heap.size ≤ k_) ∧ k_ ≠ gb913 ∧ k_ ≠ gb914) k_ from fun k_ hk => ⟨(.inr (Nat.le_trans (below_size (mB HB.out)) hk)), fB BK913.out hk, fB BK914.out hk⟩) _ (Nat.le_refl _)) (Below.refl _ _) (Nat.le_refl _) (by simp) ?_; (case hd => rfl); (case hg => rfl); (case hr => first | (go_simp; done) | (go_simp; rfl)); (case hp => exact (Reps.c5 (show Kd.FK k32 _ _ (⟨a0_0, a0_1, (⟨a0_2, a0_3⟩ : S29), l0_4⟩ : S32) [.int .i64 a0_0, .int .i64 a0_1, .int .i64 a0_2, .int .i64 a0_3, .slice A0_4 l0_4.length c0_4] from (k32_mkF _ _ (⟨a0_0, a0_1, (⟨a0_2, a0_3⟩ : S29), l0_4⟩ : S32) (Kd.V_reads' (Kd.V_mono (ok' := (fun k_ => (P0_4_ k_ ∨ w.heap.size ≤ k_) ∧ k_ ≠ gb913 ∧ k_ ≠ gb914)) (HO0_4.out) (fun k_ hk => ⟨hk.1.1, ⟨hk.1.2, hk.2⟩⟩))).2.1 (Kd.V_F (Kd.V_mono (ok' := (fun k_ => (P0_4_ k_ ∨ w.heap.size ≤ k_) ∧ k_ ≠ gb913 ∧ k_ ≠ gb914)) (HO0_4.out) (fun k_ hk => ⟨hk.1.1, ⟨hk.1.2, hk.2⟩⟩))))) (Reps.none _ _))); intro v916 w6 ho7 hb hg_ hnew_; clear hg_ hnew_; (first | rw [← Ny915.out] at ho7 | (simp only [Int.reduceToNat] at ho7; rw [← Ny915.out] at ho7)); have n_ := az (Kd.V_elder' (mV HO0_4.out) (by first | exact Kd.N_base ho7 | exact Kd.R_base ho7) hb) <| az (Kd.N_lower ho7 (below_size (mB HB.out))) <| az (bB BK913.out hb) <| az (bB BK914.out hb) <| z0 (below_step (mB HB.out) hb); clear HO0_4 BK913 BK914 HB; obtain ⟨HO0_4, HO917, BK913, BK914, HB⟩ := n_; clear hb ho7; obtain ⟨Ao8, co8, eo8⟩ := Kd.N_slice HO917.out; subst eo8; obtain ⟨hcz9_0, hcz9_1, hcz9_2, hcz9_3, hcz9_4, hfz9_0, hfz9_1, hfz9_2, hfz9_3, hfz9_4⟩ := cel5 BK914.out))
 refine bodyPost_ret (results_cell_row rfl _ _ gb914 32 #[.int .i64 10, .int .i64 0, .int .i64 0, .int .i64 0, .slice Ao8 y915.length co8] (0, 0) _ rfl (pF BK914.out) Try.underlying32 rfl (by kernel_rfl)) rfl ?_
 exact ⟨_, rfx, by (with_reducible repeat (first | apply Kd.N_alloc | apply Kd.N_drewN | apply Kd.N_drew)); exact Kd.N_mono (Kd.N_far (p := ⟨gb914, 4, none⟩) (Kd.N_far (p := ⟨gb914, 3, none⟩) (Kd.N_far (p := ⟨gb914, 2, none⟩) (Kd.N_far (p := ⟨gb914, 1, none⟩) (Kd.N_far (p := ⟨gb914, 0, none⟩) (Kd.N_mono HO917.out (fun k_ hk => (⟨hk, hk.2.2⟩ : _ ∧ k_ ≠ gb914))) (fun _ hk => hk.2) (.int .i64 10)) (fun _ hk => hk.2) (.int .i64 0)) (fun _ hk => hk.2) (.int .i64 0)) (fun _ hk => hk.2) (.int .i64 0)) (fun _ hk => hk.2) (.slice Ao8 y915.length co8)) (fun _ hk => hk.1.1), mB HB.out⟩

/-! ### laws_wqTwo: function 37 -/
def laws_wqTwo.f (a0 : Int) (a1_0 : Int) (a1_1 : Int) (a1_2 : Int) (a1_3 : Int) (l1_4 : List (S32)) (a2_0 : Int) (a2_1 : Int) (a2_2 : Int) (a2_3 : Int) (l2_4 : List (S32)) : Option (Int × Int × Int × Int × (List (S32))) := some (a0, 0, 0, 0, (([(⟨a1_0, a1_1, (⟨a1_2, a1_3⟩ : S29), l1_4⟩ : S32), (⟨a2_0, a2_1, (⟨a2_2, a2_3⟩ : S29), l2_4⟩ : S32)] : List (S32))))
set_option maxHeartbeats 8000000 in
set_option maxRecDepth 100000 in
theorem laws_wqTwo.calls (a0 : Int) (a1_0 : Int) (a1_1 : Int) (a1_2 : Int) (a1_3 : Int) (P1_4_ : Nat → Prop) (A1_4 : Option Addr) (c1_4 : Nat) (l1_4 : List (S32)) (a2_0 : Int) (a2_1 : Int) (a2_2 : Int) (a2_3 : Int) (P2_4_ : Nat → Prop) (A2_4 : Option Addr) (c2_4 : Nat) (l2_4 : List (S32)) (r1 : Int) (r2 : Int) (r3 : Int) (r4 : Int) (r5 : List (S32)) (w : World) (hs1_4 : Kd.V k32 32 w w.heap.size (fun k_ => P1_4_ k_) (.slice A1_4 l1_4.length c1_4) l1_4) (hs2_4 : Kd.V k32 32 w w.heap.size (fun k_ => P2_4_ k_) (.slice A2_4 l2_4.length c2_4) l2_4) (h : laws_wqTwo.f a0 a1_0 a1_1 a1_2 a1_3 l1_4 a2_0 a2_1 a2_2 a2_3 l2_4 = some (r1, r2, r3, r4, r5)) :
  Calls Try.prog 37 #[.int .i64 a0, .agg #[.int .i64 a1_0, .int .i64 a1_1, .int .i64 a1_2, .int .i64 a1_3, .slice A1_4 l1_4.length c1_4], .agg #[.int .i64 a2_0, .int .i64 a2_1, .int .i64 a2_2, .int .i64 a2_3, .slice A2_4 l2_4.length c2_4]] w fun e w' => ∃ v4_ : Value, e = .returned (.agg #[.int .i64 r1, .int .i64 r2, .int .i64 r3, .int .i64 r4, v4_]) ∧ Kd.N k32 32 w' w.heap.size (fun k_ => ((P1_4_ k_ ∨ P2_4_ k_) ∨ w.heap.size ≤ k_)) v4_ r5 ∧ Below w.heap.size w w' := by
 have hu32 := Try.underlying32
 have HO1_4 := z0 (show Kd.V k32 32 w w.heap.size (fun k_ => ((P1_4_ k_ ∨ P2_4_ k_) ∨ w.heap.size ≤ k_)) (.slice A1_4 l1_4.length c1_4) l1_4 from Kd.V_mono hs1_4 (fun k_ hk => .inl (.inl hk)))
 have HO2_4 := z0 (show Kd.V k32 32 w w.heap.size (fun k_ => ((P1_4_ k_ ∨ P2_4_ k_) ∨ w.heap.size ≤ k_)) (.slice A2_4 l2_4.length c2_4) l2_4 from Kd.V_mono hs2_4 (fun k_ hk => .inl (.inr hk)))
 have HB := z0 (Below.refl w.heap.size w)
 have H : (some (a0, 0, 0, 0, (([(⟨a1_0, a1_1, (⟨a1_2, a1_3⟩ : S29), l1_4⟩ : S32), (⟨a2_0, a2_1, (⟨a2_2, a2_3⟩ : S29), l2_4⟩ : S32)] : List (S32))))) = some (r1, r2, r3, r4, r5) := h
 clear h
 obtain ⟨y835, hy835⟩ : ∃ y_ : List (S32), y_ = (([(⟨a1_0, a1_1, (⟨a1_2, a1_3⟩ : S29), l1_4⟩ : S32), (⟨a2_0, a2_1, (⟨a2_2, a2_3⟩ : S29), l2_4⟩ : S32)] : List (S32))) := ⟨_, rfl⟩
 replace H : (some (a0, 0, 0, 0, y835)) = some (r1, r2, r3, r4, r5) := by first | (rw [hy835]; with_reducible exact H) | (have H2_ := (Option.bind_some _ _).symm.trans H; rw [hy835]; with_reducible exact H2_) | (have H2_ := (Option.bind_some _ _).symm.trans H; with_reducible exact H2_) | with_reducible exact H | (rw [hy835]; exact H) | exact H
 have Ny835 := z0 hy835
 clear hy835
 simp only [Option.some.injEq, Prod.mk.injEq] at H
 obtain ⟨rfl, rfl, rfl, rfl, rfl⟩ := H
 go_enter Try.func37, Try.ntmps37
 go_wp2_with (first | ((with_reducible refine gate_dst (N := 4) rfl ?_); refine box_event ?hg (N := 4) ?hd (cs := #[.int .i64 a1_0, .int .i64 a1_1, .int .i64 a1_2, .int .i64 a1_3, .slice A1_4 l1_4.length c1_4]) (t := 32) ?hr ?_; (case hd => rfl); (case hg => rfl); (case hr => first | (go_simp; done) | (go_simp; rfl)); intro gb832 hg w4 hbox hb; have n_ := az (Kd.V_below (Kd.V_elderB (mV HO1_4.out) gb832 (Nat.le_of_eq hg.symm)) hb) <| az (Kd.V_below (Kd.V_elderB (mV HO2_4.out) gb832 (Nat.le_of_eq hg.symm)) hb) <| az (below_step (mB HB.out) hb) <| az (hbox) <| az ((by rw [hg]; exact (below_size (mB HB.out)) : w.heap.size ≤ gb832)) <| z0 ((by rw [hg]; exact (below_size (mB HB.out)) : w.heap.size ≤ gb832)); clear HO1_4 HO2_4 HB; obtain ⟨HO1_4, HO2_4, HB, BK832, GW832, GE832⟩ := n_; clear hb hbox hg) | ((with_reducible refine gate_dst (N := 5) rfl ?_); refine box_event ?hg (N := 5) ?hd (cs := #[.int .i64 a2_0, .int .i64 a2_1, .int .i64 a2_2, .int .i64 a2_3, .slice A2_4 l2_4.length c2_4]) (t := 32) ?hr ?_; (case hd => rfl); (case hg => rfl); (case hr => first | (go_simp; done) | (go_simp; rfl)); intro gb833 hg w5 hbox hb; have n_ := az (Kd.V_below (Kd.V_elderB (mV HO1_4.out) gb833 (Nat.le_of_eq hg.symm)) hb) <| az (Kd.V_below (Kd.V_elderB (mV HO2_4.out) gb833 (Nat.le_of_eq hg.symm)) hb) <| az (bB BK832.out hb) <| az (below_step (mB HB.out) hb) <| az (hbox) <| az ((by rw [hg]; exact (below_size (mB HB.out)) : w.heap.size ≤ gb833)) <| az ((by rw [hg]; exact (below_size (mB HB.out)) : w.heap.size ≤ gb833)) <| az ((nL hg BK832.out)) <| z0 ((nG hg BK832.out)); clear HO1_4 HO2_4 BK832 HB; obtain ⟨HO1_4, HO2_4, BK832, HB, BK833, GW833, GE833, NB832_833, NB833_832⟩ := n_; clear hb hbox hg) | ((with_reducible refine gate_dst (N := 6) rfl ?_); refine box_event ?hg (N := 6) ?hd (cs := #[.int .i64 0, .int .i64 0, .int .i64 0, .int .i64 0, .slice none 0 0]) (t := 32) ?hr ?_; (case hd => rfl); (case hg => rfl); (case hr => first | (go_simp; done) | (go_simp; rfl)); intro gb834 hg w6 hbox hb; have n_ := az (Kd.V_below (Kd.V_elderB (mV HO1_4.out) gb834 (Nat.le_of_eq hg.symm)) hb) <| az (Kd.V_below (Kd.V_elderB (mV HO2_4.out) gb834 (Nat.le_of_eq hg.symm)) hb) <| az (bB BK832.out hb) <| az (bB BK833.out hb) <| az (below_step (mB HB.out) hb) <| az (hbox) <| az ((by rw [hg]; exact (below_size (mB HB.out)) : w.heap.size ≤ gb834)) <| az ((by rw [hg]; exact (below_size (mB HB.out)) : w.heap.size ≤ gb834)) <| az ((nL hg BK832.out)) <| az ((nG hg BK832.out)) <| az ((nL hg BK833.out)) <| z0 ((nG hg BK833.out)); clear HO1_4 HO2_4 BK832 BK833 HB; obtain ⟨HO1_4, HO2_4, BK832, BK833, HB, BK834, GW834, GE834, NB832_834, NB834_832, NB833_834, NB834_833⟩ := n_; clear hb hbox hg; have hnb7 := NB832_833.out; have hnc7 := NB833_832.out; have hnb8 := NB832_834.out; have hnc8 := NB834_832.out; obtain ⟨hcz9_0, hcz9_1, hcz9_2, hcz9_3, hcz9_4, hfz9_0, hfz9_1, hfz9_2, hfz9_3, hfz9_4⟩ := cel5 BK832.out; have hnb10 := NB833_834.out; have hnc10 := NB834_833.out; obtain ⟨hcz11_0, hcz11_1, hcz11_2, hcz11_3, hcz11_4, hfz11_0, hfz11_1, hfz11_2, hfz11_3, hfz11_4⟩ := cel5 BK833.out) | ((with_reducible refine gate_dst (N := 10) rfl ?_); refine Kd.N_lit k32 _ 32 ?hg (N' := 10) ?hd (xs := ([(⟨a1_0, a1_1, (⟨a1_2, a1_3⟩ : S29), l1_4⟩ : S32), (⟨a2_0, a2_1, (⟨a2_2, a2_3⟩ : S29), l2_4⟩ : S32)] : List (S32))) (inner := [.int .i64 a1_0, .int .i64 a1_1, .int .i64 a1_2, .int .i64 a1_3, .slice A1_4 l1_4.length c1_4, .int .i64 a2_0, .int .i64 a2_1, .int .i64 a2_2, .int .i64 a2_3, .slice A2_4 l2_4.length c2_4]) (ok := (fun k_ => ((P1_4_ k_ ∨ P2_4_ k_) ∨ w.heap.size ≤ k_) ∧ k_ ≠ gb832 ∧ k_ ≠ gb833 ∧ k_ ≠ gb834)) (okp := (fun k_ => ((P1_4_ k_ ∨ P2_4_ k_) ∨ w.heap.size ≤ k_) ∧ k_ ≠ gb832 ∧ k_ ≠ gb833 ∧ k_ ≠ gb834)) ?hr ?hp (fun _ hk => hk) ((show ∀ k_, w6.heap.size ≤ k_ → (fun k_ => ((P1_4_ k_ ∨ P2_4_ k_) ∨ w.heap.size ≤ k_) ∧ k_ ≠ gb832 ∧ k_ ≠ gb833 ∧ k_ ≠ gb834) k_ from fun k_ hk => ⟨(.inr (Nat.le_trans (below_size (mB HB.out)) hk)), fB BK832.out hk, fB BK833.out hk, fB BK834.out hk⟩) _ (Nat.le_refl _)) (Below.refl _ _) (Nat.le_refl _) (by simp) ?_; (case hd => rfl); (case hg => rfl); (case hr => first | (go_simp; done) | (go_simp; rfl)); (case hp => exact (Reps.c5 (show Kd.FK k32 _ _ (⟨a1_0, a1_1, (⟨a1_2, a1_3⟩ : S29), l1_4⟩ : S32) [.int .i64 a1_0, .int .i64 a1_1, .int .i64 a1_2, .int .i64 a1_3, .slice A1_4 l1_4.length c1_4] from (k32_mkF _ _ (⟨a1_0, a1_1, (⟨a1_2, a1_3⟩ : S29), l1_4⟩ : S32) (Kd.V_reads' (Kd.V_mono (ok' := (fun k_ => ((P1_4_ k_ ∨ P2_4_ k_) ∨ w.heap.size ≤ k_) ∧ k_ ≠ gb832 ∧ k_ ≠ gb833 ∧ k_ ≠ gb834)) (HO1_4.out) (fun k_ hk => ⟨hk.1.1.1, ⟨hk.1.1.2, ⟨hk.1.2, hk.2⟩⟩⟩))).2.1 (Kd.V_F (Kd.V_mono (ok' := (fun k_ => ((P1_4_ k_ ∨ P2_4_ k_) ∨ w.heap.size ≤ k_) ∧ k_ ≠ gb832 ∧ k_ ≠ gb833 ∧ k_ ≠ gb834)) (HO1_4.out) (fun k_ hk => ⟨hk.1.1.1, ⟨hk.1.1.2, ⟨hk.1.2, hk.2⟩⟩⟩))))) (Reps.c5 (show Kd.FK k32 _ _ (⟨a2_0, a2_1, (⟨a2_2, a2_3⟩ : S29), l2_4⟩ : S32) [.int .i64 a2_0, .int .i64 a2_1, .int .i64 a2_2, .int .i64 a2_3, .slice A2_4 l2_4.length c2_4] from (k32_mkF _ _ (⟨a2_0, a2_1, (⟨a2_2, a2_3⟩ : S29), l2_4⟩ : S32) (Kd.V_reads' (Kd.V_mono (ok' := (fun k_ => ((P1_4_ k_ ∨ P2_4_ k_) ∨ w.heap.size ≤ k_) ∧ k_ ≠ gb832 ∧ k_ ≠ gb833 ∧ k_ ≠ gb834)) (HO2_4.out) (fun k_ hk => ⟨hk.1.1.1, ⟨hk.1.1.2, ⟨hk.1.2, hk.2⟩⟩⟩))).2.1 (Kd.V_F (Kd.V_mono (ok' := (fun k_ => ((P1_4_ k_ ∨ P2_4_ k_) ∨ w.heap.size ≤ k_) ∧ k_ ≠ gb832 ∧ k_ ≠ gb833 ∧ k_ ≠ gb834)) (HO2_4.out) (fun k_ hk => ⟨hk.1.1.1, ⟨hk.1.1.2, ⟨hk.1.2, hk.2⟩⟩⟩))))) (Reps.none _ _)))); intro v836 w12 ho13 hb hg_ hnew_; clear hg_ hnew_; (first | rw [← Ny835.out] at ho13 | (simp only [Int.reduceToNat] at ho13; rw [← Ny835.out] at ho13)); have n_ := az (Kd.V_elder' (mV HO1_4.out) (by first | exact Kd.N_base ho13 | exact Kd.R_base ho13) hb) <| az (Kd.V_elder' (mV HO2_4.out) (by first | exact Kd.N_base ho13 | exact Kd.R_base ho13) hb) <| az (Kd.N_lower ho13 (below_size (mB HB.out))) <| az (bB BK832.out hb) <| az (bB BK833.out hb) <| az (bB BK834.out hb) <| z0 (below_step (mB HB.out) hb); clear HO1_4 HO2_4 BK832 BK833 BK834 HB; obtain ⟨HO1_4, HO2_4, HO837, BK832, BK833, BK834, HB⟩ := n_; clear hb ho13; obtain ⟨Ao14, co14, eo14⟩ := Kd.N_slice HO837.out; subst eo14; obtain ⟨hcz15_0, hcz15_1, hcz15_2, hcz15_3, hcz15_4, hfz15_0, hfz15_1, hfz15_2, hfz15_3, hfz15_4⟩ := cel5 BK834.out))
 refine bodyPost_ret (results_cell_row rfl _ _ gb834 32 #[.int .i64 a0, .int .i64 0, .int .i64 0, .int .i64 0, .slice Ao14 y835.length co14] (0, 0) _ rfl (pF BK834.out) Try.underlying32 rfl (by kernel_rfl)) rfl ?_
 exact ⟨_, rfx, by (with_reducible repeat (first | apply Kd.N_alloc | apply Kd.N_drewN | apply Kd.N_drew)); exact Kd.N_mono (Kd.N_far (p := ⟨gb834, 4, none⟩) (Kd.N_far (p := ⟨gb834, 3, none⟩) (Kd.N_far (p := ⟨gb834, 2, none⟩) (Kd.N_far (p := ⟨gb834, 1, none⟩) (Kd.N_far (p := ⟨gb834, 0, none⟩) (Kd.N_mono HO837.out (fun k_ hk => (⟨hk, hk.2.2.2⟩ : _ ∧ k_ ≠ gb834))) (fun _ hk => hk.2) (.int .i64 a0)) (fun _ hk => hk.2) (.int .i64 0)) (fun _ hk => hk.2) (.int .i64 0)) (fun _ hk => hk.2) (.int .i64 0)) (fun _ hk => hk.2) (.slice Ao14 y835.length co14)) (fun _ hk => hk.1.1), mB HB.out⟩

/-! ### impl_Addr_letter: function 150 -/
def impl_Addr_letter.f (a0_0 : Int) (a0_1 : Int) : Option (ByteArray) := if 0 ≤ a0_0 then (if a0_0 ≤ (wrap64 (a0_0 + 1)) then (if (wrap64 (a0_0 + 1)) ≤ 4 then (some ((⟨#[32, 105, 111, 118]⟩ : ByteArray).extract (a0_0 : Int).toNat ((wrap64 (a0_0 + 1)) : Int).toNat)) else (none)) else (none)) else (none)
set_option maxHeartbeats 8000000 in
set_option maxRecDepth 100000 in
theorem impl_Addr_letter.calls (a0_0 : Int) (a0_1 : Int) (r : ByteArray) (w : World) (h : impl_Addr_letter.f a0_0 a0_1 = some r) :
  Calls Try.prog 150 #[.agg #[.int .i64 a0_0, .int .i64 a0_1]] w fun e w' => e = .returned (.string r) ∧ Below w.heap.size w w' := by
 have hu29 := Try.underlying29
 have HB := z0 (Below.refl w.heap.size w)
 have H : (if 0 ≤ a0_0 then (if a0_0 ≤ (wrap64 (a0_0 + 1)) then (if (wrap64 (a0_0 + 1)) ≤ 4 then (some ((⟨#[32, 105, 111, 118]⟩ : ByteArray).extract (a0_0 : Int).toNat ((wrap64 (a0_0 + 1)) : Int).toNat)) else (none)) else (none)) else (none)) = some r := h
 clear h
 by_cases c2 : 0 ≤ a0_0
 ·rw [if_pos c2] at H
  have c2b0 := eq_true c2
  have c2b1 : decide (0 ≤ a0_0) = true := decide_eq_true c2
  clear c2
  by_cases c3 : a0_0 ≤ (wrap64 (a0_0 + 1))
  ·rw [if_pos c3] at H
   have c3b0 := eq_true c3
   have c3b1 : decide (a0_0 ≤ (wrap64 (a0_0 + 1))) = true := decide_eq_true c3
   by_cases c4 : (wrap64 (a0_0 + 1)) ≤ 4
   ·rw [if_pos c4] at H
    have c4b0 := eq_true c4
    have c4b1 : decide ((wrap64 (a0_0 + 1)) ≤ 4) = true := decide_eq_true c4
    obtain rfl := Option.some.inj H
    go_enter Try.func150, Try.ntmps150
    go_wp2_with (first | ((with_reducible refine gate_dst (N := 1) rfl ?_); refine box_event ?hg (N := 1) ?hd (cs := #[.int .i64 a0_0, .int .i64 a0_1]) (t := 29) ?hr ?_; (case hd => rfl); (case hg => rfl); (case hr => first | (go_simp; done) | (go_simp; rfl)); intro gb1282 hg w5 hbox hb; have n_ := az (below_step (mB HB.out) hb) <| az (hbox) <| az ((by rw [hg]; exact (below_size (mB HB.out)) : w.heap.size ≤ gb1282)) <| z0 ((by rw [hg]; exact (below_size (mB HB.out)) : w.heap.size ≤ gb1282)); clear HB; obtain ⟨HB, BK1282, GW1282, GE1282⟩ := n_; clear hb hbox hg; obtain ⟨hcz6_0, hcz6_1, hfz6_0, hfz6_1⟩ := cel2 BK1282.out))
    go_ret
    exact ⟨rfx, mB HB.out⟩
   ·rw [if_neg c4] at H
    exact absurd H (by simp)
  ·rw [if_neg c3] at H
   exact absurd H (by simp)
 ·rw [if_neg c2] at H
  exact absurd H (by simp)

end Go.Proofs.Ytiofkhfmdophpaa.B
namespace Go.Proofs.Ytiofkhfmdophpaa.B
open Go.RowKit Go.Proofs.YtiofkhfmdophpaaW.PrintWords Go.Proofs.YtiofkhfmdophpaaW.PrintLast Go.Proofs.YtiofkhfmdophpaaW.PrintMore
attribute [local go_sem] max2_int min2_int max_two min_two max_three min_three max_four min_four   -- for this text's walks alone
set_option linter.unusedVariables false
set_option linter.unusedSimpArgs false

attribute [local go_sem high] eqA29
/-! ### spec_ExprAlike: function 49 -/
mutual
def spec_ExprAlike.j0 : Nat → Bool → Int → Int → Int → Int → List (S32) → Int → Int → Int → Int → List (S32) → Option (Bool)
 | 0, _, _, _, _, _, _, _, _, _, _, _ => none
 | k + 1, x33, x460000, x460001, x460002, x460003, x460004, x461000, x461001, x461002, x461003, x461004 => if x33 = true then (some false) else (spec_ExprAlike.l0 k 0 x460000 x460001 x460002 x460003 x460004 x461000 x461001 x461002 x461003 x461004)
def spec_ExprAlike.l0 : Nat → Int → Int → Int → Int → Int → List (S32) → Int → Int → Int → Int → List (S32) → Option (Bool)
 | 0, _, _, _, _, _, _, _, _, _, _, _ => none
 | k + 1, x5, x460000, x460001, x460002, x460003, x460004, x461000, x461001, x461002, x461003, x461004 => if x5 < (x460004.length : Int) then (if 0 ≤ x5 then (if x5 < (x461004.length : Int) then ((spec_ExprAlike.f k ((rd_T32 x460004 x5).f0) ((rd_T32 x460004 x5).f1) ((rd_T32 x460004 x5).f2.f0) ((rd_T32 x460004 x5).f2.f1) ((rd_T32 x460004 x5).f3) ((rd_T32 x461004 x5).f0) ((rd_T32 x461004 x5).f1) ((rd_T32 x461004 x5).f2.f0) ((rd_T32 x461004 x5).f2.f1) ((rd_T32 x461004 x5).f3)).bind fun t463 => (if t463 = true then (spec_ExprAlike.l0 k (wrap64 (x5 + 1)) x460000 x460001 x460002 x460003 x460004 x461000 x461001 x461002 x461003 x461004) else (some false))) else (none)) else (none)) else (some true)
def spec_ExprAlike.f : Nat → Int → Int → Int → Int → List (S32) → Int → Int → Int → Int → List (S32) → Option (Bool)
 | 0, _, _, _, _, _, _, _, _, _, _ => none
 | k + 1, a0_0, a0_1, a0_2, a0_3, l0_4, a1_0, a1_1, a1_2, a1_3, l1_4 => if a0_0 = a1_0 then (if a0_1 = a1_1 then (if (!(a0_2 == a1_2) || (!(a0_3 == a1_3))) = true then (spec_ExprAlike.j0 k true a0_0 a0_1 a0_2 a0_3 l0_4 a1_0 a1_1 a1_2 a1_3 l1_4) else (spec_ExprAlike.j0 k ((l0_4.length : Int) != (l1_4.length : Int)) a0_0 a0_1 a0_2 a0_3 l0_4 a1_0 a1_1 a1_2 a1_3 l1_4)) else (spec_ExprAlike.j0 k true a0_0 a0_1 a0_2 a0_3 l0_4 a1_0 a1_1 a1_2 a1_3 l1_4)) else (spec_ExprAlike.j0 k true a0_0 a0_1 a0_2 a0_3 l0_4 a1_0 a1_1 a1_2 a1_3 l1_4)
end
def spec_ExprAlike.T6 : Bool × List (List Nat × List Nat) := (true, [([], []), ([0], [0]), ([], []), ([1, 2], [1, 2]), ([3], [3]), ([], []), ([5], [5]), ([], []), ([6, 7], [6, 7]), ([8], [8]), ([4, 9], [4, 9]), ([10], [10])])
def spec_ExprAlike.B6 : List Nat := [0, 1, 0, 7, 15, 0, 32, 0, 224, 480, 1023, 2047]
theorem spec_ExprAlike.tab6 : rtab .any (opsOf Try.f49 6) = spec_ExprAlike.T6 := by kernel_rfl
theorem spec_ExprAlike.bits6 : waitsOk spec_ExprAlike.T6.2 spec_ExprAlike.B6 = true := by kernel_rfl
set_option maxHeartbeats 8000000 in
set_option maxRecDepth 100000 in
theorem spec_ExprAlike.calls (k : Nat) : ∀ (a0_0 : Int) (a0_1 : Int) (a0_2 : Int) (a0_3 : Int) (A0_4 : Option Addr) (c0_4 : Nat) (l0_4 : List (S32)) (a1_0 : Int) (a1_1 : Int) (a1_2 : Int) (a1_3 : Int) (A1_4 : Option Addr) (c1_4 : Nat) (l1_4 : List (S32)) (r : Bool) (w : World) (hr0_4 : Kd.C k32 w A0_4 l0_4.length l0_4) (hc0_4 : l0_4.length ≤ c0_4) (hr1_4 : Kd.C k32 w A1_4 l1_4.length l1_4) (hc1_4 : l1_4.length ≤ c1_4) (h : spec_ExprAlike.f k a0_0 a0_1 a0_2 a0_3 l0_4 a1_0 a1_1 a1_2 a1_3 l1_4 = some r),
  Calls Try.prog 49 #[.agg #[.int .i64 a0_0, .int .i64 a0_1, .int .i64 a0_2, .int .i64 a0_3, .slice A0_4 l0_4.length c0_4], .agg #[.int .i64 a1_0, .int .i64 a1_1, .int .i64 a1_2, .int .i64 a1_3, .slice A1_4 l1_4.length c1_4]] w fun e w' => e = .returned (.bool r) ∧ Below w.heap.size w w' := by
 induction k using Nat.strongRecOn with
 | _ k ih =>
 intro a0_0 a0_1 a0_2 a0_3 A0_4 c0_4 l0_4 a1_0 a1_1 a1_2 a1_3 A1_4 c1_4 l1_4 r w hr0_4 hc0_4 hr1_4 hc1_4 h
 cases k with
 | zero => exact absurd h (by simp [spec_ExprAlike.f])
 | succ k =>
 simp only [spec_ExprAlike.f] at h
 have hu32 := Try.underlying32
 have hu29 := Try.underlying29
 have HR0_4 := z0 hr0_4
 have HC0_4 := z0 hc0_4
 clear hr0_4 hc0_4
 have HR1_4 := z0 hr1_4
 have HC1_4 := z0 hc1_4
 clear hr1_4 hc1_4
 have HB := z0 (Below.refl w.heap.size w)
 have H : (if a0_0 = a1_0 then (if a0_1 = a1_1 then (if (!(a0_2 == a1_2) || (!(a0_3 == a1_3))) = true then (spec_ExprAlike.j0 k true a0_0 a0_1 a0_2 a0_3 l0_4 a1_0 a1_1 a1_2 a1_3 l1_4) else (spec_ExprAlike.j0 k ((l0_4.length : Int) != (l1_4.length : Int)) a0_0 a0_1 a0_2 a0_3 l0_4 a1_0 a1_1 a1_2 a1_3 l1_4)) else (spec_ExprAlike.j0 k true a0_0 a0_1 a0_2 a0_3 l0_4 a1_0 a1_1 a1_2 a1_3 l1_4)) else (spec_ExprAlike.j0 k true a0_0 a0_1 a0_2 a0_3 l0_4 a1_0 a1_1 a1_2 a1_3 l1_4)) = some r := h
 clear h
 have HC3 := z0 H
 clear H
 go_enter Try.func49, Try.ntmps49
 go_upto_region 1 with (first | ((with_reducible refine gate_dst (N := 2) rfl ?_); (try (refine gate_guard (by rfl) ?_; dsimp only)); refine box_event ?hg (N := 2) ?hd (cs := #[.int .i64 a0_0, .int .i64 a0_1, .int .i64 a0_2, .int .i64 a0_3, .slice A0_4 l0_4.length c0_4]) (t := 32) ?hr ?_; (case hd => rfl); (case hg => rfl); (case hr => first | (go_simp; done) | (go_simp; rfl)); intro gb459 hg w4 hbox hb; have n_ := az (below_step (mB HB.out) hb) <| az (hbox) <| az ((by rw [hg]; exact (below_size (mB HB.out)) : w.heap.size ≤ gb459)) <| z0 ((by rw [hg]; exact (below_size (mB HB.out)) : w.heap.size ≤ gb459)); clear HB; obtain ⟨HB, BK459, GW459, GE459⟩ := n_; clear hb hbox hg) | ((with_reducible refine gate_dst (N := 3) rfl ?_); (try (refine gate_guard (by rfl) ?_; dsimp only)); refine box_event ?hg (N := 3) ?hd (cs := #[.int .i64 a1_0, .int .i64 a1_1, .int .i64 a1_2, .int .i64 a1_3, .slice A1_4 l1_4.length c1_4]) (t := 32) ?hr ?_; (case hd => rfl); (case hg => rfl); (case hr => first | (go_simp; done) | (go_simp; rfl)); intro gb460 hg w5 hbox hb; have n_ := az (bB BK459.out hb) <| az (below_step (mB HB.out) hb) <| az (hbox) <| az ((by rw [hg]; exact (below_size (mB HB.out)) : w.heap.size ≤ gb460)) <| az ((by rw [hg]; exact (below_size (mB HB.out)) : w.heap.size ≤ gb460)) <| az ((nL hg BK459.out)) <| z0 ((nG hg BK459.out)); clear BK459 HB; obtain ⟨BK459, HB, BK460, GW460, GE460, NB459_460, NB460_459⟩ := n_; clear hb hbox hg))
 (try simp only [Act.put, List.setIfInBounds_toArray, List.set_cons_zero, List.set_cons_succ])
 go_cut [33] (fun v33 wc => ∃ (kq : Nat) (x33_2 : Bool), v33 = .bool x33_2 ∧ Aside0 (spec_ExprAlike.j0 kq x33_2 a0_0 a0_1 a0_2 a0_3 l0_4 a1_0 a1_1 a1_2 a1_3 l1_4 = some r) ∧ Aside0 (kq ≤ k) ∧ Aside0 (wc.heap[gb459]? = some (.cells #[.int .i64 a0_0, .int .i64 a0_1, .int .i64 a0_2, .int .i64 a0_3, (.slice A0_4 l0_4.length c0_4)] 32 (0, 0))) ∧ Aside0 (wc.heap[gb460]? = some (.cells #[.int .i64 a1_0, .int .i64 a1_1, .int .i64 a1_2, .int .i64 a1_3, (.slice A1_4 l1_4.length c1_4)] 32 (0, 0))) ∧ Aside0 (Below w.heap.size w wc))
 case first =>
  have H := HC3.out
  clear HC3
  by_cases c6 : a0_0 = a1_0
  ·rw [if_pos c6] at H
   have c6b0 : (a0_0 == a1_0) = true := beq_iff_eq.mpr c6
   have c6b1 : (a0_0 != a1_0) = false := bne_eq_false_iff_eq.mpr c6
   clear c6
   (first | rw [c6b0] | (simp only [i64_w, i32_w]; rw [c6b0]) | skip)
   by_cases c7 : a0_1 = a1_1
   ·rw [if_pos c7] at H
    have c7b0 : (a0_1 == a1_1) = true := beq_iff_eq.mpr c7
    have c7b1 : (a0_1 != a1_1) = false := bne_eq_false_iff_eq.mpr c7
    clear c7
    by_cases c8 : (!(a0_2 == a1_2) || (!(a0_3 == a1_3))) = true
    ·rw [if_pos c8] at H
     have c8b0 : (!(a0_2 == a1_2) || (!(a0_3 == a1_3))) = true := c8
     clear c8
     have H' := z0 H
     clear H
     have hnb9 := NB459_460.out
     have hnc9 := NB460_459.out
     obtain ⟨hcz10_0, hcz10_1, hcz10_2, hcz10_3, hcz10_4, hfz10_0, hfz10_1, hfz10_2, hfz10_3, hfz10_4⟩ := cel5 BK459.out
     obtain ⟨hcz11_0, hcz11_1, hcz11_2, hcz11_3, hcz11_4, hfz11_0, hfz11_1, hfz11_2, hfz11_3, hfz11_4⟩ := cel5 BK460.out
     go_wp2
     go_meet
     case rel => exact ⟨_, (true), rfy, H', ⟨by first | omega | exact Nat.le_refl _⟩, ⟨mK BK459.out⟩, ⟨mK BK460.out⟩, ⟨mB HB.out⟩⟩
    ·rw [if_neg c8] at H
     have c8b0 : (!(a0_2 == a1_2) || (!(a0_3 == a1_3))) = false := by simpa using c8
     clear c8
     have H' := z0 H
     clear H
     have hnb12 := NB459_460.out
     have hnc12 := NB460_459.out
     obtain ⟨hcz13_0, hcz13_1, hcz13_2, hcz13_3, hcz13_4, hfz13_0, hfz13_1, hfz13_2, hfz13_3, hfz13_4⟩ := cel5 BK459.out
     obtain ⟨hcz14_0, hcz14_1, hcz14_2, hcz14_3, hcz14_4, hfz14_0, hfz14_1, hfz14_2, hfz14_3, hfz14_4⟩ := cel5 BK460.out
     go_wp2
     go_meet
     case rel => exact ⟨_, (((l0_4.length : Int) != (l1_4.length : Int))), rfy, H', ⟨by first | omega | exact Nat.le_refl _⟩, ⟨mK BK459.out⟩, ⟨mK BK460.out⟩, ⟨mB HB.out⟩⟩
   ·rw [if_neg c7] at H
    have c7b0 : (a0_1 == a1_1) = false := beq_eq_false_iff_ne.mpr c7
    have c7b1 : (a0_1 != a1_1) = true := bne_iff_ne.mpr c7
    have H' := z0 H
    clear H
    have hnb15 := NB459_460.out
    have hnc15 := NB460_459.out
    obtain ⟨hcz16_0, hcz16_1, hcz16_2, hcz16_3, hcz16_4, hfz16_0, hfz16_1, hfz16_2, hfz16_3, hfz16_4⟩ := cel5 BK459.out
    obtain ⟨hcz17_0, hcz17_1, hcz17_2, hcz17_3, hcz17_4, hfz17_0, hfz17_1, hfz17_2, hfz17_3, hfz17_4⟩ := cel5 BK460.out
    go_wp2
    go_meet
    case rel => exact ⟨_, (true), rfy, H', ⟨by first | omega | exact Nat.le_refl _⟩, ⟨mK BK459.out⟩, ⟨mK BK460.out⟩, ⟨mB HB.out⟩⟩
  ·rw [if_neg c6] at H
   have c6b0 : (a0_0 == a1_0) = false := beq_eq_false_iff_ne.mpr c6
   have c6b1 : (a0_0 != a1_0) = true := bne_iff_ne.mpr c6
   (first | rw [c6b0] | (simp only [i64_w, i32_w]; rw [c6b0]) | skip)
   have H' := z0 H
   clear H
   have hnb18 := NB459_460.out
   have hnc18 := NB460_459.out
   obtain ⟨hcz19_0, hcz19_1, hcz19_2, hcz19_3, hcz19_4, hfz19_0, hfz19_1, hfz19_2, hfz19_3, hfz19_4⟩ := cel5 BK459.out
   obtain ⟨hcz20_0, hcz20_1, hcz20_2, hcz20_3, hcz20_4, hfz20_0, hfz20_1, hfz20_2, hfz20_3, hfz20_4⟩ := cel5 BK460.out
   go_wp2
   go_meet
   case rel => exact ⟨_, (true), rfy, H', ⟨by first | omega | exact Nat.le_refl _⟩, ⟨mK BK459.out⟩, ⟨mK BK460.out⟩, ⟨mB HB.out⟩⟩
 case rest =>
  clear HC3
  skip
  obtain ⟨kq, x33_2, rfl, HA, HJ2, BK459, BK460, HB⟩ := hcut
  cases kq with
  | zero => exact absurd HA.out (by simp [spec_ExprAlike.j0])
  | succ kj2 =>
   have H := HA.out
   clear HA
   simp only [spec_ExprAlike.j0] at H
   by_cases c21 : x33_2 = true
   ·subst c21
    have H1 : (some false) = some r := by rw [if_pos rfl] at H; exact H
    clear H
    have H := H1
    clear H1
    obtain rfl := Option.some.inj H
    go_wp2
    go_ret
    exact ⟨rfx, mB HB.out⟩
   ·replace c21 := Bool.eq_false_iff.mpr c21
    subst c21
    have H1 : (spec_ExprAlike.l0 kj2 0 a0_0 a0_1 a0_2 a0_3 l0_4 a1_0 a1_1 a1_2 a1_3 l1_4) = some r := by rw [if_neg (show ¬ (false = true) by decide)] at H; exact H
    clear H
    have H := H1
    clear H1
    have H' := z0 H
    clear H
    go_wp2
    go_loopg [5] kj2 (fun kq v5 w' => ∃ (x5_2 : Int), v5 = .int .i64 x5_2 ∧ Aside0 (spec_ExprAlike.l0 kq x5_2 a0_0 a0_1 a0_2 a0_3 l0_4 a1_0 a1_1 a1_2 a1_3 l1_4 = some r) ∧ Aside0 (kq ≤ kj2) ∧ Aside0 (w'.heap[gb459]? = some (.cells #[.int .i64 a0_0, .int .i64 a0_1, .int .i64 a0_2, .int .i64 a0_3, (.slice A0_4 l0_4.length c0_4)] 32 (0, 0))) ∧ Aside0 (w'.heap[gb460]? = some (.cells #[.int .i64 a1_0, .int .i64 a1_1, .int .i64 a1_2, .int .i64 a1_3, (.slice A1_4 l1_4.length c1_4)] 32 (0, 0))) ∧ Aside0 (Below w.heap.size w w'))
    case atStart => exact ⟨(0), rfy, H', ⟨Nat.le_refl _⟩, ⟨mK BK459.out⟩, ⟨mK BK460.out⟩, ⟨mB HB.out⟩⟩
    case round =>
     clear H'
     (try clear c21)
     obtain ⟨x5_2, rfl, HA, HK2, BK459, BK460, HB⟩ := hrel
     cases gk with
     | zero => exact absurd HA.out (by simp [spec_ExprAlike.l0])
     | succ k2 =>
      have H := HA.out
      clear HA
      simp only [spec_ExprAlike.l0] at H
      by_cases c22 : x5_2 < (l0_4.length : Int)
      ·rw [if_pos c22] at H
       have c22b0 : decide (x5_2 < (l0_4.length : Int)) = true := decide_eq_true c22
       clear c22
       by_cases c23 : 0 ≤ x5_2
       ·rw [if_pos c23] at H
        have c23b0 : decide (0 ≤ x5_2) = true := decide_eq_true c23
        clear c23
        by_cases c24 : x5_2 < (l1_4.length : Int)
        ·rw [if_pos c24] at H
         have c24b0 : decide (x5_2 < (l1_4.length : Int)) = true := decide_eq_true c24
         clear c24
         replace H := Option.bind_eq_some_iff.mp H
         obtain ⟨t463, A250, H⟩ := H
         try dsimp only at H
         have A25 := z0 A250
         clear A250
         have HF26 := z0 H
         clear H
         have hnb27 := NB459_460.out
         have hnc27 := NB460_459.out
         obtain ⟨hcz28_0, hcz28_1, hcz28_2, hcz28_3, hcz28_4, hfz28_0, hfz28_1, hfz28_2, hfz28_3, hfz28_4⟩ := cel5 BK459.out
         try go_wp2
         have n_ := az (blk_drew BK459.out) <| az (blk_drew BK460.out) <| z0 (below_drew1 HB.out)
         clear BK459 BK460 HB
         obtain ⟨BK459, BK460, HB⟩ := n_
         have p461 : 0 ≤ (x5_2 : Int) := of_decide_eq_true (by first | (with_reducible assumption) | assumption)
         have q461 : x5_2 < (l0_4.length : Int) := of_decide_eq_true (by first | (with_reducible assumption) | assumption)
         obtain ⟨ad461, A461_4, c461_4, e461, hx461_0, hx461_1, hx461_2, hx461_3, hx461_4, hl461_4, hi461_4⟩ := at_T32 HR0_4.out x5_2 p461 q461
         have hw461_4 := hx461_4
         have hw461_3 := hx461_3
         have hw461_2 := hx461_2
         have hw461_1 := hx461_1
         have hw461_0 := hx461_0
         cases e461
         replace hx461_0 := (HB.out.cell (World.block_lt_of_cell? w _ hx461_0)).trans hx461_0
         replace hx461_1 := (HB.out.cell (World.block_lt_of_cell? w _ hx461_1)).trans hx461_1
         replace hx461_2 := (HB.out.cell (World.block_lt_of_cell? w _ hx461_2)).trans hx461_2
         replace hx461_3 := (HB.out.cell (World.block_lt_of_cell? w _ hx461_3)).trans hx461_3
         replace hx461_4 := (HB.out.cell (World.block_lt_of_cell? w _ hx461_4)).trans hx461_4
         have HR461_4 := z0 hi461_4
         have HC461_4 := z0 hl461_4
         clear hi461_4 hl461_4
         replace p461 := eq_true p461
         replace q461 := eq_true q461
         have p462 : 0 ≤ (x5_2 : Int) := of_decide_eq_true (by first | (with_reducible assumption) | assumption)
         have q462 : x5_2 < (l1_4.length : Int) := of_decide_eq_true (by first | (with_reducible assumption) | assumption)
         obtain ⟨ad462, A462_4, c462_4, e462, hx462_0, hx462_1, hx462_2, hx462_3, hx462_4, hl462_4, hi462_4⟩ := at_T32 HR1_4.out x5_2 p462 q462
         have hw462_4 := hx462_4
         have hw462_3 := hx462_3
         have hw462_2 := hx462_2
         have hw462_1 := hx462_1
         have hw462_0 := hx462_0
         cases e462
         replace hx462_0 := (HB.out.cell (World.block_lt_of_cell? w _ hx462_0)).trans hx462_0
         replace hx462_1 := (HB.out.cell (World.block_lt_of_cell? w _ hx462_1)).trans hx462_1
         replace hx462_2 := (HB.out.cell (World.block_lt_of_cell? w _ hx462_2)).trans hx462_2
         replace hx462_3 := (HB.out.cell (World.block_lt_of_cell? w _ hx462_3)).trans hx462_3
         replace hx462_4 := (HB.out.cell (World.block_lt_of_cell? w _ hx462_4)).trans hx462_4
         have HR462_4 := z0 hi462_4
         have HC462_4 := z0 hl462_4
         clear hi462_4 hl462_4
         replace p462 := eq_true p462
         replace q462 := eq_true q462
         refine start_ (n := 12) (S := fun w' => w'.cell? ⟨gb459, 0, none⟩ = some (.int .i64 a0_0) ∧ w'.cell? ⟨gb459, 1, none⟩ = some (.int .i64 a0_1) ∧ w'.cell? ⟨gb459, 2, none⟩ = some (.int .i64 a0_2) ∧ w'.cell? ⟨gb459, 3, none⟩ = some (.int .i64 a0_3) ∧ w'.cell? ⟨gb459, 4, none⟩ = some (.slice (some ad461) l0_4.length c0_4) ∧ w'.cell? ⟨gb460, 0, none⟩ = some (.int .i64 a1_0) ∧ w'.cell? ⟨gb460, 1, none⟩ = some (.int .i64 a1_1) ∧ w'.cell? ⟨gb460, 2, none⟩ = some (.int .i64 a1_2) ∧ w'.cell? ⟨gb460, 3, none⟩ = some (.int .i64 a1_3) ∧ w'.cell? ⟨gb460, 4, none⟩ = some (.slice (some ad462) l1_4.length c1_4) ∧ w'.cell? (ad461.add ((x5_2).toNat * 5)) = some (.int .i64 ((rd_T32 l0_4 x5_2).f0)) ∧ w'.cell? ⟨(ad461.add ((x5_2).toNat * 5)).block, (ad461.add ((x5_2).toNat * 5)).off + 1, none⟩ = some (.int .i64 ((rd_T32 l0_4 x5_2).f1)) ∧ w'.cell? ⟨(ad461.add ((x5_2).toNat * 5)).block, (ad461.add ((x5_2).toNat * 5)).off + 2, none⟩ = some (.int .i64 ((rd_T32 l0_4 x5_2).f2.f0)) ∧ w'.cell? ⟨(ad461.add ((x5_2).toNat * 5)).block, (ad461.add ((x5_2).toNat * 5)).off + 3, none⟩ = some (.int .i64 ((rd_T32 l0_4 x5_2).f2.f1)) ∧ w'.cell? ⟨(ad461.add ((x5_2).toNat * 5)).block, (ad461.add ((x5_2).toNat * 5)).off + 4, none⟩ = some (.slice A461_4 ((rd_T32 l0_4 x5_2).f3).length c461_4) ∧ w'.cell? (ad462.add ((x5_2).toNat * 5)) = some (.int .i64 ((rd_T32 l1_4 x5_2).f0)) ∧ w'.cell? ⟨(ad462.add ((x5_2).toNat * 5)).block, (ad462.add ((x5_2).toNat * 5)).off + 1, none⟩ = some (.int .i64 ((rd_T32 l1_4 x5_2).f1)) ∧ w'.cell? ⟨(ad462.add ((x5_2).toNat * 5)).block, (ad462.add ((x5_2).toNat * 5)).off + 2, none⟩ = some (.int .i64 ((rd_T32 l1_4 x5_2).f2.f0)) ∧ w'.cell? ⟨(ad462.add ((x5_2).toNat * 5)).block, (ad462.add ((x5_2).toNat * 5)).off + 3, none⟩ = some (.int .i64 ((rd_T32 l1_4 x5_2).f2.f1)) ∧ w'.cell? ⟨(ad462.add ((x5_2).toNat * 5)).block, (ad462.add ((x5_2).toNat * 5)).off + 4, none⟩ = some (.slice A462_4 ((rd_T32 l1_4 x5_2).f3).length c462_4)) (ds := []) #[false, false, false, false, false, false, false, false, false, false, false, false] (by kernel_rfl) rfl rfl ⟨(blk_cell BK459.out 0).trans rfl, (blk_cell BK459.out 1).trans rfl, (blk_cell BK459.out 2).trans rfl, (blk_cell BK459.out 3).trans rfl, (blk_cell BK459.out 4).trans rfl, (blk_cell BK460.out 0).trans rfl, (blk_cell BK460.out 1).trans rfl, (blk_cell BK460.out 2).trans rfl, (blk_cell BK460.out 3).trans rfl, (blk_cell BK460.out 4).trans rfl, ((HB.out.cell (World.block_lt_of_cell? w _ hw461_0)).trans hw461_0), ((HB.out.cell (World.block_lt_of_cell? w _ hw461_1)).trans hw461_1), ((HB.out.cell (World.block_lt_of_cell? w _ hw461_2)).trans hw461_2), ((HB.out.cell (World.block_lt_of_cell? w _ hw461_3)).trans hw461_3), ((HB.out.cell (World.block_lt_of_cell? w _ hw461_4)).trans hw461_4), ((HB.out.cell (World.block_lt_of_cell? w _ hw462_0)).trans hw462_0), ((HB.out.cell (World.block_lt_of_cell? w _ hw462_1)).trans hw462_1), ((HB.out.cell (World.block_lt_of_cell? w _ hw462_2)).trans hw462_2), ((HB.out.cell (World.block_lt_of_cell? w _ hw462_3)).trans hw462_3), ((HB.out.cell (World.block_lt_of_cell? w _ hw462_4)).trans hw462_4)⟩ (fun hHeld => ?_); refine with_tabW spec_ExprAlike.tab6 spec_ExprAlike.bits6 (fun HT_ HW_ => ?_)
         generalize wr.drew = w29 at BK459 BK460 HB HR461_4 HR462_4 hx461_0 hx461_1 hx461_2 hx461_3 hx461_4 hx462_0 hx462_1 hx462_2 hx462_3 hx462_4 hHeld ⊢
         refine pure_ (i := 0) (N := some 41) (v := ?_) (a' := ?_) #[true, false, false, false, false, false, false, false, false, false, false, false] rfl rfl (any_of HT_.out (by kernel_rfl)) (fun _ _ _ h => h) (Or.inl ⟨by rfl, ?_⟩) ?_ ?_
         rotate_left
         ·intro w'
          go_simp
          with_reducible rfl
         rotate_left
         ·simp only [Act.put, List.setIfInBounds_toArray, List.set_cons_zero, List.set_cons_succ, i64_w, i32_w]
          rfl
         refine pure_ (i := 2) (N := some 43) (v := ?_) (a' := ?_) #[true, false, true, false, false, false, false, false, false, false, false, false] rfl rfl (any_of HT_.out (by kernel_rfl)) (fun _ _ _ h => h) (Or.inl ⟨by rfl, ?_⟩) ?_ ?_
         rotate_left
         ·intro w'
          go_simp
          with_reducible rfl
         rotate_left
         ·simp only [Act.put, List.setIfInBounds_toArray, List.set_cons_zero, List.set_cons_succ, i64_w, i32_w]
          rfl
         refine pure_ (i := 5) (N := some 46) (v := ?_) (a' := ?_) #[true, false, true, false, false, true, false, false, false, false, false, false] rfl rfl (any_of HT_.out (by kernel_rfl)) (fun _ _ _ h => h) (Or.inl ⟨by rfl, ?_⟩) ?_ ?_
         rotate_left
         ·intro w'
          go_simp
          with_reducible rfl
         rotate_left
         ·simp only [Act.put, List.setIfInBounds_toArray, List.set_cons_zero, List.set_cons_succ, i64_w, i32_w]
          rfl
         refine pure_ (i := 7) (N := some 48) (v := ?_) (a' := ?_) #[true, false, true, false, false, true, false, true, false, false, false, false] rfl rfl (any_of HT_.out (by kernel_rfl)) (fun _ _ _ h => h) (Or.inl ⟨by rfl, ?_⟩) ?_ ?_
         rotate_left
         ·intro w'
          go_simp
          with_reducible rfl
         rotate_left
         ·simp only [Act.put, List.setIfInBounds_toArray, List.set_cons_zero, List.set_cons_succ, i64_w, i32_w]
          rfl
         refine take_ (i := 1) (N := some 42) (v := ?_) (a' := ?_) #[true, true, true, false, false, true, false, true, false, false, false, false] rfl rfl (take_ofW HT_.out HW_.out (by kernel_rfl)) (fun _ _ _ h => h) (Or.inl ⟨by rfl, ?_⟩) hHeld ?_ ?_
         rotate_left
         ·rintro w' ⟨s0, s1, s2, s3, s4, s5, s6, s7, s8, s9, s10, s11, s12, s13, s14, s15, s16, s17, s18, s19⟩
          go_simp
          with_reducible rfl
         rotate_left
         ·simp only [Act.put, List.setIfInBounds_toArray, List.set_cons_zero, List.set_cons_succ, i64_w, i32_w]
          rfl
         refine pure_ (i := 3) (N := some 44) (v := ?_) (a' := ?_) #[true, true, true, true, false, true, false, true, false, false, false, false] rfl rfl (any_of HT_.out (by kernel_rfl)) (fun _ _ _ h => h) (Or.inl ⟨by rfl, ?_⟩) ?_ ?_
         rotate_left
         ·intro w'
          go_simp
          with_reducible rfl
         rotate_left
         ·simp only [Act.put, List.setIfInBounds_toArray, List.set_cons_zero, List.set_cons_succ, i64_w, i32_w]
          rfl
         refine take_ (i := 4) (N := some 45) (v := ?_) (a' := ?_) #[true, true, true, true, true, true, false, true, false, false, false, false] rfl rfl (take_ofW HT_.out HW_.out (by kernel_rfl)) (fun _ _ _ h => h) (Or.inl ⟨by rfl, ?_⟩) hHeld ?_ ?_
         rotate_left
         ·rintro w' ⟨s0, s1, s2, s3, s4, s5, s6, s7, s8, s9, s10, s11, s12, s13, s14, s15, s16, s17, s18, s19⟩
          go_simp
          with_reducible rfl
         rotate_left
         ·simp only [Act.put, List.setIfInBounds_toArray, List.set_cons_zero, List.set_cons_succ, i64_w, i32_w]
          rfl
         refine take_ (i := 6) (N := some 47) (v := ?_) (a' := ?_) #[true, true, true, true, true, true, true, true, false, false, false, false] rfl rfl (take_ofW HT_.out HW_.out (by kernel_rfl)) (fun _ _ _ h => h) (Or.inl ⟨by rfl, ?_⟩) hHeld ?_ ?_
         rotate_left
         ·rintro w' ⟨s0, s1, s2, s3, s4, s5, s6, s7, s8, s9, s10, s11, s12, s13, s14, s15, s16, s17, s18, s19⟩
          go_simp
          with_reducible rfl
         rotate_left
         ·simp only [Act.put, List.setIfInBounds_toArray, List.set_cons_zero, List.set_cons_succ, i64_w, i32_w]
          rfl
         refine pure_ (i := 8) (N := some 49) (v := ?_) (a' := ?_) #[true, true, true, true, true, true, true, true, true, false, false, false] rfl rfl (any_of HT_.out (by kernel_rfl)) (fun _ _ _ h => h) (Or.inl ⟨by rfl, ?_⟩) ?_ ?_
         rotate_left
         ·intro w'
          go_simp
          with_reducible rfl
         rotate_left
         ·simp only [Act.put, List.setIfInBounds_toArray, List.set_cons_zero, List.set_cons_succ, i64_w, i32_w]
          rfl
         refine take_ (i := 9) (N := some 50) (v := ?_) (a' := ?_) #[true, true, true, true, true, true, true, true, true, true, false, false] rfl rfl (take_ofW HT_.out HW_.out (by kernel_rfl)) (fun _ _ _ h => h) (Or.inl ⟨by rfl, ?_⟩) hHeld ?_ ?_
         rotate_left
         ·rintro w' ⟨s0, s1, s2, s3, s4, s5, s6, s7, s8, s9, s10, s11, s12, s13, s14, s15, s16, s17, s18, s19⟩
          go_simp
          with_reducible rfl
         rotate_left
         ·simp only [Act.put, List.setIfInBounds_toArray, List.set_cons_zero, List.set_cons_succ, i64_w, i32_w]
          rfl
         refine one_ (i := 10) (N := some 51) #[true, true, true, true, true, true, true, true, true, true, true, false] rfl rfl (one_of HT_.out (by kernel_rfl)) (by decide) (fun K hK => ?_)
         refine goes_ Try.func49 (by kernel_rfl) rfl #[.agg #[.int .i64 ((rd_T32 l0_4 x5_2).f0), .int .i64 ((rd_T32 l0_4 x5_2).f1), .int .i64 ((rd_T32 l0_4 x5_2).f2.f0), .int .i64 ((rd_T32 l0_4 x5_2).f2.f1), .slice A461_4 ((rd_T32 l0_4 x5_2).f3).length c461_4], .agg #[.int .i64 ((rd_T32 l1_4 x5_2).f0), .int .i64 ((rd_T32 l1_4 x5_2).f1), .int .i64 ((rd_T32 l1_4 x5_2).f2.f0), .int .i64 ((rd_T32 l1_4 x5_2).f2.f1), .slice A462_4 ((rd_T32 l1_4 x5_2).f3).length c462_4]] (by rfl) rfl rfl argx ?_
         with_reducible refine (ih k2 (by have := HJ2.out; have := HK2.out; omega) ((rd_T32 l0_4 x5_2).f0) ((rd_T32 l0_4 x5_2).f1) ((rd_T32 l0_4 x5_2).f2.f0) ((rd_T32 l0_4 x5_2).f2.f1) _ _ ((rd_T32 l0_4 x5_2).f3) ((rd_T32 l1_4 x5_2).f0) ((rd_T32 l1_4 x5_2).f1) ((rd_T32 l1_4 x5_2).f2.f0) ((rd_T32 l1_4 x5_2).f2.f1) _ _ ((rd_T32 l1_4 x5_2).f3) t463 _ ?side1 ?side2 ?side3 ?side4 A25.out).mono ?_
         (case side1 => exact mC (Kd.C_below HR461_4.out HB.out))
         (case side2 => exact HC461_4.out)
         (case side3 => exact mC (Kd.C_below HR462_4.out HB.out))
         (case side4 => exact HC462_4.out)
         rintro e w30 ⟨rfl, hb⟩
         refine ⟨_, rfl, ?_⟩
         have n_ := az (bB BK459.out hb) <| az (bB BK460.out hb) <| z0 (below_step (mB HB.out) hb)
         clear BK459 BK460 HB
         obtain ⟨BK459, BK460, HB⟩ := n_
         (try clear hb)
         (try clear hb2)
         (try clear hk)
         (try clear hi)
         refine hK.out _ _ ⟨(blk_cell BK459.out 0).trans rfl, (blk_cell BK459.out 1).trans rfl, (blk_cell BK459.out 2).trans rfl, (blk_cell BK459.out 3).trans rfl, (blk_cell BK459.out 4).trans rfl, (blk_cell BK460.out 0).trans rfl, (blk_cell BK460.out 1).trans rfl, (blk_cell BK460.out 2).trans rfl, (blk_cell BK460.out 3).trans rfl, (blk_cell BK460.out 4).trans rfl, ((HB.out.cell (World.block_lt_of_cell? w _ hw461_0)).trans hw461_0), ((HB.out.cell (World.block_lt_of_cell? w _ hw461_1)).trans hw461_1), ((HB.out.cell (World.block_lt_of_cell? w _ hw461_2)).trans hw461_2), ((HB.out.cell (World.block_lt_of_cell? w _ hw461_3)).trans hw461_3), ((HB.out.cell (World.block_lt_of_cell? w _ hw461_4)).trans hw461_4), ((HB.out.cell (World.block_lt_of_cell? w _ hw462_0)).trans hw462_0), ((HB.out.cell (World.block_lt_of_cell? w _ hw462_1)).trans hw462_1), ((HB.out.cell (World.block_lt_of_cell? w _ hw462_2)).trans hw462_2), ((HB.out.cell (World.block_lt_of_cell? w _ hw462_3)).trans hw462_3), ((HB.out.cell (World.block_lt_of_cell? w _ hw462_4)).trans hw462_4)⟩ (fun hHeld => ?_)
         clear hK K
         refine norm_ (a' := ?_) ?_ ?_
         rotate_left
         ·show Act.put _ (some 51) _ = _
          simp only [Act.put, List.setIfInBounds_toArray, List.set_cons_zero, List.set_cons_succ, i64_w, i32_w]
          rfl
         refine pure_ (i := 11) (N := some 52) (v := ?_) (a' := ?_) #[true, true, true, true, true, true, true, true, true, true, true, true] rfl rfl (any_of HT_.out (by kernel_rfl)) (fun _ _ _ h => h) (Or.inl ⟨by rfl, ?_⟩) ?_ ?_
         rotate_left
         ·intro w'
          go_simp
          with_reducible rfl
         rotate_left
         ·simp only [Act.put, List.setIfInBounds_toArray, List.set_cons_zero, List.set_cons_succ, i64_w, i32_w]
          rfl
         refine done_ (done_of HT_.out (by kernel_rfl)) ?_
         go_upto_if 52 with (fail)
         have H := HF26.out
         clear HF26
         (try clear c21); (try clear c22); (try clear c22b0); (try clear c23); (try clear c23b0); (try clear c24); (try clear c24b0); (try clear hcz28_0); (try clear hcz28_1); (try clear hcz28_2); (try clear hcz28_3); (try clear hcz28_4); (try clear hfz28_0); (try clear hfz28_1); (try clear hfz28_2); (try clear hfz28_3); (try clear hfz28_4); (try clear hx461_0); (try clear hx461_1); (try clear hx461_2); (try clear hx461_3); (try clear hx461_4); (try clear hx462_0); (try clear hx462_1); (try clear hx462_2); (try clear hx462_3); (try clear hx462_4); (try clear p461); (try clear p462); (try clear q461); (try clear q462)
         by_cases c31 : t463 = true
         ·subst c31
          have H1 : (spec_ExprAlike.l0 k2 (wrap64 (x5_2 + 1)) a0_0 a0_1 a0_2 a0_3 l0_4 a1_0 a1_1 a1_2 a1_3 l1_4) = some r := by rw [if_pos rfl] at H; exact H
          clear H
          have H := H1
          clear H1
          have H' := z0 H
          clear H
          go_wp2
          go_roundg k2
          case measure => have := HJ2.out; have := HK2.out; omega
          case rel => exact ⟨(wrap64 (x5_2 + 1)), rfy, H', ⟨by have := HJ2.out; have := HK2.out; omega⟩, ⟨mK BK459.out⟩, ⟨mK BK460.out⟩, ⟨mB HB.out⟩⟩
         ·replace c31 := Bool.eq_false_iff.mpr c31
          subst c31
          have H1 : (some false) = some r := by rw [if_neg (show ¬ (false = true) by decide)] at H; exact H
          clear H
          have H := H1
          clear H1
          obtain rfl := Option.some.inj H
          go_wp2
          go_ret
          exact ⟨rfx, mB HB.out⟩
        ·rw [if_neg c24] at H
         exact absurd H (by simp)
       ·rw [if_neg c23] at H
        exact absurd H (by simp)
      ·rw [if_neg c22] at H
       have c22b0 : decide (x5_2 < (l0_4.length : Int)) = false := decide_eq_false c22
       clear c22
       obtain rfl := Option.some.inj H
       have hnb32 := NB459_460.out
       have hnc32 := NB460_459.out
       obtain ⟨hcz33_0, hcz33_1, hcz33_2, hcz33_3, hcz33_4, hfz33_0, hfz33_1, hfz33_2, hfz33_3, hfz33_4⟩ := cel5 BK459.out
       go_wp2
       go_ret
       exact ⟨rfx, mB HB.out⟩

end Go.Proofs.Ytiofkhfmdophpaa.B
namespace Go.Proofs.Ytiofkhfmdophpaa.B
open Go.RowKit Go.Proofs.YtiofkhfmdophpaaW.PrintWords Go.Proofs.YtiofkhfmdophpaaW.PrintLast Go.Proofs.YtiofkhfmdophpaaW.PrintMore
attribute [local go_sem] max2_int min2_int max_two min_two max_three min_three max_four min_four   -- for this text's walks alone
set_option linter.unusedVariables false
set_option linter.unusedSimpArgs false

/-! ### spec_ExprMany: function 28 -/
def spec_ExprMany.f (k : Nat) (a0_0 : Int) (a0_1 : Int) (a0_2 : Int) (a0_3 : Int) (l0_4 : List (S32)) : Option (Int) := (spec_ExprOk.f k a0_0 a0_1 a0_2 a0_3 l0_4).bind fun t357 => (if t357 = true then ((spec_l3Many.f k a0_0 a0_1 a0_2 a0_3 l0_4 6).bind fun t358 => (some t358)) else (some 0))
set_option maxHeartbeats 8000000 in
set_option maxRecDepth 100000 in
theorem spec_ExprMany.calls (k : Nat) (a0_0 : Int) (a0_1 : Int) (a0_2 : Int) (a0_3 : Int) (A0_4 : Option Addr) (c0_4 : Nat) (l0_4 : List (S32)) (r : Int) (w : World) (hr0_4 : Kd.C k32 w A0_4 l0_4.length l0_4) (hc0_4 : l0_4.length ≤ c0_4) (h : spec_ExprMany.f k a0_0 a0_1 a0_2 a0_3 l0_4 = some r) :
  Calls Try.prog 28 #[.agg #[.int .i64 a0_0, .int .i64 a0_1, .int .i64 a0_2, .int .i64 a0_3, .slice A0_4 l0_4.length c0_4]] w fun e w' => e = .returned (.int .i64 r) ∧ Below w.heap.size w w' := by
 have hu32 := Try.underlying32
 have HR0_4 := z0 hr0_4
 have HC0_4 := z0 hc0_4
 clear hr0_4 hc0_4
 have HB := z0 (Below.refl w.heap.size w)
 have H : ((spec_ExprOk.f k a0_0 a0_1 a0_2 a0_3 l0_4).bind fun t357 => (if t357 = true then ((spec_l3Many.f k a0_0 a0_1 a0_2 a0_3 l0_4 6).bind fun t358 => (some t358)) else (some 0))) = some r := h
 clear h
 replace H := Option.bind_eq_some_iff.mp H
 obtain ⟨t357, A20, H⟩ := H
 try dsimp only at H
 have A2 := z0 A20
 clear A20
 have HF3 := z0 H
 clear H
 go_enter Try.func28, Try.ntmps28
 go_upto_if 5 with (first | ((with_reducible refine gate_dst (N := 1) rfl ?_); refine box_event ?hg (N := 1) ?hd (cs := #[.int .i64 a0_0, .int .i64 a0_1, .int .i64 a0_2, .int .i64 a0_3, .slice A0_4 l0_4.length c0_4]) (t := 32) ?hr ?_; (case hd => rfl); (case hg => rfl); (case hr => first | (go_simp; done) | (go_simp; rfl)); intro gb356 hg w4 hbox hb; have n_ := az (below_step (mB HB.out) hb) <| az (hbox) <| az ((by rw [hg]; exact (below_size (mB HB.out)) : w.heap.size ≤ gb356)) <| z0 ((by rw [hg]; exact (below_size (mB HB.out)) : w.heap.size ≤ gb356)); clear HB; obtain ⟨HB, BK356, GW356, GE356⟩ := n_; clear hb hbox hg; obtain ⟨hcz5_0, hcz5_1, hcz5_2, hcz5_3, hcz5_4, hfz5_0, hfz5_1, hfz5_2, hfz5_3, hfz5_4⟩ := cel5 BK356.out) | ((with_reducible refine gate_callee (f := 16) rfl ?_); refine goesL_ (some 4) rfl rfl Try.func16 (by kernel_rfl) rfl #[.agg #[.int .i64 a0_0, .int .i64 a0_1, .int .i64 a0_2, .int .i64 a0_3, .slice A0_4 l0_4.length c0_4]] rfl argx ?_; (with_reducible refine (spec_ExprOk.calls k a0_0 a0_1 a0_2 a0_3 _ _ l0_4 t357 _ ?side1 ?side2 A2.out).mono ?_); (case side1 => exact mC (Kd.C_below HR0_4.out HB.out)); (case side2 => exact HC0_4.out); rintro e w6 ⟨rfl, hb⟩; refine ⟨_, rfl, ?_⟩; have n_ := az (bB BK356.out hb) <| z0 (below_step (mB HB.out) hb); clear BK356 HB; obtain ⟨BK356, HB⟩ := n_; clear hb))
 (try simp only [Act.put, List.setIfInBounds_toArray, List.set_cons_zero, List.set_cons_succ])
 have H := HF3.out
 clear HF3
 (try clear hcz5_0); (try clear hcz5_1); (try clear hcz5_2); (try clear hcz5_3); (try clear hcz5_4); (try clear hfz5_0); (try clear hfz5_1); (try clear hfz5_2); (try clear hfz5_3); (try clear hfz5_4)
 by_cases c7 : t357 = true
 ·subst c7
  have H1 : ((spec_l3Many.f k a0_0 a0_1 a0_2 a0_3 l0_4 6).bind fun t358 => (some t358)) = some r := by rw [if_pos rfl] at H; exact H
  clear H
  have H := H1
  clear H1
  replace H := Option.bind_eq_some_iff.mp H
  obtain ⟨t358, A80, H⟩ := H
  try dsimp only at H
  have A8 := z0 A80
  clear A80
  obtain rfl := Option.some.inj H
  obtain ⟨hcz9_0, hcz9_1, hcz9_2, hcz9_3, hcz9_4, hfz9_0, hfz9_1, hfz9_2, hfz9_3, hfz9_4⟩ := cel5 BK356.out
  go_wp2_with (first | ((with_reducible refine gate_callee (f := 53) rfl ?_); refine goesL_ (some 7) rfl rfl Try.func53 (by kernel_rfl) rfl #[.agg #[.int .i64 a0_0, .int .i64 a0_1, .int .i64 a0_2, .int .i64 a0_3, .slice A0_4 l0_4.length c0_4], .int .i64 6] rfl argx ?_; (with_reducible refine (spec_l3Many.calls k a0_0 a0_1 a0_2 a0_3 _ _ l0_4 6 t358 _ ?side1 ?side2 A8.out).mono ?_); (case side1 => exact mC (Kd.C_below HR0_4.out HB.out)); (case side2 => exact HC0_4.out); rintro e w10 ⟨rfl, hb⟩; refine ⟨_, rfl, ?_⟩; have n_ := az (bB BK356.out hb) <| z0 (below_step (mB HB.out) hb); clear BK356 HB; obtain ⟨BK356, HB⟩ := n_; clear hb))
  go_ret
  exact ⟨rfx, mB HB.out⟩
 ·replace c7 := Bool.eq_false_iff.mpr c7
  subst c7
  have H1 : (some 0) = some r := by rw [if_neg (show ¬ (false = true) by decide)] at H; exact H
  clear H
  have H := H1
  clear H1
  obtain rfl := Option.some.inj H
  go_wp2
  go_ret
  exact ⟨rfx, mB HB.out⟩

end Go.Proofs.Ytiofkhfmdophpaa.B
