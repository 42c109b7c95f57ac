/- Printed functions of this seat, in one text. -/
import Derived.Test.YtfmipdhkiahjoaaDoorB0
import Derived.Test.YtfmipdhkiahjoaaDoorSq
import Derived.Test.YtfmipdhkiahjoaaDoorPkA
namespace Go.Proofs.YtfmipdhkiahjoaaDoor.B
open Go.RowKit Go.Proofs.YtfmipdhkiahjoaaDoorW.PrintWords Go.Proofs.YtfmipdhkiahjoaaDoorW.PrintLast Go.Proofs.YtfmipdhkiahjoaaDoorW.PrintMore
attribute [local go_sem] max2_int min2_int max_two min_two max_three min_three max_four min_four   -- for this text's walks alone
set_option linter.unusedVariables false
set_option linter.unusedSimpArgs false

/-! ### spec_l8Places: function 12 -/
def spec_l8Places.l0 : Nat → List Int → Int → Int → Option (Bool)
 | 0, _, _, _ => none
 | k + 1, x0, x1, x5 => if x5 < (x0.length : Int) then (if 0 ≤ x5 then (if (rd x0 x5) < 0 then (some false) else (if (rd x0 x5) ≥ x1 then (some false) else (if x5 > 0 then (if 0 ≤ (wrap64 (x5 - 1)) then (if (wrap64 (x5 - 1)) < (x0.length : Int) then (if (rd x0 x5) ≤ (rd x0 (wrap64 (x5 - 1))) then (some false) else (spec_l8Places.l0 k x0 x1 (wrap64 (x5 + 1)))) else (none)) else (none)) else (spec_l8Places.l0 k x0 x1 (wrap64 (x5 + 1)))))) else (none)) else (some (decide ((x0.length : Int) > 0)))
def spec_l8Places.f (k : Nat) (l0 : List Int) (a1 : Int) : Option (Bool) := spec_l8Places.l0 k l0 a1 0
theorem q12_1 {p : Prop} (h : p := by first | (with_reducible assumption) | assumption) : p := h
set_option maxHeartbeats 8000000 in
set_option maxRecDepth 100000 in
theorem spec_l8Places.calls (k : Nat) (A0 : Option Addr) (c0 : Nat) (l0 : List Int) (a1 : Int) (r : Bool) (w : World) (hr0 : Kd.C (Kd.int .i64) w A0 l0.length l0) (hc0 : l0.length ≤ c0) (h : spec_l8Places.f k l0 a1 = some r) :
  Calls Tryd.prog 12 #[.slice A0 l0.length c0, .int .i64 a1] w fun e w' => e = .returned (.bool r) ∧ Drawn0 w w' := by
 have HR0 := z0 hr0
 have HC0 := z0 hc0
 clear hr0 hc0
 have H : (spec_l8Places.l0 k l0 a1 0) = some r := h
 clear h
 have H' := z0 H
 clear H
 go_enter Tryd.func12, Tryd.ntmps12
 go_wp2
 repeat (go_quiet (fail); try go_wp2)
 go_loopg [5] k (fun kq v5 w' => ∃ (x5_1 : Int), v5 = .int .i64 x5_1 ∧ Aside0 (spec_l8Places.l0 kq l0 a1 x5_1 = some r) ∧ Aside0 (kq ≤ k) ∧ Drawn0 w w')
 case atStart => exact ⟨(0), rfy, H', ⟨Nat.le_refl _⟩, by repeat (first | exact Drawn0.refl _ | apply Drawn0.step)⟩
 case round =>
  clear H'
  skip
  obtain ⟨x5_1, rfl, HA, HK1, ⟨m1, rfl⟩⟩ := hrel
  cases gk with
  | zero => exact absurd HA.out (by simp [spec_l8Places.l0])
  | succ k1 =>
   have H := HA.out
   clear HA
   simp only [spec_l8Places.l0] at H
   by_cases c3 : x5_1 < (l0.length : Int)
   ·rw [if_pos c3] at H
    have c3b0 : decide (x5_1 < (l0.length : Int)) = true := decide_eq_true c3
    clear c3
    by_cases c4 : 0 ≤ x5_1
    ·rw [if_pos c4] at H
     have c4b0 : decide (0 ≤ x5_1) = true := decide_eq_true c4
     clear c4
     by_cases c5 : (rd l0 x5_1) < 0
     ·rw [if_pos c5] at H
      have c5b0 : decide ((rd l0 x5_1) < 0) = true := decide_eq_true c5
      clear c5
      obtain rfl := Option.some.inj H
      have p409 : 0 ≤ (x5_1 : Int) := of_decide_eq_true q12_1
      have q409 : x5_1 < (l0.length : Int) := of_decide_eq_true q12_1
      obtain ⟨ad409, e409, hx409_0⟩ := Kd.at_int HR0.out x5_1 p409 q409
      cases e409
      replace p409 := eq_true p409
      replace q409 := eq_true q409
      go_wp2
      repeat (go_quiet (fail); try go_wp2)
      go_ret
      exact ⟨by first | rfl | (simp; done) | (simp [*]; done), by repeat (first | exact Drawn0.refl _ | apply Drawn0.step)⟩
     ·rw [if_neg c5] at H
      have c5b0 : decide ((rd l0 x5_1) < 0) = false := decide_eq_false c5
      clear c5
      by_cases c6 : (rd l0 x5_1) ≥ a1
      ·rw [if_pos c6] at H
       have c6b0 : decide (a1 ≤ (rd l0 x5_1)) = true := decide_eq_true c6
       clear c6
       obtain rfl := Option.some.inj H
       have p409 : 0 ≤ (x5_1 : Int) := of_decide_eq_true q12_1
       have q409 : x5_1 < (l0.length : Int) := of_decide_eq_true q12_1
       obtain ⟨ad409, e409, hx409_0⟩ := Kd.at_int HR0.out x5_1 p409 q409
       cases e409
       replace p409 := eq_true p409
       replace q409 := eq_true q409
       have p410 : 0 ≤ (x5_1 : Int) := of_decide_eq_true q12_1
       have q410 : x5_1 < (l0.length : Int) := of_decide_eq_true q12_1
       obtain ⟨ad410, e410, hx410_0⟩ := Kd.at_int HR0.out x5_1 p410 q410
       obtain rfl : ad409 = ad410 := (by injection e410)
       replace p410 := eq_true p410
       replace q410 := eq_true q410
       go_wp2
       repeat (go_quiet (fail); try go_wp2)
       go_ret
       exact ⟨by first | rfl | (simp; done) | (simp [*]; done), by repeat (first | exact Drawn0.refl _ | apply Drawn0.step)⟩
      ·rw [if_neg c6] at H
       have c6b0 : decide (a1 ≤ (rd l0 x5_1)) = false := decide_eq_false c6
       clear c6
       by_cases c7 : x5_1 > 0
       ·rw [if_pos c7] at H
        have c7b0 : decide (0 < x5_1) = true := decide_eq_true c7
        clear c7
        obtain ⟨ji8, hji8⟩ : ∃ j_ : Int, (wrap64 (x5_1 - 1)) = j_ := ⟨_, rfl⟩
        replace H : (if 0 ≤ (ji8) then (if (ji8) < (l0.length : Int) then (if (rd l0 x5_1) ≤ (rd l0 (ji8)) then (some false) else (spec_l8Places.l0 k1 l0 a1 (wrap64 (x5_1 + 1)))) else (none)) else (none)) = some r := by first | (rw [hji8] at H; exact H) | (simp only [hji8] at H ⊢; exact H)
        have hji8w : (IntKind.i64.wrap (x5_1 - 1)) = ji8 := (i64_w _).trans hji8
        by_cases c9 : 0 ≤ (ji8)
        ·rw [if_pos c9] at H
         have c9b0 : decide (0 ≤ (ji8)) = true := decide_eq_true c9
         clear c9
         by_cases c10 : (ji8) < (l0.length : Int)
         ·rw [if_pos c10] at H
          have c10b0 : decide ((ji8) < (l0.length : Int)) = true := decide_eq_true c10
          clear c10
          by_cases c11 : (rd l0 x5_1) ≤ (rd l0 (ji8))
          ·rw [if_pos c11] at H
           have c11b0 : decide ((rd l0 x5_1) ≤ (rd l0 (ji8))) = true := decide_eq_true c11
           clear c11
           obtain rfl := Option.some.inj H
           have p409 : 0 ≤ (x5_1 : Int) := of_decide_eq_true q12_1
           have q409 : x5_1 < (l0.length : Int) := of_decide_eq_true q12_1
           obtain ⟨ad409, e409, hx409_0⟩ := Kd.at_int HR0.out x5_1 p409 q409
           cases e409
           replace p409 := eq_true p409
           replace q409 := eq_true q409
           have p410 : 0 ≤ (x5_1 : Int) := of_decide_eq_true q12_1
           have q410 : x5_1 < (l0.length : Int) := of_decide_eq_true q12_1
           obtain ⟨ad410, e410, hx410_0⟩ := Kd.at_int HR0.out x5_1 p410 q410
           obtain rfl : ad409 = ad410 := (by injection e410)
           replace p410 := eq_true p410
           replace q410 := eq_true q410
           have p411 : 0 ≤ (x5_1 : Int) := of_decide_eq_true q12_1
           have q411 : x5_1 < (l0.length : Int) := of_decide_eq_true q12_1
           obtain ⟨ad411, e411, hx411_0⟩ := Kd.at_int HR0.out x5_1 p411 q411
           obtain rfl : ad409 = ad411 := (by injection e411)
           replace p411 := eq_true p411
           replace q411 := eq_true q411
           have p412 : 0 ≤ ((ji8) : Int) := of_decide_eq_true q12_1
           have q412 : (ji8) < (l0.length : Int) := of_decide_eq_true q12_1
           obtain ⟨ad412, e412, hx412_0⟩ := Kd.at_int HR0.out (ji8) p412 q412
           obtain rfl : ad409 = ad412 := (by injection e412)
           replace p412 := eq_true p412
           replace q412 := eq_true q412
           go_wp2
           repeat (go_quiet (fail); try go_wp2)
           go_ret
           exact ⟨by first | rfl | (simp; done) | (simp only [← hji8] <;> (first | rfl | simp)) | (simp [*]; done), by repeat (first | exact Drawn0.refl _ | apply Drawn0.step)⟩
          ·rw [if_neg c11] at H
           have c11b0 : decide ((rd l0 x5_1) ≤ (rd l0 (ji8))) = false := decide_eq_false c11
           clear c11
           have H' := z0 H
           clear H
           have p409 : 0 ≤ (x5_1 : Int) := of_decide_eq_true q12_1
           have q409 : x5_1 < (l0.length : Int) := of_decide_eq_true q12_1
           obtain ⟨ad409, e409, hx409_0⟩ := Kd.at_int HR0.out x5_1 p409 q409
           cases e409
           replace p409 := eq_true p409
           replace q409 := eq_true q409
           have p410 : 0 ≤ (x5_1 : Int) := of_decide_eq_true q12_1
           have q410 : x5_1 < (l0.length : Int) := of_decide_eq_true q12_1
           obtain ⟨ad410, e410, hx410_0⟩ := Kd.at_int HR0.out x5_1 p410 q410
           obtain rfl : ad409 = ad410 := (by injection e410)
           replace p410 := eq_true p410
           replace q410 := eq_true q410
           have p411 : 0 ≤ (x5_1 : Int) := of_decide_eq_true q12_1
           have q411 : x5_1 < (l0.length : Int) := of_decide_eq_true q12_1
           obtain ⟨ad411, e411, hx411_0⟩ := Kd.at_int HR0.out x5_1 p411 q411
           obtain rfl : ad409 = ad411 := (by injection e411)
           replace p411 := eq_true p411
           replace q411 := eq_true q411
           have p412 : 0 ≤ ((ji8) : Int) := of_decide_eq_true q12_1
           have q412 : (ji8) < (l0.length : Int) := of_decide_eq_true q12_1
           obtain ⟨ad412, e412, hx412_0⟩ := Kd.at_int HR0.out (ji8) p412 q412
           obtain rfl : ad409 = ad412 := (by injection e412)
           replace p412 := eq_true p412
           replace q412 := eq_true q412
           go_wp2
           repeat (go_quiet (fail); try go_wp2)
           go_roundg k1
           case measure => have := HK1.out; omega
           case rel => exact ⟨(wrap64 (x5_1 + 1)), rfy, H', ⟨by have := HK1.out; omega⟩, by repeat (first | exact Drawn0.refl _ | apply Drawn0.step)⟩
         ·rw [if_neg c10] at H
          exact absurd H (by simp)
        ·rw [if_neg c9] at H
         exact absurd H (by simp)
       ·rw [if_neg c7] at H
        have c7b0 : decide (0 < x5_1) = false := decide_eq_false c7
        clear c7
        have H' := z0 H
        clear H
        have p409 : 0 ≤ (x5_1 : Int) := of_decide_eq_true q12_1
        have q409 : x5_1 < (l0.length : Int) := of_decide_eq_true q12_1
        obtain ⟨ad409, e409, hx409_0⟩ := Kd.at_int HR0.out x5_1 p409 q409
        cases e409
        replace p409 := eq_true p409
        replace q409 := eq_true q409
        have p410 : 0 ≤ (x5_1 : Int) := of_decide_eq_true q12_1
        have q410 : x5_1 < (l0.length : Int) := of_decide_eq_true q12_1
        obtain ⟨ad410, e410, hx410_0⟩ := Kd.at_int HR0.out x5_1 p410 q410
        obtain rfl : ad409 = ad410 := (by injection e410)
        replace p410 := eq_true p410
        replace q410 := eq_true q410
        go_wp2
        repeat (go_quiet (fail); try go_wp2)
        go_roundg k1
        case measure => have := HK1.out; omega
        case rel => exact ⟨(wrap64 (x5_1 + 1)), rfy, H', ⟨by have := HK1.out; omega⟩, by repeat (first | exact Drawn0.refl _ | apply Drawn0.step)⟩
    ·rw [if_neg c4] at H
     exact absurd H (by simp)
   ·rw [if_neg c3] at H
    have c3b0 : decide (x5_1 < (l0.length : Int)) = false := decide_eq_false c3
    clear c3
    obtain rfl := Option.some.inj H
    go_wp2
    repeat (go_quiet (fail); try go_wp2)
    go_ret
    exact ⟨by first | rfl | (simp; done) | (simp [*]; done), by repeat (first | exact Drawn0.refl _ | apply Drawn0.step)⟩

/-! ### spec_ChartOk: function 6 -/
mutual
def spec_ChartOk.j0 : Nat → Bool → Int → List (S37) → List (S39) → Option (Bool)
 | 0, _, _, _, _ => none
 | k + 1, x26, x414000, x414001, x414002 => if x26 = true then (some false) else (spec_ChartOk.l0 k 0 x414000 x414001 x414002)
def spec_ChartOk.l0 : Nat → Int → Int → List (S37) → List (S39) → Option (Bool)
 | 0, _, _, _, _ => none
 | k + 1, x3, x414000, x414001, x414002 => if x3 < (x414001.length : Int) then (if 0 ≤ x3 then ((spec_l8Places.f k ((rd_T37 x414001 x3).f0) x414000).bind fun t416 => (if t416 = true then ((spec_l8Places.f k ((rd_T37 x414001 x3).f1) x414000).bind fun t417 => (if t417 = true then ((spec_ExprOk.f k ((rd_T37 x414001 x3).f2.f0) ((rd_T37 x414001 x3).f2.f1) ((rd_T37 x414001 x3).f2.f2.f0) ((rd_T37 x414001 x3).f2.f2.f1) ((rd_T37 x414001 x3).f2.f3)).bind fun t418 => (if t418 = true then (spec_ChartOk.l0 k (wrap64 (x3 + 1)) x414000 x414001 x414002) else (some false))) else (some false))) else (some false))) else (none)) else (spec_ChartOk.l1 k 0 x414000 x414001 x414002)
def spec_ChartOk.l1 : Nat → Int → Int → List (S37) → List (S39) → Option (Bool)
 | 0, _, _, _, _ => none
 | k + 1, x5, x414000, x414001, x414002 => if x5 < (x414002.length : Int) then (if 0 ≤ x5 then (if ((rd_T39 x414002 x5).f0) < 1 then (some false) else (if ((rd_T39 x414002 x5).f0) > 4 then (some false) else (if ((rd_T39 x414002 x5).f1) < 0 then (some false) else (if ((rd_T39 x414002 x5).f1) ≥ x414000 then (some false) else ((spec_AddrOk.f ((rd_T39 x414002 x5).f2.f0) ((rd_T39 x414002 x5).f2.f1)).bind fun t421 => (if t421 = true then (if ((rd_T39 x414002 x5).f2.f0) = 2 then (spec_ChartOk.l1 k (wrap64 (x5 + 1)) x414000 x414001 x414002) else (some false)) else (some false))))))) else (none)) else (some true)
end
def spec_ChartOk.f (k : Nat) (a0_0 : Int) (l0_1 : List (S37)) (l0_2 : List (S39)) : Option (Bool) := if a0_0 < 1 then (spec_ChartOk.j0 k true a0_0 l0_1 l0_2) else (if a0_0 > 6 then (spec_ChartOk.j0 k true a0_0 l0_1 l0_2) else (if (l0_1.length : Int) > 6 then (spec_ChartOk.j0 k true a0_0 l0_1 l0_2) else (spec_ChartOk.j0 k (decide ((l0_2.length : Int) > 6)) a0_0 l0_1 l0_2)))
theorem q6_1 {p : Prop} (h : p := by (with_reducible repeat (first | refine blk_drewN ?_ _ | refine blk_drew ?_ | refine blk_alloc ?_ _)); refine blk_put (cs := #[.int .i64 ((rd_T39 l0_2 x5_3).f0), .int .i64 ((rd_T39 l0_2 x5_3).f1), .int .i64 ((rd_T39 l0_2 x5_3).f2.f0), .int .i64 0]) ?_ 3 _ rfl; (with_reducible repeat (first | refine blk_drewN ?_ _ | refine blk_drew ?_ | refine blk_alloc ?_ _)); refine blk_put (cs := #[.int .i64 ((rd_T39 l0_2 x5_3).f0), .int .i64 ((rd_T39 l0_2 x5_3).f1), .int .i64 0, .int .i64 0]) ?_ 2 _ rfl; (with_reducible repeat (first | refine blk_drewN ?_ _ | refine blk_drew ?_ | refine blk_alloc ?_ _)); refine blk_put (cs := #[.int .i64 ((rd_T39 l0_2 x5_3).f0), .int .i64 0, .int .i64 0, .int .i64 0]) ?_ 1 _ rfl; (with_reducible repeat (first | refine blk_drewN ?_ _ | refine blk_drew ?_ | refine blk_alloc ?_ _)); refine blk_put (cs := #[.int .i64 0, .int .i64 0, .int .i64 0, .int .i64 0]) ?_ 0 _ rfl; (with_reducible repeat (first | refine blk_drewN ?_ _ | refine blk_drew ?_ | refine blk_alloc ?_ _)); exact BK420.out) : p := h
set_option maxHeartbeats 8000000 in
set_option maxRecDepth 100000 in
theorem spec_ChartOk.calls (k : Nat) (a0_0 : Int) (A0_1 : Option Addr) (c0_1 : Nat) (l0_1 : List (S37)) (A0_2 : Option Addr) (c0_2 : Nat) (l0_2 : List (S39)) (r : Bool) (w : World) (hr0_1 : Kd.C k37 w A0_1 l0_1.length l0_1) (hc0_1 : l0_1.length ≤ c0_1) (hr0_2 : Kd.C k39 w A0_2 l0_2.length l0_2) (hc0_2 : l0_2.length ≤ c0_2) (h : spec_ChartOk.f k a0_0 l0_1 l0_2 = some r) :
  Calls Tryd.prog 6 #[.agg #[.int .i64 a0_0, .slice A0_1 l0_1.length c0_1, .slice A0_2 l0_2.length c0_2]] w fun e w' => e = .returned (.bool r) ∧ Below w.heap.size w w' := by
 have hu26 := Tryd.underlying26
 have hu37 := Tryd.underlying37
 have hu34 := Tryd.underlying34
 have hu39 := Tryd.underlying39
 have hu31 := Tryd.underlying31
 have HR0_1 := z0 hr0_1
 have HC0_1 := z0 hc0_1
 clear hr0_1 hc0_1
 have HR0_2 := z0 hr0_2
 have HC0_2 := z0 hc0_2
 clear hr0_2 hc0_2
 have HB := z0 (Below.refl w.heap.size w)
 have H : (if a0_0 < 1 then (spec_ChartOk.j0 k true a0_0 l0_1 l0_2) else (if a0_0 > 6 then (spec_ChartOk.j0 k true a0_0 l0_1 l0_2) else (if (l0_1.length : Int) > 6 then (spec_ChartOk.j0 k true a0_0 l0_1 l0_2) else (spec_ChartOk.j0 k (decide ((l0_2.length : Int) > 6)) a0_0 l0_1 l0_2)))) = some r := h
 clear h
 have HC2 := z0 H
 clear H
 go_enter Tryd.func6, Tryd.ntmps6
 go_upto_region 1 with (first | ((with_reducible refine gate_dst (N := 1) rfl ?_); (try (refine gate_guard (by rfl) ?_; dsimp only)); refine box_event ?hg (N := 1) ?hd (cs := #[.int .i64 a0_0, .slice A0_1 l0_1.length c0_1, .slice A0_2 l0_2.length c0_2]) (t := 26) ?hr ?_; (case hd => rfl); (case hg => rfl); (case hr => first | (go_simp; done) | (go_simp; rfl)); intro gb413 hg w3 hbox hb; have n_ := az (below_step (mB HB.out) hb) <| az (hbox) <| az ((by rw [hg]; exact (below_size (mB HB.out)) : w.heap.size ≤ gb413)) <| z0 ((by rw [hg]; exact (below_size (mB HB.out)) : w.heap.size ≤ gb413)); clear HB; obtain ⟨HB, BK413, GW413, GE413⟩ := n_; clear hb hbox hg))
 (try simp only [Act.put, List.setIfInBounds_toArray, List.set_cons_zero, List.set_cons_succ])
 go_cut [26] (fun v26 wc => ∃ (kq : Nat) (x26_1 : Bool), v26 = .bool x26_1 ∧ Aside0 (spec_ChartOk.j0 kq x26_1 a0_0 l0_1 l0_2 = some r) ∧ Aside0 (kq ≤ k) ∧ Aside0 (wc.heap[gb413]? = some (.cells #[.int .i64 a0_0, (.slice A0_1 l0_1.length c0_1), (.slice A0_2 l0_2.length c0_2)] 26 (0, 0))) ∧ Aside0 (Below w.heap.size w wc))
 case first =>
  have H := HC2.out
  clear HC2
  by_cases c4 : a0_0 < 1
  ·rw [if_pos c4] at H
   have c4b0 : decide (a0_0 < 1) = true := decide_eq_true c4
   clear c4
   (first | rw [c4b0] | (simp only [i64_w, i32_w]; rw [c4b0]) | skip)
   have H' := z0 H
   clear H
   obtain ⟨hcz5_0, hcz5_1, hcz5_2, hfz5_0, hfz5_1, hfz5_2⟩ := cel3 BK413.out
   go_wp2
   go_meet
   case rel => exact ⟨_, (true), rfy, H', ⟨by first | omega | exact Nat.le_refl _⟩, ⟨mK BK413.out⟩, ⟨mB HB.out⟩⟩
  ·rw [if_neg c4] at H
   have c4b0 : decide (a0_0 < 1) = false := decide_eq_false c4
   clear c4
   (first | rw [c4b0] | (simp only [i64_w, i32_w]; rw [c4b0]) | skip)
   by_cases c6 : a0_0 > 6
   ·rw [if_pos c6] at H
    have c6b0 : decide (6 < a0_0) = true := decide_eq_true c6
    clear c6
    have H' := z0 H
    clear H
    obtain ⟨hcz7_0, hcz7_1, hcz7_2, hfz7_0, hfz7_1, hfz7_2⟩ := cel3 BK413.out
    go_wp2
    go_meet
    case rel => exact ⟨_, (true), rfy, H', ⟨by first | omega | exact Nat.le_refl _⟩, ⟨mK BK413.out⟩, ⟨mB HB.out⟩⟩
   ·rw [if_neg c6] at H
    have c6b0 : decide (6 < a0_0) = false := decide_eq_false c6
    clear c6
    by_cases c8 : (l0_1.length : Int) > 6
    ·rw [if_pos c8] at H
     have c8b0 : decide (6 < (l0_1.length : Int)) = true := decide_eq_true c8
     have c8b1 : decide (6 < l0_1.length) = true := decide_eq_true (by omega)
     clear c8
     have H' := z0 H
     clear H
     obtain ⟨hcz9_0, hcz9_1, hcz9_2, hfz9_0, hfz9_1, hfz9_2⟩ := cel3 BK413.out
     go_wp2
     go_meet
     case rel => exact ⟨_, (true), rfy, H', ⟨by first | omega | exact Nat.le_refl _⟩, ⟨mK BK413.out⟩, ⟨mB HB.out⟩⟩
    ·rw [if_neg c8] at H
     have c8b0 : decide (6 < (l0_1.length : Int)) = false := decide_eq_false c8
     have c8b1 : decide (6 < l0_1.length) = false := decide_eq_false (by omega)
     clear c8
     have H' := z0 H
     clear H
     obtain ⟨hcz10_0, hcz10_1, hcz10_2, hfz10_0, hfz10_1, hfz10_2⟩ := cel3 BK413.out
     go_wp2
     go_meet
     case rel => exact ⟨_, (decide ((l0_2.length : Int) > 6)), rfy, H', ⟨by first | omega | exact Nat.le_refl _⟩, ⟨mK BK413.out⟩, ⟨mB HB.out⟩⟩
 case rest =>
  clear HC2
  skip
  obtain ⟨kq, x26_1, rfl, HA, HJ1, BK413, HB⟩ := hcut
  cases kq with
  | zero => exact absurd HA.out (by simp [spec_ChartOk.j0])
  | succ kj1 =>
   have H := HA.out
   clear HA
   simp only [spec_ChartOk.j0] at H
   by_cases c11 : x26_1 = true
   ·subst c11
    have H1 : (some false) = some r := by rw [if_pos rfl] at H; exact H
    clear H
    have H := H1
    clear H1
    obtain rfl := Option.some.inj H
    go_wp2
    go_ret
    exact ⟨rfx, mB HB.out⟩
   ·replace c11 := Bool.eq_false_iff.mpr c11
    subst c11
    have H1 : (spec_ChartOk.l0 kj1 0 a0_0 l0_1 l0_2) = some r := by rw [if_neg (show ¬ (false = true) by decide)] at H; exact H
    clear H
    have H := H1
    clear H1
    have H' := z0 H
    clear H
    go_wp2
    go_loopg [3] kj1 (fun kq v3 w' => ∃ (x3_2 : Int), v3 = .int .i64 x3_2 ∧ Aside0 (spec_ChartOk.l0 kq x3_2 a0_0 l0_1 l0_2 = some r) ∧ Aside0 (kq ≤ kj1) ∧ Aside0 (w'.heap[gb413]? = some (.cells #[.int .i64 a0_0, (.slice A0_1 l0_1.length c0_1), (.slice A0_2 l0_2.length c0_2)] 26 (0, 0))) ∧ Aside0 (Below w.heap.size w w'))
    case atStart => exact ⟨(0), rfy, H', ⟨Nat.le_refl _⟩, ⟨mK BK413.out⟩, ⟨mB HB.out⟩⟩
    case round =>
     clear H'
     (try clear c11)
     obtain ⟨x3_2, rfl, HA, HK2, BK413, HB⟩ := hrel
     cases gk with
     | zero => exact absurd HA.out (by simp [spec_ChartOk.l0])
     | succ k2 =>
      have H := HA.out
      clear HA
      simp only [spec_ChartOk.l0] at H
      by_cases c12 : x3_2 < (l0_1.length : Int)
      ·rw [if_pos c12] at H
       have c12b0 : decide (x3_2 < (l0_1.length : Int)) = true := decide_eq_true c12
       clear c12
       by_cases c13 : 0 ≤ x3_2
       ·rw [if_pos c13] at H
        have c13b0 : decide (0 ≤ x3_2) = true := decide_eq_true c13
        clear c13
        have HF14 := z0 H
        clear H
        obtain ⟨hcz15_0, hcz15_1, hcz15_2, hfz15_0, hfz15_1, hfz15_2⟩ := cel3 BK413.out
        have p414 : 0 ≤ (x3_2 : Int) := of_decide_eq_true (by first | (with_reducible assumption) | assumption)
        have q414 : x3_2 < (l0_1.length : Int) := of_decide_eq_true (by first | (with_reducible assumption) | assumption)
        obtain ⟨ad414, A414_0, c414_0, A414_1, c414_1, A414_6, c414_6, e414, hx414_0, hx414_1, hx414_2, hx414_3, hx414_4, hx414_5, hx414_6, hl414_0, hi414_0, hl414_1, hi414_1, hl414_6, hi414_6⟩ := at_T37 HR0_1.out x3_2 p414 q414
        cases e414
        replace hx414_0 := (HB.out.cell (World.block_lt_of_cell? w _ hx414_0)).trans hx414_0
        replace hx414_1 := (HB.out.cell (World.block_lt_of_cell? w _ hx414_1)).trans hx414_1
        replace hx414_2 := (HB.out.cell (World.block_lt_of_cell? w _ hx414_2)).trans hx414_2
        replace hx414_3 := (HB.out.cell (World.block_lt_of_cell? w _ hx414_3)).trans hx414_3
        replace hx414_4 := (HB.out.cell (World.block_lt_of_cell? w _ hx414_4)).trans hx414_4
        replace hx414_5 := (HB.out.cell (World.block_lt_of_cell? w _ hx414_5)).trans hx414_5
        replace hx414_6 := (HB.out.cell (World.block_lt_of_cell? w _ hx414_6)).trans hx414_6
        have HR414_0 := z0 hi414_0
        have HC414_0 := z0 hl414_0
        clear hi414_0 hl414_0
        have HR414_1 := z0 hi414_1
        have HC414_1 := z0 hl414_1
        clear hi414_1 hl414_1
        have HR414_6 := z0 hi414_6
        have HC414_6 := z0 hl414_6
        clear hi414_6 hl414_6
        replace p414 := eq_true p414
        replace q414 := eq_true q414
        go_upto_region 7 with (first | ((with_reducible refine gate_dst (N := 4) rfl ?_); (try (refine gate_guard (by rfl) ?_; dsimp only)); refine box_event ?hg (N := 4) ?hd (cs := #[.slice none 0 0, .slice none 0 0, .int .i64 0, .int .i64 0, .int .i64 0, .int .i64 0, .slice none 0 0]) (t := 37) ?hr ?_; (case hd => rfl); (case hg => rfl); (case hr => first | (go_simp; done) | (go_simp; rfl)); intro gb415 hg w16 hbox hb; have n_ := az (bB BK413.out hb) <| az (below_step (mB HB.out) hb) <| az (hbox) <| az ((by rw [hg]; exact (below_size (mB HB.out)) : w.heap.size ≤ gb415)) <| az ((by rw [hg]; exact (below_size (mB HB.out)) : w.heap.size ≤ gb415)) <| az ((nL hg BK413.out)) <| z0 ((nG hg BK413.out)); clear BK413 HB; obtain ⟨BK413, HB, BK415, GW415, GE415, NB413_415, NB415_413⟩ := n_; clear hb hbox hg; have hnb17 := NB415_413.out; have hnc17 := NB413_415.out; obtain ⟨hcz18_0, hcz18_1, hcz18_2, hcz18_3, hcz18_4, hcz18_5, hcz18_6, hfz18_0, hfz18_1, hfz18_2, hfz18_3, hfz18_4, hfz18_5, hfz18_6⟩ := cel7 BK415.out))
        (try simp only [Act.put, List.setIfInBounds_toArray, List.set_cons_zero, List.set_cons_succ])
        have H := HF14.out
        clear HF14
        (try clear c11); (try clear c12); (try clear c12b0); (try clear c13); (try clear c13b0); (try clear hcz15_0); (try clear hcz15_1); (try clear hcz15_2); (try clear hcz18_0); (try clear hcz18_1); (try clear hcz18_2); (try clear hcz18_3); (try clear hcz18_4); (try clear hcz18_5); (try clear hcz18_6); (try clear hfz15_0); (try clear hfz15_1); (try clear hfz15_2); (try clear hfz18_0); (try clear hfz18_1); (try clear hfz18_2); (try clear hfz18_3); (try clear hfz18_4); (try clear hfz18_5); (try clear hfz18_6); (try clear hx414_0); (try clear hx414_1); (try clear hx414_2); (try clear hx414_3); (try clear hx414_4); (try clear hx414_5); (try clear hx414_6); (try clear p414); (try clear q414)
        replace H := Option.bind_eq_some_iff.mp H
        obtain ⟨t416, A190, H⟩ := H
        try dsimp only at H
        have A19 := z0 A190
        clear A190
        by_cases c20 : t416 = true
        ·subst c20
         have H1 : ((spec_l8Places.f k2 ((rd_T37 l0_1 x3_2).f1) a0_0).bind fun t417 => (if t417 = true then ((spec_ExprOk.f k2 ((rd_T37 l0_1 x3_2).f2.f0) ((rd_T37 l0_1 x3_2).f2.f1) ((rd_T37 l0_1 x3_2).f2.f2.f0) ((rd_T37 l0_1 x3_2).f2.f2.f1) ((rd_T37 l0_1 x3_2).f2.f3)).bind fun t418 => (if t418 = true then (spec_ChartOk.l0 k2 (wrap64 (x3_2 + 1)) a0_0 l0_1 l0_2) else (some false))) else (some false))) = some r := by rw [if_pos rfl] at H; exact H
         clear H
         have H := H1
         clear H1
         replace H := Option.bind_eq_some_iff.mp H
         obtain ⟨t417, A210, H⟩ := H
         try dsimp only at H
         have A21 := z0 A210
         clear A210
         by_cases c22 : t417 = true
         ·subst c22
          have H1 : ((spec_ExprOk.f k2 ((rd_T37 l0_1 x3_2).f2.f0) ((rd_T37 l0_1 x3_2).f2.f1) ((rd_T37 l0_1 x3_2).f2.f2.f0) ((rd_T37 l0_1 x3_2).f2.f2.f1) ((rd_T37 l0_1 x3_2).f2.f3)).bind fun t418 => (if t418 = true then (spec_ChartOk.l0 k2 (wrap64 (x3_2 + 1)) a0_0 l0_1 l0_2) else (some false))) = some r := by rw [if_pos rfl] at H; exact H
          clear H
          have H := H1
          clear H1
          replace H := Option.bind_eq_some_iff.mp H
          obtain ⟨t418, A230, H⟩ := H
          try dsimp only at H
          have A23 := z0 A230
          clear A230
          have HF24 := z0 H
          clear H
          have hnb25 := NB415_413.out
          have hnc25 := NB413_415.out
          obtain ⟨hcz26_0, hcz26_1, hcz26_2, hcz26_3, hcz26_4, hcz26_5, hcz26_6, hfz26_0, hfz26_1, hfz26_2, hfz26_3, hfz26_4, hfz26_5, hfz26_6⟩ := cel7 BK415.out
          obtain ⟨hcz27_0, hcz27_1, hcz27_2, hfz27_0, hfz27_1, hfz27_2⟩ := cel3 BK413.out
          go_upto_if 58 with (first | ((with_reducible refine gate_callee (f := 12) rfl ?_); refine goesL_ (some 43) rfl rfl Tryd.func12 (by kernel_rfl) rfl #[.slice A414_0 ((rd_T37 l0_1 x3_2).f0).length c414_0, .int .i64 a0_0] rfl argx ?_; (with_reducible refine (spec_l8Places.calls k2 _ _ ((rd_T37 l0_1 x3_2).f0) a0_0 true _ ?side1 ?side2 A19.out).mono ?_); (case side1 => exact Kd.C_below HR414_0.out (mB HB.out)); (case side2 => exact HC414_0.out); rintro e w' ⟨rfl, ⟨nd, rfl⟩⟩; refine ⟨_, rfl, ?_⟩) | (go_at_call 12; (with_reducible refine (spec_l8Places.calls k2 _ _ ((rd_T37 l0_1 x3_2).f1) a0_0 true _ ?side1 ?side2 A21.out).mono ?_); (case side1 => exact Kd.C_below HR414_1.out (mB HB.out)); (case side2 => exact HC414_1.out); rintro e w' ⟨rfl, ⟨nd, rfl⟩⟩) | (go_at_call 13; (with_reducible refine (spec_ExprOk.calls k2 ((rd_T37 l0_1 x3_2).f2.f0) ((rd_T37 l0_1 x3_2).f2.f1) ((rd_T37 l0_1 x3_2).f2.f2.f0) ((rd_T37 l0_1 x3_2).f2.f2.f1) _ _ ((rd_T37 l0_1 x3_2).f2.f3) t418 _ ?side1 ?side2 A23.out).mono ?_); (case side1 => exact Kd.C_below HR414_6.out (mB HB.out)); (case side2 => exact HC414_6.out); rintro e w28 ⟨rfl, hb⟩; have n_ := az (blk_below (g := gb413) (o := .cells #[.int .i64 a0_0, .slice (some ad414) l0_1.length c0_1, .slice A0_2 l0_2.length c0_2] 26 (0, 0)) (mF BK413.out) hb) <| az (blk_below (g := gb415) (o := .cells #[.slice A414_0 ((rd_T37 l0_1 x3_2).f0).length c414_0, .slice A414_1 ((rd_T37 l0_1 x3_2).f1).length c414_1, .int .i64 ((rd_T37 l0_1 x3_2).f2.f0), .int .i64 ((rd_T37 l0_1 x3_2).f2.f1), .int .i64 ((rd_T37 l0_1 x3_2).f2.f2.f0), .int .i64 ((rd_T37 l0_1 x3_2).f2.f2.f1), .slice A414_6 ((rd_T37 l0_1 x3_2).f2.f3).length c414_6] 37 (0, 0)) (by (with_reducible repeat (first | refine blk_drewN ?_ _ | refine blk_drew ?_ | refine blk_alloc ?_ _)); refine blk_put (cs := #[.slice A414_0 ((rd_T37 l0_1 x3_2).f0).length c414_0, .slice A414_1 ((rd_T37 l0_1 x3_2).f1).length c414_1, .int .i64 ((rd_T37 l0_1 x3_2).f2.f0), .int .i64 ((rd_T37 l0_1 x3_2).f2.f1), .int .i64 ((rd_T37 l0_1 x3_2).f2.f2.f0), .int .i64 ((rd_T37 l0_1 x3_2).f2.f2.f1), .slice none 0 0]) ?_ 6 _ rfl; (with_reducible repeat (first | refine blk_drewN ?_ _ | refine blk_drew ?_ | refine blk_alloc ?_ _)); refine blk_put (cs := #[.slice A414_0 ((rd_T37 l0_1 x3_2).f0).length c414_0, .slice A414_1 ((rd_T37 l0_1 x3_2).f1).length c414_1, .int .i64 ((rd_T37 l0_1 x3_2).f2.f0), .int .i64 ((rd_T37 l0_1 x3_2).f2.f1), .int .i64 ((rd_T37 l0_1 x3_2).f2.f2.f0), .int .i64 0, .slice none 0 0]) ?_ 5 _ rfl; (with_reducible repeat (first | refine blk_drewN ?_ _ | refine blk_drew ?_ | refine blk_alloc ?_ _)); refine blk_put (cs := #[.slice A414_0 ((rd_T37 l0_1 x3_2).f0).length c414_0, .slice A414_1 ((rd_T37 l0_1 x3_2).f1).length c414_1, .int .i64 ((rd_T37 l0_1 x3_2).f2.f0), .int .i64 ((rd_T37 l0_1 x3_2).f2.f1), .int .i64 0, .int .i64 0, .slice none 0 0]) ?_ 4 _ rfl; (with_reducible repeat (first | refine blk_drewN ?_ _ | refine blk_drew ?_ | refine blk_alloc ?_ _)); refine blk_put (cs := #[.slice A414_0 ((rd_T37 l0_1 x3_2).f0).length c414_0, .slice A414_1 ((rd_T37 l0_1 x3_2).f1).length c414_1, .int .i64 ((rd_T37 l0_1 x3_2).f2.f0), .int .i64 0, .int .i64 0, .int .i64 0, .slice none 0 0]) ?_ 3 _ rfl; (with_reducible repeat (first | refine blk_drewN ?_ _ | refine blk_drew ?_ | refine blk_alloc ?_ _)); refine blk_put (cs := #[.slice A414_0 ((rd_T37 l0_1 x3_2).f0).length c414_0, .slice A414_1 ((rd_T37 l0_1 x3_2).f1).length c414_1, .int .i64 0, .int .i64 0, .int .i64 0, .int .i64 0, .slice none 0 0]) ?_ 2 _ rfl; (with_reducible repeat (first | refine blk_drewN ?_ _ | refine blk_drew ?_ | refine blk_alloc ?_ _)); refine blk_put (cs := #[.slice A414_0 ((rd_T37 l0_1 x3_2).f0).length c414_0, .slice none 0 0, .int .i64 0, .int .i64 0, .int .i64 0, .int .i64 0, .slice none 0 0]) ?_ 1 _ rfl; (with_reducible repeat (first | refine blk_drewN ?_ _ | refine blk_drew ?_ | refine blk_alloc ?_ _)); refine blk_put (cs := #[.slice none 0 0, .slice none 0 0, .int .i64 0, .int .i64 0, .int .i64 0, .int .i64 0, .slice none 0 0]) ?_ 0 _ rfl; (with_reducible repeat (first | refine blk_drewN ?_ _ | refine blk_drew ?_ | refine blk_alloc ?_ _)); exact BK415.out) hb) <| z0 (below_step (mB HB.out) hb); clear BK413 BK415 HB; obtain ⟨BK413, BK415, HB⟩ := n_; clear hb))
          (try simp only [Act.put, List.setIfInBounds_toArray, List.set_cons_zero, List.set_cons_succ])
          have H := HF24.out
          clear HF24
          (try clear c11); (try clear c12); (try clear c12b0); (try clear c13); (try clear c13b0); (try clear c20); (try clear c22); (try clear hcz15_0); (try clear hcz15_1); (try clear hcz15_2); (try clear hcz18_0); (try clear hcz18_1); (try clear hcz18_2); (try clear hcz18_3); (try clear hcz18_4); (try clear hcz18_5); (try clear hcz18_6); (try clear hcz26_0); (try clear hcz26_1); (try clear hcz26_2); (try clear hcz26_3); (try clear hcz26_4); (try clear hcz26_5); (try clear hcz26_6); (try clear hcz27_0); (try clear hcz27_1); (try clear hcz27_2); (try clear hfz15_0); (try clear hfz15_1); (try clear hfz15_2); (try clear hfz18_0); (try clear hfz18_1); (try clear hfz18_2); (try clear hfz18_3); (try clear hfz18_4); (try clear hfz18_5); (try clear hfz18_6); (try clear hfz26_0); (try clear hfz26_1); (try clear hfz26_2); (try clear hfz26_3); (try clear hfz26_4); (try clear hfz26_5); (try clear hfz26_6); (try clear hfz27_0); (try clear hfz27_1); (try clear hfz27_2); (try clear hx414_0); (try clear hx414_1); (try clear hx414_2); (try clear hx414_3); (try clear hx414_4); (try clear hx414_5); (try clear hx414_6); (try clear p414); (try clear q414)
          by_cases c29 : t418 = true
          ·subst c29
           have H1 : (spec_ChartOk.l0 k2 (wrap64 (x3_2 + 1)) a0_0 l0_1 l0_2) = some r := by rw [if_pos rfl] at H; exact H
           clear H
           have H := H1
           clear H1
           have H' := z0 H
           clear H
           go_wp2
           go_roundg k2
           case measure => have := HJ1.out; have := HK2.out; omega
           case rel => exact ⟨(wrap64 (x3_2 + 1)), rfy, H', ⟨by have := HJ1.out; have := HK2.out; omega⟩, ⟨mK BK413.out⟩, ⟨mB HB.out⟩⟩
          ·replace c29 := Bool.eq_false_iff.mpr c29
           subst c29
           have H1 : (some false) = some r := by rw [if_neg (show ¬ (false = true) by decide)] at H; exact H
           clear H
           have H := H1
           clear H1
           obtain rfl := Option.some.inj H
           go_wp2
           go_ret
           exact ⟨rfx, mB HB.out⟩
         ·replace c22 := Bool.eq_false_iff.mpr c22
          subst c22
          have H1 : (some false) = some r := by rw [if_neg (show ¬ (false = true) by decide)] at H; exact H
          clear H
          have H := H1
          clear H1
          obtain rfl := Option.some.inj H
          have hnb30 := NB415_413.out
          have hnc30 := NB413_415.out
          obtain ⟨hcz31_0, hcz31_1, hcz31_2, hcz31_3, hcz31_4, hcz31_5, hcz31_6, hfz31_0, hfz31_1, hfz31_2, hfz31_3, hfz31_4, hfz31_5, hfz31_6⟩ := cel7 BK415.out
          obtain ⟨hcz32_0, hcz32_1, hcz32_2, hfz32_0, hfz32_1, hfz32_2⟩ := cel3 BK413.out
          go_wp2_with (first | ((with_reducible refine gate_callee (f := 12) rfl ?_); refine goesL_ (some 43) rfl rfl Tryd.func12 (by kernel_rfl) rfl #[.slice A414_0 ((rd_T37 l0_1 x3_2).f0).length c414_0, .int .i64 a0_0] rfl argx ?_; (with_reducible refine (spec_l8Places.calls k2 _ _ ((rd_T37 l0_1 x3_2).f0) a0_0 true _ ?side1 ?side2 A19.out).mono ?_); (case side1 => exact Kd.C_below HR414_0.out (mB HB.out)); (case side2 => exact HC414_0.out); rintro e w' ⟨rfl, ⟨nd, rfl⟩⟩; refine ⟨_, rfl, ?_⟩) | (go_at_call 12; (with_reducible refine (spec_l8Places.calls k2 _ _ ((rd_T37 l0_1 x3_2).f1) a0_0 false _ ?side1 ?side2 A21.out).mono ?_); (case side1 => exact Kd.C_below HR414_1.out (mB HB.out)); (case side2 => exact HC414_1.out); rintro e w' ⟨rfl, ⟨nd, rfl⟩⟩))
          go_ret
          exact ⟨rfx, mB HB.out⟩
        ·replace c20 := Bool.eq_false_iff.mpr c20
         subst c20
         have H1 : (some false) = some r := by rw [if_neg (show ¬ (false = true) by decide)] at H; exact H
         clear H
         have H := H1
         clear H1
         obtain rfl := Option.some.inj H
         have hnb33 := NB415_413.out
         have hnc33 := NB413_415.out
         obtain ⟨hcz34_0, hcz34_1, hcz34_2, hcz34_3, hcz34_4, hcz34_5, hcz34_6, hfz34_0, hfz34_1, hfz34_2, hfz34_3, hfz34_4, hfz34_5, hfz34_6⟩ := cel7 BK415.out
         obtain ⟨hcz35_0, hcz35_1, hcz35_2, hfz35_0, hfz35_1, hfz35_2⟩ := cel3 BK413.out
         go_wp2_with (first | ((with_reducible refine gate_callee (f := 12) rfl ?_); refine goesL_ (some 43) rfl rfl Tryd.func12 (by kernel_rfl) rfl #[.slice A414_0 ((rd_T37 l0_1 x3_2).f0).length c414_0, .int .i64 a0_0] rfl argx ?_; (with_reducible refine (spec_l8Places.calls k2 _ _ ((rd_T37 l0_1 x3_2).f0) a0_0 false _ ?side1 ?side2 A19.out).mono ?_); (case side1 => exact Kd.C_below HR414_0.out (mB HB.out)); (case side2 => exact HC414_0.out); rintro e w' ⟨rfl, ⟨nd, rfl⟩⟩; refine ⟨_, rfl, ?_⟩))
         go_ret
         exact ⟨rfx, mB HB.out⟩
       ·rw [if_neg c13] at H
        exact absurd H (by simp)
      ·rw [if_neg c12] at H
       have c12b0 : decide (x3_2 < (l0_1.length : Int)) = false := decide_eq_false c12
       clear c12
       have H' := z0 H
       clear H
       obtain ⟨hcz36_0, hcz36_1, hcz36_2, hfz36_0, hfz36_1, hfz36_2⟩ := cel3 BK413.out
       go_wp2
       go_loopg [5] k2 (fun kq v5 w' => ∃ (x5_3 : Int), v5 = .int .i64 x5_3 ∧ Aside0 (spec_ChartOk.l1 kq x5_3 a0_0 l0_1 l0_2 = some r) ∧ Aside0 (kq ≤ k2) ∧ Aside0 (w'.heap[gb413]? = some (.cells #[.int .i64 a0_0, (.slice A0_1 l0_1.length c0_1), (.slice A0_2 l0_2.length c0_2)] 26 (0, 0))) ∧ Aside0 (Below w.heap.size w w'))
       case atStart => exact ⟨(0), rfy, H', ⟨Nat.le_refl _⟩, ⟨mK BK413.out⟩, ⟨mB HB.out⟩⟩
       case round =>
        clear H'
        (try clear c11); (try clear c12); (try clear c12b0); (try clear c13); (try clear hcz36_0); (try clear hcz36_1); (try clear hcz36_2); (try clear hfz36_0); (try clear hfz36_1); (try clear hfz36_2)
        obtain ⟨x5_3, rfl, HA, HK3, BK413, HB⟩ := hrel
        cases gk with
        | zero => exact absurd HA.out (by simp [spec_ChartOk.l1])
        | succ k3 =>
         have H := HA.out
         clear HA
         simp only [spec_ChartOk.l1] at H
         by_cases c37 : x5_3 < (l0_2.length : Int)
         ·rw [if_pos c37] at H
          have c37b0 : decide (x5_3 < (l0_2.length : Int)) = true := decide_eq_true c37
          clear c37
          by_cases c38 : 0 ≤ x5_3
          ·rw [if_pos c38] at H
           have c38b0 : decide (0 ≤ x5_3) = true := decide_eq_true c38
           clear c38
           have HF39 := z0 H
           clear H
           obtain ⟨hcz40_0, hcz40_1, hcz40_2, hfz40_0, hfz40_1, hfz40_2⟩ := cel3 BK413.out
           have p419 : 0 ≤ (x5_3 : Int) := of_decide_eq_true (by first | (with_reducible assumption) | assumption)
           have q419 : x5_3 < (l0_2.length : Int) := of_decide_eq_true (by first | (with_reducible assumption) | assumption)
           obtain ⟨ad419, e419, hx419_0, hx419_1, hx419_2, hx419_3⟩ := at_T39 HR0_2.out x5_3 p419 q419
           cases e419
           replace hx419_0 := (HB.out.cell (World.block_lt_of_cell? w _ hx419_0)).trans hx419_0
           replace hx419_1 := (HB.out.cell (World.block_lt_of_cell? w _ hx419_1)).trans hx419_1
           replace hx419_2 := (HB.out.cell (World.block_lt_of_cell? w _ hx419_2)).trans hx419_2
           replace hx419_3 := (HB.out.cell (World.block_lt_of_cell? w _ hx419_3)).trans hx419_3
           replace p419 := eq_true p419
           replace q419 := eq_true q419
           go_upto_region 13 with (first | ((with_reducible refine gate_dst (N := 6) rfl ?_); (try (refine gate_guard (by rfl) ?_; dsimp only)); refine box_event ?hg (N := 6) ?hd (cs := #[.int .i64 0, .int .i64 0, .int .i64 0, .int .i64 0]) (t := 39) ?hr ?_; (case hd => rfl); (case hg => rfl); (case hr => first | (go_simp; done) | (go_simp; rfl)); intro gb420 hg w41 hbox hb; have n_ := az (bB BK413.out hb) <| az (below_step (mB HB.out) hb) <| az (hbox) <| az ((by rw [hg]; exact (below_size (mB HB.out)) : w.heap.size ≤ gb420)) <| az ((by rw [hg]; exact (below_size (mB HB.out)) : w.heap.size ≤ gb420)) <| az ((nL hg BK413.out)) <| z0 ((nG hg BK413.out)); clear BK413 HB; obtain ⟨BK413, HB, BK420, GW420, GE420, NB413_420, NB420_413⟩ := n_; clear hb hbox hg; have hnb42 := NB420_413.out; have hnc42 := NB413_420.out; obtain ⟨hcz43_0, hcz43_1, hcz43_2, hcz43_3, hfz43_0, hfz43_1, hfz43_2, hfz43_3⟩ := cel4 BK420.out))
           (try simp only [Act.put, List.setIfInBounds_toArray, List.set_cons_zero, List.set_cons_succ])
           have H := HF39.out
           clear HF39
           (try clear c11); (try clear c12); (try clear c12b0); (try clear c13); (try clear c37); (try clear c37b0); (try clear c38); (try clear c38b0); (try clear hcz36_0); (try clear hcz36_1); (try clear hcz36_2); (try clear hcz40_0); (try clear hcz40_1); (try clear hcz40_2); (try clear hcz43_0); (try clear hcz43_1); (try clear hcz43_2); (try clear hcz43_3); (try clear hfz36_0); (try clear hfz36_1); (try clear hfz36_2); (try clear hfz40_0); (try clear hfz40_1); (try clear hfz40_2); (try clear hfz43_0); (try clear hfz43_1); (try clear hfz43_2); (try clear hfz43_3); (try clear hx419_0); (try clear hx419_1); (try clear hx419_2); (try clear hx419_3); (try clear p419); (try clear q419)
           by_cases c44 : ((rd_T39 l0_2 x5_3).f0) < 1
           ·rw [if_pos c44] at H
            have c44b0 : decide (((rd_T39 l0_2 x5_3).f0) < 1) = true := decide_eq_true c44
            clear c44
            obtain rfl := Option.some.inj H
            have hnb45 := NB420_413.out
            have hnc45 := NB413_420.out
            obtain ⟨hcz46_0, hcz46_1, hcz46_2, hcz46_3, hfz46_0, hfz46_1, hfz46_2, hfz46_3⟩ := cel4 BK420.out
            go_wp2
            go_ret
            exact ⟨rfx, mB HB.out⟩
           ·rw [if_neg c44] at H
            have c44b0 : decide (((rd_T39 l0_2 x5_3).f0) < 1) = false := decide_eq_false c44
            clear c44
            by_cases c47 : ((rd_T39 l0_2 x5_3).f0) > 4
            ·rw [if_pos c47] at H
             have c47b0 : decide (4 < ((rd_T39 l0_2 x5_3).f0)) = true := decide_eq_true c47
             clear c47
             obtain rfl := Option.some.inj H
             have hnb48 := NB420_413.out
             have hnc48 := NB413_420.out
             obtain ⟨hcz49_0, hcz49_1, hcz49_2, hcz49_3, hfz49_0, hfz49_1, hfz49_2, hfz49_3⟩ := cel4 BK420.out
             go_wp2
             go_ret
             exact ⟨rfx, mB HB.out⟩
            ·rw [if_neg c47] at H
             have c47b0 : decide (4 < ((rd_T39 l0_2 x5_3).f0)) = false := decide_eq_false c47
             clear c47
             by_cases c50 : ((rd_T39 l0_2 x5_3).f1) < 0
             ·rw [if_pos c50] at H
              have c50b0 : decide (((rd_T39 l0_2 x5_3).f1) < 0) = true := decide_eq_true c50
              clear c50
              obtain rfl := Option.some.inj H
              have hnb51 := NB420_413.out
              have hnc51 := NB413_420.out
              obtain ⟨hcz52_0, hcz52_1, hcz52_2, hcz52_3, hfz52_0, hfz52_1, hfz52_2, hfz52_3⟩ := cel4 BK420.out
              go_wp2
              go_ret
              exact ⟨rfx, mB HB.out⟩
             ·rw [if_neg c50] at H
              have c50b0 : decide (((rd_T39 l0_2 x5_3).f1) < 0) = false := decide_eq_false c50
              clear c50
              by_cases c53 : ((rd_T39 l0_2 x5_3).f1) ≥ a0_0
              ·rw [if_pos c53] at H
               have c53b0 : decide (a0_0 ≤ ((rd_T39 l0_2 x5_3).f1)) = true := decide_eq_true c53
               clear c53
               obtain rfl := Option.some.inj H
               have hnb54 := NB420_413.out
               have hnc54 := NB413_420.out
               obtain ⟨hcz55_0, hcz55_1, hcz55_2, hcz55_3, hfz55_0, hfz55_1, hfz55_2, hfz55_3⟩ := cel4 BK420.out
               obtain ⟨hcz56_0, hcz56_1, hcz56_2, hfz56_0, hfz56_1, hfz56_2⟩ := cel3 BK413.out
               go_wp2
               go_ret
               exact ⟨rfx, mB HB.out⟩
              ·rw [if_neg c53] at H
               have c53b0 : decide (a0_0 ≤ ((rd_T39 l0_2 x5_3).f1)) = false := decide_eq_false c53
               clear c53
               replace H := Option.bind_eq_some_iff.mp H
               obtain ⟨t421, A570, H⟩ := H
               try dsimp only at H
               have A57 := z0 A570
               clear A570
               by_cases c58 : t421 = true
               ·subst c58
                have H1 : (if ((rd_T39 l0_2 x5_3).f2.f0) = 2 then (spec_ChartOk.l1 k3 (wrap64 (x5_3 + 1)) a0_0 l0_1 l0_2) else (some false)) = some r := by rw [if_pos rfl] at H; exact H
                clear H
                have H := H1
                clear H1
                have HF59 := z0 H
                clear H
                have hnb60 := NB420_413.out
                have hnc60 := NB413_420.out
                obtain ⟨hcz61_0, hcz61_1, hcz61_2, hcz61_3, hfz61_0, hfz61_1, hfz61_2, hfz61_3⟩ := cel4 BK420.out
                obtain ⟨hcz62_0, hcz62_1, hcz62_2, hfz62_0, hfz62_1, hfz62_2⟩ := cel3 BK413.out
                go_upto_if 102 with (first | (go_at_call 14; (with_reducible refine (spec_AddrOk.calls ((rd_T39 l0_2 x5_3).f2.f0) ((rd_T39 l0_2 x5_3).f2.f1) true _ A57.out).mono ?_); rintro e w63 ⟨rfl, hb⟩; have n_ := az (blk_below (g := gb413) (o := .cells #[.int .i64 a0_0, .slice A0_1 l0_1.length c0_1, .slice (some ad419) l0_2.length c0_2] 26 (0, 0)) (mF BK413.out) hb) <| az (blk_below (g := gb420) (o := .cells #[.int .i64 ((rd_T39 l0_2 x5_3).f0), .int .i64 ((rd_T39 l0_2 x5_3).f1), .int .i64 ((rd_T39 l0_2 x5_3).f2.f0), .int .i64 ((rd_T39 l0_2 x5_3).f2.f1)] 39 (0, 0)) q6_1 hb) <| z0 (below_step (mB HB.out) hb); clear BK413 BK420 HB; obtain ⟨BK413, BK420, HB⟩ := n_; clear hb; obtain ⟨hcz64_0, hcz64_1, hcz64_2, hcz64_3, hfz64_0, hfz64_1, hfz64_2, hfz64_3⟩ := cel4 BK420.out))
                (try simp only [Act.put, List.setIfInBounds_toArray, List.set_cons_zero, List.set_cons_succ])
                have H := HF59.out
                clear HF59
                (try clear c11); (try clear c12); (try clear c12b0); (try clear c13); (try clear c37); (try clear c37b0); (try clear c38); (try clear c38b0); (try clear c44); (try clear c44b0); (try clear c47); (try clear c47b0); (try clear c50); (try clear c50b0); (try clear c53); (try clear c53b0); (try clear c58); (try clear hcz36_0); (try clear hcz36_1); (try clear hcz36_2); (try clear hcz40_0); (try clear hcz40_1); (try clear hcz40_2); (try clear hcz43_0); (try clear hcz43_1); (try clear hcz43_2); (try clear hcz43_3); (try clear hcz46_0); (try clear hcz46_1); (try clear hcz46_2); (try clear hcz46_3); (try clear hcz49_0); (try clear hcz49_1); (try clear hcz49_2); (try clear hcz49_3); (try clear hcz52_0); (try clear hcz52_1); (try clear hcz52_2); (try clear hcz52_3); (try clear hcz55_0); (try clear hcz55_1); (try clear hcz55_2); (try clear hcz55_3); (try clear hcz56_0); (try clear hcz56_1); (try clear hcz56_2); (try clear hcz61_0); (try clear hcz61_1); (try clear hcz61_2); (try clear hcz61_3); (try clear hcz62_0); (try clear hcz62_1); (try clear hcz62_2); (try clear hcz64_0); (try clear hcz64_1); (try clear hcz64_2); (try clear hcz64_3); (try clear hfz36_0); (try clear hfz36_1); (try clear hfz36_2); (try clear hfz40_0); (try clear hfz40_1); (try clear hfz40_2); (try clear hfz43_0); (try clear hfz43_1); (try clear hfz43_2); (try clear hfz43_3); (try clear hfz46_0); (try clear hfz46_1); (try clear hfz46_2); (try clear hfz46_3); (try clear hfz49_0); (try clear hfz49_1); (try clear hfz49_2); (try clear hfz49_3); (try clear hfz52_0); (try clear hfz52_1); (try clear hfz52_2); (try clear hfz52_3); (try clear hfz55_0); (try clear hfz55_1); (try clear hfz55_2); (try clear hfz55_3); (try clear hfz56_0); (try clear hfz56_1); (try clear hfz56_2); (try clear hfz61_0); (try clear hfz61_1); (try clear hfz61_2); (try clear hfz61_3); (try clear hfz62_0); (try clear hfz62_1); (try clear hfz62_2); (try clear hfz64_0); (try clear hfz64_1); (try clear hfz64_2); (try clear hfz64_3); (try clear hx419_0); (try clear hx419_1); (try clear hx419_2); (try clear hx419_3); (try clear p419); (try clear q419)
                by_cases c65 : ((rd_T39 l0_2 x5_3).f2.f0) = 2
                ·rw [if_pos c65] at H
                 have c65b0 : (((rd_T39 l0_2 x5_3).f2.f0) == 2) = true := beq_iff_eq.mpr c65
                 have c65b1 : (((rd_T39 l0_2 x5_3).f2.f0) != 2) = false := bne_eq_false_iff_eq.mpr c65
                 clear c65
                 (first | rw [c65b0] | (simp only [i64_w, i32_w]; rw [c65b0]) | skip)
                 have H' := z0 H
                 clear H
                 go_wp2
                 go_roundg k3
                 case measure => have := HJ1.out; have := HK2.out; have := HK3.out; omega
                 case rel => exact ⟨(wrap64 (x5_3 + 1)), rfy, H', ⟨by have := HJ1.out; have := HK2.out; have := HK3.out; omega⟩, ⟨mK BK413.out⟩, ⟨mB HB.out⟩⟩
                ·rw [if_neg c65] at H
                 have c65b0 : (((rd_T39 l0_2 x5_3).f2.f0) == 2) = false := beq_eq_false_iff_ne.mpr c65
                 have c65b1 : (((rd_T39 l0_2 x5_3).f2.f0) != 2) = true := bne_iff_ne.mpr c65
                 (first | rw [c65b0] | (simp only [i64_w, i32_w]; rw [c65b0]) | skip)
                 obtain rfl := Option.some.inj H
                 go_wp2
                 go_ret
                 exact ⟨rfx, mB HB.out⟩
               ·replace c58 := Bool.eq_false_iff.mpr c58
                subst c58
                have H1 : (some false) = some r := by rw [if_neg (show ¬ (false = true) by decide)] at H; exact H
                clear H
                have H := H1
                clear H1
                obtain rfl := Option.some.inj H
                have hnb66 := NB420_413.out
                have hnc66 := NB413_420.out
                obtain ⟨hcz67_0, hcz67_1, hcz67_2, hcz67_3, hfz67_0, hfz67_1, hfz67_2, hfz67_3⟩ := cel4 BK420.out
                obtain ⟨hcz68_0, hcz68_1, hcz68_2, hfz68_0, hfz68_1, hfz68_2⟩ := cel3 BK413.out
                go_wp2_with (first | (go_at_call 14; (with_reducible refine (spec_AddrOk.calls ((rd_T39 l0_2 x5_3).f2.f0) ((rd_T39 l0_2 x5_3).f2.f1) false _ A57.out).mono ?_); rintro e w69 ⟨rfl, hb⟩; have n_ := az (blk_below (g := gb413) (o := .cells #[.int .i64 a0_0, .slice A0_1 l0_1.length c0_1, .slice (some ad419) l0_2.length c0_2] 26 (0, 0)) (mF BK413.out) hb) <| az (blk_below (g := gb420) (o := .cells #[.int .i64 ((rd_T39 l0_2 x5_3).f0), .int .i64 ((rd_T39 l0_2 x5_3).f1), .int .i64 ((rd_T39 l0_2 x5_3).f2.f0), .int .i64 ((rd_T39 l0_2 x5_3).f2.f1)] 39 (0, 0)) q6_1 hb) <| z0 (below_step (mB HB.out) hb); clear BK413 BK420 HB; obtain ⟨BK413, BK420, HB⟩ := n_; clear hb))
                go_ret
                exact ⟨rfx, mB HB.out⟩
          ·rw [if_neg c38] at H
           exact absurd H (by simp)
         ·rw [if_neg c37] at H
          have c37b0 : decide (x5_3 < (l0_2.length : Int)) = false := decide_eq_false c37
          clear c37
          obtain rfl := Option.some.inj H
          obtain ⟨hcz70_0, hcz70_1, hcz70_2, hfz70_0, hfz70_1, hfz70_2⟩ := cel3 BK413.out
          go_wp2
          go_ret
          exact ⟨rfx, mB HB.out⟩

/-! ### impl_newMarks: function 21 -/
def impl_newMarks.f (a0_0 : Int) (l0_1 : List (S37)) (l0_2 : List (S39)) : Option (List Bool × List Bool) := if 0 ≤ a0_0 then (if (a0_0 : Int).toNat ≤ 281474976710656 then ((some (List.replicate (a0_0 : Int).toNat false : List Bool)).bind fun y448 => (if 6 ≤ 281474976710656 then (if 0 < (y448.length : Int) then (some ((y448.set (0 : Int).toNat true), (List.replicate 6 false))) else (none)) else (none))) else (none)) else (none)
theorem q21_1 {p : Prop} (h : p := by first | (simp only [putAll, Act.put, List.setIfInBounds_toArray, List.set_cons_zero, List.set_cons_succ]; done) | (simp only [putAll, Act.put, List.setIfInBounds_toArray, List.set_cons_zero, List.set_cons_succ]; rfl)) : p := h
theorem q21_2 {p : Prop} (h : p := by exact ⟨(blk_cell BK446.out 0).trans rfl, (blk_cell BK446.out 1).trans rfl, (blk_cell BK446.out 2).trans rfl⟩) : p := h
theorem q21_3 {p : Prop} (h : p := by first | (with_reducible assumption) | assumption) : p := h
theorem q21_4 {p : Prop} (h : p := by (with_reducible repeat (first | apply Kd.R_alloc | apply Kd.R_drewN | apply Kd.R_drew)); exact Kd.R_mono HO450.out (fun _ hk => hk.2)) : p := h
theorem q21_5 {p : Prop} (h : p := by (with_reducible repeat (first | apply Kd.R_alloc | apply Kd.R_drewN | apply Kd.R_drew)); exact Kd.R_mono HO453.out (fun _ hk => hk.2)) : p := h
set_option maxHeartbeats 8000000 in
set_option maxRecDepth 100000 in
theorem impl_newMarks.calls (a0_0 : Int) (A0_1 : Option Addr) (c0_1 : Nat) (l0_1 : List (S37)) (A0_2 : Option Addr) (c0_2 : Nat) (l0_2 : List (S39)) (r1 : List Bool) (r2 : List Bool) (w : World) (hr0_1 : Kd.C k37 w A0_1 l0_1.length l0_1) (hc0_1 : l0_1.length ≤ c0_1) (hr0_2 : Kd.C k39 w A0_2 l0_2.length l0_2) (hc0_2 : l0_2.length ≤ c0_2) (h : impl_newMarks.f a0_0 l0_1 l0_2 = some (r1, r2)) :
  Calls Tryd.prog 21 #[.agg #[.int .i64 a0_0, .slice A0_1 l0_1.length c0_1, .slice A0_2 l0_2.length c0_2]] w fun e w' => ∃ v0_ v1_ : Value, e = .returned (.agg #[v0_, v1_]) ∧ Kd.R Kd.bool 4 w' w.heap.size (fun k_ => nB k_ v1_) v0_ r1 ∧ Kd.R Kd.bool 4 w' w.heap.size (fun k_ => nB k_ v0_) v1_ r2 ∧ Below w.heap.size w w' := by
 have hu26 := Tryd.underlying26
 have hu42 := Tryd.underlying42
 have HR0_1 := z0 hr0_1
 have HC0_1 := z0 hc0_1
 clear hr0_1 hc0_1
 have HR0_2 := z0 hr0_2
 have HC0_2 := z0 hc0_2
 clear hr0_2 hc0_2
 have HB := z0 (Below.refl w.heap.size w)
 have H : (if 0 ≤ a0_0 then (if (a0_0 : Int).toNat ≤ 281474976710656 then ((some (List.replicate (a0_0 : Int).toNat false : List Bool)).bind fun y448 => (if 6 ≤ 281474976710656 then (if 0 < (y448.length : Int) then (some ((y448.set (0 : Int).toNat true), (List.replicate 6 false))) else (none)) else (none))) else (none)) else (none)) = some (r1, r2) := h
 clear h
 by_cases c2 : 0 ≤ a0_0
 ·rw [if_pos c2] at H
  have c2b0 := eq_true c2
  have c2b1 : decide (0 ≤ a0_0) = true := decide_eq_true c2
  clear c2
  by_cases c3 : (a0_0 : Int).toNat ≤ 281474976710656
  ·rw [if_pos c3] at H
   have c3b0 := eq_true c3
   have c3b1 : decide ((a0_0 : Int).toNat ≤ 281474976710656) = true := decide_eq_true c3
   clear c3
   obtain ⟨y448, hy448⟩ : ∃ y_ : List Bool, y_ = (List.replicate (a0_0 : Int).toNat false) := ⟨_, rfl⟩
   replace H : (if 6 ≤ 281474976710656 then (if 0 < (y448.length : Int) then (some ((y448.set (0 : Int).toNat true), (List.replicate 6 false))) else (none)) else (none)) = some (r1, r2) := by first | (rw [hy448]; with_reducible exact H) | (have H2_ := (Option.bind_some _ _).symm.trans H; rw [hy448]; with_reducible exact H2_) | (have H2_ := (Option.bind_some _ _).symm.trans H; with_reducible exact H2_) | with_reducible exact H | (rw [hy448]; exact H) | exact H
   have Ny448 := z0 hy448
   clear hy448
   by_cases c4 : 6 ≤ 281474976710656
   ·rw [if_pos c4] at H
    have c4b0 := eq_true c4
    have c4b1 : decide (6 ≤ 281474976710656) = true := decide_eq_true c4
    clear c4
    obtain ⟨y451, hy451⟩ : ∃ y_ : List Bool, y_ = (List.replicate 6 false) := ⟨_, rfl⟩
    replace H : (if 0 < (y448.length : Int) then (some ((y448.set (0 : Int).toNat true), y451)) else (none)) = some (r1, r2) := by first | (rw [hy451]; with_reducible exact H) | (have H2_ := (Option.bind_some _ _).symm.trans H; rw [hy451]; with_reducible exact H2_) | (have H2_ := (Option.bind_some _ _).symm.trans H; with_reducible exact H2_) | with_reducible exact H | (rw [hy451]; exact H) | exact H
    have Ny451 := z0 hy451
    clear hy451
    by_cases c5 : 0 < (y448.length : Int)
    ·rw [if_pos c5] at H
     have c5b0 : decide (0 < (y448.length : Int)) = true := decide_eq_true c5
     have c5b1 : decide (0 < y448.length) = true := decide_eq_true (by omega)
     clear c5
     obtain ⟨y455, hy455⟩ : ∃ y_ : List Bool, y_ = (y448.set (0 : Int).toNat true) := ⟨_, rfl⟩
     replace H : (some (y455, y451)) = some (r1, r2) := by first | (rw [hy455]; with_reducible exact H) | (have H2_ := (Option.bind_some _ _).symm.trans H; rw [hy455]; with_reducible exact H2_) | (have H2_ := (Option.bind_some _ _).symm.trans H; with_reducible exact H2_) | with_reducible exact H | (rw [hy455]; exact H) | exact H
     have Ny455 := z0 hy455
     clear hy455
     simp only [Option.some.injEq, Prod.mk.injEq] at H
     obtain ⟨rfl, rfl⟩ := H
     go_enter Tryd.func21, Tryd.ntmps21
     try go_wp2_with (first | ((with_reducible refine gate_dst (N := 1) rfl ?_); refine box_event ?hg (N := 1) ?hd (cs := #[.int .i64 a0_0, .slice A0_1 l0_1.length c0_1, .slice A0_2 l0_2.length c0_2]) (t := 26) ?hr ?_; (case hd => rfl); (case hg => rfl); (case hr => first | (go_simp; done) | (go_simp; rfl)); intro gb446 hg w7 hbox hb; have n_ := az (below_step (mB HB.out) hb) <| az (hbox) <| az ((by rw [hg]; exact (below_size (mB HB.out)) : w.heap.size ≤ gb446)) <| z0 ((by rw [hg]; exact (below_size (mB HB.out)) : w.heap.size ≤ gb446)); clear HB; obtain ⟨HB, BK446, GW446, GE446⟩ := n_; clear hb hbox hg) | ((with_reducible refine gate_dst (N := 2) rfl ?_); refine box_event ?hg (N := 2) ?hd (cs := #[.slice none 0 0, .slice none 0 0]) (t := 42) ?hr ?_; (case hd => rfl); (case hg => rfl); (case hr => first | (go_simp; done) | (go_simp; rfl)); intro gb447 hg w8 hbox hb; have n_ := az (bB BK446.out hb) <| az (below_step (mB HB.out) hb) <| az (hbox) <| az ((by rw [hg]; exact (below_size (mB HB.out)) : w.heap.size ≤ gb447)) <| az ((by rw [hg]; exact (below_size (mB HB.out)) : w.heap.size ≤ gb447)) <| az ((nL hg BK446.out)) <| z0 ((nG hg BK446.out)); clear BK446 HB; obtain ⟨BK446, HB, BK447, GW447, GE447, NB446_447, NB447_446⟩ := n_; clear hb hbox hg))
     have n_ := az (blk_drew BK446.out) <| az (blk_drew BK447.out) <| z0 (below_drew1 HB.out)
     clear BK446 BK447 HB
     obtain ⟨BK446, BK447, HB⟩ := n_
     refine start_ (n := 7) (S := fun w' => w'.cell? ⟨gb446, 0, none⟩ = some (.int .i64 a0_0) ∧ w'.cell? ⟨gb446, 1, none⟩ = some (.slice A0_1 l0_1.length c0_1) ∧ w'.cell? ⟨gb446, 2, none⟩ = some (.slice A0_2 l0_2.length c0_2)) (ds := []) #[false, false, false, false, false, false, false] (by kernel_rfl) rfl rfl q21_2 (fun hHeld => ?_)
     generalize w8.drew = w9 at BK446 BK447 HB hHeld ⊢
     refine pure_ (i := 0) (N := some 4) (v := ?_) (a' := ?_) #[true, false, false, false, false, false, false] rfl rfl (by kernel_rfl) (fun _ _ _ h => h) (Or.inl ⟨by rfl, ?_⟩) ?_ ?_
     rotate_left
     ·intro w'
      go_simp
      with_reducible rfl
     rotate_left
     ·simp only [Act.put, List.setIfInBounds_toArray, List.set_cons_zero, List.set_cons_succ, i64_w, i32_w]
      rfl
     refine take_ (i := 1) (N := some 5) (v := ?_) (a' := ?_) #[true, true, false, false, false, false, false] rfl rfl (by kernel_rfl) (fun _ _ _ h => h) (Or.inl ⟨by rfl, ?_⟩) hHeld ?_ ?_
     rotate_left
     ·rintro w' ⟨s0, s1, s2⟩
      go_simp
      with_reducible rfl
     rotate_left
     ·simp only [Act.put, List.setIfInBounds_toArray, List.set_cons_zero, List.set_cons_succ, i64_w, i32_w]
      rfl
     refine join_ (σ := Value × Value × Nat) 1 #[true, true, true, true, true, true, false] (fun s_ => [(6, s_.1), (7, s_.2.1), (3, .pointer (some ⟨s_.2.2, 0, none⟩)), (8, .agg #[s_.1, s_.2.1])]) (fun s_ w' => (w'.cell? ⟨gb446, 0, none⟩ = some (.int .i64 a0_0) ∧ w'.cell? ⟨gb446, 1, none⟩ = some (.slice A0_1 l0_1.length c0_1) ∧ w'.cell? ⟨gb446, 2, none⟩ = some (.slice A0_2 l0_2.length c0_2)) ∧ (Kd.R Kd.bool 4 w' w.heap.size (fun k_ => some k_ ≠ (s_.2.1 : Value).ownBlock) s_.1 y448) ∧ (Kd.R Kd.bool 4 w' w.heap.size (fun k_ => some k_ ≠ (s_.1 : Value).ownBlock) s_.2.1 y451) ∧ (w'.heap[gb446]? = some (.cells #[.int .i64 a0_0, .slice A0_1 l0_1.length c0_1, .slice A0_2 l0_2.length c0_2] 26 (0, 0))) ∧ (w'.heap[gb447]? = some (.cells #[.slice none 0 0, .slice none 0 0] 42 (0, 0))) ∧ (w'.heap[s_.2.2]? = some (.cells #[.slice none 0 0, .slice none 0 0] 42 (0, 0))) ∧ (w.heap.size ≤ s_.2.2) ∧ (w.heap.size ≤ s_.2.2) ∧ (gb446 ≠ s_.2.2) ∧ (s_.2.2 ≠ gb446) ∧ (gb447 ≠ s_.2.2) ∧ (s_.2.2 ≠ gb447) ∧ (Below w.heap.size w w')) ?_ ?_
     rotate_left
     ·intro hJ2_3_5
      refine join_ (σ := Value × Value) 2 #[true, true, true, true, true, false, false] (fun s_ => [(6, s_.1), (7, s_.2), (8, .agg #[s_.1, s_.2])]) (fun s_ w' => (w'.cell? ⟨gb446, 0, none⟩ = some (.int .i64 a0_0) ∧ w'.cell? ⟨gb446, 1, none⟩ = some (.slice A0_1 l0_1.length c0_1) ∧ w'.cell? ⟨gb446, 2, none⟩ = some (.slice A0_2 l0_2.length c0_2)) ∧ (Kd.R Kd.bool 4 w' w.heap.size (fun k_ => some k_ ≠ (s_.2 : Value).ownBlock) s_.1 y448) ∧ (Kd.R Kd.bool 4 w' w.heap.size (fun k_ => some k_ ≠ (s_.1 : Value).ownBlock) s_.2 y451) ∧ (w'.heap[gb446]? = some (.cells #[.int .i64 a0_0, .slice A0_1 l0_1.length c0_1, .slice A0_2 l0_2.length c0_2] 26 (0, 0))) ∧ (w'.heap[gb447]? = some (.cells #[.slice none 0 0, .slice none 0 0] 42 (0, 0))) ∧ (Below w.heap.size w w')) ?_ ?_
      rotate_left
      ·intro hJ2_3
       refine join_ (σ := Value × Nat) 3 #[true, true, true, false, false, true, false] (fun s_ => [(6, s_.1), (3, .pointer (some ⟨s_.2, 0, none⟩))]) (fun s_ w' => (w'.cell? ⟨gb446, 0, none⟩ = some (.int .i64 a0_0) ∧ w'.cell? ⟨gb446, 1, none⟩ = some (.slice A0_1 l0_1.length c0_1) ∧ w'.cell? ⟨gb446, 2, none⟩ = some (.slice A0_2 l0_2.length c0_2)) ∧ (Kd.R Kd.bool 4 w' w.heap.size (fun _ => True) s_.1 y448) ∧ (w'.heap[gb446]? = some (.cells #[.int .i64 a0_0, .slice A0_1 l0_1.length c0_1, .slice A0_2 l0_2.length c0_2] 26 (0, 0))) ∧ (w'.heap[gb447]? = some (.cells #[.slice none 0 0, .slice none 0 0] 42 (0, 0))) ∧ (w'.heap[s_.2]? = some (.cells #[.slice none 0 0, .slice none 0 0] 42 (0, 0))) ∧ (w.heap.size ≤ s_.2) ∧ (w.heap.size ≤ s_.2) ∧ (gb446 ≠ s_.2) ∧ (s_.2 ≠ gb446) ∧ (gb447 ≠ s_.2) ∧ (s_.2 ≠ gb447) ∧ (Below w.heap.size w w')) ?_ ?_
       rotate_left
       ·intro hJ2_5
        refine join_ (σ := Value × Nat) 3 #[true, true, false, true, false, true, false] (fun s_ => [(7, s_.1), (3, .pointer (some ⟨s_.2, 0, none⟩))]) (fun s_ w' => (w'.cell? ⟨gb446, 0, none⟩ = some (.int .i64 a0_0) ∧ w'.cell? ⟨gb446, 1, none⟩ = some (.slice A0_1 l0_1.length c0_1) ∧ w'.cell? ⟨gb446, 2, none⟩ = some (.slice A0_2 l0_2.length c0_2)) ∧ (Kd.R Kd.bool 4 w' w.heap.size (fun _ => True) s_.1 y451) ∧ (w'.heap[gb446]? = some (.cells #[.int .i64 a0_0, .slice A0_1 l0_1.length c0_1, .slice A0_2 l0_2.length c0_2] 26 (0, 0))) ∧ (w'.heap[gb447]? = some (.cells #[.slice none 0 0, .slice none 0 0] 42 (0, 0))) ∧ (w'.heap[s_.2]? = some (.cells #[.slice none 0 0, .slice none 0 0] 42 (0, 0))) ∧ (w.heap.size ≤ s_.2) ∧ (w.heap.size ≤ s_.2) ∧ (gb446 ≠ s_.2) ∧ (s_.2 ≠ gb446) ∧ (gb447 ≠ s_.2) ∧ (s_.2 ≠ gb447) ∧ (Below w.heap.size w w')) ?_ ?_
        rotate_left
        ·intro hJ3_5
         refine join_ (σ := Value) 4 #[true, true, true, false, false, false, false] (fun s_ => [(6, s_)]) (fun s_ w' => (w'.cell? ⟨gb446, 0, none⟩ = some (.int .i64 a0_0) ∧ w'.cell? ⟨gb446, 1, none⟩ = some (.slice A0_1 l0_1.length c0_1) ∧ w'.cell? ⟨gb446, 2, none⟩ = some (.slice A0_2 l0_2.length c0_2)) ∧ (Kd.R Kd.bool 4 w' w.heap.size (fun _ => True) s_ y448) ∧ (w'.heap[gb446]? = some (.cells #[.int .i64 a0_0, .slice A0_1 l0_1.length c0_1, .slice A0_2 l0_2.length c0_2] 26 (0, 0))) ∧ (w'.heap[gb447]? = some (.cells #[.slice none 0 0, .slice none 0 0] 42 (0, 0))) ∧ (Below w.heap.size w w')) ?_ ?_
         rotate_left
         ·intro hJ2
          refine join_ (σ := Value) 4 #[true, true, false, true, false, false, false] (fun s_ => [(7, s_)]) (fun s_ w' => (w'.cell? ⟨gb446, 0, none⟩ = some (.int .i64 a0_0) ∧ w'.cell? ⟨gb446, 1, none⟩ = some (.slice A0_1 l0_1.length c0_1) ∧ w'.cell? ⟨gb446, 2, none⟩ = some (.slice A0_2 l0_2.length c0_2)) ∧ (Kd.R Kd.bool 4 w' w.heap.size (fun _ => True) s_ y451) ∧ (w'.heap[gb446]? = some (.cells #[.int .i64 a0_0, .slice A0_1 l0_1.length c0_1, .slice A0_2 l0_2.length c0_2] 26 (0, 0))) ∧ (w'.heap[gb447]? = some (.cells #[.slice none 0 0, .slice none 0 0] 42 (0, 0))) ∧ (Below w.heap.size w w')) ?_ ?_
          rotate_left
          ·intro hJ3
           refine join_ (σ := Nat) 4 #[true, true, false, false, false, true, false] (fun s_ => [(3, .pointer (some ⟨s_, 0, none⟩))]) (fun s_ w' => (w'.cell? ⟨gb446, 0, none⟩ = some (.int .i64 a0_0) ∧ w'.cell? ⟨gb446, 1, none⟩ = some (.slice A0_1 l0_1.length c0_1) ∧ w'.cell? ⟨gb446, 2, none⟩ = some (.slice A0_2 l0_2.length c0_2)) ∧ (w'.heap[gb446]? = some (.cells #[.int .i64 a0_0, .slice A0_1 l0_1.length c0_1, .slice A0_2 l0_2.length c0_2] 26 (0, 0))) ∧ (w'.heap[gb447]? = some (.cells #[.slice none 0 0, .slice none 0 0] 42 (0, 0))) ∧ (w'.heap[s_]? = some (.cells #[.slice none 0 0, .slice none 0 0] 42 (0, 0))) ∧ (w.heap.size ≤ s_) ∧ (w.heap.size ≤ s_) ∧ (gb446 ≠ s_) ∧ (s_ ≠ gb446) ∧ (gb447 ≠ s_) ∧ (s_ ≠ gb447) ∧ (Below w.heap.size w w')) ?_ ?_
           rotate_left
           ·intro hJ5
            refine three_ (i := 2) (j := 3) (k := 5) (Ni := some 6) (Nj := some 7) (Nk := some 3) #[true, true, true, false, false, false, false] #[true, true, false, true, false, false, false] #[true, true, false, false, false, true, false] rfl rfl rfl rfl rfl rfl (by kernel_rfl) (by decide) (by decide) (by decide) (fun K hK => ?_) (fun K hK => ?_) (fun K hK => ?_)
            ·skip
             refine Kd.R_make_step Kd.bool _ 4 (by rfl) (N := 6) rfl 40 _ _ rfl a0_0 rfl rfl Tryd.underlying40 (.bool false) 1 info4 rfl (by decide) (by omega) false (ok := fun _ => True) (okp := fun _ => True) rfl (fun _ hk => hk) trivial (of_decide_eq_true q21_3) (Nat.le_trans (Nat.mul_le_mul_right _ (of_decide_eq_true q21_3 : a0_0.toNat ≤ 281474976710656)) (by omega)) (Below.refl _ _) (Nat.le_refl _) ?_
             intro v449 w10 ho11 hb hg_ hnew_
             clear hg_ hnew_
             (first | rw [← Ny448.out] at ho11 | (simp only [Int.reduceToNat] at ho11; rw [← Ny448.out] at ho11))
             have n_ := az (Kd.R_lower ho11 (below_size (mB HB.out))) <| az (bB BK446.out hb) <| az (bB BK447.out hb) <| z0 (below_step (mB HB.out) hb)
             clear BK446 BK447 HB
             obtain ⟨HO450, BK446, BK447, HB⟩ := n_
             clear hb ho11
             refine hK.out _ _ q21_2 (fun hHeld => ?_)
             clear hK K
             refine norm_ (a' := ?_) ?_ ?_
             rotate_left
             ·show Act.put _ (some 6) _ = _
              simp only [Act.put, List.setIfInBounds_toArray, List.set_cons_zero, List.set_cons_succ, i64_w, i32_w]
              rfl
             exact norm_ q21_1 (hJ2 (v449) _ ⟨hHeld, (mR HO450.out), (mK BK446.out), (mK BK447.out), (mB HB.out)⟩)
            ·skip
             refine Kd.R_make_step Kd.bool _ 4 (by rfl) (N := 7) rfl 40 _ _ rfl 6 rfl rfl Tryd.underlying40 (.bool false) 1 info4 rfl (by decide) (by omega) false (ok := fun _ => True) (okp := fun _ => True) rfl (fun _ hk => hk) trivial (by omega) (by omega) (Below.refl _ _) (Nat.le_refl _) ?_
             intro v452 w10 ho11 hb hg_ hnew_
             clear hg_ hnew_
             (first | rw [← Ny451.out] at ho11 | (simp only [Int.reduceToNat] at ho11; rw [← Ny451.out] at ho11))
             have n_ := az (Kd.R_lower ho11 (below_size (mB HB.out))) <| az (bB BK446.out hb) <| az (bB BK447.out hb) <| z0 (below_step (mB HB.out) hb)
             clear BK446 BK447 HB
             obtain ⟨HO453, BK446, BK447, HB⟩ := n_
             clear hb ho11
             refine hK.out _ _ q21_2 (fun hHeld => ?_)
             clear hK K
             refine norm_ (a' := ?_) ?_ ?_
             rotate_left
             ·show Act.put _ (some 7) _ = _
              simp only [Act.put, List.setIfInBounds_toArray, List.set_cons_zero, List.set_cons_succ, i64_w, i32_w]
              rfl
             exact norm_ q21_1 (hJ3 (v452) _ ⟨hHeld, (mR HO453.out), (mK BK446.out), (mK BK447.out), (mB HB.out)⟩)
            ·skip
             refine box_step ?hg (N := 3) ?hd (cs := #[.slice none 0 0, .slice none 0 0]) (t := 42) ?hr ?_; (case hd => rfl); (case hg => rfl); (case hr => first | (go_simp; done) | (go_simp; rfl))
             intro gb454 hg w10 hbox hb
             have n_ := az (bB BK446.out hb) <| az (bB BK447.out hb) <| az (below_step (mB HB.out) hb) <| az (hbox) <| And.intro (z0 ((by rw [hg]; exact (below_size (mB HB.out)) : w.heap.size ≤ gb454))) <| And.intro (z0 ((by rw [hg]; exact (below_size (mB HB.out)) : w.heap.size ≤ gb454))) <| az ((nL hg BK446.out)) <| az ((nG hg BK446.out)) <| az ((nL hg BK447.out)) <| z0 ((nG hg BK447.out))
             clear BK446 BK447 HB
             obtain ⟨BK446, BK447, HB, BK454, GW454, GE454, NB446_454, NB454_446, NB447_454, NB454_447⟩ := n_
             clear hb hbox hg
             refine hK.out _ _ q21_2 (fun hHeld => ?_)
             clear hK K
             refine norm_ (a' := ?_) ?_ ?_
             rotate_left
             ·show Act.put _ (some 3) _ = _
              simp only [Act.put, List.setIfInBounds_toArray, List.set_cons_zero, List.set_cons_succ, i64_w, i32_w]
              rfl
             exact norm_ q21_1 (hJ5 (gb454) _ ⟨hHeld, (mK BK446.out), (mK BK447.out), (mK BK454.out), GW454.out, GE454.out, NB446_454.out, NB454_446.out, NB447_454.out, NB454_447.out, (mB HB.out)⟩)
           ·skip
            rintro gb454 w11 ⟨hS_, h0_, h1_, h2_, h3_, h4_, h5_, h6_, h7_, h8_, h9_⟩
            have n0_ : Aside0 (w11.heap[gb446]? = some (.cells #[.int .i64 a0_0, .slice A0_1 l0_1.length c0_1, .slice A0_2 l0_2.length c0_2] 26 (0, 0))) := ⟨h0_⟩
            have n1_ : Aside0 (w11.heap[gb447]? = some (.cells #[.slice none 0 0, .slice none 0 0] 42 (0, 0))) := ⟨h1_⟩
            have n2_ : Aside0 (w11.heap[gb454]? = some (.cells #[.slice none 0 0, .slice none 0 0] 42 (0, 0))) := ⟨h2_⟩
            have n3_ : Aside0 (w.heap.size ≤ gb454) := ⟨h3_⟩
            have n4_ : Aside0 (w.heap.size ≤ gb454) := ⟨h4_⟩
            have n5_ : Aside0 (gb446 ≠ gb454) := ⟨h5_⟩
            have n6_ : Aside0 (gb454 ≠ gb446) := ⟨h6_⟩
            have n7_ : Aside0 (gb447 ≠ gb454) := ⟨h7_⟩
            have n8_ : Aside0 (gb454 ≠ gb447) := ⟨h8_⟩
            have n9_ : Aside0 (Below w.heap.size w w11) := ⟨h9_⟩
            clear BK446 BK447 HB h0_ h1_ h2_ h3_ h4_ h5_ h6_ h7_ h8_ h9_
            have BK446 := n0_
            have BK447 := n1_
            have BK454 := n2_
            have GW454 := n3_
            have GE454 := n4_
            have NB446_454 := n5_
            have NB454_446 := n6_
            have NB447_454 := n7_
            have NB454_447 := n8_
            have HB := n9_
            clear n0_ n1_ n2_ n3_ n4_ n5_ n6_ n7_ n8_ n9_
            have hHeld : w11.cell? ⟨gb446, 0, none⟩ = some (.int .i64 a0_0) ∧ w11.cell? ⟨gb446, 1, none⟩ = some (.slice A0_1 l0_1.length c0_1) ∧ w11.cell? ⟨gb446, 2, none⟩ = some (.slice A0_2 l0_2.length c0_2) := hS_
            refine norm_ (a' := ?_) ?_ ?_
            rotate_left
            ·simp only [putAll, Act.put, List.setIfInBounds_toArray, List.set_cons_zero, List.set_cons_succ]
             rfl
            refine two_ (i := 2) (j := 3) (Ni := some 6) (Nj := some 7) #[true, true, true, false, false, true, false] #[true, true, false, true, false, true, false] rfl rfl rfl rfl (by kernel_rfl) (by decide) (by decide) (fun K hK => ?_) (fun K hK => ?_)
            ·skip
             refine Kd.R_make_step Kd.bool _ 4 (by rfl) (N := 6) rfl 40 _ _ rfl a0_0 rfl rfl Tryd.underlying40 (.bool false) 1 info4 rfl (by decide) (by omega) false (ok := fun _ => True) (okp := fun _ => True) rfl (fun _ hk => hk) trivial (of_decide_eq_true q21_3) (Nat.le_trans (Nat.mul_le_mul_right _ (of_decide_eq_true q21_3 : a0_0.toNat ≤ 281474976710656)) (by omega)) (Below.refl _ _) (Nat.le_refl _) ?_
             intro v449 w12 ho13 hb hg_ hnew_
             clear hg_ hnew_
             (first | rw [← Ny448.out] at ho13 | (simp only [Int.reduceToNat] at ho13; rw [← Ny448.out] at ho13))
             have n_ := az (Kd.R_lower ho13 (below_size (mB HB.out))) <| az (bB BK446.out hb) <| az (bB BK447.out hb) <| az (bB BK454.out hb) <| z0 (below_step (mB HB.out) hb)
             clear BK446 BK447 BK454 HB
             obtain ⟨HO450, BK446, BK447, BK454, HB⟩ := n_
             clear hb ho13
             refine hK.out _ _ q21_2 (fun hHeld => ?_)
             clear hK K
             refine norm_ (a' := ?_) ?_ ?_
             rotate_left
             ·show Act.put _ (some 6) _ = _
              simp only [Act.put, List.setIfInBounds_toArray, List.set_cons_zero, List.set_cons_succ, i64_w, i32_w]
              rfl
             exact norm_ q21_1 (hJ2_5 (v449, gb454) _ ⟨hHeld, (mR HO450.out), (mK BK446.out), (mK BK447.out), (mK BK454.out), GW454.out, GE454.out, NB446_454.out, NB454_446.out, NB447_454.out, NB454_447.out, (mB HB.out)⟩)
            ·skip
             refine Kd.R_make_step Kd.bool _ 4 (by rfl) (N := 7) rfl 40 _ _ rfl 6 rfl rfl Tryd.underlying40 (.bool false) 1 info4 rfl (by decide) (by omega) false (ok := fun _ => True) (okp := fun _ => True) rfl (fun _ hk => hk) trivial (by omega) (by omega) (Below.refl _ _) (Nat.le_refl _) ?_
             intro v452 w12 ho13 hb hg_ hnew_
             clear hg_ hnew_
             (first | rw [← Ny451.out] at ho13 | (simp only [Int.reduceToNat] at ho13; rw [← Ny451.out] at ho13))
             have n_ := az (Kd.R_lower ho13 (below_size (mB HB.out))) <| az (bB BK446.out hb) <| az (bB BK447.out hb) <| az (bB BK454.out hb) <| z0 (below_step (mB HB.out) hb)
             clear BK446 BK447 BK454 HB
             obtain ⟨HO453, BK446, BK447, BK454, HB⟩ := n_
             clear hb ho13
             refine hK.out _ _ q21_2 (fun hHeld => ?_)
             clear hK K
             refine norm_ (a' := ?_) ?_ ?_
             rotate_left
             ·show Act.put _ (some 7) _ = _
              simp only [Act.put, List.setIfInBounds_toArray, List.set_cons_zero, List.set_cons_succ, i64_w, i32_w]
              rfl
             exact norm_ q21_1 (hJ3_5 (v452, gb454) _ ⟨hHeld, (mR HO453.out), (mK BK446.out), (mK BK447.out), (mK BK454.out), GW454.out, GE454.out, NB446_454.out, NB454_446.out, NB447_454.out, NB454_447.out, (mB HB.out)⟩)
          ·skip
           rintro v452 w12 ⟨hS_, h0_, h1_, h2_, h3_⟩
           have n0_ : Aside0 (Kd.R Kd.bool 4 w12 w.heap.size (fun _ => True) v452 y451) := ⟨h0_⟩
           have n1_ : Aside0 (w12.heap[gb446]? = some (.cells #[.int .i64 a0_0, .slice A0_1 l0_1.length c0_1, .slice A0_2 l0_2.length c0_2] 26 (0, 0))) := ⟨h1_⟩
           have n2_ : Aside0 (w12.heap[gb447]? = some (.cells #[.slice none 0 0, .slice none 0 0] 42 (0, 0))) := ⟨h2_⟩
           have n3_ : Aside0 (Below w.heap.size w w12) := ⟨h3_⟩
           clear BK446 BK447 HB h0_ h1_ h2_ h3_
           have HO453 := n0_
           have BK446 := n1_
           have BK447 := n2_
           have HB := n3_
           clear n0_ n1_ n2_ n3_
           have hHeld : w12.cell? ⟨gb446, 0, none⟩ = some (.int .i64 a0_0) ∧ w12.cell? ⟨gb446, 1, none⟩ = some (.slice A0_1 l0_1.length c0_1) ∧ w12.cell? ⟨gb446, 2, none⟩ = some (.slice A0_2 l0_2.length c0_2) := hS_
           refine norm_ (a' := ?_) ?_ ?_
           rotate_left
           ·simp only [putAll, Act.put, List.setIfInBounds_toArray, List.set_cons_zero, List.set_cons_succ]
            rfl
           refine two_ (i := 2) (j := 5) (Ni := some 6) (Nj := some 3) #[true, true, true, true, false, false, false] #[true, true, false, true, false, true, false] rfl rfl rfl rfl (by kernel_rfl) (by decide) (by decide) (fun K hK => ?_) (fun K hK => ?_)
           ·skip
            refine Kd.R_make_step Kd.bool _ 4 (by rfl) (N := 6) rfl 40 _ _ rfl a0_0 rfl rfl Tryd.underlying40 (.bool false) 1 info4 rfl (by decide) (by omega) false (ok := fun _ => True) (okp := fun _ => True) rfl (fun _ hk => hk) trivial (of_decide_eq_true q21_3) (Nat.le_trans (Nat.mul_le_mul_right _ (of_decide_eq_true q21_3 : a0_0.toNat ≤ 281474976710656)) (by omega)) (Below.refl _ _) (Nat.le_refl _) ?_
            intro v449 w13 ho14 hb hg_ hnew_
            clear hg_ hnew_
            (first | rw [← Ny448.out] at ho14 | (simp only [Int.reduceToNat] at ho14; rw [← Ny448.out] at ho14))
            have n_ := az (Kd.R_elder' (mR HO453.out) (by first | exact Kd.R_base ho14 | exact Kd.R_base ho14) hb) <| And.intro (z0 (Kd.R_lower (Kd.R_new' ho14 (Kd.R_lt (mR HO453.out))) (below_size (mB HB.out)))) <| az (bB BK446.out hb) <| az (bB BK447.out hb) <| z0 (below_step (mB HB.out) hb)
            clear HO453 BK446 BK447 HB
            obtain ⟨HO453, HO450, BK446, BK447, HB⟩ := n_
            clear hb ho14
            obtain ⟨Ao15, co15, eo15⟩ := Kd.R_slice HO453.out
            (first | subst eo15 | (injection eo15 with f1_ f2_ f3_; have f4_ := f1_.symm; have f5_ := f3_.symm; clear f1_ f2_ f3_; subst f4_; subst f5_))
            obtain ⟨Ao16, co16, eo16⟩ := Kd.R_slice HO450.out
            (first | subst eo16 | (injection eo16 with f1_ f2_ f3_; have f4_ := f1_.symm; have f5_ := f3_.symm; clear f1_ f2_ f3_; subst f4_; subst f5_))
            refine hK.out _ _ q21_2 (fun hHeld => ?_)
            clear hK K
            refine norm_ (a' := ?_) ?_ ?_
            rotate_left
            ·show Act.put _ (some 6) _ = _
             simp only [Act.put, List.setIfInBounds_toArray, List.set_cons_zero, List.set_cons_succ, i64_w, i32_w]
             rfl
            refine pure_ (i := 4) (N := some 8) (v := ?_) (a' := ?_) #[true, true, true, true, true, false, false] rfl rfl (by kernel_rfl) (fun _ _ _ h => h) (Or.inl ⟨by rfl, ?_⟩) ?_ ?_
            rotate_left
            ·intro w'
             go_simp
             with_reducible rfl
            rotate_left
            ·simp only [Act.put, List.setIfInBounds_toArray, List.set_cons_zero, List.set_cons_succ, i64_w, i32_w]
             rfl
            exact norm_ q21_1 (hJ2_3 (.slice Ao16 y448.length co16, .slice Ao15 y451.length co15) _ ⟨hHeld, q21_4, q21_5, (mK BK446.out), (mK BK447.out), (mB HB.out)⟩)
           ·skip
            refine box_step ?hg (N := 3) ?hd (cs := #[.slice none 0 0, .slice none 0 0]) (t := 42) ?hr ?_; (case hd => rfl); (case hg => rfl); (case hr => first | (go_simp; done) | (go_simp; rfl))
            intro gb454 hg w13 hbox hb
            have n_ := az (Kd.R_below (mR HO453.out) hb) <| az (bB BK446.out hb) <| az (bB BK447.out hb) <| az (below_step (mB HB.out) hb) <| az (hbox) <| And.intro (z0 ((by rw [hg]; exact (below_size (mB HB.out)) : w.heap.size ≤ gb454))) <| And.intro (z0 ((by rw [hg]; exact (below_size (mB HB.out)) : w.heap.size ≤ gb454))) <| az ((nL hg BK446.out)) <| az ((nG hg BK446.out)) <| az ((nL hg BK447.out)) <| z0 ((nG hg BK447.out))
            clear HO453 BK446 BK447 HB
            obtain ⟨HO453, BK446, BK447, HB, BK454, GW454, GE454, NB446_454, NB454_446, NB447_454, NB454_447⟩ := n_
            clear hb hbox hg
            refine hK.out _ _ q21_2 (fun hHeld => ?_)
            clear hK K
            refine norm_ (a' := ?_) ?_ ?_
            rotate_left
            ·show Act.put _ (some 3) _ = _
             simp only [Act.put, List.setIfInBounds_toArray, List.set_cons_zero, List.set_cons_succ, i64_w, i32_w]
             rfl
            exact norm_ q21_1 (hJ3_5 (v452, gb454) _ ⟨hHeld, (mR HO453.out), (mK BK446.out), (mK BK447.out), (mK BK454.out), GW454.out, GE454.out, NB446_454.out, NB454_446.out, NB447_454.out, NB454_447.out, (mB HB.out)⟩)
         ·skip
          rintro v449 w12 ⟨hS_, h0_, h1_, h2_, h3_⟩
          have n0_ : Aside0 (Kd.R Kd.bool 4 w12 w.heap.size (fun _ => True) v449 y448) := ⟨h0_⟩
          have n1_ : Aside0 (w12.heap[gb446]? = some (.cells #[.int .i64 a0_0, .slice A0_1 l0_1.length c0_1, .slice A0_2 l0_2.length c0_2] 26 (0, 0))) := ⟨h1_⟩
          have n2_ : Aside0 (w12.heap[gb447]? = some (.cells #[.slice none 0 0, .slice none 0 0] 42 (0, 0))) := ⟨h2_⟩
          have n3_ : Aside0 (Below w.heap.size w w12) := ⟨h3_⟩
          clear BK446 BK447 HB h0_ h1_ h2_ h3_
          have HO450 := n0_
          have BK446 := n1_
          have BK447 := n2_
          have HB := n3_
          clear n0_ n1_ n2_ n3_
          have hHeld : w12.cell? ⟨gb446, 0, none⟩ = some (.int .i64 a0_0) ∧ w12.cell? ⟨gb446, 1, none⟩ = some (.slice A0_1 l0_1.length c0_1) ∧ w12.cell? ⟨gb446, 2, none⟩ = some (.slice A0_2 l0_2.length c0_2) := hS_
          refine norm_ (a' := ?_) ?_ ?_
          rotate_left
          ·simp only [putAll, Act.put, List.setIfInBounds_toArray, List.set_cons_zero, List.set_cons_succ]
           rfl
          refine two_ (i := 3) (j := 5) (Ni := some 7) (Nj := some 3) #[true, true, true, true, false, false, false] #[true, true, true, false, false, true, false] rfl rfl rfl rfl (by kernel_rfl) (by decide) (by decide) (fun K hK => ?_) (fun K hK => ?_)
          ·skip
           refine Kd.R_make_step Kd.bool _ 4 (by rfl) (N := 7) rfl 40 _ _ rfl 6 rfl rfl Tryd.underlying40 (.bool false) 1 info4 rfl (by decide) (by omega) false (ok := fun _ => True) (okp := fun _ => True) rfl (fun _ hk => hk) trivial (by omega) (by omega) (Below.refl _ _) (Nat.le_refl _) ?_
           intro v452 w13 ho14 hb hg_ hnew_
           clear hg_ hnew_
           (first | rw [← Ny451.out] at ho14 | (simp only [Int.reduceToNat] at ho14; rw [← Ny451.out] at ho14))
           have n_ := az (Kd.R_elder' (mR HO450.out) (by first | exact Kd.R_base ho14 | exact Kd.R_base ho14) hb) <| And.intro (z0 (Kd.R_lower (Kd.R_new' ho14 (Kd.R_lt (mR HO450.out))) (below_size (mB HB.out)))) <| az (bB BK446.out hb) <| az (bB BK447.out hb) <| z0 (below_step (mB HB.out) hb)
           clear HO450 BK446 BK447 HB
           obtain ⟨HO450, HO453, BK446, BK447, HB⟩ := n_
           clear hb ho14
           obtain ⟨Ao15, co15, eo15⟩ := Kd.R_slice HO453.out
           (first | subst eo15 | (injection eo15 with f1_ f2_ f3_; have f4_ := f1_.symm; have f5_ := f3_.symm; clear f1_ f2_ f3_; subst f4_; subst f5_))
           obtain ⟨Ao16, co16, eo16⟩ := Kd.R_slice HO450.out
           (first | subst eo16 | (injection eo16 with f1_ f2_ f3_; have f4_ := f1_.symm; have f5_ := f3_.symm; clear f1_ f2_ f3_; subst f4_; subst f5_))
           refine hK.out _ _ q21_2 (fun hHeld => ?_)
           clear hK K
           refine norm_ (a' := ?_) ?_ ?_
           rotate_left
           ·show Act.put _ (some 7) _ = _
            simp only [Act.put, List.setIfInBounds_toArray, List.set_cons_zero, List.set_cons_succ, i64_w, i32_w]
            rfl
           refine pure_ (i := 4) (N := some 8) (v := ?_) (a' := ?_) #[true, true, true, true, true, false, false] rfl rfl (by kernel_rfl) (fun _ _ _ h => h) (Or.inl ⟨by rfl, ?_⟩) ?_ ?_
           rotate_left
           ·intro w'
            go_simp
            with_reducible rfl
           rotate_left
           ·simp only [Act.put, List.setIfInBounds_toArray, List.set_cons_zero, List.set_cons_succ, i64_w, i32_w]
            rfl
           exact norm_ q21_1 (hJ2_3 (.slice Ao16 y448.length co16, .slice Ao15 y451.length co15) _ ⟨hHeld, q21_4, q21_5, (mK BK446.out), (mK BK447.out), (mB HB.out)⟩)
          ·skip
           refine box_step ?hg (N := 3) ?hd (cs := #[.slice none 0 0, .slice none 0 0]) (t := 42) ?hr ?_; (case hd => rfl); (case hg => rfl); (case hr => first | (go_simp; done) | (go_simp; rfl))
           intro gb454 hg w13 hbox hb
           have n_ := az (Kd.R_below (mR HO450.out) hb) <| az (bB BK446.out hb) <| az (bB BK447.out hb) <| az (below_step (mB HB.out) hb) <| az (hbox) <| And.intro (z0 ((by rw [hg]; exact (below_size (mB HB.out)) : w.heap.size ≤ gb454))) <| And.intro (z0 ((by rw [hg]; exact (below_size (mB HB.out)) : w.heap.size ≤ gb454))) <| az ((nL hg BK446.out)) <| az ((nG hg BK446.out)) <| az ((nL hg BK447.out)) <| z0 ((nG hg BK447.out))
           clear HO450 BK446 BK447 HB
           obtain ⟨HO450, BK446, BK447, HB, BK454, GW454, GE454, NB446_454, NB454_446, NB447_454, NB454_447⟩ := n_
           clear hb hbox hg
           refine hK.out _ _ q21_2 (fun hHeld => ?_)
           clear hK K
           refine norm_ (a' := ?_) ?_ ?_
           rotate_left
           ·show Act.put _ (some 3) _ = _
            simp only [Act.put, List.setIfInBounds_toArray, List.set_cons_zero, List.set_cons_succ, i64_w, i32_w]
            rfl
           exact norm_ q21_1 (hJ2_5 (v449, gb454) _ ⟨hHeld, (mR HO450.out), (mK BK446.out), (mK BK447.out), (mK BK454.out), GW454.out, GE454.out, NB446_454.out, NB454_446.out, NB447_454.out, NB454_447.out, (mB HB.out)⟩)
        ·skip
         rintro ⟨v452, gb454⟩ w13 ⟨hS_, h0_, h1_, h2_, h3_, h4_, h5_, h6_, h7_, h8_, h9_, h10_⟩
         have n0_ : Aside0 (Kd.R Kd.bool 4 w13 w.heap.size (fun _ => True) v452 y451) := ⟨h0_⟩
         have n1_ : Aside0 (w13.heap[gb446]? = some (.cells #[.int .i64 a0_0, .slice A0_1 l0_1.length c0_1, .slice A0_2 l0_2.length c0_2] 26 (0, 0))) := ⟨h1_⟩
         have n2_ : Aside0 (w13.heap[gb447]? = some (.cells #[.slice none 0 0, .slice none 0 0] 42 (0, 0))) := ⟨h2_⟩
         have n3_ : Aside0 (w13.heap[gb454]? = some (.cells #[.slice none 0 0, .slice none 0 0] 42 (0, 0))) := ⟨h3_⟩
         have n4_ : Aside0 (w.heap.size ≤ gb454) := ⟨h4_⟩
         have n5_ : Aside0 (w.heap.size ≤ gb454) := ⟨h5_⟩
         have n6_ : Aside0 (gb446 ≠ gb454) := ⟨h6_⟩
         have n7_ : Aside0 (gb454 ≠ gb446) := ⟨h7_⟩
         have n8_ : Aside0 (gb447 ≠ gb454) := ⟨h8_⟩
         have n9_ : Aside0 (gb454 ≠ gb447) := ⟨h9_⟩
         have n10_ : Aside0 (Below w.heap.size w w13) := ⟨h10_⟩
         clear BK446 BK447 HB h0_ h1_ h2_ h3_ h4_ h5_ h6_ h7_ h8_ h9_ h10_
         have HO453 := n0_
         have BK446 := n1_
         have BK447 := n2_
         have BK454 := n3_
         have GW454 := n4_
         have GE454 := n5_
         have NB446_454 := n6_
         have NB454_446 := n7_
         have NB447_454 := n8_
         have NB454_447 := n9_
         have HB := n10_
         clear n0_ n1_ n2_ n3_ n4_ n5_ n6_ n7_ n8_ n9_ n10_
         have hHeld : w13.cell? ⟨gb446, 0, none⟩ = some (.int .i64 a0_0) ∧ w13.cell? ⟨gb446, 1, none⟩ = some (.slice A0_1 l0_1.length c0_1) ∧ w13.cell? ⟨gb446, 2, none⟩ = some (.slice A0_2 l0_2.length c0_2) := hS_
         refine norm_ (a' := ?_) ?_ ?_
         rotate_left
         ·simp only [putAll, Act.put, List.setIfInBounds_toArray, List.set_cons_zero, List.set_cons_succ]
          rfl
         refine one_ (i := 2) (N := some 6) #[true, true, true, true, false, true, false] rfl rfl (by kernel_rfl) (by decide) (fun K hK => ?_)
         refine Kd.R_make_step Kd.bool _ 4 (by rfl) (N := 6) rfl 40 _ _ rfl a0_0 rfl rfl Tryd.underlying40 (.bool false) 1 info4 rfl (by decide) (by omega) false (ok := fun _ => True) (okp := fun _ => True) rfl (fun _ hk => hk) trivial (of_decide_eq_true q21_3) (Nat.le_trans (Nat.mul_le_mul_right _ (of_decide_eq_true q21_3 : a0_0.toNat ≤ 281474976710656)) (by omega)) (Below.refl _ _) (Nat.le_refl _) ?_
         intro v449 w14 ho15 hb hg_ hnew_
         clear hg_ hnew_
         (first | rw [← Ny448.out] at ho15 | (simp only [Int.reduceToNat] at ho15; rw [← Ny448.out] at ho15))
         have n_ := az (Kd.R_elder' (mR HO453.out) (by first | exact Kd.R_base ho15 | exact Kd.R_base ho15) hb) <| And.intro (z0 (Kd.R_lower (Kd.R_new' ho15 (Kd.R_lt (mR HO453.out))) (below_size (mB HB.out)))) <| az (bB BK446.out hb) <| az (bB BK447.out hb) <| az (bB BK454.out hb) <| z0 (below_step (mB HB.out) hb)
         clear HO453 BK446 BK447 BK454 HB
         obtain ⟨HO453, HO450, BK446, BK447, BK454, HB⟩ := n_
         clear hb ho15
         obtain ⟨Ao16, co16, eo16⟩ := Kd.R_slice HO453.out
         (first | subst eo16 | (injection eo16 with f1_ f2_ f3_; have f4_ := f1_.symm; have f5_ := f3_.symm; clear f1_ f2_ f3_; subst f4_; subst f5_))
         obtain ⟨Ao17, co17, eo17⟩ := Kd.R_slice HO450.out
         (first | subst eo17 | (injection eo17 with f1_ f2_ f3_; have f4_ := f1_.symm; have f5_ := f3_.symm; clear f1_ f2_ f3_; subst f4_; subst f5_))
         refine hK.out _ _ q21_2 (fun hHeld => ?_)
         clear hK K
         refine norm_ (a' := ?_) ?_ ?_
         rotate_left
         ·show Act.put _ (some 6) _ = _
          simp only [Act.put, List.setIfInBounds_toArray, List.set_cons_zero, List.set_cons_succ, i64_w, i32_w]
          rfl
         refine pure_ (i := 4) (N := some 8) (v := ?_) (a' := ?_) #[true, true, true, true, true, true, false] rfl rfl (by kernel_rfl) (fun _ _ _ h => h) (Or.inl ⟨by rfl, ?_⟩) ?_ ?_
         rotate_left
         ·intro w'
          go_simp
          with_reducible rfl
         rotate_left
         ·simp only [Act.put, List.setIfInBounds_toArray, List.set_cons_zero, List.set_cons_succ, i64_w, i32_w]
          rfl
         exact norm_ q21_1 (hJ2_3_5 (.slice Ao17 y448.length co17, .slice Ao16 y451.length co16, gb454) _ ⟨hHeld, q21_4, q21_5, (mK BK446.out), (mK BK447.out), (mK BK454.out), GW454.out, GE454.out, NB446_454.out, NB454_446.out, NB447_454.out, NB454_447.out, (mB HB.out)⟩)
       ·skip
        rintro ⟨v449, gb454⟩ w13 ⟨hS_, h0_, h1_, h2_, h3_, h4_, h5_, h6_, h7_, h8_, h9_, h10_⟩
        have n0_ : Aside0 (Kd.R Kd.bool 4 w13 w.heap.size (fun _ => True) v449 y448) := ⟨h0_⟩
        have n1_ : Aside0 (w13.heap[gb446]? = some (.cells #[.int .i64 a0_0, .slice A0_1 l0_1.length c0_1, .slice A0_2 l0_2.length c0_2] 26 (0, 0))) := ⟨h1_⟩
        have n2_ : Aside0 (w13.heap[gb447]? = some (.cells #[.slice none 0 0, .slice none 0 0] 42 (0, 0))) := ⟨h2_⟩
        have n3_ : Aside0 (w13.heap[gb454]? = some (.cells #[.slice none 0 0, .slice none 0 0] 42 (0, 0))) := ⟨h3_⟩
        have n4_ : Aside0 (w.heap.size ≤ gb454) := ⟨h4_⟩
        have n5_ : Aside0 (w.heap.size ≤ gb454) := ⟨h5_⟩
        have n6_ : Aside0 (gb446 ≠ gb454) := ⟨h6_⟩
        have n7_ : Aside0 (gb454 ≠ gb446) := ⟨h7_⟩
        have n8_ : Aside0 (gb447 ≠ gb454) := ⟨h8_⟩
        have n9_ : Aside0 (gb454 ≠ gb447) := ⟨h9_⟩
        have n10_ : Aside0 (Below w.heap.size w w13) := ⟨h10_⟩
        clear BK446 BK447 HB h0_ h1_ h2_ h3_ h4_ h5_ h6_ h7_ h8_ h9_ h10_
        have HO450 := n0_
        have BK446 := n1_
        have BK447 := n2_
        have BK454 := n3_
        have GW454 := n4_
        have GE454 := n5_
        have NB446_454 := n6_
        have NB454_446 := n7_
        have NB447_454 := n8_
        have NB454_447 := n9_
        have HB := n10_
        clear n0_ n1_ n2_ n3_ n4_ n5_ n6_ n7_ n8_ n9_ n10_
        have hHeld : w13.cell? ⟨gb446, 0, none⟩ = some (.int .i64 a0_0) ∧ w13.cell? ⟨gb446, 1, none⟩ = some (.slice A0_1 l0_1.length c0_1) ∧ w13.cell? ⟨gb446, 2, none⟩ = some (.slice A0_2 l0_2.length c0_2) := hS_
        refine norm_ (a' := ?_) ?_ ?_
        rotate_left
        ·simp only [putAll, Act.put, List.setIfInBounds_toArray, List.set_cons_zero, List.set_cons_succ]
         rfl
        refine one_ (i := 3) (N := some 7) #[true, true, true, true, false, true, false] rfl rfl (by kernel_rfl) (by decide) (fun K hK => ?_)
        refine Kd.R_make_step Kd.bool _ 4 (by rfl) (N := 7) rfl 40 _ _ rfl 6 rfl rfl Tryd.underlying40 (.bool false) 1 info4 rfl (by decide) (by omega) false (ok := fun _ => True) (okp := fun _ => True) rfl (fun _ hk => hk) trivial (by omega) (by omega) (Below.refl _ _) (Nat.le_refl _) ?_
        intro v452 w14 ho15 hb hg_ hnew_
        clear hg_ hnew_
        (first | rw [← Ny451.out] at ho15 | (simp only [Int.reduceToNat] at ho15; rw [← Ny451.out] at ho15))
        have n_ := az (Kd.R_elder' (mR HO450.out) (by first | exact Kd.R_base ho15 | exact Kd.R_base ho15) hb) <| And.intro (z0 (Kd.R_lower (Kd.R_new' ho15 (Kd.R_lt (mR HO450.out))) (below_size (mB HB.out)))) <| az (bB BK446.out hb) <| az (bB BK447.out hb) <| az (bB BK454.out hb) <| z0 (below_step (mB HB.out) hb)
        clear HO450 BK446 BK447 BK454 HB
        obtain ⟨HO450, HO453, BK446, BK447, BK454, HB⟩ := n_
        clear hb ho15
        obtain ⟨Ao16, co16, eo16⟩ := Kd.R_slice HO453.out
        (first | subst eo16 | (injection eo16 with f1_ f2_ f3_; have f4_ := f1_.symm; have f5_ := f3_.symm; clear f1_ f2_ f3_; subst f4_; subst f5_))
        obtain ⟨Ao17, co17, eo17⟩ := Kd.R_slice HO450.out
        (first | subst eo17 | (injection eo17 with f1_ f2_ f3_; have f4_ := f1_.symm; have f5_ := f3_.symm; clear f1_ f2_ f3_; subst f4_; subst f5_))
        refine hK.out _ _ q21_2 (fun hHeld => ?_)
        clear hK K
        refine norm_ (a' := ?_) ?_ ?_
        rotate_left
        ·show Act.put _ (some 7) _ = _
         simp only [Act.put, List.setIfInBounds_toArray, List.set_cons_zero, List.set_cons_succ, i64_w, i32_w]
         rfl
        refine pure_ (i := 4) (N := some 8) (v := ?_) (a' := ?_) #[true, true, true, true, true, true, false] rfl rfl (by kernel_rfl) (fun _ _ _ h => h) (Or.inl ⟨by rfl, ?_⟩) ?_ ?_
        rotate_left
        ·intro w'
         go_simp
         with_reducible rfl
        rotate_left
        ·simp only [Act.put, List.setIfInBounds_toArray, List.set_cons_zero, List.set_cons_succ, i64_w, i32_w]
         rfl
        exact norm_ q21_1 (hJ2_3_5 (.slice Ao17 y448.length co17, .slice Ao16 y451.length co16, gb454) _ ⟨hHeld, q21_4, q21_5, (mK BK446.out), (mK BK447.out), (mK BK454.out), GW454.out, GE454.out, NB446_454.out, NB454_446.out, NB447_454.out, NB454_447.out, (mB HB.out)⟩)
      ·skip
       rintro ⟨v449, v452⟩ w16 ⟨hS_, h0_, h1_, h2_, h3_, h4_⟩
       have n0_ : Aside0 (Kd.R Kd.bool 4 w16 w.heap.size (fun k_ => nB k_ v452) v449 y448) := ⟨h0_⟩
       have n1_ : Aside0 (Kd.R Kd.bool 4 w16 w.heap.size (fun k_ => nB k_ v449) v452 y451) := ⟨h1_⟩
       have n2_ : Aside0 (w16.heap[gb446]? = some (.cells #[.int .i64 a0_0, .slice A0_1 l0_1.length c0_1, .slice A0_2 l0_2.length c0_2] 26 (0, 0))) := ⟨h2_⟩
       have n3_ : Aside0 (w16.heap[gb447]? = some (.cells #[.slice none 0 0, .slice none 0 0] 42 (0, 0))) := ⟨h3_⟩
       have n4_ : Aside0 (Below w.heap.size w w16) := ⟨h4_⟩
       clear BK446 BK447 HB h0_ h1_ h2_ h3_ h4_
       have HO450 := n0_
       have HO453 := n1_
       have BK446 := n2_
       have BK447 := n3_
       have HB := n4_
       clear n0_ n1_ n2_ n3_ n4_
       have hHeld : w16.cell? ⟨gb446, 0, none⟩ = some (.int .i64 a0_0) ∧ w16.cell? ⟨gb446, 1, none⟩ = some (.slice A0_1 l0_1.length c0_1) ∧ w16.cell? ⟨gb446, 2, none⟩ = some (.slice A0_2 l0_2.length c0_2) := hS_
       obtain ⟨Ao17, co17, eo17⟩ := Kd.R_slice HO453.out
       (first | subst eo17 | (injection eo17 with f1_ f2_ f3_; have f4_ := f1_.symm; have f5_ := f3_.symm; clear f1_ f2_ f3_; subst f4_; subst f5_))
       obtain ⟨Ao18, co18, eo18⟩ := Kd.R_slice HO450.out
       (first | subst eo18 | (injection eo18 with f1_ f2_ f3_; have f4_ := f1_.symm; have f5_ := f3_.symm; clear f1_ f2_ f3_; subst f4_; subst f5_))
       refine norm_ (a' := ?_) ?_ ?_
       rotate_left
       ·simp only [putAll, Act.put, List.setIfInBounds_toArray, List.set_cons_zero, List.set_cons_succ]
        rfl
       refine one_ (i := 5) (N := some 3) #[true, true, true, true, true, true, false] rfl rfl (by kernel_rfl) (by decide) (fun K hK => ?_)
       refine box_step ?hg (N := 3) ?hd (cs := #[.slice none 0 0, .slice none 0 0]) (t := 42) ?hr ?_; (case hd => rfl); (case hg => rfl); (case hr => first | (go_simp; done) | (go_simp; rfl))
       intro gb454 hg w19 hbox hb
       have n_ := az (Kd.R_below (mR HO450.out) hb) <| az (Kd.R_below (mR HO453.out) hb) <| az (bB BK446.out hb) <| az (bB BK447.out hb) <| az (below_step (mB HB.out) hb) <| az (hbox) <| And.intro (z0 ((by rw [hg]; exact (below_size (mB HB.out)) : w.heap.size ≤ gb454))) <| And.intro (z0 ((by rw [hg]; exact (below_size (mB HB.out)) : w.heap.size ≤ gb454))) <| az ((nL hg BK446.out)) <| az ((nG hg BK446.out)) <| az ((nL hg BK447.out)) <| z0 ((nG hg BK447.out))
       clear HO450 HO453 BK446 BK447 HB
       obtain ⟨HO450, HO453, BK446, BK447, HB, BK454, GW454, GE454, NB446_454, NB454_446, NB447_454, NB454_447⟩ := n_
       clear hb hbox hg
       refine hK.out _ _ q21_2 (fun hHeld => ?_)
       clear hK K
       refine norm_ (a' := ?_) ?_ ?_
       rotate_left
       ·show Act.put _ (some 3) _ = _
        simp only [Act.put, List.setIfInBounds_toArray, List.set_cons_zero, List.set_cons_succ, i64_w, i32_w]
        rfl
       exact norm_ q21_1 (hJ2_3_5 (.slice Ao18 y448.length co18, .slice Ao17 y451.length co17, gb454) _ ⟨hHeld, (mR HO450.out), (mR HO453.out), (mK BK446.out), (mK BK447.out), (mK BK454.out), GW454.out, GE454.out, NB446_454.out, NB454_446.out, NB447_454.out, NB454_447.out, (mB HB.out)⟩)
     rintro ⟨v449, v452, gb454⟩ w17 ⟨hS_, h0_, h1_, h2_, h3_, h4_, h5_, h6_, h7_, h8_, h9_, h10_, h11_⟩
     have n0_ : Aside0 (Kd.R Kd.bool 4 w17 w.heap.size (fun k_ => nB k_ v452) v449 y448) := ⟨h0_⟩
     have n1_ : Aside0 (Kd.R Kd.bool 4 w17 w.heap.size (fun k_ => nB k_ v449) v452 y451) := ⟨h1_⟩
     have n2_ : Aside0 (w17.heap[gb446]? = some (.cells #[.int .i64 a0_0, .slice A0_1 l0_1.length c0_1, .slice A0_2 l0_2.length c0_2] 26 (0, 0))) := ⟨h2_⟩
     have n3_ : Aside0 (w17.heap[gb447]? = some (.cells #[.slice none 0 0, .slice none 0 0] 42 (0, 0))) := ⟨h3_⟩
     have n4_ : Aside0 (w17.heap[gb454]? = some (.cells #[.slice none 0 0, .slice none 0 0] 42 (0, 0))) := ⟨h4_⟩
     have n5_ : Aside0 (w.heap.size ≤ gb454) := ⟨h5_⟩
     have n6_ : Aside0 (w.heap.size ≤ gb454) := ⟨h6_⟩
     have n7_ : Aside0 (gb446 ≠ gb454) := ⟨h7_⟩
     have n8_ : Aside0 (gb454 ≠ gb446) := ⟨h8_⟩
     have n9_ : Aside0 (gb447 ≠ gb454) := ⟨h9_⟩
     have n10_ : Aside0 (gb454 ≠ gb447) := ⟨h10_⟩
     have n11_ : Aside0 (Below w.heap.size w w17) := ⟨h11_⟩
     clear BK446 BK447 HB h0_ h1_ h2_ h3_ h4_ h5_ h6_ h7_ h8_ h9_ h10_ h11_
     have HO450 := n0_
     have HO453 := n1_
     have BK446 := n2_
     have BK447 := n3_
     have BK454 := n4_
     have GW454 := n5_
     have GE454 := n6_
     have NB446_454 := n7_
     have NB454_446 := n8_
     have NB447_454 := n9_
     have NB454_447 := n10_
     have HB := n11_
     clear n0_ n1_ n2_ n3_ n4_ n5_ n6_ n7_ n8_ n9_ n10_ n11_
     have hHeld : w17.cell? ⟨gb446, 0, none⟩ = some (.int .i64 a0_0) ∧ w17.cell? ⟨gb446, 1, none⟩ = some (.slice A0_1 l0_1.length c0_1) ∧ w17.cell? ⟨gb446, 2, none⟩ = some (.slice A0_2 l0_2.length c0_2) := hS_
     obtain ⟨Ao18, co18, eo18⟩ := Kd.R_slice HO453.out
     (first | subst eo18 | (injection eo18 with f1_ f2_ f3_; have f4_ := f1_.symm; have f5_ := f3_.symm; clear f1_ f2_ f3_; subst f4_; subst f5_))
     obtain ⟨Ao19, co19, eo19⟩ := Kd.R_slice HO450.out
     (first | subst eo19 | (injection eo19 with f1_ f2_ f3_; have f4_ := f1_.symm; have f5_ := f3_.symm; clear f1_ f2_ f3_; subst f4_; subst f5_))
     refine norm_ (a' := ?_) ?_ ?_
     rotate_left
     ·simp only [putAll, Act.put, List.setIfInBounds_toArray, List.set_cons_zero, List.set_cons_succ]
      rfl
     refine one_ (i := 6) (N := none) #[true, true, true, true, true, true, true] rfl rfl (by kernel_rfl) (by decide) (fun K hK => ?_)
     have hs20 : w17.cell? ⟨gb454, 0, none⟩ = some (.slice none 0 0) := (blk_cell BK454.out 0).trans rfl
     have hfs20 := blk_frozen BK454.out 0
     have hns20_0 := NB446_454.out
     have hns20_1 := NB447_454.out
     have hms20_0 := NB454_446.out
     have hms20_1 := NB454_447.out
     have hs21 : w17.cell? ⟨gb454, 1, none⟩ = some (.slice none 0 0) := (blk_cell BK454.out 1).trans rfl
     have hfs21 := blk_frozen BK454.out 1
     have hns21_0 := NB446_454.out
     have hns21_1 := NB447_454.out
     have hms21_0 := NB454_446.out
     have hms21_1 := NB454_447.out
     refine skip_ (w1 := ?_) (by rfl) rfl ?_ ?_
     rotate_left
     ·go_simp
      rfl
     refine hK.out _ _ ⟨((cell_far (p := ⟨gb454, _, none⟩) NB446_454.out _).trans (((cell_far (p := ⟨gb454, _, none⟩) NB446_454.out _).trans (hHeld.1)))), ((cell_far (p := ⟨gb454, _, none⟩) NB446_454.out _).trans (((cell_far (p := ⟨gb454, _, none⟩) NB446_454.out _).trans (hHeld.2.1)))), ((cell_far (p := ⟨gb454, _, none⟩) NB446_454.out _).trans (((cell_far (p := ⟨gb454, _, none⟩) NB446_454.out _).trans (hHeld.2.2))))⟩ (fun hHeld => ?_)
     clear hK K
     refine done_ (by kernel_rfl) ?_
     have n0_ : Aside0 (Kd.R Kd.bool 4 ((w17.setCell ⟨gb454, 0, none⟩ (.slice Ao19 y448.length co19)).setCell ⟨gb454, 1, none⟩ (.slice Ao18 y451.length co18)) w.heap.size (fun k_ => nB k_ (.slice Ao18 y451.length co18)) (.slice Ao19 y448.length co19) y448) := ⟨by (with_reducible repeat (first | apply Kd.R_alloc | apply Kd.R_drewN | apply Kd.R_drew)); exact Kd.R_mono (Kd.R_far (p := ⟨gb454, 1, none⟩) (Kd.R_far (p := ⟨gb454, 0, none⟩) (Kd.R_types HO450.out BK454.out (by decide)) (fun _ hk => hk.2) (.slice Ao19 y448.length co19)) (fun _ hk => hk.2) (.slice Ao18 y451.length co18)) (fun _ hk => hk.1)⟩
     have n1_ : Aside0 (Kd.R Kd.bool 4 ((w17.setCell ⟨gb454, 0, none⟩ (.slice Ao19 y448.length co19)).setCell ⟨gb454, 1, none⟩ (.slice Ao18 y451.length co18)) w.heap.size (fun k_ => nB k_ (.slice Ao19 y448.length co19)) (.slice Ao18 y451.length co18) y451) := ⟨by (with_reducible repeat (first | apply Kd.R_alloc | apply Kd.R_drewN | apply Kd.R_drew)); exact Kd.R_mono (Kd.R_far (p := ⟨gb454, 1, none⟩) (Kd.R_far (p := ⟨gb454, 0, none⟩) (Kd.R_types HO453.out BK454.out (by decide)) (fun _ hk => hk.2) (.slice Ao19 y448.length co19)) (fun _ hk => hk.2) (.slice Ao18 y451.length co18)) (fun _ hk => hk.1)⟩
     have n2_ : Aside0 (((w17.setCell ⟨gb454, 0, none⟩ (.slice Ao19 y448.length co19)).setCell ⟨gb454, 1, none⟩ (.slice Ao18 y451.length co18)).heap[gb446]? = some (.cells #[.int .i64 a0_0, .slice A0_1 l0_1.length c0_1, .slice A0_2 l0_2.length c0_2] 26 (0, 0))) := ⟨mF BK446.out⟩
     have n3_ : Aside0 (((w17.setCell ⟨gb454, 0, none⟩ (.slice Ao19 y448.length co19)).setCell ⟨gb454, 1, none⟩ (.slice Ao18 y451.length co18)).heap[gb447]? = some (.cells #[.slice none 0 0, .slice none 0 0] 42 (0, 0))) := ⟨mF BK447.out⟩
     have n4_ : Aside0 (((w17.setCell ⟨gb454, 0, none⟩ (.slice Ao19 y448.length co19)).setCell ⟨gb454, 1, none⟩ (.slice Ao18 y451.length co18)).heap[gb454]? = some (.cells #[.slice Ao19 y448.length co19, .slice Ao18 y451.length co18] 42 (0, 0))) := ⟨pF BK454.out⟩
     have n5_ : Aside0 (Below w.heap.size w ((w17.setCell ⟨gb454, 0, none⟩ (.slice Ao19 y448.length co19)).setCell ⟨gb454, 1, none⟩ (.slice Ao18 y451.length co18))) := ⟨mB HB.out⟩
     (try clear HO450)
     (try clear HO453)
     (try clear BK446)
     (try clear BK447)
     (try clear BK454)
     (try clear HB)
     generalize ((w17.setCell ⟨gb454, 0, none⟩ (.slice Ao19 y448.length co19)).setCell ⟨gb454, 1, none⟩ (.slice Ao18 y451.length co18)) = w22 at n0_ n1_ n2_ n3_ n4_ n5_ ⊢
     have HO450 := n0_
     have HO453 := n1_
     have BK446 := n2_
     have BK447 := n3_
     have BK454 := n4_
     have HB := n5_
     clear n0_ n1_ n2_ n3_ n4_ n5_
     have hnb23 := NB454_446.out
     have hnc23 := NB446_454.out
     have hnb24 := NB454_447.out
     have hnc24 := NB447_454.out
     obtain ⟨hcz25_0, hcz25_1, hfz25_0, hfz25_1⟩ := cel2 BK454.out
     have p6 : 0 ≤ (0 : Int) := (by omega)
     have q6 : (0 : Int) < ((y448.length : Int) : Int) := of_decide_eq_true q21_3
     have qi6 : (0 < y448.length) = True := eq_true (by omega)
     obtain ⟨go6, co6, eo6, gb6, gl6, cl6, HG6⟩ := Kd.R_form HO450.out (by omega)
     (first | cases eo6 | (injection eo6 with ea_ en_ ec_; (first | subst ea_ | (injection ea_ with ea_; subst ea_)); subst ec_; clear en_))
     have GB6 := z0 gb6
     have GG6 := z0 HG6
     clear gb6 gl6 HG6
     obtain ⟨hx6_0, hf6_0⟩ := Kd.R_celln false HO450.out (0 : Int) p6 q6
     (try rw [show ((0 : Int)).toNat = 0 from rfl] at hx6_0)
     (try simp only [Nat.reduceMul, Nat.zero_mul, Nat.zero_add, Nat.reduceAdd] at hx6_0)
     (try rw [show ((0 : Int)).toNat = 0 from rfl] at hf6_0)
     (try simp only [Nat.reduceMul, Nat.zero_mul, Nat.zero_add, Nat.reduceAdd] at hf6_0)
     replace p6 := eq_true p6
     replace q6 := eq_true q6
     obtain ⟨hy26_, hz26_⟩ := Kd.R_celln false HO450.out (0 : Int) (by omega) (of_decide_eq_true q21_3)
     (try simp only [Int.reduceToNat, Int.toNat_zero, Int.toNat_ofNat, Nat.reduceMul, Nat.zero_mul, Nat.zero_add] at hy26_ hz26_)
     (try rw [show ((0 : Int)).toNat = 0 from rfl] at hy26_)
     (try rw [show ((0 : Int)).toNat = 0 from rfl] at hz26_)
     have HP26 := Kd.R_putg HO450.out (0 : Int) true
     try go_wp2_with (first | ((with_reducible refine gate_store (t := 4) (p := 11) rfl ?_); refine store_event (t := 4) (p := 11) (v := ?vo_w27) (w1 := (w22.setCell ⟨go6, (0 : Int).toNat, none⟩ (.bool true))) ?hg ?ho ?hn ?hr ?_; (case ho => rfl); (case hg => rfl); (case hn => rfl); (case hr => first | (go_simp; done) | (go_simp; rfl)); intro w27 hw; have hg : w22.grownBy w27 (some go6) := (by rw [hw]; exact HP26.2); have hp_ : Kd.R Kd.bool 4 w27 w.heap.size (fun k_ => nB k_ (.slice Ao18 y451.length co18)) (.slice (some ⟨go6, 0, none⟩) y448.length co19) y455 := (by rw [hw, Ny455.out]; exact HP26.1); clear HP26; have n_ := az (blk_grown (g := gb446) (o := .cells #[.int .i64 a0_0, .slice A0_1 l0_1.length c0_1, .slice A0_2 l0_2.length c0_2] 26 (0, 0)) (mK BK446.out) hg (Kd.R_ne HO450.out BK446.out (by decide))) <| az (blk_grown (g := gb447) (o := .cells #[.slice none 0 0, .slice none 0 0] 42 (0, 0)) (mK BK447.out) hg (Kd.R_ne HO450.out BK447.out (by decide))) <| az (hp_) <| az (Kd.R_after (v := (.slice (some ⟨go6, 0, none⟩) y448.length co19)) (v1 := (.slice (some ⟨go6, 0, none⟩) y448.length co19)) (ok := (fun _ => True)) (by (with_reducible repeat (first | apply Kd.R_alloc | apply Kd.R_drewN | apply Kd.R_drew)); exact Kd.R_mono HO453.out (fun _ hk => ⟨trivial, hk⟩)) hg (.inl rfl)) <| az (blk_grown (g := gb454) (o := .cells #[.slice (some ⟨go6, 0, none⟩) y448.length co19, .slice Ao18 y451.length co18] 42 (0, 0)) (mK BK454.out) hg (Kd.R_ne HO450.out BK454.out (by decide))) <| z0 ((by rw [hw]; exact below_set (HB.out) GB6.out : Below w.heap.size w w27)); clear BK446 BK447 HO450 HO453 BK454 HB; obtain ⟨BK446, BK447, HO450, HO453, BK454, HB⟩ := n_; clear hg hw hp_; obtain ⟨hcz28_0, hcz28_1, hfz28_0, hfz28_1⟩ := cel2 BK454.out; have hnb29 := NB447_446.out; have hnc29 := NB446_447.out; obtain ⟨hcz30_0, hcz30_1, hfz30_0, hfz30_1⟩ := cel2 BK447.out))
     refine bodyPost_ret (results_cell_row rfl _ _ gb447 42 #[.slice (some ⟨go6, 0, none⟩) y448.length co19, .slice Ao18 y451.length co18] (0, 0) _ rfl (pF BK447.out) Tryd.underlying42 rfl (by kernel_rfl)) rfl ?_
     exact ⟨_, _, rfx, by (with_reducible repeat (first | apply Kd.R_alloc | apply Kd.R_drewN | apply Kd.R_drew)); exact Kd.R_mono (Kd.R_far (p := ⟨gb447, 1, none⟩) (Kd.R_far (p := ⟨gb447, 0, none⟩) (Kd.R_types HO450.out BK447.out (by decide)) (fun _ hk => hk.2) (.slice (some ⟨go6, 0, none⟩) y448.length co19)) (fun _ hk => hk.2) (.slice Ao18 y451.length co18)) (fun _ hk => hk.1), by (with_reducible repeat (first | apply Kd.R_alloc | apply Kd.R_drewN | apply Kd.R_drew)); exact Kd.R_mono (Kd.R_far (p := ⟨gb447, 1, none⟩) (Kd.R_far (p := ⟨gb447, 0, none⟩) (Kd.R_types HO453.out BK447.out (by decide)) (fun _ hk => hk.2) (.slice (some ⟨go6, 0, none⟩) y448.length co19)) (fun _ hk => hk.2) (.slice Ao18 y451.length co18)) (fun _ hk => hk.1.2), mB HB.out⟩
    ·rw [if_neg c5] at H
     exact absurd H (by simp)
   ·rw [if_neg c4] at H
    exact absurd H (by simp)
  ·rw [if_neg c3] at H
   exact absurd H (by simp)
 ·rw [if_neg c2] at H
  exact absurd H (by simp)

end Go.Proofs.YtfmipdhkiahjoaaDoor.B
