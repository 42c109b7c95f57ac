/- Printed functions of this seat, in one text. -/
import Derived.Test.YtendbgedpjcocaaGreatDoorB0
import Derived.Test.YtendbgedpjcocaaGreatDoorSq
import Derived.Test.YtendbgedpjcocaaGreatDoorPkA
namespace Go.Proofs.YtendbgedpjcocaaGreatDoor.B
open Go.RowKit Go.Proofs.YtendbgedpjcocaaGreatDoorW.PrintWords Go.Proofs.YtendbgedpjcocaaGreatDoorW.PrintLast Go.Proofs.YtendbgedpjcocaaGreatDoorW.PrintMore
attribute [local go_sem] max2_int min2_int max_two min_two max_three min_three max_four min_four   -- for this text's walks alone
set_option linter.unusedVariables false
set_option linter.unusedSimpArgs false

/-! ### spec_l12Rd_pick: function 61 -/
def spec_l12Rd_pick.j0 : Nat → Int → Bool → List Int → Int → Option (Int × Int)
 | 0, _, _, _, _ => none
 | k + 1, x1, x24, x1000, x1001 => if x24 = true then (some (0, x1001)) else (if (wrap64 (x1001 - 1)) < (x1000.length : Int) then (if 0 ≤ (wrap64 (x1001 - 1)) then (if x1 = 0 then (none) else (some (Int.tmod (wrap64 (rd x1000 (wrap64 (x1001 - 1)))) x1, x1001))) else (none)) else (if (x1000.length : Int) = 0 then (none) else (if 0 ≤ (Int.tmod (wrap64 (x1001 - 1)) (x1000.length : Int)) then (if (Int.tmod (wrap64 (x1001 - 1)) (x1000.length : Int)) < (x1000.length : Int) then (if 0 ≤ (Int.tmod (wrap64 ((wrap64 ((wrap64 (x1001 - 1)) * 7)) + 3)) (x1000.length : Int)) then (if (Int.tmod (wrap64 ((wrap64 ((wrap64 (x1001 - 1)) * 7)) + 3)) (x1000.length : Int)) < (x1000.length : Int) then (if x1 = 0 then (none) else (some (Int.tmod (Go.bits .xor .i64 (wrap64 ((wrap64 ((wrap64 ((wrap64 ((wrap64 (rd x1000 (Int.tmod (wrap64 (x1001 - 1)) (x1000.length : Int)))) * 131)) + (wrap64 ((wrap64 (rd x1000 (Int.tmod (wrap64 ((wrap64 ((wrap64 (x1001 - 1)) * 7)) + 3)) (x1000.length : Int)))) * 1117)))) + (wrap64 ((wrap64 (x1001 - 1)) * 29)))) + (wrap64 ((wrap64 (Int.tdiv (wrap64 (x1001 - 1)) (x1000.length : Int))) * 53)))) (wrap64 (Int.tdiv (wrap64 ((wrap64 ((wrap64 ((wrap64 ((wrap64 (rd x1000 (Int.tmod (wrap64 (x1001 - 1)) (x1000.length : Int)))) * 131)) + (wrap64 ((wrap64 (rd x1000 (Int.tmod (wrap64 ((wrap64 ((wrap64 (x1001 - 1)) * 7)) + 3)) (x1000.length : Int)))) * 1117)))) + (wrap64 ((wrap64 (x1001 - 1)) * 29)))) + (wrap64 ((wrap64 (Int.tdiv (wrap64 (x1001 - 1)) (x1000.length : Int))) * 53)))) 64))) x1, x1001))) else (none)) else (none)) else (none)) else (none))))
def spec_l12Rd_pick.f (k : Nat) (s0_0 : List Int) (s0_1 : Int) (a1 : Int) : Option (Int × Int) := if a1 < 1 then (spec_l12Rd_pick.j0 k a1 true s0_0 (wrap64 (s0_1 + 1))) else (spec_l12Rd_pick.j0 k a1 ((s0_0.length : Int) == 0) s0_0 (wrap64 (s0_1 + 1)))
theorem spec_l12Rd_pick.mono_l : ∀ k, (∀ y0 y1 y2 y3, LeO (spec_l12Rd_pick.j0 k y0 y1 y2 y3) (spec_l12Rd_pick.j0 (k + 1) y0 y1 y2 y3))
 | 0 => fun _ _ _ _ r h => by simp [spec_l12Rd_pick.j0] at h
 | k + 1 => by
  have ih0 := spec_l12Rd_pick.mono_l k
  ·intro y0 y1 y2 y3
   unfold spec_l12Rd_pick.j0
   repeat' first
   | (with_reducible exact ih0 _ _ _ _)
   | (with_reducible exact LeO.refl _)
   | (with_reducible exact LeO.none _)
   | (with_reducible refine LeO.ite ?_ ?_)
   | (with_reducible refine LeO.bind ?_ (fun _ => ?_))
   | exact ih0 _ _ _ _
   | exact LeO.none _
   | refine LeO.ite ?_ ?_
   | refine LeO.bind ?_ (fun _ => ?_)
theorem spec_l12Rd_pick.mono : ∀ a0 a1 a2 k, LeO (spec_l12Rd_pick.f k a0 a1 a2) (spec_l12Rd_pick.f (k + 1) a0 a1 a2) := by
 intro a0 a1 a2 k
 have ih0 := spec_l12Rd_pick.mono_l k
 unfold spec_l12Rd_pick.f
 repeat' first
   | (with_reducible exact ih0 _ _ _ _)
   | (with_reducible exact LeO.refl _)
   | (with_reducible exact LeO.none _)
   | (with_reducible refine LeO.ite ?_ ?_)
   | (with_reducible refine LeO.bind ?_ (fun _ => ?_))
   | exact ih0 _ _ _ _
   | exact LeO.none _
   | refine LeO.ite ?_ ?_
   | refine LeO.bind ?_ (fun _ => ?_)
set_option maxHeartbeats 8000000 in
set_option maxRecDepth 100000 in
theorem spec_l12Rd_pick.calls (k : Nat) (g : Nat) (s0_0 : List Int) (s0_1 : Int) (a1 : Int) (r1 : Int) (r2 : Int) (w0 w : World) (hI : IsS93 w0 w g s0_0 s0_1) (hB : Below w0.heap.size w0 w) (h : spec_l12Rd_pick.f k s0_0 s0_1 a1 = some (r1, r2)) :
  Calls Tryz.prog 61 #[.pointer (some ⟨g, 0, none⟩), .int .i64 a1] w fun e w' => e = .returned (.int .i64 r1) ∧ IsS93 w0 w' g s0_0 r2 ∧ Below w0.heap.size w0 w' ∧ KeepBut w w' g none := by
 have HI0 := z0 hI
 have HK := z0 (KeepBut.refl w g none)
 have HL := z0 hB.size
 clear hI
 have HW0 := z0 hB.size
 have HB := z0 hB
 clear hB
 have H : (if a1 < 1 then (spec_l12Rd_pick.j0 k a1 true s0_0 (wrap64 (s0_1 + 1))) else (spec_l12Rd_pick.j0 k a1 ((s0_0.length : Int) == 0) s0_0 (wrap64 (s0_1 + 1)))) = some (r1, r2) := h
 clear h
 have HC3 := z0 H
 clear H
 obtain ⟨ASz4_0, cSz4_0, HGz4, hgz4, HSz4_0⟩ := HI0.out
 have hcz4_0 := cellS93_0 HGz4
 have hcz4_1 := cellS93_1 HGz4
 have hfz4_1 := blk_frozen HGz4 1
 clear HGz4 hgz4
 go_enter Tryz.func61, Tryz.ntmps61
 go_upto_region 2 with (fail)
 repeat (go_quiet (fail); go_upto_region 2 with (fail))
 go_cut [24] (fun v24 wc => ∃ (kq : Nat) (x24_2 : Bool), v24 = .bool x24_2 ∧ Aside0 (spec_l12Rd_pick.j0 kq a1 x24_2 s0_0 (wrap64 (s0_1 + 1)) = some (r1, r2)) ∧ Aside0 (kq ≤ k) ∧ Aside0 (IsS93 w0 wc g s0_0 (wrap64 (s0_1 + 1))) ∧ Aside0 (KeepBut w wc g none) ∧ Aside0 (Below w0.heap.size w0 wc))
 case first =>
  have H := HC3.out
  clear HC3
  by_cases c5 : a1 < 1
  ·rw [if_pos c5] at H
   have c5b0 : decide (a1 < 1) = true := decide_eq_true c5
   clear c5
   (first | rw [c5b0] | (simp only [i64_w, i32_w]; rw [c5b0]) | skip)
   have H' := z0 H
   clear H
   go_wp2
   repeat (go_quiet (fail); try go_wp2)
   go_meet
   case rel => exact ⟨_, (true), rfy, H', ⟨by first | omega | exact Nat.le_refl _⟩, ⟨mI93_1 HI0.out⟩, ⟨mKp HK.out⟩, ⟨mB93HI0 HB.out⟩⟩
  ·rw [if_neg c5] at H
   have c5b0 : decide (a1 < 1) = false := decide_eq_false c5
   clear c5
   (first | rw [c5b0] | (simp only [i64_w, i32_w]; rw [c5b0]) | skip)
   have H' := z0 H
   clear H
   obtain ⟨ASz6_0, cSz6_0, HGz6, hgz6, HSz6_0⟩ := HI0.out
   have hcz6_0 := cellS93_0 HGz6
   have hcz6_1 := cellS93_1 HGz6
   have hfz6_1 := blk_frozen HGz6 1
   clear HGz6 hgz6
   go_wp2
   repeat (go_quiet (fail); try go_wp2)
   go_meet
   case rel => exact ⟨_, (((s0_0.length : Int) == 0)), rfy, H', ⟨by first | omega | exact Nat.le_refl _⟩, ⟨mI93_1 HI0.out⟩, ⟨mKp HK.out⟩, ⟨mB93HI0 HB.out⟩⟩
 case rest =>
  clear HC3
  (try clear hcz4_0); (try clear hcz4_1); (try clear hfz4_1)
  obtain ⟨kq, x24_2, rfl, HA, HJ2, HI0, HK, HB⟩ := hcut
  cases kq with
  | zero => exact absurd HA.out (by simp [spec_l12Rd_pick.j0])
  | succ kj2 =>
   have H := HA.out
   clear HA
   simp only [spec_l12Rd_pick.j0] at H
   by_cases c7 : x24_2 = true
   ·subst c7
    have H1 : (some (0, (wrap64 (s0_1 + 1)))) = some (r1, r2) := by rw [if_pos rfl] at H; exact H
    clear H
    have H := H1
    clear H1
    simp only [Option.some.injEq, Prod.mk.injEq] at H
    obtain ⟨rfl, rfl⟩ := H
    go_wp2
    repeat (go_quiet (fail); try go_wp2)
    go_ret
    exact ⟨rfx, mI93_1 HI0.out, mB93HI0 HB.out, mKp HK.out⟩
   ·replace c7 := Bool.eq_false_iff.mpr c7
    subst c7
    have H1 : (if (wrap64 ((wrap64 (s0_1 + 1)) - 1)) < (s0_0.length : Int) then (if 0 ≤ (wrap64 ((wrap64 (s0_1 + 1)) - 1)) then (if a1 = 0 then (none) else (some (Int.tmod (wrap64 (rd s0_0 (wrap64 ((wrap64 (s0_1 + 1)) - 1)))) a1, (wrap64 (s0_1 + 1))))) else (none)) else (if (s0_0.length : Int) = 0 then (none) else (if 0 ≤ (Int.tmod (wrap64 ((wrap64 (s0_1 + 1)) - 1)) (s0_0.length : Int)) then (if (Int.tmod (wrap64 ((wrap64 (s0_1 + 1)) - 1)) (s0_0.length : Int)) < (s0_0.length : Int) then (if 0 ≤ (Int.tmod (wrap64 ((wrap64 ((wrap64 ((wrap64 (s0_1 + 1)) - 1)) * 7)) + 3)) (s0_0.length : Int)) then (if (Int.tmod (wrap64 ((wrap64 ((wrap64 ((wrap64 (s0_1 + 1)) - 1)) * 7)) + 3)) (s0_0.length : Int)) < (s0_0.length : Int) then (if a1 = 0 then (none) else (some (Int.tmod (Go.bits .xor .i64 (wrap64 ((wrap64 ((wrap64 ((wrap64 ((wrap64 (rd s0_0 (Int.tmod (wrap64 ((wrap64 (s0_1 + 1)) - 1)) (s0_0.length : Int)))) * 131)) + (wrap64 ((wrap64 (rd s0_0 (Int.tmod (wrap64 ((wrap64 ((wrap64 ((wrap64 (s0_1 + 1)) - 1)) * 7)) + 3)) (s0_0.length : Int)))) * 1117)))) + (wrap64 ((wrap64 ((wrap64 (s0_1 + 1)) - 1)) * 29)))) + (wrap64 ((wrap64 (Int.tdiv (wrap64 ((wrap64 (s0_1 + 1)) - 1)) (s0_0.length : Int))) * 53)))) (wrap64 (Int.tdiv (wrap64 ((wrap64 ((wrap64 ((wrap64 ((wrap64 (rd s0_0 (Int.tmod (wrap64 ((wrap64 (s0_1 + 1)) - 1)) (s0_0.length : Int)))) * 131)) + (wrap64 ((wrap64 (rd s0_0 (Int.tmod (wrap64 ((wrap64 ((wrap64 ((wrap64 (s0_1 + 1)) - 1)) * 7)) + 3)) (s0_0.length : Int)))) * 1117)))) + (wrap64 ((wrap64 ((wrap64 (s0_1 + 1)) - 1)) * 29)))) + (wrap64 ((wrap64 (Int.tdiv (wrap64 ((wrap64 (s0_1 + 1)) - 1)) (s0_0.length : Int))) * 53)))) 64))) a1, (wrap64 (s0_1 + 1))))) else (none)) else (none)) else (none)) else (none)))) = some (r1, r2) := by rw [if_neg (show ¬ (false = true) by decide)] at H; exact H
    clear H
    have H := H1
    clear H1
    by_cases c8 : (wrap64 ((wrap64 (s0_1 + 1)) - 1)) < (s0_0.length : Int)
    ·rw [if_pos c8] at H
     have c8b0 : decide ((wrap64 ((wrap64 (s0_1 + 1)) - 1)) < (s0_0.length : Int)) = true := decide_eq_true c8
     clear c8
     obtain ⟨ji9, hji9⟩ : ∃ j_ : Int, (wrap64 ((wrap64 (s0_1 + 1)) - 1)) = j_ := ⟨_, rfl⟩
     replace H : (if 0 ≤ (ji9) then (if a1 = 0 then (none) else (some (Int.tmod (wrap64 (rd s0_0 (ji9))) a1, (wrap64 (s0_1 + 1))))) else (none)) = some (r1, r2) := by first | (rw [hji9] at H; exact H) | (simp only [hji9] at H ⊢; exact H)
     (try rw [hji9] at c8b0)
     have hji9w : (IntKind.i64.wrap ((wrap64 (s0_1 + 1)) - 1)) = ji9 := (i64_w _).trans hji9
     by_cases c10 : 0 ≤ (ji9)
     ·rw [if_pos c10] at H
      have c10b0 : decide (0 ≤ (ji9)) = true := decide_eq_true c10
      clear c10
      by_cases c11 : a1 = 0
      ·rw [if_pos c11] at H
       exact absurd H (by simp)
      ·rw [if_neg c11] at H
       have c11b0 : (a1 == 0) = false := beq_eq_false_iff_ne.mpr c11
       have c11b1 : (a1 != 0) = true := bne_iff_ne.mpr c11
       simp only [Option.some.injEq, Prod.mk.injEq] at H
       obtain ⟨rfl, rfl⟩ := H
       obtain ⟨ASz12_0, cSz12_0, HGz12, hgz12, HSz12_0⟩ := HI0.out
       have hcz12_0 := cellS93_0 HGz12
       have hcz12_1 := cellS93_1 HGz12
       have hfz12_1 := blk_frozen HGz12 1
       clear HGz12 hgz12
       have p104 : 0 ≤ ((ji9) : Int) := of_decide_eq_true (by first | (with_reducible assumption) | assumption)
       have q104 : (ji9) < (s0_0.length : Int) := of_decide_eq_true (by first | (with_reducible assumption) | assumption)
       obtain ⟨ad104, e104, hx104_0⟩ := Kd.at_int HSz12_0 (ji9) p104 q104
       cases e104
       replace hx104_0 := pw_cell_below HB.out hx104_0
       replace p104 := eq_true p104
       replace q104 := eq_true q104
       go_wp2
       repeat (go_quiet (fail); try go_wp2)
       go_ret
       exact ⟨by first | rfl | (simp [errW_none, errW_some] <;> rfl) | (simp only [← hji9]; first | rfl | (simp [errW_none, errW_some] <;> rfl)) | (simp [*, errW_none, errW_some] <;> rfl), mI93_1 HI0.out, mB93HI0 HB.out, mKp HK.out⟩
     ·rw [if_neg c10] at H
      exact absurd H (by simp)
    ·rw [if_neg c8] at H
     have c8b0 : decide ((wrap64 ((wrap64 (s0_1 + 1)) - 1)) < (s0_0.length : Int)) = false := decide_eq_false c8
     clear c8
     by_cases c13 : (s0_0.length : Int) = 0
     ·rw [if_pos c13] at H
      exact absurd H (by simp)
     ·rw [if_neg c13] at H
      have c13b0 : ((s0_0.length : Int) == 0) = false := beq_eq_false_iff_ne.mpr c13
      have c13b1 : ((s0_0.length : Int) != 0) = true := bne_iff_ne.mpr c13
      have c13b2 : ¬ (s0_0 = []) := fun h_ => c13 (by rw [h_]; rfl)
      obtain ⟨ji14, hji14⟩ : ∃ j_ : Int, (Int.tmod (wrap64 ((wrap64 (s0_1 + 1)) - 1)) (s0_0.length : Int)) = j_ := ⟨_, rfl⟩
      replace H : (if 0 ≤ (ji14) then (if (ji14) < (s0_0.length : Int) then (if 0 ≤ (Int.tmod (wrap64 ((wrap64 ((wrap64 ((wrap64 (s0_1 + 1)) - 1)) * 7)) + 3)) (s0_0.length : Int)) then (if (Int.tmod (wrap64 ((wrap64 ((wrap64 ((wrap64 (s0_1 + 1)) - 1)) * 7)) + 3)) (s0_0.length : Int)) < (s0_0.length : Int) then (if a1 = 0 then (none) else (some (Int.tmod (Go.bits .xor .i64 (wrap64 ((wrap64 ((wrap64 ((wrap64 ((wrap64 (rd s0_0 (ji14))) * 131)) + (wrap64 ((wrap64 (rd s0_0 (Int.tmod (wrap64 ((wrap64 ((wrap64 ((wrap64 (s0_1 + 1)) - 1)) * 7)) + 3)) (s0_0.length : Int)))) * 1117)))) + (wrap64 ((wrap64 ((wrap64 (s0_1 + 1)) - 1)) * 29)))) + (wrap64 ((wrap64 (Int.tdiv (wrap64 ((wrap64 (s0_1 + 1)) - 1)) (s0_0.length : Int))) * 53)))) (wrap64 (Int.tdiv (wrap64 ((wrap64 ((wrap64 ((wrap64 ((wrap64 (rd s0_0 (ji14))) * 131)) + (wrap64 ((wrap64 (rd s0_0 (Int.tmod (wrap64 ((wrap64 ((wrap64 ((wrap64 (s0_1 + 1)) - 1)) * 7)) + 3)) (s0_0.length : Int)))) * 1117)))) + (wrap64 ((wrap64 ((wrap64 (s0_1 + 1)) - 1)) * 29)))) + (wrap64 ((wrap64 (Int.tdiv (wrap64 ((wrap64 (s0_1 + 1)) - 1)) (s0_0.length : Int))) * 53)))) 64))) a1, (wrap64 (s0_1 + 1))))) else (none)) else (none)) else (none)) else (none)) = some (r1, r2) := by first | (rw [hji14] at H; exact H) | (simp only [hji14] at H ⊢; exact H)
      by_cases c15 : 0 ≤ (ji14)
      ·rw [if_pos c15] at H
       have c15b0 : decide (0 ≤ (ji14)) = true := decide_eq_true c15
       clear c15
       by_cases c16 : (ji14) < (s0_0.length : Int)
       ·rw [if_pos c16] at H
        have c16b0 : decide ((ji14) < (s0_0.length : Int)) = true := decide_eq_true c16
        clear c16
        obtain ⟨ji17, hji17⟩ : ∃ j_ : Int, (Int.tmod (wrap64 ((wrap64 ((wrap64 ((wrap64 (s0_1 + 1)) - 1)) * 7)) + 3)) (s0_0.length : Int)) = j_ := ⟨_, rfl⟩
        replace H : (if 0 ≤ (ji17) then (if (ji17) < (s0_0.length : Int) then (if a1 = 0 then (none) else (some (Int.tmod (Go.bits .xor .i64 (wrap64 ((wrap64 ((wrap64 ((wrap64 ((wrap64 (rd s0_0 (ji14))) * 131)) + (wrap64 ((wrap64 (rd s0_0 (ji17))) * 1117)))) + (wrap64 ((wrap64 ((wrap64 (s0_1 + 1)) - 1)) * 29)))) + (wrap64 ((wrap64 (Int.tdiv (wrap64 ((wrap64 (s0_1 + 1)) - 1)) (s0_0.length : Int))) * 53)))) (wrap64 (Int.tdiv (wrap64 ((wrap64 ((wrap64 ((wrap64 ((wrap64 (rd s0_0 (ji14))) * 131)) + (wrap64 ((wrap64 (rd s0_0 (ji17))) * 1117)))) + (wrap64 ((wrap64 ((wrap64 (s0_1 + 1)) - 1)) * 29)))) + (wrap64 ((wrap64 (Int.tdiv (wrap64 ((wrap64 (s0_1 + 1)) - 1)) (s0_0.length : Int))) * 53)))) 64))) a1, (wrap64 (s0_1 + 1))))) else (none)) else (none)) = some (r1, r2) := by first | (rw [hji17] at H; exact H) | (simp only [hji17] at H ⊢; exact H)
        by_cases c18 : 0 ≤ (ji17)
        ·rw [if_pos c18] at H
         have c18b0 : decide (0 ≤ (ji17)) = true := decide_eq_true c18
         clear c18
         by_cases c19 : (ji17) < (s0_0.length : Int)
         ·rw [if_pos c19] at H
          have c19b0 : decide ((ji17) < (s0_0.length : Int)) = true := decide_eq_true c19
          clear c19
          by_cases c20 : a1 = 0
          ·rw [if_pos c20] at H
           exact absurd H (by simp)
          ·rw [if_neg c20] at H
           have c20b0 : (a1 == 0) = false := beq_eq_false_iff_ne.mpr c20
           have c20b1 : (a1 != 0) = true := bne_iff_ne.mpr c20
           simp only [Option.some.injEq, Prod.mk.injEq] at H
           obtain ⟨rfl, rfl⟩ := H
           obtain ⟨ASz21_0, cSz21_0, HGz21, hgz21, HSz21_0⟩ := HI0.out
           have hcz21_0 := cellS93_0 HGz21
           have hcz21_1 := cellS93_1 HGz21
           have hfz21_1 := blk_frozen HGz21 1
           clear HGz21 hgz21
           have p105 : 0 ≤ ((ji14) : Int) := of_decide_eq_true (by first | (with_reducible assumption) | assumption)
           have q105 : (ji14) < (s0_0.length : Int) := of_decide_eq_true (by first | (with_reducible assumption) | assumption)
           obtain ⟨ad105, e105, hx105_0⟩ := Kd.at_int HSz21_0 (ji14) p105 q105
           cases e105
           replace hx105_0 := pw_cell_below HB.out hx105_0
           replace p105 := eq_true p105
           replace q105 := eq_true q105
           have p106 : 0 ≤ ((ji17) : Int) := of_decide_eq_true (by first | (with_reducible assumption) | assumption)
           have q106 : (ji17) < (s0_0.length : Int) := of_decide_eq_true (by first | (with_reducible assumption) | assumption)
           obtain ⟨ad106, e106, hx106_0⟩ := Kd.at_int HSz21_0 (ji17) p106 q106
           obtain rfl : ad105 = ad106 := (by injection e106)
           replace hx106_0 := pw_cell_below HB.out hx106_0
           replace p106 := eq_true p106
           replace q106 := eq_true q106
           go_wp2
           repeat (go_quiet (fail); try go_wp2)
           go_ret
           exact ⟨by first | rfl | (simp [errW_none, errW_some] <;> rfl) | (simp only [← hji14, ← hji17]; first | rfl | (simp [errW_none, errW_some] <;> rfl)) | (simp [*, errW_none, errW_some] <;> rfl), mI93_1 HI0.out, mB93HI0 HB.out, mKp HK.out⟩
         ·rw [if_neg c19] at H
          exact absurd H (by simp)
        ·rw [if_neg c18] at H
         exact absurd H (by simp)
       ·rw [if_neg c16] at H
        exact absurd H (by simp)
      ·rw [if_neg c15] at H
       exact absurd H (by simp)

/-! ### spec_l12Rd_num: function 51 -/
def spec_l12Rd_num.f (k : Nat) (s0_0 : List Int) (s0_1 : Int) (l1 : List Int) : Option (Int × Int) := (spec_l12Rd_pick.f k s0_0 s0_1 (l1.length : Int)).bind fun bt107 => (if 0 ≤ bt107.1 then (if bt107.1 < (l1.length : Int) then (some (rd l1 bt107.1, bt107.2)) else (none)) else (none))
theorem spec_l12Rd_num.mono : ∀ a0 a1 a2 k, LeO (spec_l12Rd_num.f k a0 a1 a2) (spec_l12Rd_num.f (k + 1) a0 a1 a2) := by
 intro a0 a1 a2 k
 unfold spec_l12Rd_num.f
 repeat' first
   | (with_reducible exact spec_l12Rd_pick.mono _ _ _ _)
   | (with_reducible exact LeO.refl _)
   | (with_reducible exact LeO.none _)
   | (with_reducible refine LeO.ite ?_ ?_)
   | (with_reducible refine LeO.bind ?_ (fun _ => ?_))
   | exact spec_l12Rd_pick.mono _ _ _ _
   | exact LeO.none _
   | refine LeO.ite ?_ ?_
   | refine LeO.bind ?_ (fun _ => ?_)
set_option maxHeartbeats 8000000 in
set_option maxRecDepth 100000 in
theorem spec_l12Rd_num.calls (k : Nat) (g : Nat) (s0_0 : List Int) (s0_1 : Int) (A1 : Option Addr) (c1 : Nat) (l1 : List Int) (r1 : Int) (r2 : Int) (w0 w : World) (hI : IsS93 w0 w g s0_0 s0_1) (hB : Below w0.heap.size w0 w) (hr1 : Kd.C (Kd.int .i64) w A1 l1.length l1) (hc1 : l1.length ≤ c1) (hf1 : ∀ ad, A1 = some ad → 0 < l1.length → ad.block ≠ g) (h : spec_l12Rd_num.f k s0_0 s0_1 l1 = some (r1, r2)) :
  Calls Tryz.prog 51 #[.pointer (some ⟨g, 0, none⟩), .slice A1 l1.length c1] w fun e w' => e = .returned (.int .i64 r1) ∧ IsS93 w0 w' g s0_0 r2 ∧ Below w0.heap.size w0 w' ∧ KeepBut w w' g none := by
 have HR1 := z0 hr1
 have HC1 := z0 hc1
 clear hr1 hc1
 have HI0 := z0 hI
 have HK := z0 (KeepBut.refl w g none)
 have HL := z0 hB.size
 clear hI
 have HW0 := z0 hB.size
 have HB := z0 hB
 clear hB
 have H : ((spec_l12Rd_pick.f k s0_0 s0_1 (l1.length : Int)).bind fun bt107 => (if 0 ≤ bt107.1 then (if bt107.1 < (l1.length : Int) then (some (rd l1 bt107.1, bt107.2)) else (none)) else (none))) = some (r1, r2) := h
 clear h
 replace H := Option.bind_eq_some_iff.mp H
 obtain ⟨⟨t107, t108⟩, A30, H⟩ := H
 try dsimp only at H
 have A3 := z0 A30
 clear A30
 by_cases c4 : 0 ≤ t107
 ·rw [if_pos c4] at H
  have c4b0 : decide (0 ≤ t107) = true := decide_eq_true c4
  clear c4
  by_cases c5 : t107 < (l1.length : Int)
  ·rw [if_pos c5] at H
   have c5b0 : decide (t107 < (l1.length : Int)) = true := decide_eq_true c5
   clear c5
   simp only [Option.some.injEq, Prod.mk.injEq] at H
   obtain ⟨rfl, rfl⟩ := H
   go_enter Tryz.func51, Tryz.ntmps51
   go_wp2_with (first | ((with_reducible refine gate_callee (f := 61) rfl ?_); refine goesL_ (some 9) rfl rfl Tryz.func61 (by kernel_rfl) rfl #[.pointer (some ⟨g, 0, none⟩), .int .i64 (l1.length : Int)] rfl argx ?_; (with_reducible refine (spec_l12Rd_pick.calls k g s0_0 s0_1 (l1.length : Int) t107 t108 w0 _ ?side1 ?side2 A3.out).mono ?_); (case side1 => exact mI93_1 HI0.out); (case side2 => exact mB93HI0 HB.out); rintro e w6 ⟨rfl, hi, hb, hk⟩; refine ⟨_, rfl, ?_⟩; have n_ := az (KeepBut.trans (mKp HK.out) hk (.inl rfl)) <| az (hb) <| z0 (hi); clear HK HB HI0; obtain ⟨HK, HB, HI0⟩ := n_; clear hb hk hi; have p109 : 0 ≤ (t107 : Int) := of_decide_eq_true (by first | (with_reducible assumption) | assumption); have q109 : t107 < (l1.length : Int) := of_decide_eq_true (by first | (with_reducible assumption) | assumption); obtain ⟨ad109, e109, hx109_0⟩ := Kd.at_int HR1.out t107 p109 q109; cases e109; replace hx109_0 := keep_cell HK.out hx109_0 (by first | (rw [add_block]; exact hf1 _ rfl (by omega)) | exact hf1 _ rfl (by omega) | exact hf1 ad109 rfl (by omega)); replace p109 := eq_true p109; replace q109 := eq_true q109))
   go_ret
   exact ⟨rfx, mI93_1 HI0.out, mB93HI0 HB.out, mKp HK.out⟩
  ·rw [if_neg c5] at H
   exact absurd H (by simp)
 ·rw [if_neg c4] at H
  exact absurd H (by simp)

/-! ### spec_l2Addr: function 74 -/
def spec_l2Addr.f (k : Nat) (s0_0 : List Int) (s0_1 : Int) : Option (Int × Int × Int) := (spec_l12Rd_pick.f k s0_0 s0_1 3).bind fun bt111 => ((spec_l12Rd_pick.f k s0_0 bt111.2 3).bind fun bt113 => (some (wrap64 (1 + bt111.1), bt113.1, bt113.2)))
theorem spec_l2Addr.mono : ∀ a0 a1 k, LeO (spec_l2Addr.f k a0 a1) (spec_l2Addr.f (k + 1) a0 a1) := by
 intro a0 a1 k
 unfold spec_l2Addr.f
 repeat' first
   | (with_reducible exact spec_l12Rd_pick.mono _ _ _ _)
   | (with_reducible exact LeO.refl _)
   | (with_reducible exact LeO.none _)
   | (with_reducible refine LeO.ite ?_ ?_)
   | (with_reducible refine LeO.bind ?_ (fun _ => ?_))
   | exact spec_l12Rd_pick.mono _ _ _ _
   | exact LeO.none _
   | refine LeO.ite ?_ ?_
   | refine LeO.bind ?_ (fun _ => ?_)
set_option maxHeartbeats 8000000 in
set_option maxRecDepth 100000 in
theorem spec_l2Addr.calls (k : Nat) (g : Nat) (s0_0 : List Int) (s0_1 : Int) (r1 : Int) (r2 : Int) (r3 : Int) (w0 w : World) (hI : IsS93 w0 w g s0_0 s0_1) (hB : Below w0.heap.size w0 w) (h : spec_l2Addr.f k s0_0 s0_1 = some (r1, r2, r3)) :
  Calls Tryz.prog 74 #[.pointer (some ⟨g, 0, none⟩)] w fun e w' => e = .returned (.agg #[.int .i64 r1, .int .i64 r2]) ∧ IsS93 w0 w' g s0_0 r3 ∧ Below w0.heap.size w0 w' ∧ KeepBut w w' g none := by
 have hu24 := Tryz.underlying24
 have HI0 := z0 hI
 have HK := z0 (KeepBut.refl w g none)
 have HL := z0 hB.size
 clear hI
 have HW0 := z0 hB.size
 have HB := z0 hB
 clear hB
 have H : ((spec_l12Rd_pick.f k s0_0 s0_1 3).bind fun bt111 => ((spec_l12Rd_pick.f k s0_0 bt111.2 3).bind fun bt113 => (some (wrap64 (1 + bt111.1), bt113.1, bt113.2)))) = some (r1, r2, r3) := h
 clear h
 replace H := Option.bind_eq_some_iff.mp H
 obtain ⟨⟨t111, t112⟩, A20, H⟩ := H
 try dsimp only at H
 have A2 := z0 A20
 clear A20
 replace H := Option.bind_eq_some_iff.mp H
 obtain ⟨⟨t113, t114⟩, A30, H⟩ := H
 try dsimp only at H
 have A3 := z0 A30
 clear A30
 simp only [Option.some.injEq, Prod.mk.injEq] at H
 obtain ⟨rfl, rfl, rfl⟩ := H
 go_enter Tryz.func74, Tryz.ntmps74
 go_wp2_with (first | ((with_reducible refine gate_dst (N := 2) rfl ?_); refine box_event ?hg (N := 2) ?hd (cs := #[.int .i64 0, .int .i64 0]) (t := 24) ?hr ?_; (case hd => rfl); (case hg => rfl); (case hr => first | (go_simp; done) | (go_simp; rfl)); intro gb110 hg w4 hbox hb; have n_ := az (IsS93.below (mI93_1 HI0.out) hb) <| az (KeepBut.trans (mKp HK.out) (KeepBut.of_below hb g none) (.inl rfl)) <| az (below_step (mB93HI0 HB.out) hb) <| az (hbox) <| az ((gW hg HK.out)) <| az ((Nat.le_trans HW0.out (gW hg HK.out) : w0.heap.size ≤ gb110)) <| az ((by rw [hg]; exact Nat.ne_of_lt (IsS93.lt (show IsS93 w0 _ g s0_0 s0_1 from mI93_1 HI0.out)) : g ≠ gb110)) <| z0 ((by rw [hg]; exact Nat.ne_of_gt (IsS93.lt (show IsS93 w0 _ g s0_0 s0_1 from mI93_1 HI0.out)) : gb110 ≠ g)); clear HI0 HK HB; obtain ⟨HI0, HK, HB, BK110, GW110, GE110, NB0_110, NB110_0⟩ := n_; clear hb hbox hg) | ((with_reducible refine gate_callee (f := 61) rfl ?_); refine goesL_ (some 4) rfl rfl Tryz.func61 (by kernel_rfl) rfl #[.pointer (some ⟨g, 0, none⟩), .int .i64 3] rfl argx ?_; (with_reducible refine (spec_l12Rd_pick.calls k g s0_0 s0_1 3 t111 t112 w0 _ ?side1 ?side2 A2.out).mono ?_); (case side1 => exact mI93_1 HI0.out); (case side2 => exact mB93HI0 HB.out); rintro e w5 ⟨rfl, hi, hb, hk⟩; refine ⟨_, rfl, ?_⟩; have n_ := az (kB hk BK110.out NB110_0.out) <| az (KeepBut.trans (mKp HK.out) hk (.inl rfl)) <| az (hb) <| z0 (hi); clear BK110 HK HB HI0; obtain ⟨BK110, HK, HB, HI0⟩ := n_; clear hb hk hi) | ((with_reducible refine gate_callee (f := 61) rfl ?_); refine goesL_ (some 7) rfl rfl Tryz.func61 (by kernel_rfl) rfl #[.pointer (some ⟨g, 0, none⟩), .int .i64 3] rfl argx ?_; (with_reducible refine (spec_l12Rd_pick.calls k g s0_0 t112 3 t113 t114 w0 _ ?side1 ?side2 A3.out).mono ?_); (case side1 => exact mI93_1 HI0.out); (case side2 => exact mB93HI0 HB.out); rintro e w6 ⟨rfl, hi, hb, hk⟩; refine ⟨_, rfl, ?_⟩; have n_ := az (kB hk BK110.out NB110_0.out) <| az (KeepBut.trans (mKp HK.out) hk (.inl rfl)) <| az (hb) <| z0 (hi); clear BK110 HK HB HI0; obtain ⟨BK110, HK, HB, HI0⟩ := n_; clear hb hk hi; have hnb7 := NB110_0.out; have hnc7 := NB0_110.out; obtain ⟨hcz8_0, hcz8_1, hfz8_0, hfz8_1⟩ := cel2 BK110.out))
 refine bodyPost_ret (results_cell_row rfl _ _ gb110 24 #[.int .i64 (wrap64 (1 + t111)), .int .i64 t113] (0, 0) _ rfl (pF BK110.out) Tryz.underlying24 rfl (by kernel_rfl)) rfl ?_
 exact ⟨rfx, mI93_1 HI0.out, mB93HI0 HB.out, mKp HK.out⟩

/-! ### spec_l3Expr: function 83 -/
mutual
def spec_l3Expr.j0 : Nat → Int → Bool → List Int → Int → Option (Int × Int × Int × Int × (List (S27)) × Int)
 | 0, _, _, _, _ => none
 | k + 1, x1, x13, x1000, x1001 => if x13 = true then ((spec_l12Rd_pick.f k x1000 x1001 3).bind fun bt150 => (if bt150.1 = 0 then ((spec_l12Rd_num.f k x1000 bt150.2 (([0, 1, 2, 3, (-1), 5, 1000000] : List Int))).bind fun bt155 => (some (1, bt155.1, 0, 0, ([] : List (S27)), bt155.2))) else ((spec_l2Addr.f k x1000 bt150.2).bind fun bt157 => (some (2, 0, bt157.1, bt157.2.1, ([] : List (S27)), bt157.2.2))))) else ((spec_l12Rd_num.f k x1000 x1001 (([3, 3, 4, 5, 6, 6, 7, 8, 9, 10] : List Int))).bind fun bt163 => ((spec_l3Kids.f k bt163.1).bind fun t166 => (spec_l3Expr.l0 k x1 t166 x1000 bt163.2 bt163.1 0 0 0 ([] : List (S27)))))
def spec_l3Expr.l0 : Nat → Int → Int → List Int → Int → Int → Int → Int → Int → List (S27) → Option (Int × Int × Int × Int × (List (S27)) × Int)
 | 0, _, _, _, _, _, _, _, _, _ => none
 | k + 1, x1, x6, x1000, x1001, x166000, x166001, x166002, x166003, x166004 => if x6 > 0 then ((spec_l3Expr.f k x1000 x1001 (wrap64 (x1 - 1))).bind fun bt167 => (if x166004.length < 2513169434916 then (spec_l3Expr.l0 k x1 (wrap64 (x6 - 1)) x1000 bt167.2.2.2.2.2 x166000 x166001 x166002 x166003 (x166004 ++ [(⟨bt167.1, bt167.2.1, (⟨bt167.2.2.1, bt167.2.2.2.1⟩ : S24), bt167.2.2.2.2.1⟩ : S27)])) else (none))) else (some (x166000, x166001, x166002, x166003, x166004, x1001))
def spec_l3Expr.f : Nat → List Int → Int → Int → Option (Int × Int × Int × Int × (List (S27)) × Int)
 | 0, _, _, _ => none
 | k + 1, s0_0, s0_1, a1 => if a1 ≤ 1 then (spec_l3Expr.j0 k a1 true s0_0 s0_1) else ((spec_l12Rd_pick.f k s0_0 s0_1 4).bind fun bt148 => (spec_l3Expr.j0 k a1 (bt148.1 == 0) s0_0 bt148.2))
end
theorem spec_l3Expr.mono_l : ∀ k, (∀ y0 y1 y2, LeO (spec_l3Expr.f k y0 y1 y2) (spec_l3Expr.f (k + 1) y0 y1 y2)) ∧ (∀ y0 y1 y2 y3, LeO (spec_l3Expr.j0 k y0 y1 y2 y3) (spec_l3Expr.j0 (k + 1) y0 y1 y2 y3)) ∧ (∀ y0 y1 y2 y3 y4 y5 y6 y7 y8, LeO (spec_l3Expr.l0 k y0 y1 y2 y3 y4 y5 y6 y7 y8) (spec_l3Expr.l0 (k + 1) y0 y1 y2 y3 y4 y5 y6 y7 y8))
 | 0 => ⟨fun _ _ _ r h => by simp [spec_l3Expr.f] at h, fun _ _ _ _ r h => by simp [spec_l3Expr.j0] at h, fun _ _ _ _ _ _ _ _ _ r h => by simp [spec_l3Expr.l0] at h⟩
 | k + 1 => by
  obtain ⟨ih0, ih1, ih2⟩ := spec_l3Expr.mono_l k
  refine ⟨?_, ?_, ?_⟩
  ·intro y0 y1 y2
   unfold spec_l3Expr.f
   repeat' first
   | (with_reducible exact ih0 _ _ _)
   | (with_reducible exact ih1 _ _ _ _)
   | (with_reducible exact ih2 _ _ _ _ _ _ _ _ _)
   | (with_reducible exact spec_l12Rd_num.mono _ _ _ _)
   | (with_reducible exact spec_l12Rd_pick.mono _ _ _ _)
   | (with_reducible exact spec_l2Addr.mono _ _ _)
   | (with_reducible exact spec_l3Kids.mono _ _)
   | (with_reducible exact LeO.refl _)
   | (with_reducible exact LeO.none _)
   | (with_reducible refine LeO.ite ?_ ?_)
   | (with_reducible refine LeO.bind ?_ (fun _ => ?_))
   | exact ih0 _ _ _
   | exact ih1 _ _ _ _
   | exact ih2 _ _ _ _ _ _ _ _ _
   | exact spec_l12Rd_num.mono _ _ _ _
   | exact spec_l12Rd_pick.mono _ _ _ _
   | exact spec_l2Addr.mono _ _ _
   | exact spec_l3Kids.mono _ _
   | exact LeO.none _
   | refine LeO.ite ?_ ?_
   | refine LeO.bind ?_ (fun _ => ?_)
  ·intro y0 y1 y2 y3
   unfold spec_l3Expr.j0
   repeat' first
   | (with_reducible exact ih0 _ _ _)
   | (with_reducible exact ih1 _ _ _ _)
   | (with_reducible exact ih2 _ _ _ _ _ _ _ _ _)
   | (with_reducible exact spec_l12Rd_num.mono _ _ _ _)
   | (with_reducible exact spec_l12Rd_pick.mono _ _ _ _)
   | (with_reducible exact spec_l2Addr.mono _ _ _)
   | (with_reducible exact spec_l3Kids.mono _ _)
   | (with_reducible exact LeO.refl _)
   | (with_reducible exact LeO.none _)
   | (with_reducible refine LeO.ite ?_ ?_)
   | (with_reducible refine LeO.bind ?_ (fun _ => ?_))
   | exact ih0 _ _ _
   | exact ih1 _ _ _ _
   | exact ih2 _ _ _ _ _ _ _ _ _
   | exact spec_l12Rd_num.mono _ _ _ _
   | exact spec_l12Rd_pick.mono _ _ _ _
   | exact spec_l2Addr.mono _ _ _
   | exact spec_l3Kids.mono _ _
   | exact LeO.none _
   | refine LeO.ite ?_ ?_
   | refine LeO.bind ?_ (fun _ => ?_)
  ·intro y0 y1 y2 y3 y4 y5 y6 y7 y8
   unfold spec_l3Expr.l0
   repeat' first
   | (with_reducible exact ih0 _ _ _)
   | (with_reducible exact ih1 _ _ _ _)
   | (with_reducible exact ih2 _ _ _ _ _ _ _ _ _)
   | (with_reducible exact spec_l12Rd_num.mono _ _ _ _)
   | (with_reducible exact spec_l12Rd_pick.mono _ _ _ _)
   | (with_reducible exact spec_l2Addr.mono _ _ _)
   | (with_reducible exact spec_l3Kids.mono _ _)
   | (with_reducible exact LeO.refl _)
   | (with_reducible exact LeO.none _)
   | (with_reducible refine LeO.ite ?_ ?_)
   | (with_reducible refine LeO.bind ?_ (fun _ => ?_))
   | exact ih0 _ _ _
   | exact ih1 _ _ _ _
   | exact ih2 _ _ _ _ _ _ _ _ _
   | exact spec_l12Rd_num.mono _ _ _ _
   | exact spec_l12Rd_pick.mono _ _ _ _
   | exact spec_l2Addr.mono _ _ _
   | exact spec_l3Kids.mono _ _
   | exact LeO.none _
   | refine LeO.ite ?_ ?_
   | refine LeO.bind ?_ (fun _ => ?_)
theorem spec_l3Expr.mono : ∀ a0 a1 a2 k, LeO (spec_l3Expr.f k a0 a1 a2) (spec_l3Expr.f (k + 1) a0 a1 a2) := by
 intro a0 a1 a2 k
 obtain ⟨ih0, ih1, ih2⟩ := spec_l3Expr.mono_l k
 exact ih0 a0 a1 a2
def spec_l3Expr.T9 : Bool × List (List Nat × List Nat) := (true, [([], []), ([0], [0]), ([], []), ([], []), ([3], [3]), ([2, 4], [2, 4]), ([5], [5]), ([1, 6, 5], [1, 6]), ([0, 1, 2, 3, 4, 5, 6, 7], []), ([8, 7, 7, 0, 1, 2, 3, 4, 5, 6, 7], [7, 8])])
def spec_l3Expr.B9 : List Nat := [0, 1, 0, 0, 8, 28, 60, 127, 255, 511]
theorem spec_l3Expr.tab9 : rtab .any (opsOf Tryz.f83 9) = spec_l3Expr.T9 := by kernel_rfl
theorem spec_l3Expr.bits9 : waitsOk spec_l3Expr.T9.2 spec_l3Expr.B9 = true := by kernel_rfl
set_option maxHeartbeats 8000000 in
set_option maxRecDepth 100000 in
theorem spec_l3Expr.calls (k : Nat) : ∀ (g : Nat) (s0_0 : List Int) (s0_1 : Int) (a1 : Int) (r1 : Int) (r2 : Int) (r3 : Int) (r4 : Int) (r5 : List (S27)) (r6 : Int) (w0 w : World) (hI : IsS93 w0 w g s0_0 s0_1) (hB : Below w0.heap.size w0 w) (h : spec_l3Expr.f k s0_0 s0_1 a1 = some (r1, r2, r3, r4, r5, r6)),
  Calls Tryz.prog 83 #[.pointer (some ⟨g, 0, none⟩), .int .i64 a1] w fun e w' => ∃ v4_ : Value, e = .returned (.agg #[.int .i64 r1, .int .i64 r2, .int .i64 r3, .int .i64 r4, v4_]) ∧ Kd.R k27 27 w' w.heap.size (fun _ => True) v4_ r5 ∧ IsS93 w0 w' g s0_0 r6 ∧ Below w0.heap.size w0 w' ∧ KeepBut w w' g none := by
 induction k using Nat.strongRecOn with
 | _ k ih =>
 intro g s0_0 s0_1 a1 r1 r2 r3 r4 r5 r6 w0 w hI hB h
 cases k with
 | zero => exact absurd h (by simp [spec_l3Expr.f])
 | succ k =>
 simp only [spec_l3Expr.f] at h
 have hu27 := Tryz.underlying27
 have HI0 := z0 hI
 have HK := z0 (KeepBut.refl w g none)
 have HL := z0 hB.size
 clear hI
 have HW0 := z0 hB.size
 have HB := z0 hB
 clear hB
 have H : (if a1 ≤ 1 then (spec_l3Expr.j0 k a1 true s0_0 s0_1) else ((spec_l12Rd_pick.f k s0_0 s0_1 4).bind fun bt148 => (spec_l3Expr.j0 k a1 (bt148.1 == 0) s0_0 bt148.2))) = some (r1, r2, r3, r4, r5, r6) := h
 clear h
 have HC3 := z0 H
 clear H
 go_enter Tryz.func83, Tryz.ntmps83
 go_upto_region 1 with (first | ((with_reducible refine gate_dst (N := 4) rfl ?_); refine box_event ?hg (N := 4) ?hd (cs := #[.int .i64 0, .int .i64 0, .int .i64 0, .int .i64 0, .slice none 0 0]) (t := 27) ?hr ?_; (case hd => rfl); (case hg => rfl); (case hr => first | (go_simp; done) | (go_simp; rfl)); intro gb147 hg w4 hbox hb; have n_ := az (IsS93.below (mI93_1 HI0.out) hb) <| az (KeepBut.trans (mKp HK.out) (KeepBut.of_below hb g none) (.inl rfl)) <| az (below_step (mB93HI0 HB.out) hb) <| az (hbox) <| az ((gW hg HK.out)) <| az ((Nat.le_trans HW0.out (gW hg HK.out) : w0.heap.size ≤ gb147)) <| az ((by rw [hg]; exact Nat.ne_of_lt (IsS93.lt (show IsS93 w0 _ g s0_0 s0_1 from mI93_1 HI0.out)) : g ≠ gb147)) <| z0 ((by rw [hg]; exact Nat.ne_of_gt (IsS93.lt (show IsS93 w0 _ g s0_0 s0_1 from mI93_1 HI0.out)) : gb147 ≠ g)); clear HI0 HK HB; obtain ⟨HI0, HK, HB, BK147, GW147, GE147, NB0_147, NB147_0⟩ := n_; clear hb hbox hg))
 (try simp only [Act.put, List.setIfInBounds_toArray, List.set_cons_zero, List.set_cons_succ])
 go_cut [13] (fun v13 wc => ∃ (kq : Nat) (x13_2 : Bool) (x1001_2 : Int), v13 = .bool x13_2 ∧ Aside0 (spec_l3Expr.j0 kq a1 x13_2 s0_0 x1001_2 = some (r1, r2, r3, r4, r5, r6)) ∧ Aside0 (kq ≤ k) ∧ Aside0 (wc.heap[gb147]? = some (.cells #[.int .i64 0, .int .i64 0, .int .i64 0, .int .i64 0, (.slice none 0 0)] 27 (0, 0))) ∧ Aside0 (IsS93 w0 wc g s0_0 x1001_2) ∧ Aside0 (KeepBut w wc g none) ∧ Aside0 (Below w0.heap.size w0 wc))
 case first =>
  have H := HC3.out
  clear HC3
  by_cases c5 : a1 ≤ 1
  ·rw [if_pos c5] at H
   have c5b0 : decide (a1 ≤ 1) = true := decide_eq_true c5
   clear c5
   (first | rw [c5b0] | (simp only [i64_w, i32_w]; rw [c5b0]) | skip)
   have H' := z0 H
   clear H
   go_wp2
   go_meet
   case rel => exact ⟨_, (true), (s0_1), rfy, H', ⟨by first | omega | exact Nat.le_refl _⟩, ⟨mK BK147.out⟩, ⟨mI93_1 HI0.out⟩, ⟨mKp HK.out⟩, ⟨mB93HI0 HB.out⟩⟩
  ·rw [if_neg c5] at H
   have c5b0 : decide (a1 ≤ 1) = false := decide_eq_false c5
   clear c5
   (first | rw [c5b0] | (simp only [i64_w, i32_w]; rw [c5b0]) | skip)
   replace H := Option.bind_eq_some_iff.mp H
   obtain ⟨⟨t148, t149⟩, A60, H⟩ := H
   try dsimp only at H
   have A6 := z0 A60
   clear A60
   have H' := z0 H
   clear H
   go_wp2_with (first | (go_at_call 61; (with_reducible refine (spec_l12Rd_pick.calls k g s0_0 s0_1 4 t148 t149 w0 _ ?side1 ?side2 A6.out).mono ?_); (case side1 => exact mI93_1 HI0.out); (case side2 => exact mB93HI0 HB.out); rintro e w7 ⟨rfl, hi, hb, hk⟩; have n_ := az (kB hk BK147.out NB147_0.out) <| az (KeepBut.trans (mKp HK.out) hk (.inl rfl)) <| az (hb) <| z0 (hi); clear BK147 HK HB HI0; obtain ⟨BK147, HK, HB, HI0⟩ := n_; clear hb hk hi))
   go_meet
   case rel => exact ⟨_, ((t148 == 0)), (t149), rfy, H', ⟨by first | omega | exact Nat.le_refl _⟩, ⟨mK BK147.out⟩, ⟨mI93_1 HI0.out⟩, ⟨mKp HK.out⟩, ⟨mB93HI0 HB.out⟩⟩
 case rest =>
  clear HC3
  skip
  obtain ⟨kq, x13_2, x1001_2, rfl, HA, HJ2, BK147, HI0, HK, HB⟩ := hcut
  cases kq with
  | zero => exact absurd HA.out (by simp [spec_l3Expr.j0])
  | succ kj2 =>
   have H := HA.out
   clear HA
   simp only [spec_l3Expr.j0] at H
   by_cases c8 : x13_2 = true
   ·subst c8
    have H1 : ((spec_l12Rd_pick.f kj2 s0_0 x1001_2 3).bind fun bt150 => (if bt150.1 = 0 then ((spec_l12Rd_num.f kj2 s0_0 bt150.2 (([0, 1, 2, 3, (-1), 5, 1000000] : List Int))).bind fun bt155 => (some (1, bt155.1, 0, 0, ([] : List (S27)), bt155.2))) else ((spec_l2Addr.f kj2 s0_0 bt150.2).bind fun bt157 => (some (2, 0, bt157.1, bt157.2.1, ([] : List (S27)), bt157.2.2))))) = some (r1, r2, r3, r4, r5, r6) := by rw [if_pos rfl] at H; exact H
    clear H
    have H := H1
    clear H1
    replace H := Option.bind_eq_some_iff.mp H
    obtain ⟨⟨t150, t151⟩, A90, H⟩ := H
    try dsimp only at H
    have A9 := z0 A90
    clear A90
    have HF10 := z0 H
    clear H
    go_upto_if 16 with (first | ((with_reducible refine gate_callee (f := 61) rfl ?_); refine goesL_ (some 15) rfl rfl Tryz.func61 (by kernel_rfl) rfl #[.pointer (some ⟨g, 0, none⟩), .int .i64 3] rfl argx ?_; (with_reducible refine (spec_l12Rd_pick.calls kj2 g s0_0 x1001_2 3 t150 t151 w0 _ ?side1 ?side2 A9.out).mono ?_); (case side1 => exact mI93_1 HI0.out); (case side2 => exact mB93HI0 HB.out); rintro e w11 ⟨rfl, hi, hb, hk⟩; refine ⟨_, rfl, ?_⟩; have n_ := az (kB hk BK147.out NB147_0.out) <| az (KeepBut.trans (mKp HK.out) hk (.inl rfl)) <| az (hb) <| z0 (hi); clear BK147 HK HB HI0; obtain ⟨BK147, HK, HB, HI0⟩ := n_; clear hb hk hi))
    (try simp only [Act.put, List.setIfInBounds_toArray, List.set_cons_zero, List.set_cons_succ])
    have H := HF10.out
    clear HF10
    (try clear c8)
    by_cases c12 : t150 = 0
    ·rw [if_pos c12] at H
     have c12b0 : (t150 == 0) = true := beq_iff_eq.mpr c12
     have c12b1 : (t150 != 0) = false := bne_eq_false_iff_eq.mpr c12
     clear c12
     (first | rw [c12b0] | (simp only [i64_w, i32_w]; rw [c12b0]) | skip)
     obtain ⟨y152, hy152⟩ : ∃ y_ : List Int, y_ = (([0, 1, 2, 3, (-1), 5, 1000000] : List Int)) := ⟨_, rfl⟩
     replace H : ((spec_l12Rd_num.f kj2 s0_0 t151 y152).bind fun bt155 => (some (1, bt155.1, 0, 0, ([] : List (S27)), bt155.2))) = some (r1, r2, r3, r4, r5, r6) := by first | (rw [hy152]; with_reducible exact H) | (have H2_ := (Option.bind_some _ _).symm.trans H; rw [hy152]; with_reducible exact H2_) | (have H2_ := (Option.bind_some _ _).symm.trans H; with_reducible exact H2_) | with_reducible exact H | (rw [hy152]; exact H) | exact H
     have Ny152 := z0 hy152
     clear hy152
     replace H := Option.bind_eq_some_iff.mp H
     obtain ⟨⟨t155, t156⟩, A130, H⟩ := H
     try dsimp only at H
     have A13 := z0 A130
     clear A130
     simp only [Option.some.injEq, Prod.mk.injEq] at H
     obtain ⟨rfl, rfl, rfl, rfl, rfl, rfl⟩ := H
     go_wp2_with (first | ((with_reducible refine gate_dst (N := 18) rfl ?_); refine Kd.R_lit (Kd.int .i64) _ 3 ?hg (N := 18) ?hd (xs := ([0, 1, 2, 3, (-1), 5, 1000000] : List Int)) (inner := [.int .i64 0, .int .i64 1, .int .i64 2, .int .i64 3, .int .i64 (-1), .int .i64 5, .int .i64 1000000]) (ok := fun _ => True) (okp := fun _ => True) ?hr ?hp (fun _ hk => hk) trivial (Below.refl _ _) (Nat.le_refl _) (by simp) ?_; (case hd => rfl); (case hg => rfl); (case hr => first | (go_simp; done) | (go_simp; rfl)); (case hp => exact (Reps.one (show Kd.M (Kd.int .i64) _ _ _ 0 [.int .i64 0] from rfl) (Reps.one (show Kd.M (Kd.int .i64) _ _ _ 1 [.int .i64 1] from rfl) (Reps.one (show Kd.M (Kd.int .i64) _ _ _ 2 [.int .i64 2] from rfl) (Reps.one (show Kd.M (Kd.int .i64) _ _ _ 3 [.int .i64 3] from rfl) (Reps.one (show Kd.M (Kd.int .i64) _ _ _ (-1) [.int .i64 (-1)] from rfl) (Reps.one (show Kd.M (Kd.int .i64) _ _ _ 5 [.int .i64 5] from rfl) (Reps.one (show Kd.M (Kd.int .i64) _ _ _ 1000000 [.int .i64 1000000] from rfl) (Reps.none _ _))))))))); intro v153 w14 ho15 hb hg_ hnew_; clear hg_ hnew_; (first | rw [← Ny152.out] at ho15 | (simp only [Int.reduceToNat] at ho15; rw [← Ny152.out] at ho15)); have n_ := az (Kd.R_lower ho15 (kS HK.out)) <| az (bB BK147.out hb) <| az (IsS93.below (mI93_1 HI0.out) hb) <| az (KeepBut.trans (mKp HK.out) (KeepBut.of_below hb g none) (.inl rfl)) <| z0 (below_step (mB93HI0 HB.out) hb); clear BK147 HI0 HK HB; obtain ⟨HO154, BK147, HI0, HK, HB⟩ := n_; clear hb ho15; obtain ⟨Ao16, co16, eo16⟩ := Kd.R_slice HO154.out; subst eo16) | ((with_reducible refine gate_callee (f := 51) rfl ?_); refine goesL_ (some 19) rfl rfl Tryz.func51 (by kernel_rfl) rfl #[.pointer (some ⟨g, 0, none⟩), .slice Ao16 y152.length co16] rfl argx ?_; (with_reducible refine (spec_l12Rd_num.calls kj2 g s0_0 t151 _ _ y152 t155 t156 w0 _ ?side1 ?side2 ?side3 ?side4 ?side5 A13.out).mono ?_); (case side1 => exact mI93_1 HI0.out); (case side2 => exact mB93HI0 HB.out); (case side3 => exact mC (Kd.R_reads' HO154.out).2.2); (case side4 => exact (Kd.R_reads' HO154.out).2.1); (case side5 => exact far_slice (IsS93.own_ne HI0.out HO154.out (by decide))); rintro e w17 ⟨rfl, hi, hb, hk⟩; refine ⟨_, rfl, ?_⟩; have n_ := az (kB hk BK147.out NB147_0.out) <| az (Kd.R_mono (Kd.R_keep (IsS93.apart (show IsS93 w0 _ g s0_0 t151 from mI93_1 HI0.out) (mR HO154.out) (by decide)) hk (fun _ h => h.2)) (fun _ h => h.1)) <| az (KeepBut.trans (mKp HK.out) hk (.inl rfl)) <| az (hb) <| z0 (hi); clear BK147 HO154 HK HB HI0; obtain ⟨BK147, HO154, HK, HB, HI0⟩ := n_; clear hb hk hi; have hnb18 := NB147_0.out; have hnc18 := NB0_147.out; obtain ⟨hcz19_0, hcz19_1, hcz19_2, hcz19_3, hcz19_4, hfz19_0, hfz19_1, hfz19_2, hfz19_3, hfz19_4⟩ := cel5 BK147.out))
     refine bodyPost_ret (results_cell_row rfl _ _ gb147 27 #[.int .i64 1, .int .i64 t155, .int .i64 0, .int .i64 0, .slice none 0 0] (0, 0) _ rfl (pF BK147.out) Tryz.underlying27 rfl (by kernel_rfl)) rfl ?_
     exact ⟨_, rfx, by first | exact Kd.R_nil _ _ _ _ _ | exact Kd.N_nil _ _ _ _ _ | exact Kd.V_nil _ _ _ _ _ | exact Kd.Q_nil _ _ _ _ _ | exact Kd.S_nil _ _ _ _ _, mI93_1 HI0.out, mB93HI0 HB.out, mKp HK.out⟩
    ·rw [if_neg c12] at H
     have c12b0 : (t150 == 0) = false := beq_eq_false_iff_ne.mpr c12
     have c12b1 : (t150 != 0) = true := bne_iff_ne.mpr c12
     (first | rw [c12b0] | (simp only [i64_w, i32_w]; rw [c12b0]) | skip)
     replace H := Option.bind_eq_some_iff.mp H
     obtain ⟨⟨t157, t158, t159⟩, A200, H⟩ := H
     try dsimp only at H
     have A20 := z0 A200
     clear A200
     simp only [Option.some.injEq, Prod.mk.injEq] at H
     obtain ⟨rfl, rfl, rfl, rfl, rfl, rfl⟩ := H
     go_wp2_with (first | ((with_reducible refine gate_callee (f := 74) rfl ?_); refine goesL_ (some 22) rfl rfl Tryz.func74 (by kernel_rfl) rfl #[.pointer (some ⟨g, 0, none⟩)] rfl argx ?_; (with_reducible refine (spec_l2Addr.calls kj2 g s0_0 t151 t157 t158 t159 w0 _ ?side1 ?side2 A20.out).mono ?_); (case side1 => exact mI93_1 HI0.out); (case side2 => exact mB93HI0 HB.out); rintro e w21 ⟨rfl, hi, hb, hk⟩; refine ⟨_, rfl, ?_⟩; have n_ := az (kB hk BK147.out NB147_0.out) <| az (KeepBut.trans (mKp HK.out) hk (.inl rfl)) <| az (hb) <| z0 (hi); clear BK147 HK HB HI0; obtain ⟨BK147, HK, HB, HI0⟩ := n_; clear hb hk hi; have hnb22 := NB147_0.out; have hnc22 := NB0_147.out; obtain ⟨hcz23_0, hcz23_1, hcz23_2, hcz23_3, hcz23_4, hfz23_0, hfz23_1, hfz23_2, hfz23_3, hfz23_4⟩ := cel5 BK147.out))
     refine bodyPost_ret (results_cell_row rfl _ _ gb147 27 #[.int .i64 2, .int .i64 0, .int .i64 t157, .int .i64 t158, .slice none 0 0] (0, 0) _ rfl (pF BK147.out) Tryz.underlying27 rfl (by kernel_rfl)) rfl ?_
     exact ⟨_, rfx, by first | exact Kd.R_nil _ _ _ _ _ | exact Kd.N_nil _ _ _ _ _ | exact Kd.V_nil _ _ _ _ _ | exact Kd.Q_nil _ _ _ _ _ | exact Kd.S_nil _ _ _ _ _, mI93_1 HI0.out, mB93HI0 HB.out, mKp HK.out⟩
   ·replace c8 := Bool.eq_false_iff.mpr c8
    subst c8
    have H1 : ((spec_l12Rd_num.f kj2 s0_0 x1001_2 (([3, 3, 4, 5, 6, 6, 7, 8, 9, 10] : List Int))).bind fun bt163 => ((spec_l3Kids.f kj2 bt163.1).bind fun t166 => (spec_l3Expr.l0 kj2 a1 t166 s0_0 bt163.2 bt163.1 0 0 0 ([] : List (S27))))) = some (r1, r2, r3, r4, r5, r6) := by rw [if_neg (show ¬ (false = true) by decide)] at H; exact H
    clear H
    have H := H1
    clear H1
    obtain ⟨y160, hy160⟩ : ∃ y_ : List Int, y_ = (([3, 3, 4, 5, 6, 6, 7, 8, 9, 10] : List Int)) := ⟨_, rfl⟩
    replace H : ((spec_l12Rd_num.f kj2 s0_0 x1001_2 y160).bind fun bt163 => ((spec_l3Kids.f kj2 bt163.1).bind fun t166 => (spec_l3Expr.l0 kj2 a1 t166 s0_0 bt163.2 bt163.1 0 0 0 ([] : List (S27))))) = some (r1, r2, r3, r4, r5, r6) := by first | (rw [hy160]; with_reducible exact H) | (have H2_ := (Option.bind_some _ _).symm.trans H; rw [hy160]; with_reducible exact H2_) | (have H2_ := (Option.bind_some _ _).symm.trans H; with_reducible exact H2_) | with_reducible exact H | (rw [hy160]; exact H) | exact H
    have Ny160 := z0 hy160
    clear hy160
    replace H := Option.bind_eq_some_iff.mp H
    obtain ⟨⟨t163, t164⟩, A240, H⟩ := H
    try dsimp only at H
    have A24 := z0 A240
    clear A240
    replace H := Option.bind_eq_some_iff.mp H
    obtain ⟨t166, A250, H⟩ := H
    try dsimp only at H
    have A25 := z0 A250
    clear A250
    have H' := z0 H
    clear H
    go_wp2_with (first | ((with_reducible refine gate_dst (N := 25) rfl ?_); refine Kd.R_lit (Kd.int .i64) _ 3 ?hg (N := 25) ?hd (xs := ([3, 3, 4, 5, 6, 6, 7, 8, 9, 10] : List Int)) (inner := [.int .i64 3, .int .i64 3, .int .i64 4, .int .i64 5, .int .i64 6, .int .i64 6, .int .i64 7, .int .i64 8, .int .i64 9, .int .i64 10]) (ok := fun _ => True) (okp := fun _ => True) ?hr ?hp (fun _ hk => hk) trivial (Below.refl _ _) (Nat.le_refl _) (by simp) ?_; (case hd => rfl); (case hg => rfl); (case hr => first | (go_simp; done) | (go_simp; rfl)); (case hp => exact (Reps.one (show Kd.M (Kd.int .i64) _ _ _ 3 [.int .i64 3] from rfl) (Reps.one (show Kd.M (Kd.int .i64) _ _ _ 3 [.int .i64 3] from rfl) (Reps.one (show Kd.M (Kd.int .i64) _ _ _ 4 [.int .i64 4] from rfl) (Reps.one (show Kd.M (Kd.int .i64) _ _ _ 5 [.int .i64 5] from rfl) (Reps.one (show Kd.M (Kd.int .i64) _ _ _ 6 [.int .i64 6] from rfl) (Reps.one (show Kd.M (Kd.int .i64) _ _ _ 6 [.int .i64 6] from rfl) (Reps.one (show Kd.M (Kd.int .i64) _ _ _ 7 [.int .i64 7] from rfl) (Reps.one (show Kd.M (Kd.int .i64) _ _ _ 8 [.int .i64 8] from rfl) (Reps.one (show Kd.M (Kd.int .i64) _ _ _ 9 [.int .i64 9] from rfl) (Reps.one (show Kd.M (Kd.int .i64) _ _ _ 10 [.int .i64 10] from rfl) (Reps.none _ _)))))))))))); intro v161 w26 ho27 hb hg_ hnew_; clear hg_ hnew_; (first | rw [← Ny160.out] at ho27 | (simp only [Int.reduceToNat] at ho27; rw [← Ny160.out] at ho27)); have n_ := az (Kd.R_lower ho27 (kS HK.out)) <| az (bB BK147.out hb) <| az (IsS93.below (mI93_1 HI0.out) hb) <| az (KeepBut.trans (mKp HK.out) (KeepBut.of_below hb g none) (.inl rfl)) <| z0 (below_step (mB93HI0 HB.out) hb); clear BK147 HI0 HK HB; obtain ⟨HO162, BK147, HI0, HK, HB⟩ := n_; clear hb ho27; obtain ⟨Ao28, co28, eo28⟩ := Kd.R_slice HO162.out; subst eo28) | ((with_reducible refine gate_callee (f := 51) rfl ?_); refine goesL_ (some 26) rfl rfl Tryz.func51 (by kernel_rfl) rfl #[.pointer (some ⟨g, 0, none⟩), .slice Ao28 y160.length co28] rfl argx ?_; (with_reducible refine (spec_l12Rd_num.calls kj2 g s0_0 x1001_2 _ _ y160 t163 t164 w0 _ ?side1 ?side2 ?side3 ?side4 ?side5 A24.out).mono ?_); (case side1 => exact mI93_1 HI0.out); (case side2 => exact mB93HI0 HB.out); (case side3 => exact mC (Kd.R_reads' HO162.out).2.2); (case side4 => exact (Kd.R_reads' HO162.out).2.1); (case side5 => exact far_slice (IsS93.own_ne HI0.out HO162.out (by decide))); rintro e w29 ⟨rfl, hi, hb, hk⟩; refine ⟨_, rfl, ?_⟩; have n_ := az (kB hk BK147.out NB147_0.out) <| az (Kd.R_mono (Kd.R_keep (IsS93.apart (show IsS93 w0 _ g s0_0 x1001_2 from mI93_1 HI0.out) (mR HO162.out) (by decide)) hk (fun _ h => h.2)) (fun _ h => h.1)) <| az (KeepBut.trans (mKp HK.out) hk (.inl rfl)) <| az (hb) <| z0 (hi); clear BK147 HO162 HK HB HI0; obtain ⟨BK147, HO162, HK, HB, HI0⟩ := n_; clear hb hk hi) | ((with_reducible refine gate_dst (N := 5) rfl ?_); refine box_event ?hg (N := 5) ?hd (cs := #[.int .i64 0, .int .i64 0, .int .i64 0, .int .i64 0, .slice none 0 0]) (t := 27) ?hr ?_; (case hd => rfl); (case hg => rfl); (case hr => first | (go_simp; done) | (go_simp; rfl)); intro gb165 hg w30 hbox hb; have n_ := az (Kd.R_below (mR HO162.out) hb) <| az (bB BK147.out hb) <| az (IsS93.below (mI93_1 HI0.out) hb) <| az (KeepBut.trans (mKp HK.out) (KeepBut.of_below hb g none) (.inl rfl)) <| az (below_step (mB93HI0 HB.out) hb) <| az (hbox) <| az ((gW hg HK.out)) <| az ((Nat.le_trans HW0.out (gW hg HK.out) : w0.heap.size ≤ gb165)) <| az ((nL hg BK147.out)) <| az ((nG hg BK147.out)) <| az ((by rw [hg]; exact Nat.ne_of_lt (IsS93.lt (show IsS93 w0 _ g s0_0 t164 from mI93_1 HI0.out)) : g ≠ gb165)) <| z0 ((by rw [hg]; exact Nat.ne_of_gt (IsS93.lt (show IsS93 w0 _ g s0_0 t164 from mI93_1 HI0.out)) : gb165 ≠ g)); clear HO162 BK147 HI0 HK HB; obtain ⟨HO162, BK147, HI0, HK, HB, BK165, GW165, GE165, NB147_165, NB165_147, NB0_165, NB165_0⟩ := n_; clear hb hbox hg; have hnb31 := NB165_147.out; have hnc31 := NB147_165.out; have hnb32 := NB165_0.out; have hnc32 := NB0_165.out; obtain ⟨hcz33_0, hcz33_1, hcz33_2, hcz33_3, hcz33_4, hfz33_0, hfz33_1, hfz33_2, hfz33_3, hfz33_4⟩ := cel5 BK165.out) | ((with_reducible refine gate_callee (f := 89) rfl ?_); refine goesL_ (some 30) rfl rfl Tryz.func89 (by kernel_rfl) rfl #[.int .i64 t163] rfl argx ?_; (with_reducible refine (spec_l3Kids.calls kj2 t163 t166 _ A25.out).mono ?_); rintro e w' ⟨rfl, ⟨nd, rfl⟩⟩; refine ⟨_, rfl, ?_⟩))
    go_loopg [6] kj2 (fun kq v6 w' => ∃ (x6_2 : Int) (x1001_2 : Int) (x166004_2 : List (S27)) (u166004 : Value), v6 = .int .i64 x6_2 ∧ Aside0 (spec_l3Expr.l0 kq a1 x6_2 s0_0 x1001_2 t163 0 0 0 x166004_2 = some (r1, r2, r3, r4, r5, r6)) ∧ Aside0 (kq ≤ kj2) ∧ Aside0 (Kd.R k27 27 w' w.heap.size (fun k_ => k_ ≠ gb147 ∧ k_ ≠ gb165) u166004 x166004_2) ∧ Aside0 (w'.heap[gb147]? = some (.cells #[.int .i64 0, .int .i64 0, .int .i64 0, .int .i64 0, (.slice none 0 0)] 27 (0, 0))) ∧ Aside0 (w'.heap[gb165]? = some (.cells #[.int .i64 t163, .int .i64 0, .int .i64 0, .int .i64 0, u166004] 27 (0, 0))) ∧ Aside0 (IsS93 w0 w' g s0_0 x1001_2) ∧ Aside0 (KeepBut w w' g none) ∧ Aside0 (Below w0.heap.size w0 w'))
    case atStart => exact ⟨(t166), (t164), (([] : List (S27))), (.slice none 0 0), rfy, H', ⟨Nat.le_refl _⟩, ⟨by first | exact Kd.R_nil _ _ _ _ _ | exact Kd.N_nil _ _ _ _ _ | exact Kd.V_nil _ _ _ _ _ | exact Kd.Q_nil _ _ _ _ _ | exact Kd.S_nil _ _ _ _ _⟩, ⟨mF BK147.out⟩, ⟨by (with_reducible repeat (first | refine blk_drewN ?_ _ | refine blk_drew ?_ | refine blk_alloc ?_ _)); refine blk_put (cs := #[.int .i64 t163, .int .i64 0, .int .i64 0, .int .i64 0, .slice none 0 0]) ?_ 4 _ rfl; (with_reducible repeat (first | refine blk_drewN ?_ _ | refine blk_drew ?_ | refine blk_alloc ?_ _)); refine blk_put (cs := #[.int .i64 t163, .int .i64 0, .int .i64 0, .int .i64 0, .slice none 0 0]) ?_ 3 _ rfl; (with_reducible repeat (first | refine blk_drewN ?_ _ | refine blk_drew ?_ | refine blk_alloc ?_ _)); refine blk_put (cs := #[.int .i64 t163, .int .i64 0, .int .i64 0, .int .i64 0, .slice none 0 0]) ?_ 2 _ rfl; (with_reducible repeat (first | refine blk_drewN ?_ _ | refine blk_drew ?_ | refine blk_alloc ?_ _)); refine blk_put (cs := #[.int .i64 t163, .int .i64 0, .int .i64 0, .int .i64 0, .slice none 0 0]) ?_ 1 _ rfl; (with_reducible repeat (first | refine blk_drewN ?_ _ | refine blk_drew ?_ | refine blk_alloc ?_ _)); refine blk_put (cs := #[.int .i64 0, .int .i64 0, .int .i64 0, .int .i64 0, .slice none 0 0]) ?_ 0 _ rfl; (with_reducible repeat (first | refine blk_drewN ?_ _ | refine blk_drew ?_ | refine blk_alloc ?_ _)); exact BK165.out⟩, ⟨mI93_1 HI0.out⟩, ⟨mKp HK.out⟩, ⟨mB93HI0 HB.out⟩⟩
    case round =>
     clear H'
     (try clear c8); (try clear c12); (try clear hcz33_0); (try clear hcz33_1); (try clear hcz33_2); (try clear hcz33_3); (try clear hcz33_4); (try clear hfz33_0); (try clear hfz33_1); (try clear hfz33_2); (try clear hfz33_3); (try clear hfz33_4)
     obtain ⟨x6_2, x1001_2, x166004_2, u166004, rfl, HA, HK2, HO_166004, BK147, BK165, HI0, HK, HB⟩ := hrel
     cases gk with
     | zero => exact absurd HA.out (by simp [spec_l3Expr.l0])
     | succ k2 =>
      have H := HA.out
      clear HA
      simp only [spec_l3Expr.l0] at H
      by_cases c34 : x6_2 > 0
      ·rw [if_pos c34] at H
       have c34b0 : decide (0 < x6_2) = true := decide_eq_true c34
       clear c34
       replace H := Option.bind_eq_some_iff.mp H
       obtain ⟨⟨t167, t168, t169, t170, t171, t174⟩, A350, H⟩ := H
       try dsimp only at H
       have A35 := z0 A350
       clear A350
       by_cases c36 : x166004_2.length < 2513169434916
       ·rw [if_pos c36] at H
        have LMc36 := z0 c36
        clear c36
        obtain ⟨y175, hy175⟩ : ∃ y_ : List (S27), y_ = (x166004_2 ++ [(⟨t167, t168, (⟨t169, t170⟩ : S24), t171⟩ : S27)]) := ⟨_, rfl⟩
        replace H : (spec_l3Expr.l0 k2 a1 (wrap64 (x6_2 - 1)) s0_0 t174 t163 0 0 0 y175) = some (r1, r2, r3, r4, r5, r6) := by first | (rw [hy175]; with_reducible exact H) | (have H2_ := (Option.bind_some _ _).symm.trans H; rw [hy175]; with_reducible exact H2_) | (have H2_ := (Option.bind_some _ _).symm.trans H; with_reducible exact H2_) | with_reducible exact H | (rw [hy175]; exact H) | exact H
        have Ny175 := z0 hy175
        clear hy175
        have H' := z0 H
        clear H
        try go_wp2
        have n_ := az (Kd.R_drew HO_166004.out) <| az (blk_drew BK147.out) <| az (blk_drew BK165.out) <| az (IsS93.drew HI0.out) <| az (keep_drew HK.out) <| z0 (below_drew1 HB.out)
        clear HO_166004 BK147 BK165 HI0 HK HB
        obtain ⟨HO_166004, BK147, BK165, HI0, HK, HB⟩ := n_
        refine start_ (n := 10) (S := fun w' => w'.cell? ⟨gb165, 0, none⟩ = some (.int .i64 t163) ∧ w'.cell? ⟨gb165, 1, none⟩ = some (.int .i64 0) ∧ w'.cell? ⟨gb165, 2, none⟩ = some (.int .i64 0) ∧ w'.cell? ⟨gb165, 3, none⟩ = some (.int .i64 0) ∧ w'.cell? ⟨gb165, 4, none⟩ = some (u166004)) (ds := [9]) #[false, false, false, false, false, false, false, false, false, false] (by kernel_rfl) rfl rfl ⟨(blk_cell BK165.out 0).trans rfl, (blk_cell BK165.out 1).trans rfl, (blk_cell BK165.out 2).trans rfl, (blk_cell BK165.out 3).trans rfl, (blk_cell BK165.out 4).trans rfl⟩ (fun hHeld => ?_); refine with_tabW spec_l3Expr.tab9 spec_l3Expr.bits9 (fun HT_ HW_ => ?_)
        generalize wr.drew = w37 at HO_166004 BK147 BK165 HI0 HK HB hHeld ⊢
        refine pure_ (i := 0) (N := some 35) (v := ?_) (a' := ?_) #[true, false, false, false, false, false, false, false, false, false] rfl rfl (any_of HT_.out (by kernel_rfl)) (fun _ _ _ h => h) (Or.inl ⟨by rfl, ?_⟩) ?_ ?_
        rotate_left
        ·intro w'
         go_simp
         with_reducible rfl
        rotate_left
        ·simp only [Act.put, List.setIfInBounds_toArray, List.set_cons_zero, List.set_cons_succ, i64_w, i32_w]
         rfl
        refine pure_ (i := 2) (N := some 37) (v := ?_) (a' := ?_) #[true, false, true, false, false, false, false, false, false, false] rfl rfl (any_of HT_.out (by kernel_rfl)) (fun _ _ _ h => h) (Or.inl ⟨by rfl, ?_⟩) ?_ ?_
        rotate_left
        ·intro w'
         go_simp
         with_reducible rfl
        rotate_left
        ·simp only [Act.put, List.setIfInBounds_toArray, List.set_cons_zero, List.set_cons_succ, i64_w, i32_w]
         rfl
        refine pure_ (i := 3) (N := some 38) (v := ?_) (a' := ?_) #[true, false, true, true, false, false, false, false, false, false] rfl rfl (any_of HT_.out (by kernel_rfl)) (fun _ _ _ h => h) (Or.inl ⟨by rfl, ?_⟩) ?_ ?_
        rotate_left
        ·intro w'
         go_simp
         with_reducible rfl
        rotate_left
        ·simp only [Act.put, List.setIfInBounds_toArray, List.set_cons_zero, List.set_cons_succ, i64_w, i32_w]
         rfl
        refine pure_ (i := 4) (N := some 39) (v := ?_) (a' := ?_) #[true, false, true, true, true, false, false, false, false, false] rfl rfl (any_of HT_.out (by kernel_rfl)) (fun _ _ _ h => h) (Or.inl ⟨by rfl, ?_⟩) ?_ ?_
        rotate_left
        ·intro w'
         go_simp
         with_reducible rfl
        rotate_left
        ·simp only [Act.put, List.setIfInBounds_toArray, List.set_cons_zero, List.set_cons_succ, i64_w, i32_w]
         rfl
        refine take_ (i := 1) (N := some 36) (v := ?_) (a' := ?_) #[true, true, true, true, true, false, false, false, false, false] rfl rfl (take_ofW HT_.out HW_.out (by kernel_rfl)) (fun _ _ _ h => h) (Or.inl ⟨by rfl, ?_⟩) hHeld ?_ ?_
        rotate_left
        ·rintro w' ⟨s0, s1, s2, s3, s4⟩
         go_simp
         with_reducible rfl
        rotate_left
        ·simp only [Act.put, List.setIfInBounds_toArray, List.set_cons_zero, List.set_cons_succ, i64_w, i32_w]
         rfl
        refine one_ (i := 5) (N := some 40) #[true, true, true, true, true, true, false, false, false, false] rfl rfl (one_of HT_.out (by kernel_rfl)) (by decide) (fun K hK => ?_)
        refine goes_ Tryz.func83 (by kernel_rfl) rfl #[.pointer (some ⟨g, 0, none⟩), .int .i64 (wrap64 (a1 - 1))] (by rfl) rfl rfl argx ?_
        with_reducible refine (ih k2 (by have := HJ2.out; have := HK2.out; omega) g s0_0 x1001_2 (wrap64 (a1 - 1)) t167 t168 t169 t170 t171 t174 w0 _ ?side1 ?side2 A35.out).mono ?_
        (case side1 => exact mI93_1 HI0.out)
        (case side2 => exact mB93HI0 HB.out)
        rintro e w38 ⟨v172, rfl, ho0, hi, hb, hk⟩
        refine ⟨_, rfl, ?_⟩
        have n_ := And.intro (z0 (Kd.R_mono (Kd.R_told (Kd.R_oldK (IsS93.apart (show IsS93 w0 _ g s0_0 x1001_2 from mI93_1 HI0.out) (mR HO_166004.out) (by decide)) hk) (by first | exact Kd.R_base ho0 | exact Kd.R_base ho0)) (fun _ h_ => h_.1))) <| az (kB hk BK147.out NB147_0.out) <| az (kB hk BK165.out NB165_0.out) <| And.intro (z0 (Kd.R_lower (Kd.R_newB (Kd.R_newB (Kd.R_new' ho0 (Kd.R_lt (mR HO_166004.out))) (g := gb147) (o := .cells #[.int .i64 0, .int .i64 0, .int .i64 0, .int .i64 0, .slice none 0 0] 27 (0, 0)) (mK BK147.out)) (g := gb165) (o := .cells #[.int .i64 t163, .int .i64 0, .int .i64 0, .int .i64 0, u166004] 27 (0, 0)) (mK BK165.out)) (kS HK.out))) <| az (KeepBut.trans (mKp HK.out) hk (.inl rfl)) <| az (hb) <| z0 (hi)
        clear HO_166004 BK147 BK165 HK HB HI0
        obtain ⟨HO_166004, BK147, BK165, HO173, HK, HB, HI0⟩ := n_
        (try clear hb)
        (try clear hb2)
        (try clear hk)
        (try clear hi)
        (try clear ho0)
        obtain ⟨Ao40, co40, eo40⟩ := Kd.R_slice HO173.out
        (first | subst eo40 | (injection eo40 with f1_ f2_ f3_; have f4_ := f1_.symm; have f5_ := f3_.symm; clear f1_ f2_ f3_; subst f4_; subst f5_))
        refine hK.out _ _ ⟨(blk_cell BK165.out 0).trans rfl, (blk_cell BK165.out 1).trans rfl, (blk_cell BK165.out 2).trans rfl, (blk_cell BK165.out 3).trans rfl, (blk_cell BK165.out 4).trans rfl⟩ (fun hHeld => ?_)
        clear hK K
        refine norm_ (a' := ?_) ?_ ?_
        rotate_left
        ·show Act.put _ (some 40) _ = _
         simp only [Act.put, List.setIfInBounds_toArray, List.set_cons_zero, List.set_cons_succ, i64_w, i32_w]
         rfl
        refine one_ (i := 6) (N := some 41) #[true, true, true, true, true, true, true, false, false, false] rfl rfl (one_of HT_.out (by kernel_rfl)) (by decide) (fun K hK => ?_)
        refine value_ (w1 := ?_) (v := ?_) (by rfl) rfl ?_ ?_
        rotate_left 2
        ·go_simp
         constructor
         ·rfl
         ·rfl
        refine hK.out _ _ ⟨(blk_cell (blk_alloc BK165.out _) 0).trans rfl, (blk_cell (blk_alloc BK165.out _) 1).trans rfl, (blk_cell (blk_alloc BK165.out _) 2).trans rfl, (blk_cell (blk_alloc BK165.out _) 3).trans rfl, (blk_cell (blk_alloc BK165.out _) 4).trans rfl⟩ (fun hHeld => ?_)
        clear hK K
        refine norm_ (a' := ?_) ?_ ?_
        rotate_left
        ·show Act.put _ (some 41) _ = _
         simp only [Act.put, List.setIfInBounds_toArray, List.set_cons_zero, List.set_cons_succ, i64_w, i32_w]
         rfl
        refine one_ (i := 7) (N := some 42) #[true, true, true, true, true, true, true, true, false, false] rfl rfl (one_of HT_.out (by kernel_rfl)) (by decide) (fun K hK => ?_)
        refine Kd.R_append_step k27 w.heap.size (by rfl) (.tmp 36) (.tmp 41) 25 27 (.agg #[(.int .i64 0), (.int .i64 0), (.int .i64 0), (.int .i64 0), (.slice none 0 0)]) 56 rfl Tryz.underlying25 info27 rfl (by decide) (by omega) u166004 x166004_2 (⟨t167, t168, (⟨t169, t170⟩ : S24), t171⟩ : S27) [.int .i64 t167, .int .i64 t168, .int .i64 t169, .int .i64 t170, .slice Ao40 t171.length co40] (fun k_ => k_ ≠ gb147 ∧ k_ ≠ gb165) (fun k_ => ((fun k_ => k_ ≠ gb147 ∧ k_ ≠ gb165)) k_ ∧ nB k_ u166004) rfl rfl ?aP (fun _ hk => hk) ?aF ?aO (Below.refl _ _) ?aS ?aL ?_
        (case aP => exact k27_mkM _ _ _ (⟨t167, t168, (⟨t169, t170⟩ : S24), t171⟩ : S27) (Kd.R_mono (HO173.out) (fun k_ hk => ⟨⟨hk.1.2, hk.2⟩, hk.1.1.2⟩)))
        (case aF => exact (fun k_ hk => ⟨fB BK147.out hk, fB BK165.out hk⟩))
        (case aO => exact (by (with_reducible repeat (first | apply Kd.R_alloc | apply Kd.R_drewN | apply Kd.R_drew)); exact Kd.R_mono HO_166004.out (fun _ hk => ⟨hk.1.1, hk.1.2⟩)))
        (case aS => exact (kS HK.out))
        (case aL => have := LMc36.out; omega)
        intro v176 w39 ho hb hg hat
        rw [← Ny175.out] at ho
        have n_ := az (blk_grown (g := gb147) (o := .cells #[.int .i64 0, .int .i64 0, .int .i64 0, .int .i64 0, .slice none 0 0] 27 (0, 0)) (mK BK147.out) hg (Kd.R_away HO_166004.out (fun _ hk => hk.1.1))) <| az (blk_grown (g := gb165) (o := .cells #[.int .i64 t163, .int .i64 0, .int .i64 0, .int .i64 0, u166004] 27 (0, 0)) (mK BK165.out) hg (Kd.R_away HO_166004.out (fun _ hk => hk.1.2))) <| az (IsS93.grown (mI93_1 HI0.out) hg (IsS93.own_ne HI0.out HO_166004.out (by decide))) <| az (below_weaken (mB93HI0 HB.out) HL.out hb) <| az (KeepBut.trans (mKp HK.out) (KeepBut.of_grown hg g) (Kd.R_base2 HO_166004.out)) <| z0 (ho)
        clear BK147 BK165 HI0 HB HK HO_166004 HO173
        obtain ⟨BK147, BK165, HI0, HB, HK, HO177⟩ := n_
        clear ho hb hg hat
        obtain ⟨Ao41, co41, eo41⟩ := Kd.R_slice HO177.out
        (first | subst eo41 | (injection eo41 with f1_ f2_ f3_; have f4_ := f1_.symm; have f5_ := f3_.symm; clear f1_ f2_ f3_; subst f4_; subst f5_))
        refine hK.out _ _ ⟨(blk_cell BK165.out 0).trans rfl, (blk_cell BK165.out 1).trans rfl, (blk_cell BK165.out 2).trans rfl, (blk_cell BK165.out 3).trans rfl, (blk_cell BK165.out 4).trans rfl⟩ (fun hHeld => ?_)
        clear hK K
        refine norm_ (a' := ?_) ?_ ?_
        rotate_left
        ·show Act.put _ (some 42) _ = _
         simp only [Act.put, List.setIfInBounds_toArray, List.set_cons_zero, List.set_cons_succ, i64_w, i32_w]
         rfl
        refine pure_ (i := 8) (N := some 43) (v := ?_) (a' := ?_) #[true, true, true, true, true, true, true, true, true, false] rfl rfl (any_of HT_.out (by kernel_rfl)) (fun _ _ _ h => h) (Or.inl ⟨by rfl, ?_⟩) ?_ ?_
        rotate_left
        ·intro w'
         go_simp
         with_reducible rfl
        rotate_left
        ·simp only [Act.put, List.setIfInBounds_toArray, List.set_cons_zero, List.set_cons_succ, i64_w, i32_w]
         rfl
        refine last_ (i := 9) (N := none) #[true, true, true, true, true, true, true, true, true, true] rfl rfl (one_of HT_.out (by kernel_rfl)) (by decide) (fun K hK => ?_)
        have hs42 : w39.cell? ⟨gb165, 4, none⟩ = some (u166004) := (blk_cell BK165.out 4).trans rfl
        have hfs42 := blk_frozen BK165.out 4
        have hns42_0 := NB147_165.out
        have hms42_0 := NB165_147.out
        refine skip_ (w1 := ?_) (by rfl) rfl ?_ ?_
        rotate_left
        ·go_simp
         rfl
        refine hK.out _ _ ?_
        clear hK K
        refine done_ (done_of HT_.out (by kernel_rfl)) ?_
        try go_wp2
        go_roundg k2
        case measure => have := HJ2.out; have := HK2.out; omega
        case rel => exact ⟨(wrap64 (x6_2 - 1)), (t174), (y175), (.slice Ao41 y175.length co41), rfy, H', ⟨by have := HJ2.out; have := HK2.out; omega⟩, ⟨by (with_reducible repeat (first | apply Kd.R_alloc | apply Kd.R_drewN | apply Kd.R_drew)); exact Kd.R_mono (Kd.R_far (p := ⟨gb165, 4, none⟩) (Kd.R_mono HO177.out (fun k_ hk => (⟨hk, hk.2⟩ : _ ∧ k_ ≠ gb165))) (fun _ hk => hk.2) (.slice Ao41 y175.length co41)) (fun _ hk => ⟨hk.1.1, hk.1.2⟩)⟩, ⟨mF BK147.out⟩, ⟨by (with_reducible repeat (first | refine blk_drewN ?_ _ | refine blk_drew ?_ | refine blk_alloc ?_ _)); refine blk_put (cs := #[.int .i64 t163, .int .i64 0, .int .i64 0, .int .i64 0, u166004]) ?_ 4 _ rfl; (with_reducible repeat (first | refine blk_drewN ?_ _ | refine blk_drew ?_ | refine blk_alloc ?_ _)); exact BK165.out⟩, ⟨mI93_1 HI0.out⟩, ⟨mKp HK.out⟩, ⟨mB93HI0 HB.out⟩⟩
       ·rw [if_neg c36] at H
        exact absurd H (by simp)
      ·rw [if_neg c34] at H
       have c34b0 : decide (0 < x6_2) = false := decide_eq_false c34
       clear c34
       simp only [Option.some.injEq, Prod.mk.injEq] at H
       obtain ⟨rfl, rfl, rfl, rfl, rfl, rfl⟩ := H
       have hnb43 := NB165_147.out
       have hnc43 := NB147_165.out
       have hnb44 := NB165_0.out
       have hnc44 := NB0_165.out
       obtain ⟨hcz45_0, hcz45_1, hcz45_2, hcz45_3, hcz45_4, hfz45_0, hfz45_1, hfz45_2, hfz45_3, hfz45_4⟩ := cel5 BK165.out
       have hnb46 := NB147_0.out
       have hnc46 := NB0_147.out
       obtain ⟨hcz47_0, hcz47_1, hcz47_2, hcz47_3, hcz47_4, hfz47_0, hfz47_1, hfz47_2, hfz47_3, hfz47_4⟩ := cel5 BK147.out
       obtain ⟨Ao48, co48, eo48⟩ := Kd.R_slice HO_166004.out
       subst eo48
       go_wp2
       refine bodyPost_ret (results_cell_row rfl _ _ gb147 27 #[.int .i64 t163, .int .i64 0, .int .i64 0, .int .i64 0, .slice Ao48 x166004_2.length co48] (0, 0) _ rfl (pF BK147.out) Tryz.underlying27 rfl (by kernel_rfl)) rfl ?_
       exact ⟨_, rfx, by (with_reducible repeat (first | apply Kd.R_alloc | apply Kd.R_drewN | apply Kd.R_drew)); exact Kd.R_mono (Kd.R_far (p := ⟨gb147, 4, none⟩) (Kd.R_far (p := ⟨gb147, 3, none⟩) (Kd.R_far (p := ⟨gb147, 2, none⟩) (Kd.R_far (p := ⟨gb147, 1, none⟩) (Kd.R_far (p := ⟨gb147, 0, none⟩) (Kd.R_mono HO_166004.out (fun k_ hk => (⟨hk, hk.1⟩ : _ ∧ k_ ≠ gb147))) (fun _ hk => hk.2) (.int .i64 t163)) (fun _ hk => hk.2) (.int .i64 0)) (fun _ hk => hk.2) (.int .i64 0)) (fun _ hk => hk.2) (.int .i64 0)) (fun _ hk => hk.2) (.slice Ao48 x166004_2.length co48)) (fun _ hk => trivial), mI93_1 HI0.out, mB93HI0 HB.out, mKp HK.out⟩

/-! ### spec_l3Some: function 60 -/
def spec_l3Some.f (k : Nat) (s0_0 : List Int) (s0_1 : Int) : Option (Int × Int × Int × Int × (List (S27)) × Int) := (spec_l12Rd_pick.f k s0_0 s0_1 4).bind fun bt179 => ((spec_l3Expr.f k s0_0 bt179.2 (wrap64 (1 + bt179.1))).bind fun bt181 => ((spec_ExprOk.f k bt181.1 bt181.2.1 bt181.2.2.1 bt181.2.2.2.1 bt181.2.2.2.2.1).bind fun t190 => (if t190 = true then (some (bt181.1, bt181.2.1, bt181.2.2.1, bt181.2.2.2.1, bt181.2.2.2.2.1, bt181.2.2.2.2.2)) else ((spec_l3Expr.f k s0_0 bt181.2.2.2.2.2 2).bind fun bt191 => (some (bt191.1, bt191.2.1, bt191.2.2.1, bt191.2.2.2.1, bt191.2.2.2.2.1, bt191.2.2.2.2.2))))))
theorem spec_l3Some.mono : ∀ a0 a1 k, LeO (spec_l3Some.f k a0 a1) (spec_l3Some.f (k + 1) a0 a1) := by
 intro a0 a1 k
 unfold spec_l3Some.f
 repeat' first
   | (with_reducible exact spec_ExprOk.mono _ _ _ _ _ _)
   | (with_reducible exact spec_l12Rd_pick.mono _ _ _ _)
   | (with_reducible exact spec_l3Expr.mono _ _ _ _)
   | (with_reducible exact LeO.refl _)
   | (with_reducible exact LeO.none _)
   | (with_reducible refine LeO.ite ?_ ?_)
   | (with_reducible refine LeO.bind ?_ (fun _ => ?_))
   | exact spec_ExprOk.mono _ _ _ _ _ _
   | exact spec_l12Rd_pick.mono _ _ _ _
   | exact spec_l3Expr.mono _ _ _ _
   | exact LeO.none _
   | refine LeO.ite ?_ ?_
   | refine LeO.bind ?_ (fun _ => ?_)
theorem q60_1 {p : Prop} (h : p := by (with_reducible repeat (first | apply Kd.R_alloc | apply Kd.R_drewN | apply Kd.R_drew)); exact (Kd.R_mono (Kd.R_far (p := ⟨gb189, 4, none⟩) (Kd.R_far (p := ⟨gb189, 3, none⟩) (Kd.R_far (p := ⟨gb189, 2, none⟩) (Kd.R_far (p := ⟨gb189, 1, none⟩) (Kd.R_far (p := ⟨gb189, 0, none⟩) (Kd.R_mono HO187.out (fun k_ hk => (⟨hk, hk.2⟩ : _ ∧ k_ ≠ gb189))) (fun _ hk => hk.2) (.int .i64 t181)) (fun _ hk => hk.2) (.int .i64 t182)) (fun _ hk => hk.2) (.int .i64 t183)) (fun _ hk => hk.2) (.int .i64 t184)) (fun _ hk => hk.2) (.slice Ao13 t185.length co13)) (fun _ h_ => h_.1))) : p := h
set_option maxHeartbeats 8000000 in
set_option maxRecDepth 100000 in
theorem spec_l3Some.calls (k : Nat) (g : Nat) (s0_0 : List Int) (s0_1 : Int) (r1 : Int) (r2 : Int) (r3 : Int) (r4 : Int) (r5 : List (S27)) (r6 : Int) (w0 w : World) (hI : IsS93 w0 w g s0_0 s0_1) (hB : Below w0.heap.size w0 w) (h : spec_l3Some.f k s0_0 s0_1 = some (r1, r2, r3, r4, r5, r6)) :
  Calls Tryz.prog 60 #[.pointer (some ⟨g, 0, none⟩)] w fun e w' => ∃ v4_ : Value, e = .returned (.agg #[.int .i64 r1, .int .i64 r2, .int .i64 r3, .int .i64 r4, v4_]) ∧ Kd.R k27 27 w' w.heap.size (fun _ => True) v4_ r5 ∧ IsS93 w0 w' g s0_0 r6 ∧ Below w0.heap.size w0 w' ∧ KeepBut w w' g none := by
 have hu27 := Tryz.underlying27
 have HI0 := z0 hI
 have HK := z0 (KeepBut.refl w g none)
 have HL := z0 hB.size
 clear hI
 have HW0 := z0 hB.size
 have HB := z0 hB
 clear hB
 have H : ((spec_l12Rd_pick.f k s0_0 s0_1 4).bind fun bt179 => ((spec_l3Expr.f k s0_0 bt179.2 (wrap64 (1 + bt179.1))).bind fun bt181 => ((spec_ExprOk.f k bt181.1 bt181.2.1 bt181.2.2.1 bt181.2.2.2.1 bt181.2.2.2.2.1).bind fun t190 => (if t190 = true then (some (bt181.1, bt181.2.1, bt181.2.2.1, bt181.2.2.2.1, bt181.2.2.2.2.1, bt181.2.2.2.2.2)) else ((spec_l3Expr.f k s0_0 bt181.2.2.2.2.2 2).bind fun bt191 => (some (bt191.1, bt191.2.1, bt191.2.2.1, bt191.2.2.2.1, bt191.2.2.2.2.1, bt191.2.2.2.2.2))))))) = some (r1, r2, r3, r4, r5, r6) := h
 clear h
 replace H := Option.bind_eq_some_iff.mp H
 obtain ⟨⟨t179, t180⟩, A20, H⟩ := H
 try dsimp only at H
 have A2 := z0 A20
 clear A20
 replace H := Option.bind_eq_some_iff.mp H
 obtain ⟨⟨t181, t182, t183, t184, t185, t188⟩, A30, H⟩ := H
 try dsimp only at H
 have A3 := z0 A30
 clear A30
 replace H := Option.bind_eq_some_iff.mp H
 obtain ⟨t190, A40, H⟩ := H
 try dsimp only at H
 have A4 := z0 A40
 clear A40
 have HF5 := z0 H
 clear H
 go_enter Tryz.func60, Tryz.ntmps60
 go_upto_if 11 with (first | ((with_reducible refine gate_dst (N := 2) rfl ?_); refine box_event ?hg (N := 2) ?hd (cs := #[.int .i64 0, .int .i64 0, .int .i64 0, .int .i64 0, .slice none 0 0]) (t := 27) ?hr ?_; (case hd => rfl); (case hg => rfl); (case hr => first | (go_simp; done) | (go_simp; rfl)); intro gb178 hg w6 hbox hb; have n_ := az (IsS93.below (mI93_1 HI0.out) hb) <| az (KeepBut.trans (mKp HK.out) (KeepBut.of_below hb g none) (.inl rfl)) <| az (below_step (mB93HI0 HB.out) hb) <| az (hbox) <| az ((gW hg HK.out)) <| az ((Nat.le_trans HW0.out (gW hg HK.out) : w0.heap.size ≤ gb178)) <| az ((by rw [hg]; exact Nat.ne_of_lt (IsS93.lt (show IsS93 w0 _ g s0_0 s0_1 from mI93_1 HI0.out)) : g ≠ gb178)) <| z0 ((by rw [hg]; exact Nat.ne_of_gt (IsS93.lt (show IsS93 w0 _ g s0_0 s0_1 from mI93_1 HI0.out)) : gb178 ≠ g)); clear HI0 HK HB; obtain ⟨HI0, HK, HB, BK178, GW178, GE178, NB0_178, NB178_0⟩ := n_; clear hb hbox hg) | ((with_reducible refine gate_callee (f := 61) rfl ?_); refine goesL_ (some 6) rfl rfl Tryz.func61 (by kernel_rfl) rfl #[.pointer (some ⟨g, 0, none⟩), .int .i64 4] rfl argx ?_; (with_reducible refine (spec_l12Rd_pick.calls k g s0_0 s0_1 4 t179 t180 w0 _ ?side1 ?side2 A2.out).mono ?_); (case side1 => exact mI93_1 HI0.out); (case side2 => exact mB93HI0 HB.out); rintro e w7 ⟨rfl, hi, hb, hk⟩; refine ⟨_, rfl, ?_⟩; have n_ := az (kB hk BK178.out NB178_0.out) <| az (KeepBut.trans (mKp HK.out) hk (.inl rfl)) <| az (hb) <| z0 (hi); clear BK178 HK HB HI0; obtain ⟨BK178, HK, HB, HI0⟩ := n_; clear hb hk hi) | ((with_reducible refine gate_callee (f := 83) rfl ?_); refine goesL_ (some 8) rfl rfl Tryz.func83 (by kernel_rfl) rfl #[.pointer (some ⟨g, 0, none⟩), .int .i64 (wrap64 (1 + t179))] rfl argx ?_; (with_reducible refine (spec_l3Expr.calls k g s0_0 t180 (wrap64 (1 + t179)) t181 t182 t183 t184 t185 t188 w0 _ ?side1 ?side2 A3.out).mono ?_); (case side1 => exact mI93_1 HI0.out); (case side2 => exact mB93HI0 HB.out); rintro e w8 ⟨v186, rfl, ho0, hi, hb, hk⟩; refine ⟨_, rfl, ?_⟩; have n_ := az (kB hk BK178.out NB178_0.out) <| az (Kd.R_lower (Kd.R_newB ho0 (g := gb178) (o := .cells #[.int .i64 0, .int .i64 0, .int .i64 0, .int .i64 0, .slice none 0 0] 27 (0, 0)) (mK BK178.out)) (kS HK.out)) <| az (KeepBut.trans (mKp HK.out) hk (.inl rfl)) <| az (hb) <| z0 (hi); clear BK178 HK HB HI0; obtain ⟨BK178, HO187, HK, HB, HI0⟩ := n_; clear hb hk hi ho0) | ((with_reducible refine gate_dst (N := 3) rfl ?_); refine box_event ?hg (N := 3) ?hd (cs := #[.int .i64 0, .int .i64 0, .int .i64 0, .int .i64 0, .slice none 0 0]) (t := 27) ?hr ?_; (case hd => rfl); (case hg => rfl); (case hr => first | (go_simp; done) | (go_simp; rfl)); intro gb189 hg w9 hbox hb; have n_ := az (Kd.R_below (Kd.R_elderB (mR HO187.out) gb189 (Nat.le_of_eq hg.symm)) hb) <| az (IsS93.below (mI93_1 HI0.out) hb) <| az (bB BK178.out hb) <| az (KeepBut.trans (mKp HK.out) (KeepBut.of_below hb g none) (.inl rfl)) <| az (below_step (mB93HI0 HB.out) hb) <| az (hbox) <| az ((gW hg HK.out)) <| az ((Nat.le_trans HW0.out (gW hg HK.out) : w0.heap.size ≤ gb189)) <| az ((nL hg BK178.out)) <| az ((nG hg BK178.out)) <| az ((by rw [hg]; exact Nat.ne_of_lt (IsS93.lt (show IsS93 w0 _ g s0_0 t188 from mI93_1 HI0.out)) : g ≠ gb189)) <| z0 ((by rw [hg]; exact Nat.ne_of_gt (IsS93.lt (show IsS93 w0 _ g s0_0 t188 from mI93_1 HI0.out)) : gb189 ≠ g)); clear HO187 HI0 BK178 HK HB; obtain ⟨HO187, HI0, BK178, HK, HB, BK189, GW189, GE189, NB178_189, NB189_178, NB0_189, NB189_0⟩ := n_; clear hb hbox hg; have hnb10 := NB189_178.out; have hnc10 := NB178_189.out; have hnb11 := NB189_0.out; have hnc11 := NB0_189.out; obtain ⟨hcz12_0, hcz12_1, hcz12_2, hcz12_3, hcz12_4, hfz12_0, hfz12_1, hfz12_2, hfz12_3, hfz12_4⟩ := cel5 BK189.out; obtain ⟨Ao13, co13, eo13⟩ := Kd.R_slice HO187.out; subst eo13) | ((with_reducible refine gate_callee (f := 30) rfl ?_); refine goesL_ (some 10) rfl rfl Tryz.func30 (by kernel_rfl) rfl #[.agg #[.int .i64 t181, .int .i64 t182, .int .i64 t183, .int .i64 t184, .slice Ao13 t185.length co13]] rfl argx ?_; (with_reducible refine (spec_ExprOk.calls k t181 t182 t183 t184 _ _ t185 t190 _ ?side1 ?side2 A4.out).mono ?_); (case side1 => refine (Kd.R_reads' (e := 27) (base := w.heap.size) (ok := fun k_ => ((True ∧ k_ ≠ gb178) ∧ k_ ≠ gb189)) (n := t185.length) (c := co13) ?_).2.2; exact q60_1); (case side2 => exact (Kd.R_reads' HO187.out).2.1); rintro e w14 ⟨rfl, hb⟩; refine ⟨_, rfl, ?_⟩; have n_ := az (Kd.R_below q60_1 hb) <| az (IsS93.below (show IsS93 w0 (((((w9.setCell ⟨gb189, 0, none⟩ (.int .i64 t181)).setCell ⟨gb189, 1, none⟩ (.int .i64 t182)).setCell ⟨gb189, 2, none⟩ (.int .i64 t183)).setCell ⟨gb189, 3, none⟩ (.int .i64 t184)).setCell ⟨gb189, 4, none⟩ (.slice Ao13 t185.length co13)) g s0_0 t188 from mI93_1 HI0.out) hb) <| az (blk_below (g := gb178) (o := .cells #[.int .i64 0, .int .i64 0, .int .i64 0, .int .i64 0, .slice none 0 0] 27 (0, 0)) (mF BK178.out) hb) <| az (blk_below (g := gb189) (o := .cells #[.int .i64 t181, .int .i64 t182, .int .i64 t183, .int .i64 t184, .slice Ao13 t185.length co13] 27 (0, 0)) (by (with_reducible repeat (first | refine blk_drewN ?_ _ | refine blk_drew ?_ | refine blk_alloc ?_ _)); refine blk_put (cs := #[.int .i64 t181, .int .i64 t182, .int .i64 t183, .int .i64 t184, .slice none 0 0]) ?_ 4 _ rfl; (with_reducible repeat (first | refine blk_drewN ?_ _ | refine blk_drew ?_ | refine blk_alloc ?_ _)); refine blk_put (cs := #[.int .i64 t181, .int .i64 t182, .int .i64 t183, .int .i64 0, .slice none 0 0]) ?_ 3 _ rfl; (with_reducible repeat (first | refine blk_drewN ?_ _ | refine blk_drew ?_ | refine blk_alloc ?_ _)); refine blk_put (cs := #[.int .i64 t181, .int .i64 t182, .int .i64 0, .int .i64 0, .slice none 0 0]) ?_ 2 _ rfl; (with_reducible repeat (first | refine blk_drewN ?_ _ | refine blk_drew ?_ | refine blk_alloc ?_ _)); refine blk_put (cs := #[.int .i64 t181, .int .i64 0, .int .i64 0, .int .i64 0, .slice none 0 0]) ?_ 1 _ rfl; (with_reducible repeat (first | refine blk_drewN ?_ _ | refine blk_drew ?_ | refine blk_alloc ?_ _)); refine blk_put (cs := #[.int .i64 0, .int .i64 0, .int .i64 0, .int .i64 0, .slice none 0 0]) ?_ 0 _ rfl; (with_reducible repeat (first | refine blk_drewN ?_ _ | refine blk_drew ?_ | refine blk_alloc ?_ _)); exact BK189.out) hb) <| az (KeepBut.trans (mKp HK.out) (KeepBut.of_below hb g none) (.inl rfl)) <| z0 (below_step (mB93HI0 HB.out) hb); clear HO187 HI0 BK178 BK189 HK HB; obtain ⟨HO187, HI0, BK178, BK189, HK, HB⟩ := n_; clear hb))
 (try simp only [Act.put, List.setIfInBounds_toArray, List.set_cons_zero, List.set_cons_succ])
 have H := HF5.out
 clear HF5
 (try clear hcz12_0); (try clear hcz12_1); (try clear hcz12_2); (try clear hcz12_3); (try clear hcz12_4); (try clear hfz12_0); (try clear hfz12_1); (try clear hfz12_2); (try clear hfz12_3); (try clear hfz12_4)
 by_cases c15 : t190 = true
 ·subst c15
  have H1 : (some (t181, t182, t183, t184, t185, t188)) = some (r1, r2, r3, r4, r5, r6) := by rw [if_pos rfl] at H; exact H
  clear H
  have H := H1
  clear H1
  simp only [Option.some.injEq, Prod.mk.injEq] at H
  obtain ⟨rfl, rfl, rfl, rfl, rfl, rfl⟩ := H
  have hnb16 := NB189_178.out
  have hnc16 := NB178_189.out
  have hnb17 := NB189_0.out
  have hnc17 := NB0_189.out
  obtain ⟨hcz18_0, hcz18_1, hcz18_2, hcz18_3, hcz18_4, hfz18_0, hfz18_1, hfz18_2, hfz18_3, hfz18_4⟩ := cel5 BK189.out
  have hnb19 := NB178_0.out
  have hnc19 := NB0_178.out
  obtain ⟨hcz20_0, hcz20_1, hcz20_2, hcz20_3, hcz20_4, hfz20_0, hfz20_1, hfz20_2, hfz20_3, hfz20_4⟩ := cel5 BK178.out
  go_wp2
  refine bodyPost_ret (results_cell_row rfl _ _ gb178 27 #[.int .i64 t181, .int .i64 t182, .int .i64 t183, .int .i64 t184, .slice Ao13 t185.length co13] (0, 0) _ rfl (pF BK178.out) Tryz.underlying27 rfl (by kernel_rfl)) rfl ?_
  exact ⟨_, rfx, by (with_reducible repeat (first | apply Kd.R_alloc | apply Kd.R_drewN | apply Kd.R_drew)); exact Kd.R_mono (Kd.R_far (p := ⟨gb178, 4, none⟩) (Kd.R_far (p := ⟨gb178, 3, none⟩) (Kd.R_far (p := ⟨gb178, 2, none⟩) (Kd.R_far (p := ⟨gb178, 1, none⟩) (Kd.R_far (p := ⟨gb178, 0, none⟩) (Kd.R_mono HO187.out (fun k_ hk => (⟨hk, hk.1.2⟩ : _ ∧ k_ ≠ gb178))) (fun _ hk => hk.2) (.int .i64 t181)) (fun _ hk => hk.2) (.int .i64 t182)) (fun _ hk => hk.2) (.int .i64 t183)) (fun _ hk => hk.2) (.int .i64 t184)) (fun _ hk => hk.2) (.slice Ao13 t185.length co13)) (fun _ hk => trivial), mI93_1 HI0.out, mB93HI0 HB.out, mKp HK.out⟩
 ·replace c15 := Bool.eq_false_iff.mpr c15
  subst c15
  have H1 : ((spec_l3Expr.f k s0_0 t188 2).bind fun bt191 => (some (bt191.1, bt191.2.1, bt191.2.2.1, bt191.2.2.2.1, bt191.2.2.2.2.1, bt191.2.2.2.2.2))) = some (r1, r2, r3, r4, r5, r6) := by rw [if_neg (show ¬ (false = true) by decide)] at H; exact H
  clear H
  have H := H1
  clear H1
  replace H := Option.bind_eq_some_iff.mp H
  obtain ⟨⟨t191, t192, t193, t194, t195, t198⟩, A210, H⟩ := H
  try dsimp only at H
  have A21 := z0 A210
  clear A210
  simp only [Option.some.injEq, Prod.mk.injEq] at H
  obtain ⟨rfl, rfl, rfl, rfl, rfl, rfl⟩ := H
  go_wp2_with (first | ((with_reducible refine gate_callee (f := 83) rfl ?_); refine goesL_ (some 13) rfl rfl Tryz.func83 (by kernel_rfl) rfl #[.pointer (some ⟨g, 0, none⟩), .int .i64 2] rfl argx ?_; (with_reducible refine (spec_l3Expr.calls k g s0_0 t188 2 t191 t192 t193 t194 t195 t198 w0 _ ?side1 ?side2 A21.out).mono ?_); (case side1 => exact mI93_1 HI0.out); (case side2 => exact mB93HI0 HB.out); rintro e w22 ⟨v196, rfl, ho0, hi, hb, hk⟩; refine ⟨_, rfl, ?_⟩; have n_ := az (kB hk BK178.out NB178_0.out) <| az (Kd.R_mono (Kd.R_told (Kd.R_oldK (IsS93.apart (show IsS93 w0 _ g s0_0 t188 from mI93_1 HI0.out) (mR HO187.out) (by decide)) hk) (by first | exact Kd.R_base ho0 | exact Kd.R_base ho0)) (fun _ h_ => h_.1)) <| az (kB hk BK189.out NB189_0.out) <| az (Kd.R_lower (Kd.R_newB (Kd.R_newB (Kd.R_new' ho0 (Kd.R_lt (mR HO187.out))) (g := gb178) (o := .cells #[.int .i64 0, .int .i64 0, .int .i64 0, .int .i64 0, .slice none 0 0] 27 (0, 0)) (mK BK178.out)) (g := gb189) (o := .cells #[.int .i64 t181, .int .i64 t182, .int .i64 t183, .int .i64 t184, .slice Ao13 t185.length co13] 27 (0, 0)) (mK BK189.out)) (kS HK.out)) <| az (KeepBut.trans (mKp HK.out) hk (.inl rfl)) <| az (hb) <| z0 (hi); clear BK178 HO187 BK189 HK HB HI0; obtain ⟨BK178, HO187, BK189, HO197, HK, HB, HI0⟩ := n_; clear hb hk hi ho0; have hnb23 := NB178_189.out; have hnc23 := NB189_178.out; have hnb24 := NB178_0.out; have hnc24 := NB0_178.out; obtain ⟨hcz25_0, hcz25_1, hcz25_2, hcz25_3, hcz25_4, hfz25_0, hfz25_1, hfz25_2, hfz25_3, hfz25_4⟩ := cel5 BK178.out; obtain ⟨Ao26, co26, eo26⟩ := Kd.R_slice HO197.out; subst eo26))
  refine bodyPost_ret (results_cell_row rfl _ _ gb178 27 #[.int .i64 t191, .int .i64 t192, .int .i64 t193, .int .i64 t194, .slice Ao26 t195.length co26] (0, 0) _ rfl (pF BK178.out) Tryz.underlying27 rfl (by kernel_rfl)) rfl ?_
  exact ⟨_, rfx, by (with_reducible repeat (first | apply Kd.R_alloc | apply Kd.R_drewN | apply Kd.R_drew)); exact Kd.R_mono (Kd.R_far (p := ⟨gb178, 4, none⟩) (Kd.R_far (p := ⟨gb178, 3, none⟩) (Kd.R_far (p := ⟨gb178, 2, none⟩) (Kd.R_far (p := ⟨gb178, 1, none⟩) (Kd.R_far (p := ⟨gb178, 0, none⟩) (Kd.R_mono HO197.out (fun k_ hk => (⟨hk, hk.1.2⟩ : _ ∧ k_ ≠ gb178))) (fun _ hk => hk.2) (.int .i64 t191)) (fun _ hk => hk.2) (.int .i64 t192)) (fun _ hk => hk.2) (.int .i64 t193)) (fun _ hk => hk.2) (.int .i64 t194)) (fun _ hk => hk.2) (.slice Ao26 t195.length co26)) (fun _ hk => trivial), mI93_1 HI0.out, mB93HI0 HB.out, mKp HK.out⟩

/-! ### spec_l3Copy: function 62 -/
mutual
def spec_l3Copy.l0 : Nat → Int → Int → Int → Int → Int → List (S27) → Int → Int → Int → Int → List (S27) → Option (Int × Int × Int × Int × (List (S27)))
 | 0, _, _, _, _, _, _, _, _, _, _, _ => none
 | k + 1, x4, x200000, x200001, x200002, x200003, x200004, x202000, x202001, x202002, x202003, x202004 => if x4 < (x200004.length : Int) then (if 0 ≤ x4 then ((spec_l3Copy.f k ((rd_T27 x200004 x4).f0) ((rd_T27 x200004 x4).f1) ((rd_T27 x200004 x4).f2.f0) ((rd_T27 x200004 x4).f2.f1) ((rd_T27 x200004 x4).f3)).bind fun bt203 => (if x202004.length < 2513169434916 then (spec_l3Copy.l0 k (wrap64 (x4 + 1)) x200000 x200001 x200002 x200003 x200004 x202000 x202001 x202002 x202003 (x202004 ++ [(⟨bt203.1, bt203.2.1, (⟨bt203.2.2.1, bt203.2.2.2.1⟩ : S24), bt203.2.2.2.2⟩ : S27)])) else (none))) else (none)) else (some (x202000, x202001, x202002, x202003, x202004))
def spec_l3Copy.f : Nat → Int → Int → Int → Int → List (S27) → Option (Int × Int × Int × Int × (List (S27)))
 | 0, _, _, _, _, _ => none
 | k + 1, a0_0, a0_1, a0_2, a0_3, l0_4 => spec_l3Copy.l0 k 0 a0_0 a0_1 a0_2 a0_3 l0_4 a0_0 a0_1 a0_2 a0_3 ([] : List (S27))
end
theorem spec_l3Copy.mono_l : ∀ k, (∀ y0 y1 y2 y3 y4, LeO (spec_l3Copy.f k y0 y1 y2 y3 y4) (spec_l3Copy.f (k + 1) y0 y1 y2 y3 y4)) ∧ (∀ y0 y1 y2 y3 y4 y5 y6 y7 y8 y9 y10, LeO (spec_l3Copy.l0 k y0 y1 y2 y3 y4 y5 y6 y7 y8 y9 y10) (spec_l3Copy.l0 (k + 1) y0 y1 y2 y3 y4 y5 y6 y7 y8 y9 y10))
 | 0 => ⟨fun _ _ _ _ _ r h => by simp [spec_l3Copy.f] at h, fun _ _ _ _ _ _ _ _ _ _ _ r h => by simp [spec_l3Copy.l0] at h⟩
 | k + 1 => by
  obtain ⟨ih0, ih1⟩ := spec_l3Copy.mono_l k
  refine ⟨?_, ?_⟩
  ·intro y0 y1 y2 y3 y4
   unfold spec_l3Copy.f
   repeat' first
   | (with_reducible exact ih0 _ _ _ _ _)
   | (with_reducible exact ih1 _ _ _ _ _ _ _ _ _ _ _)
   | (with_reducible exact LeO.refl _)
   | (with_reducible exact LeO.none _)
   | (with_reducible refine LeO.ite ?_ ?_)
   | (with_reducible refine LeO.bind ?_ (fun _ => ?_))
   | exact ih0 _ _ _ _ _
   | exact ih1 _ _ _ _ _ _ _ _ _ _ _
   | exact LeO.none _
   | refine LeO.ite ?_ ?_
   | refine LeO.bind ?_ (fun _ => ?_)
  ·intro y0 y1 y2 y3 y4 y5 y6 y7 y8 y9 y10
   unfold spec_l3Copy.l0
   repeat' first
   | (with_reducible exact ih0 _ _ _ _ _)
   | (with_reducible exact ih1 _ _ _ _ _ _ _ _ _ _ _)
   | (with_reducible exact LeO.refl _)
   | (with_reducible exact LeO.none _)
   | (with_reducible refine LeO.ite ?_ ?_)
   | (with_reducible refine LeO.bind ?_ (fun _ => ?_))
   | exact ih0 _ _ _ _ _
   | exact ih1 _ _ _ _ _ _ _ _ _ _ _
   | exact LeO.none _
   | refine LeO.ite ?_ ?_
   | refine LeO.bind ?_ (fun _ => ?_)
def spec_l3Copy.T5 : Bool × List (List Nat × List Nat) := (true, [([], []), ([0], [0]), ([], []), ([2], [2]), ([], []), ([3, 4], [3, 4]), ([5], [5]), ([6], [6]), ([7], [7]), ([1, 8, 7], [1, 8]), ([0, 1, 2, 3, 4, 5, 6, 7, 8, 9], []), ([10, 9, 9, 0, 1, 2, 3, 4, 5, 6, 7, 8, 9], [9, 10])])
def spec_l3Copy.B5 : List Nat := [0, 1, 0, 4, 0, 28, 60, 124, 252, 511, 1023, 2047]
theorem spec_l3Copy.tab5 : rtab .any (opsOf Tryz.f62 5) = spec_l3Copy.T5 := by kernel_rfl
theorem spec_l3Copy.bits5 : waitsOk spec_l3Copy.T5.2 spec_l3Copy.B5 = true := by kernel_rfl
theorem q62_1 {p : Prop} (h : p := by exact ⟨(blk_cell BK201.out 0).trans rfl, (blk_cell BK201.out 1).trans rfl, (blk_cell BK201.out 2).trans rfl, (blk_cell BK201.out 3).trans rfl, (blk_cell BK201.out 4).trans rfl, (blk_cell BK199.out 0).trans rfl, (blk_cell BK199.out 1).trans rfl, (blk_cell BK199.out 2).trans rfl, (blk_cell BK199.out 3).trans rfl, (blk_cell BK199.out 4).trans rfl, ((HB.out.cell (World.block_lt_of_cell? w _ hw202_0)).trans hw202_0), ((HB.out.cell (World.block_lt_of_cell? w _ hw202_1)).trans hw202_1), ((HB.out.cell (World.block_lt_of_cell? w _ hw202_2)).trans hw202_2), ((HB.out.cell (World.block_lt_of_cell? w _ hw202_3)).trans hw202_3), ((HB.out.cell (World.block_lt_of_cell? w _ hw202_4)).trans hw202_4)⟩) : p := h
set_option maxHeartbeats 8000000 in
set_option maxRecDepth 100000 in
theorem spec_l3Copy.calls (k : Nat) : ∀ (a0_0 : Int) (a0_1 : Int) (a0_2 : Int) (a0_3 : Int) (A0_4 : Option Addr) (c0_4 : Nat) (l0_4 : List (S27)) (r1 : Int) (r2 : Int) (r3 : Int) (r4 : Int) (r5 : List (S27)) (w : World) (hr0_4 : Kd.C k27 w A0_4 l0_4.length l0_4) (hc0_4 : l0_4.length ≤ c0_4) (h : spec_l3Copy.f k a0_0 a0_1 a0_2 a0_3 l0_4 = some (r1, r2, r3, r4, r5)),
  Calls Tryz.prog 62 #[.agg #[.int .i64 a0_0, .int .i64 a0_1, .int .i64 a0_2, .int .i64 a0_3, .slice A0_4 l0_4.length c0_4]] w fun e w' => ∃ v4_ : Value, e = .returned (.agg #[.int .i64 r1, .int .i64 r2, .int .i64 r3, .int .i64 r4, v4_]) ∧ Kd.R k27 27 w' w.heap.size (fun _ => True) v4_ r5 ∧ Below w.heap.size w w' := by
 induction k using Nat.strongRecOn with
 | _ k ih =>
 intro a0_0 a0_1 a0_2 a0_3 A0_4 c0_4 l0_4 r1 r2 r3 r4 r5 w hr0_4 hc0_4 h
 cases k with
 | zero => exact absurd h (by simp [spec_l3Copy.f])
 | succ k =>
 simp only [spec_l3Copy.f] at h
 have hu27 := Tryz.underlying27
 have hu24 := Tryz.underlying24
 have HR0_4 := z0 hr0_4
 have HC0_4 := z0 hc0_4
 clear hr0_4 hc0_4
 have HB := z0 (Below.refl w.heap.size w)
 have H : (spec_l3Copy.l0 k 0 a0_0 a0_1 a0_2 a0_3 l0_4 a0_0 a0_1 a0_2 a0_3 ([] : List (S27))) = some (r1, r2, r3, r4, r5) := h
 clear h
 have H' := z0 H
 clear H
 go_enter Tryz.func62, Tryz.ntmps62
 go_wp2_with (first | ((with_reducible refine gate_dst (N := 1) rfl ?_); refine box_event ?hg (N := 1) ?hd (cs := #[.int .i64 a0_0, .int .i64 a0_1, .int .i64 a0_2, .int .i64 a0_3, .slice A0_4 l0_4.length c0_4]) (t := 27) ?hr ?_; (case hd => rfl); (case hg => rfl); (case hr => first | (go_simp; done) | (go_simp; rfl)); intro gb199 hg w2 hbox hb; have n_ := az (below_step (mB HB.out) hb) <| az (hbox) <| az ((by rw [hg]; exact (below_size (mB HB.out)) : w.heap.size ≤ gb199)) <| z0 ((by rw [hg]; exact (below_size (mB HB.out)) : w.heap.size ≤ gb199)); clear HB; obtain ⟨HB, BK199, GW199, GE199⟩ := n_; clear hb hbox hg) | ((with_reducible refine gate_dst (N := 2) rfl ?_); refine box_event ?hg (N := 2) ?hd (cs := #[.int .i64 0, .int .i64 0, .int .i64 0, .int .i64 0, .slice none 0 0]) (t := 27) ?hr ?_; (case hd => rfl); (case hg => rfl); (case hr => first | (go_simp; done) | (go_simp; rfl)); intro gb200 hg w3 hbox hb; have n_ := az (bB BK199.out hb) <| az (below_step (mB HB.out) hb) <| az (hbox) <| az ((by rw [hg]; exact (below_size (mB HB.out)) : w.heap.size ≤ gb200)) <| az ((by rw [hg]; exact (below_size (mB HB.out)) : w.heap.size ≤ gb200)) <| az ((nL hg BK199.out)) <| z0 ((nG hg BK199.out)); clear BK199 HB; obtain ⟨BK199, HB, BK200, GW200, GE200, NB199_200, NB200_199⟩ := n_; clear hb hbox hg; have hnb4 := NB199_200.out; have hnc4 := NB200_199.out; obtain ⟨hcz5_0, hcz5_1, hcz5_2, hcz5_3, hcz5_4, hfz5_0, hfz5_1, hfz5_2, hfz5_3, hfz5_4⟩ := cel5 BK199.out) | ((with_reducible refine gate_dst (N := 3) rfl ?_); refine box_event ?hg (N := 3) ?hd (cs := #[.int .i64 0, .int .i64 0, .int .i64 0, .int .i64 0, .slice none 0 0]) (t := 27) ?hr ?_; (case hd => rfl); (case hg => rfl); (case hr => first | (go_simp; done) | (go_simp; rfl)); intro gb201 hg w6 hbox hb; have n_ := az (bB BK199.out hb) <| az (bB BK200.out hb) <| az (below_step (mB HB.out) hb) <| az (hbox) <| az ((by rw [hg]; exact (below_size (mB HB.out)) : w.heap.size ≤ gb201)) <| az ((by rw [hg]; exact (below_size (mB HB.out)) : w.heap.size ≤ gb201)) <| az ((nL hg BK199.out)) <| az ((nG hg BK199.out)) <| az ((nL hg BK200.out)) <| z0 ((nG hg BK200.out)); clear BK199 BK200 HB; obtain ⟨BK199, BK200, HB, BK201, GW201, GE201, NB199_201, NB201_199, NB200_201, NB201_200⟩ := n_; clear hb hbox hg; have hnb7 := NB201_199.out; have hnc7 := NB199_201.out; have hnb8 := NB201_200.out; have hnc8 := NB200_201.out; obtain ⟨hcz9_0, hcz9_1, hcz9_2, hcz9_3, hcz9_4, hfz9_0, hfz9_1, hfz9_2, hfz9_3, hfz9_4⟩ := cel5 BK201.out))
 go_loopg [4] k (fun kq v4 w' => ∃ (x4_1 : Int) (x202004_1 : List (S27)) (u202004 : Value), v4 = .int .i64 x4_1 ∧ Aside0 (spec_l3Copy.l0 kq x4_1 a0_0 a0_1 a0_2 a0_3 l0_4 a0_0 a0_1 a0_2 a0_3 x202004_1 = some (r1, r2, r3, r4, r5)) ∧ Aside0 (kq ≤ k) ∧ Aside0 (Kd.R k27 27 w' w.heap.size (fun k_ => k_ ≠ gb199 ∧ k_ ≠ gb200 ∧ k_ ≠ gb201) u202004 x202004_1) ∧ Aside0 (w'.heap[gb199]? = some (.cells #[.int .i64 a0_0, .int .i64 a0_1, .int .i64 a0_2, .int .i64 a0_3, (.slice A0_4 l0_4.length c0_4)] 27 (0, 0))) ∧ Aside0 (w'.heap[gb200]? = some (.cells #[.int .i64 0, .int .i64 0, .int .i64 0, .int .i64 0, (.slice none 0 0)] 27 (0, 0))) ∧ Aside0 (w'.heap[gb201]? = some (.cells #[.int .i64 a0_0, .int .i64 a0_1, .int .i64 a0_2, .int .i64 a0_3, u202004] 27 (0, 0))) ∧ Aside0 (Below w.heap.size w w'))
 case atStart => exact ⟨(0), (([] : List (S27))), (.slice none 0 0), rfy, H', ⟨Nat.le_refl _⟩, ⟨by first | exact Kd.R_nil _ _ _ _ _ | exact Kd.N_nil _ _ _ _ _ | exact Kd.V_nil _ _ _ _ _ | exact Kd.Q_nil _ _ _ _ _ | exact Kd.S_nil _ _ _ _ _⟩, ⟨mF BK199.out⟩, ⟨mF BK200.out⟩, ⟨by (with_reducible repeat (first | refine blk_drewN ?_ _ | refine blk_drew ?_ | refine blk_alloc ?_ _)); refine blk_put (cs := #[.int .i64 a0_0, .int .i64 a0_1, .int .i64 a0_2, .int .i64 a0_3, .slice none 0 0]) ?_ 4 _ rfl; (with_reducible repeat (first | refine blk_drewN ?_ _ | refine blk_drew ?_ | refine blk_alloc ?_ _)); refine blk_put (cs := #[.int .i64 a0_0, .int .i64 a0_1, .int .i64 a0_2, .int .i64 0, .slice none 0 0]) ?_ 3 _ rfl; (with_reducible repeat (first | refine blk_drewN ?_ _ | refine blk_drew ?_ | refine blk_alloc ?_ _)); refine blk_put (cs := #[.int .i64 a0_0, .int .i64 a0_1, .int .i64 0, .int .i64 0, .slice none 0 0]) ?_ 2 _ rfl; (with_reducible repeat (first | refine blk_drewN ?_ _ | refine blk_drew ?_ | refine blk_alloc ?_ _)); refine blk_put (cs := #[.int .i64 a0_0, .int .i64 0, .int .i64 0, .int .i64 0, .slice none 0 0]) ?_ 1 _ rfl; (with_reducible repeat (first | refine blk_drewN ?_ _ | refine blk_drew ?_ | refine blk_alloc ?_ _)); refine blk_put (cs := #[.int .i64 0, .int .i64 0, .int .i64 0, .int .i64 0, .slice none 0 0]) ?_ 0 _ rfl; (with_reducible repeat (first | refine blk_drewN ?_ _ | refine blk_drew ?_ | refine blk_alloc ?_ _)); exact BK201.out⟩, ⟨mB HB.out⟩⟩
 case round =>
  clear H'
  (try clear hcz5_0); (try clear hcz5_1); (try clear hcz5_2); (try clear hcz5_3); (try clear hcz5_4); (try clear hcz9_0); (try clear hcz9_1); (try clear hcz9_2); (try clear hcz9_3); (try clear hcz9_4); (try clear hfz5_0); (try clear hfz5_1); (try clear hfz5_2); (try clear hfz5_3); (try clear hfz5_4); (try clear hfz9_0); (try clear hfz9_1); (try clear hfz9_2); (try clear hfz9_3); (try clear hfz9_4)
  obtain ⟨x4_1, x202004_1, u202004, rfl, HA, HK1, HO_202004, BK199, BK200, BK201, HB⟩ := hrel
  cases gk with
  | zero => exact absurd HA.out (by simp [spec_l3Copy.l0])
  | succ k1 =>
   have H := HA.out
   clear HA
   simp only [spec_l3Copy.l0] at H
   by_cases c10 : x4_1 < (l0_4.length : Int)
   ·rw [if_pos c10] at H
    have c10b0 : decide (x4_1 < (l0_4.length : Int)) = true := decide_eq_true c10
    clear c10
    by_cases c11 : 0 ≤ x4_1
    ·rw [if_pos c11] at H
     have c11b0 : decide (0 ≤ x4_1) = true := decide_eq_true c11
     clear c11
     replace H := Option.bind_eq_some_iff.mp H
     obtain ⟨⟨t203, t204, t205, t206, t207⟩, A120, H⟩ := H
     try dsimp only at H
     have A12 := z0 A120
     clear A120
     by_cases c13 : x202004_1.length < 2513169434916
     ·rw [if_pos c13] at H
      have LMc13 := z0 c13
      clear c13
      obtain ⟨y210, hy210⟩ : ∃ y_ : List (S27), y_ = (x202004_1 ++ [(⟨t203, t204, (⟨t205, t206⟩ : S24), t207⟩ : S27)]) := ⟨_, rfl⟩
      replace H : (spec_l3Copy.l0 k1 (wrap64 (x4_1 + 1)) a0_0 a0_1 a0_2 a0_3 l0_4 a0_0 a0_1 a0_2 a0_3 y210) = some (r1, r2, r3, r4, r5) := by first | (rw [hy210]; with_reducible exact H) | (have H2_ := (Option.bind_some _ _).symm.trans H; rw [hy210]; with_reducible exact H2_) | (have H2_ := (Option.bind_some _ _).symm.trans H; with_reducible exact H2_) | with_reducible exact H | (rw [hy210]; exact H) | exact H
      have Ny210 := z0 hy210
      clear hy210
      have H' := z0 H
      clear H
      have hnb14 := NB199_200.out
      have hnc14 := NB200_199.out
      have hnb15 := NB199_201.out
      have hnc15 := NB201_199.out
      obtain ⟨hcz16_0, hcz16_1, hcz16_2, hcz16_3, hcz16_4, hfz16_0, hfz16_1, hfz16_2, hfz16_3, hfz16_4⟩ := cel5 BK199.out
      try go_wp2
      have n_ := az (Kd.R_drew HO_202004.out) <| az (blk_drew BK199.out) <| az (blk_drew BK200.out) <| az (blk_drew BK201.out) <| z0 (below_drew1 HB.out)
      clear HO_202004 BK199 BK200 BK201 HB
      obtain ⟨HO_202004, BK199, BK200, BK201, HB⟩ := n_
      have p202 : 0 ≤ (x4_1 : Int) := of_decide_eq_true (by first | (with_reducible assumption) | assumption)
      have q202 : x4_1 < (l0_4.length : Int) := of_decide_eq_true (by first | (with_reducible assumption) | assumption)
      obtain ⟨ad202, A202_4, c202_4, e202, hx202_0, hx202_1, hx202_2, hx202_3, hx202_4, hl202_4, hi202_4⟩ := at_T27 HR0_4.out x4_1 p202 q202
      have hw202_4 := hx202_4
      have hw202_3 := hx202_3
      have hw202_2 := hx202_2
      have hw202_1 := hx202_1
      have hw202_0 := hx202_0
      cases e202
      replace hx202_0 := (HB.out.cell (World.block_lt_of_cell? w _ hx202_0)).trans hx202_0
      replace hx202_1 := (HB.out.cell (World.block_lt_of_cell? w _ hx202_1)).trans hx202_1
      replace hx202_2 := (HB.out.cell (World.block_lt_of_cell? w _ hx202_2)).trans hx202_2
      replace hx202_3 := (HB.out.cell (World.block_lt_of_cell? w _ hx202_3)).trans hx202_3
      replace hx202_4 := (HB.out.cell (World.block_lt_of_cell? w _ hx202_4)).trans hx202_4
      have HR202_4 := z0 hi202_4
      have HC202_4 := z0 hl202_4
      clear hi202_4 hl202_4
      replace p202 := eq_true p202
      replace q202 := eq_true q202
      refine start_ (n := 12) (S := fun w' => w'.cell? ⟨gb201, 0, none⟩ = some (.int .i64 a0_0) ∧ w'.cell? ⟨gb201, 1, none⟩ = some (.int .i64 a0_1) ∧ w'.cell? ⟨gb201, 2, none⟩ = some (.int .i64 a0_2) ∧ w'.cell? ⟨gb201, 3, none⟩ = some (.int .i64 a0_3) ∧ w'.cell? ⟨gb201, 4, none⟩ = some (u202004) ∧ w'.cell? ⟨gb199, 0, none⟩ = some (.int .i64 a0_0) ∧ w'.cell? ⟨gb199, 1, none⟩ = some (.int .i64 a0_1) ∧ w'.cell? ⟨gb199, 2, none⟩ = some (.int .i64 a0_2) ∧ w'.cell? ⟨gb199, 3, none⟩ = some (.int .i64 a0_3) ∧ w'.cell? ⟨gb199, 4, none⟩ = some (.slice (some ad202) l0_4.length c0_4) ∧ w'.cell? (ad202.add ((x4_1).toNat * 5)) = some (.int .i64 ((rd_T27 l0_4 x4_1).f0)) ∧ w'.cell? ⟨(ad202.add ((x4_1).toNat * 5)).block, (ad202.add ((x4_1).toNat * 5)).off + 1, none⟩ = some (.int .i64 ((rd_T27 l0_4 x4_1).f1)) ∧ w'.cell? ⟨(ad202.add ((x4_1).toNat * 5)).block, (ad202.add ((x4_1).toNat * 5)).off + 2, none⟩ = some (.int .i64 ((rd_T27 l0_4 x4_1).f2.f0)) ∧ w'.cell? ⟨(ad202.add ((x4_1).toNat * 5)).block, (ad202.add ((x4_1).toNat * 5)).off + 3, none⟩ = some (.int .i64 ((rd_T27 l0_4 x4_1).f2.f1)) ∧ w'.cell? ⟨(ad202.add ((x4_1).toNat * 5)).block, (ad202.add ((x4_1).toNat * 5)).off + 4, none⟩ = some (.slice A202_4 ((rd_T27 l0_4 x4_1).f3).length c202_4)) (ds := [11]) #[false, false, false, false, false, false, false, false, false, false, false, false] (by kernel_rfl) rfl rfl q62_1 (fun hHeld => ?_); refine with_tabW spec_l3Copy.tab5 spec_l3Copy.bits5 (fun HT_ HW_ => ?_)
      generalize wr.drew = w17 at HO_202004 BK199 BK200 BK201 HB HR202_4 hx202_0 hx202_1 hx202_2 hx202_3 hx202_4 hHeld ⊢
      refine pure_ (i := 0) (N := some 19) (v := ?_) (a' := ?_) #[true, false, false, false, false, false, false, false, false, false, false, false] rfl rfl (any_of HT_.out (by kernel_rfl)) (fun _ _ _ h => h) (Or.inl ⟨by rfl, ?_⟩) ?_ ?_
      rotate_left
      ·intro w'
       go_simp
       with_reducible rfl
      rotate_left
      ·simp only [Act.put, List.setIfInBounds_toArray, List.set_cons_zero, List.set_cons_succ, i64_w, i32_w]
       rfl
      refine pure_ (i := 2) (N := some 21) (v := ?_) (a' := ?_) #[true, false, true, false, false, false, false, false, false, false, false, false] rfl rfl (any_of HT_.out (by kernel_rfl)) (fun _ _ _ h => h) (Or.inl ⟨by rfl, ?_⟩) ?_ ?_
      rotate_left
      ·intro w'
       go_simp
       with_reducible rfl
      rotate_left
      ·simp only [Act.put, List.setIfInBounds_toArray, List.set_cons_zero, List.set_cons_succ, i64_w, i32_w]
       rfl
      refine pure_ (i := 4) (N := some 23) (v := ?_) (a' := ?_) #[true, false, true, false, true, false, false, false, false, false, false, false] rfl rfl (any_of HT_.out (by kernel_rfl)) (fun _ _ _ h => h) (Or.inl ⟨by rfl, ?_⟩) ?_ ?_
      rotate_left
      ·intro w'
       go_simp
       with_reducible rfl
      rotate_left
      ·simp only [Act.put, List.setIfInBounds_toArray, List.set_cons_zero, List.set_cons_succ, i64_w, i32_w]
       rfl
      refine take_ (i := 1) (N := some 20) (v := ?_) (a' := ?_) #[true, true, true, false, true, false, false, false, false, false, false, false] rfl rfl (take_ofW HT_.out HW_.out (by kernel_rfl)) (fun _ _ _ h => h) (Or.inl ⟨by rfl, ?_⟩) hHeld ?_ ?_
      rotate_left
      ·rintro w' ⟨s0, s1, s2, s3, s4, s5, s6, s7, s8, s9, s10, s11, s12, s13, s14⟩
       go_simp
       with_reducible rfl
      rotate_left
      ·simp only [Act.put, List.setIfInBounds_toArray, List.set_cons_zero, List.set_cons_succ, i64_w, i32_w]
       rfl
      refine take_ (i := 3) (N := some 22) (v := ?_) (a' := ?_) #[true, true, true, true, true, false, false, false, false, false, false, false] rfl rfl (take_ofW HT_.out HW_.out (by kernel_rfl)) (fun _ _ _ h => h) (Or.inl ⟨by rfl, ?_⟩) hHeld ?_ ?_
      rotate_left
      ·rintro w' ⟨s0, s1, s2, s3, s4, s5, s6, s7, s8, s9, s10, s11, s12, s13, s14⟩
       go_simp
       with_reducible rfl
      rotate_left
      ·simp only [Act.put, List.setIfInBounds_toArray, List.set_cons_zero, List.set_cons_succ, i64_w, i32_w]
       rfl
      refine pure_ (i := 5) (N := some 24) (v := ?_) (a' := ?_) #[true, true, true, true, true, true, false, false, false, false, false, false] rfl rfl (any_of HT_.out (by kernel_rfl)) (fun _ _ _ h => h) (Or.inl ⟨by rfl, ?_⟩) ?_ ?_
      rotate_left
      ·intro w'
       go_simp
       with_reducible rfl
      rotate_left
      ·simp only [Act.put, List.setIfInBounds_toArray, List.set_cons_zero, List.set_cons_succ, i64_w, i32_w]
       rfl
      refine take_ (i := 6) (N := some 25) (v := ?_) (a' := ?_) #[true, true, true, true, true, true, true, false, false, false, false, false] rfl rfl (take_ofW HT_.out HW_.out (by kernel_rfl)) (fun _ _ _ h => h) (Or.inl ⟨by rfl, ?_⟩) hHeld ?_ ?_
      rotate_left
      ·rintro w' ⟨s0, s1, s2, s3, s4, s5, s6, s7, s8, s9, s10, s11, s12, s13, s14⟩
       go_simp
       with_reducible rfl
      rotate_left
      ·simp only [Act.put, List.setIfInBounds_toArray, List.set_cons_zero, List.set_cons_succ, i64_w, i32_w]
       rfl
      refine one_ (i := 7) (N := some 26) #[true, true, true, true, true, true, true, true, false, false, false, false] rfl rfl (one_of HT_.out (by kernel_rfl)) (by decide) (fun K hK => ?_)
      refine goes_ Tryz.func62 (by kernel_rfl) rfl #[.agg #[.int .i64 ((rd_T27 l0_4 x4_1).f0), .int .i64 ((rd_T27 l0_4 x4_1).f1), .int .i64 ((rd_T27 l0_4 x4_1).f2.f0), .int .i64 ((rd_T27 l0_4 x4_1).f2.f1), .slice A202_4 ((rd_T27 l0_4 x4_1).f3).length c202_4]] (by rfl) rfl rfl argx ?_
      with_reducible refine (ih k1 (by have := HK1.out; omega) ((rd_T27 l0_4 x4_1).f0) ((rd_T27 l0_4 x4_1).f1) ((rd_T27 l0_4 x4_1).f2.f0) ((rd_T27 l0_4 x4_1).f2.f1) _ _ ((rd_T27 l0_4 x4_1).f3) t203 t204 t205 t206 t207 _ ?side1 ?side2 A12.out).mono ?_
      (case side1 => exact mC (Kd.C_below HR202_4.out HB.out))
      (case side2 => exact HC202_4.out)
      rintro e w18 ⟨v208, rfl, ho0, hb⟩
      refine ⟨_, rfl, ?_⟩
      have n_ := az (Kd.R_elder' (mR HO_202004.out) (by first | exact Kd.R_base ho0 | exact Kd.R_base ho0) hb) <| And.intro (z0 (Kd.R_lower (Kd.R_newB (Kd.R_newB (Kd.R_newB (Kd.R_new' ho0 (Kd.R_lt (mR HO_202004.out))) (g := gb199) (o := .cells #[.int .i64 a0_0, .int .i64 a0_1, .int .i64 a0_2, .int .i64 a0_3, .slice (some ad202) l0_4.length c0_4] 27 (0, 0)) (mK BK199.out)) (g := gb200) (o := .cells #[.int .i64 0, .int .i64 0, .int .i64 0, .int .i64 0, .slice none 0 0] 27 (0, 0)) (mK BK200.out)) (g := gb201) (o := .cells #[.int .i64 a0_0, .int .i64 a0_1, .int .i64 a0_2, .int .i64 a0_3, u202004] 27 (0, 0)) (mK BK201.out)) (below_size (mB HB.out)))) <| az (bB BK199.out hb) <| az (bB BK200.out hb) <| az (bB BK201.out hb) <| z0 (below_step (mB HB.out) hb)
      clear HO_202004 BK199 BK200 BK201 HB
      obtain ⟨HO_202004, HO209, BK199, BK200, BK201, HB⟩ := n_
      (try clear hb)
      (try clear hb2)
      (try clear hk)
      (try clear hi)
      (try clear ho0)
      obtain ⟨Ao20, co20, eo20⟩ := Kd.R_slice HO209.out
      (first | subst eo20 | (injection eo20 with f1_ f2_ f3_; have f4_ := f1_.symm; have f5_ := f3_.symm; clear f1_ f2_ f3_; subst f4_; subst f5_))
      refine hK.out _ _ q62_1 (fun hHeld => ?_)
      clear hK K
      refine norm_ (a' := ?_) ?_ ?_
      rotate_left
      ·show Act.put _ (some 26) _ = _
       simp only [Act.put, List.setIfInBounds_toArray, List.set_cons_zero, List.set_cons_succ, i64_w, i32_w]
       rfl
      refine one_ (i := 8) (N := some 27) #[true, true, true, true, true, true, true, true, true, false, false, false] rfl rfl (one_of HT_.out (by kernel_rfl)) (by decide) (fun K hK => ?_)
      refine value_ (w1 := ?_) (v := ?_) (by rfl) rfl ?_ ?_
      rotate_left 2
      ·go_simp
       constructor
       ·rfl
       ·rfl
      refine hK.out _ _ ⟨(blk_cell (blk_alloc BK201.out _) 0).trans rfl, (blk_cell (blk_alloc BK201.out _) 1).trans rfl, (blk_cell (blk_alloc BK201.out _) 2).trans rfl, (blk_cell (blk_alloc BK201.out _) 3).trans rfl, (blk_cell (blk_alloc BK201.out _) 4).trans rfl, (blk_cell (blk_alloc BK199.out _) 0).trans rfl, (blk_cell (blk_alloc BK199.out _) 1).trans rfl, (blk_cell (blk_alloc BK199.out _) 2).trans rfl, (blk_cell (blk_alloc BK199.out _) 3).trans rfl, (blk_cell (blk_alloc BK199.out _) 4).trans rfl, (World.cell?_alloc_lt _ _ _ (World.block_lt_of_cell? _ _ (((HB.out.cell (World.block_lt_of_cell? w _ hw202_0)).trans hw202_0)))).trans (((HB.out.cell (World.block_lt_of_cell? w _ hw202_0)).trans hw202_0)), (World.cell?_alloc_lt _ _ _ (World.block_lt_of_cell? _ _ (((HB.out.cell (World.block_lt_of_cell? w _ hw202_1)).trans hw202_1)))).trans (((HB.out.cell (World.block_lt_of_cell? w _ hw202_1)).trans hw202_1)), (World.cell?_alloc_lt _ _ _ (World.block_lt_of_cell? _ _ (((HB.out.cell (World.block_lt_of_cell? w _ hw202_2)).trans hw202_2)))).trans (((HB.out.cell (World.block_lt_of_cell? w _ hw202_2)).trans hw202_2)), (World.cell?_alloc_lt _ _ _ (World.block_lt_of_cell? _ _ (((HB.out.cell (World.block_lt_of_cell? w _ hw202_3)).trans hw202_3)))).trans (((HB.out.cell (World.block_lt_of_cell? w _ hw202_3)).trans hw202_3)), (World.cell?_alloc_lt _ _ _ (World.block_lt_of_cell? _ _ (((HB.out.cell (World.block_lt_of_cell? w _ hw202_4)).trans hw202_4)))).trans (((HB.out.cell (World.block_lt_of_cell? w _ hw202_4)).trans hw202_4))⟩ (fun hHeld => ?_)
      clear hK K
      refine norm_ (a' := ?_) ?_ ?_
      rotate_left
      ·show Act.put _ (some 27) _ = _
       simp only [Act.put, List.setIfInBounds_toArray, List.set_cons_zero, List.set_cons_succ, i64_w, i32_w]
       rfl
      refine one_ (i := 9) (N := some 28) #[true, true, true, true, true, true, true, true, true, true, false, false] rfl rfl (one_of HT_.out (by kernel_rfl)) (by decide) (fun K hK => ?_)
      refine Kd.R_append_step k27 (w0 := w) w.heap.size (by rfl) (.tmp 20) (.tmp 27) 25 27 (.agg #[(.int .i64 0), (.int .i64 0), (.int .i64 0), (.int .i64 0), (.slice none 0 0)]) 56 rfl Tryz.underlying25 info27 rfl (by decide) (by omega) u202004 x202004_1 (⟨t203, t204, (⟨t205, t206⟩ : S24), t207⟩ : S27) [.int .i64 t203, .int .i64 t204, .int .i64 t205, .int .i64 t206, .slice Ao20 t207.length co20] (fun k_ => k_ ≠ gb199 ∧ k_ ≠ gb200 ∧ k_ ≠ gb201) (fun k_ => ((fun k_ => k_ ≠ gb199 ∧ k_ ≠ gb200 ∧ k_ ≠ gb201)) k_ ∧ nB k_ u202004) rfl rfl ?aP (fun _ hk => hk) ?aF ?aO ?aB ?aS ?aL ?_
      (case aP => exact k27_mkM _ _ _ (⟨t203, t204, (⟨t205, t206⟩ : S24), t207⟩ : S27) (Kd.R_mono (HO209.out) (fun k_ hk => ⟨⟨hk.1.1.2, ⟨hk.1.2, hk.2⟩⟩, hk.1.1.1.2⟩)))
      (case aB => exact (mB HB.out))
      (case aF => exact (fun k_ hk => ⟨fB BK199.out hk, fB BK200.out hk, fB BK201.out hk⟩))
      (case aO => exact (by (with_reducible repeat (first | apply Kd.R_alloc | apply Kd.R_drewN | apply Kd.R_drew)); exact Kd.R_mono HO_202004.out (fun _ hk => ⟨hk.1.1, ⟨hk.1.2.1, hk.1.2.2⟩⟩)))
      (case aS => exact (below_size (mB HB.out)))
      (case aL => have := LMc13.out; omega)
      intro v211 w19 ho hb hg hat
      rw [← Ny210.out] at ho
      have n_ := az (blk_grown (g := gb199) (o := .cells #[.int .i64 a0_0, .int .i64 a0_1, .int .i64 a0_2, .int .i64 a0_3, .slice (some ad202) l0_4.length c0_4] 27 (0, 0)) (mK BK199.out) hg (Kd.R_away HO_202004.out (fun _ hk => hk.1.1))) <| az (blk_grown (g := gb200) (o := .cells #[.int .i64 0, .int .i64 0, .int .i64 0, .int .i64 0, .slice none 0 0] 27 (0, 0)) (mK BK200.out) hg (Kd.R_away HO_202004.out (fun _ hk => hk.1.2.1))) <| az (blk_grown (g := gb201) (o := .cells #[.int .i64 a0_0, .int .i64 a0_1, .int .i64 a0_2, .int .i64 a0_3, u202004] 27 (0, 0)) (mK BK201.out) hg (Kd.R_away HO_202004.out (fun _ hk => hk.1.2.2))) <| az (hb) <| z0 (ho)
      clear BK199 BK200 BK201 HB HO_202004 HO209
      obtain ⟨BK199, BK200, BK201, HB, HO212⟩ := n_
      clear ho hb hg hat
      obtain ⟨Ao21, co21, eo21⟩ := Kd.R_slice HO212.out
      (first | subst eo21 | (injection eo21 with f1_ f2_ f3_; have f4_ := f1_.symm; have f5_ := f3_.symm; clear f1_ f2_ f3_; subst f4_; subst f5_))
      refine hK.out _ _ q62_1 (fun hHeld => ?_)
      clear hK K
      refine norm_ (a' := ?_) ?_ ?_
      rotate_left
      ·show Act.put _ (some 28) _ = _
       simp only [Act.put, List.setIfInBounds_toArray, List.set_cons_zero, List.set_cons_succ, i64_w, i32_w]
       rfl
      refine pure_ (i := 10) (N := some 29) (v := ?_) (a' := ?_) #[true, true, true, true, true, true, true, true, true, true, true, false] rfl rfl (any_of HT_.out (by kernel_rfl)) (fun _ _ _ h => h) (Or.inl ⟨by rfl, ?_⟩) ?_ ?_
      rotate_left
      ·intro w'
       go_simp
       with_reducible rfl
      rotate_left
      ·simp only [Act.put, List.setIfInBounds_toArray, List.set_cons_zero, List.set_cons_succ, i64_w, i32_w]
       rfl
      refine last_ (i := 11) (N := none) #[true, true, true, true, true, true, true, true, true, true, true, true] rfl rfl (one_of HT_.out (by kernel_rfl)) (by decide) (fun K hK => ?_)
      have hs22 : w19.cell? ⟨gb201, 4, none⟩ = some (u202004) := (blk_cell BK201.out 4).trans rfl
      have hfs22 := blk_frozen BK201.out 4
      have hns22_0 := NB199_201.out
      have hns22_1 := NB200_201.out
      have hms22_0 := NB201_199.out
      have hms22_1 := NB201_200.out
      refine skip_ (w1 := ?_) (by rfl) rfl ?_ ?_
      rotate_left
      ·go_simp
       rfl
      refine hK.out _ _ ?_
      clear hK K
      refine done_ (done_of HT_.out (by kernel_rfl)) ?_
      try go_wp2
      go_roundg k1
      case measure => have := HK1.out; omega
      case rel => exact ⟨(wrap64 (x4_1 + 1)), (y210), (.slice Ao21 y210.length co21), rfy, H', ⟨by have := HK1.out; omega⟩, ⟨by (with_reducible repeat (first | apply Kd.R_alloc | apply Kd.R_drewN | apply Kd.R_drew)); exact Kd.R_mono (Kd.R_far (p := ⟨gb201, 4, none⟩) (Kd.R_mono HO212.out (fun k_ hk => (⟨hk, hk.2.2⟩ : _ ∧ k_ ≠ gb201))) (fun _ hk => hk.2) (.slice Ao21 y210.length co21)) (fun _ hk => ⟨hk.1.1, ⟨hk.1.2.1, hk.1.2.2⟩⟩)⟩, ⟨mF BK199.out⟩, ⟨mF BK200.out⟩, ⟨by (with_reducible repeat (first | refine blk_drewN ?_ _ | refine blk_drew ?_ | refine blk_alloc ?_ _)); refine blk_put (cs := #[.int .i64 a0_0, .int .i64 a0_1, .int .i64 a0_2, .int .i64 a0_3, u202004]) ?_ 4 _ rfl; (with_reducible repeat (first | refine blk_drewN ?_ _ | refine blk_drew ?_ | refine blk_alloc ?_ _)); exact BK201.out⟩, ⟨mB HB.out⟩⟩
     ·rw [if_neg c13] at H
      exact absurd H (by simp)
    ·rw [if_neg c11] at H
     exact absurd H (by simp)
   ·rw [if_neg c10] at H
    have c10b0 : decide (x4_1 < (l0_4.length : Int)) = false := decide_eq_false c10
    clear c10
    simp only [Option.some.injEq, Prod.mk.injEq] at H
    obtain ⟨rfl, rfl, rfl, rfl, rfl⟩ := H
    have hnb23 := NB199_200.out
    have hnc23 := NB200_199.out
    have hnb24 := NB199_201.out
    have hnc24 := NB201_199.out
    obtain ⟨hcz25_0, hcz25_1, hcz25_2, hcz25_3, hcz25_4, hfz25_0, hfz25_1, hfz25_2, hfz25_3, hfz25_4⟩ := cel5 BK199.out
    have hnb26 := NB201_200.out
    have hnc26 := NB200_201.out
    obtain ⟨hcz27_0, hcz27_1, hcz27_2, hcz27_3, hcz27_4, hfz27_0, hfz27_1, hfz27_2, hfz27_3, hfz27_4⟩ := cel5 BK201.out
    obtain ⟨hcz28_0, hcz28_1, hcz28_2, hcz28_3, hcz28_4, hfz28_0, hfz28_1, hfz28_2, hfz28_3, hfz28_4⟩ := cel5 BK200.out
    obtain ⟨Ao29, co29, eo29⟩ := Kd.R_slice HO_202004.out
    subst eo29
    go_wp2
    refine bodyPost_ret (results_cell_row rfl _ _ gb200 27 #[.int .i64 a0_0, .int .i64 a0_1, .int .i64 a0_2, .int .i64 a0_3, .slice Ao29 x202004_1.length co29] (0, 0) _ rfl (pF BK200.out) Tryz.underlying27 rfl (by kernel_rfl)) rfl ?_
    exact ⟨_, rfx, by (with_reducible repeat (first | apply Kd.R_alloc | apply Kd.R_drewN | apply Kd.R_drew)); exact Kd.R_mono (Kd.R_far (p := ⟨gb200, 4, none⟩) (Kd.R_far (p := ⟨gb200, 3, none⟩) (Kd.R_far (p := ⟨gb200, 2, none⟩) (Kd.R_far (p := ⟨gb200, 1, none⟩) (Kd.R_far (p := ⟨gb200, 0, none⟩) (Kd.R_mono HO_202004.out (fun k_ hk => (⟨hk, hk.2.1⟩ : _ ∧ k_ ≠ gb200))) (fun _ hk => hk.2) (.int .i64 a0_0)) (fun _ hk => hk.2) (.int .i64 a0_1)) (fun _ hk => hk.2) (.int .i64 a0_2)) (fun _ hk => hk.2) (.int .i64 a0_3)) (fun _ hk => hk.2) (.slice Ao29 x202004_1.length co29)) (fun _ hk => trivial), mB HB.out⟩

/-! ### spec_l2AddrBent: function 42 -/
def spec_l2AddrBent.f (k : Nat) (s0_0 : List Int) (s0_1 : Int) : Option (Int × Int × Int) := (spec_l2Addr.f k s0_0 s0_1).bind fun bt116 => ((spec_l12Rd_pick.f k s0_0 bt116.2.2 16).bind fun bt120 => (if bt120.1 = 0 then ((spec_l12Rd_num.f k s0_0 bt120.2 (([0, 4, (-1)] : List Int))).bind fun bt125 => (some (bt125.1, bt116.2.1, bt125.2))) else (if bt120.1 = 1 then ((spec_l12Rd_num.f k s0_0 bt120.2 (([(-1), 6, 5] : List Int))).bind fun bt130 => (some (bt116.1, bt130.1, bt130.2))) else (some (bt116.1, bt116.2.1, bt120.2)))))
set_option maxHeartbeats 8000000 in
set_option maxRecDepth 100000 in
theorem spec_l2AddrBent.calls (k : Nat) (g : Nat) (s0_0 : List Int) (s0_1 : Int) (r1 : Int) (r2 : Int) (r3 : Int) (w0 w : World) (hI : IsS93 w0 w g s0_0 s0_1) (hB : Below w0.heap.size w0 w) (h : spec_l2AddrBent.f k s0_0 s0_1 = some (r1, r2, r3)) :
  Calls Tryz.prog 42 #[.pointer (some ⟨g, 0, none⟩)] w fun e w' => e = .returned (.agg #[.int .i64 r1, .int .i64 r2]) ∧ IsS93 w0 w' g s0_0 r3 ∧ Below w0.heap.size w0 w' ∧ KeepBut w w' g none := by
 have hu24 := Tryz.underlying24
 have HI0 := z0 hI
 have HK := z0 (KeepBut.refl w g none)
 have HL := z0 hB.size
 clear hI
 have HW0 := z0 hB.size
 have HB := z0 hB
 clear hB
 have H : ((spec_l2Addr.f k s0_0 s0_1).bind fun bt116 => ((spec_l12Rd_pick.f k s0_0 bt116.2.2 16).bind fun bt120 => (if bt120.1 = 0 then ((spec_l12Rd_num.f k s0_0 bt120.2 (([0, 4, (-1)] : List Int))).bind fun bt125 => (some (bt125.1, bt116.2.1, bt125.2))) else (if bt120.1 = 1 then ((spec_l12Rd_num.f k s0_0 bt120.2 (([(-1), 6, 5] : List Int))).bind fun bt130 => (some (bt116.1, bt130.1, bt130.2))) else (some (bt116.1, bt116.2.1, bt120.2)))))) = some (r1, r2, r3) := h
 clear h
 replace H := Option.bind_eq_some_iff.mp H
 obtain ⟨⟨t116, t117, t118⟩, A20, H⟩ := H
 try dsimp only at H
 have A2 := z0 A20
 clear A20
 replace H := Option.bind_eq_some_iff.mp H
 obtain ⟨⟨t120, t121⟩, A30, H⟩ := H
 try dsimp only at H
 have A3 := z0 A30
 clear A30
 have HF4 := z0 H
 clear H
 go_enter Tryz.func42, Tryz.ntmps42
 go_upto_if 8 with (first | ((with_reducible refine gate_dst (N := 2) rfl ?_); refine box_event ?hg (N := 2) ?hd (cs := #[.int .i64 0, .int .i64 0]) (t := 24) ?hr ?_; (case hd => rfl); (case hg => rfl); (case hr => first | (go_simp; done) | (go_simp; rfl)); intro gb115 hg w5 hbox hb; have n_ := az (IsS93.below (mI93_1 HI0.out) hb) <| az (KeepBut.trans (mKp HK.out) (KeepBut.of_below hb g none) (.inl rfl)) <| az (below_step (mB93HI0 HB.out) hb) <| az (hbox) <| az ((gW hg HK.out)) <| az ((Nat.le_trans HW0.out (gW hg HK.out) : w0.heap.size ≤ gb115)) <| az ((by rw [hg]; exact Nat.ne_of_lt (IsS93.lt (show IsS93 w0 _ g s0_0 s0_1 from mI93_1 HI0.out)) : g ≠ gb115)) <| z0 ((by rw [hg]; exact Nat.ne_of_gt (IsS93.lt (show IsS93 w0 _ g s0_0 s0_1 from mI93_1 HI0.out)) : gb115 ≠ g)); clear HI0 HK HB; obtain ⟨HI0, HK, HB, BK115, GW115, GE115, NB0_115, NB115_0⟩ := n_; clear hb hbox hg) | ((with_reducible refine gate_callee (f := 74) rfl ?_); refine goesL_ (some 5) rfl rfl Tryz.func74 (by kernel_rfl) rfl #[.pointer (some ⟨g, 0, none⟩)] rfl argx ?_; (with_reducible refine (spec_l2Addr.calls k g s0_0 s0_1 t116 t117 t118 w0 _ ?side1 ?side2 A2.out).mono ?_); (case side1 => exact mI93_1 HI0.out); (case side2 => exact mB93HI0 HB.out); rintro e w6 ⟨rfl, hi, hb, hk⟩; refine ⟨_, rfl, ?_⟩; have n_ := az (kB hk BK115.out NB115_0.out) <| az (KeepBut.trans (mKp HK.out) hk (.inl rfl)) <| az (hb) <| z0 (hi); clear BK115 HK HB HI0; obtain ⟨BK115, HK, HB, HI0⟩ := n_; clear hb hk hi) | ((with_reducible refine gate_dst (N := 3) rfl ?_); refine box_event ?hg (N := 3) ?hd (cs := #[.int .i64 0, .int .i64 0]) (t := 24) ?hr ?_; (case hd => rfl); (case hg => rfl); (case hr => first | (go_simp; done) | (go_simp; rfl)); intro gb119 hg w7 hbox hb; have n_ := az (IsS93.below (mI93_1 HI0.out) hb) <| az (bB BK115.out hb) <| az (KeepBut.trans (mKp HK.out) (KeepBut.of_below hb g none) (.inl rfl)) <| az (below_step (mB93HI0 HB.out) hb) <| az (hbox) <| az ((gW hg HK.out)) <| az ((Nat.le_trans HW0.out (gW hg HK.out) : w0.heap.size ≤ gb119)) <| az ((nL hg BK115.out)) <| az ((nG hg BK115.out)) <| az ((by rw [hg]; exact Nat.ne_of_lt (IsS93.lt (show IsS93 w0 _ g s0_0 t118 from mI93_1 HI0.out)) : g ≠ gb119)) <| z0 ((by rw [hg]; exact Nat.ne_of_gt (IsS93.lt (show IsS93 w0 _ g s0_0 t118 from mI93_1 HI0.out)) : gb119 ≠ g)); clear HI0 BK115 HK HB; obtain ⟨HI0, BK115, HK, HB, BK119, GW119, GE119, NB115_119, NB119_115, NB0_119, NB119_0⟩ := n_; clear hb hbox hg; have hnb8 := NB119_115.out; have hnc8 := NB115_119.out; have hnb9 := NB119_0.out; have hnc9 := NB0_119.out; obtain ⟨hcz10_0, hcz10_1, hfz10_0, hfz10_1⟩ := cel2 BK119.out) | ((with_reducible refine gate_callee (f := 61) rfl ?_); refine goesL_ (some 7) rfl rfl Tryz.func61 (by kernel_rfl) rfl #[.pointer (some ⟨g, 0, none⟩), .int .i64 16] rfl argx ?_; (with_reducible refine (spec_l12Rd_pick.calls k g s0_0 t118 16 t120 t121 w0 _ ?side1 ?side2 A3.out).mono ?_); (case side1 => exact mI93_1 HI0.out); (case side2 => exact mB93HI0 HB.out); rintro e w11 ⟨rfl, hi, hb, hk⟩; refine ⟨_, rfl, ?_⟩; have n_ := az (KeepBut.blk hk (g' := gb115) (o := .cells #[.int .i64 0, .int .i64 0] 24 (0, 0)) (mF BK115.out) NB115_0.out (by simp)) <| az (KeepBut.blk hk (g' := gb119) (o := .cells #[.int .i64 t116, .int .i64 t117] 24 (0, 0)) (by (with_reducible repeat (first | refine blk_drewN ?_ _ | refine blk_drew ?_ | refine blk_alloc ?_ _)); refine blk_put (cs := #[.int .i64 t116, .int .i64 0]) ?_ 1 _ rfl; (with_reducible repeat (first | refine blk_drewN ?_ _ | refine blk_drew ?_ | refine blk_alloc ?_ _)); refine blk_put (cs := #[.int .i64 0, .int .i64 0]) ?_ 0 _ rfl; (with_reducible repeat (first | refine blk_drewN ?_ _ | refine blk_drew ?_ | refine blk_alloc ?_ _)); exact BK119.out) NB119_0.out (by simp)) <| az (KeepBut.trans (mKp HK.out) hk (.inl rfl)) <| az (hb) <| z0 (hi); clear BK115 BK119 HK HB HI0; obtain ⟨BK115, BK119, HK, HB, HI0⟩ := n_; clear hb hk hi))
 (try simp only [Act.put, List.setIfInBounds_toArray, List.set_cons_zero, List.set_cons_succ])
 have H := HF4.out
 clear HF4
 (try clear hcz10_0); (try clear hcz10_1); (try clear hfz10_0); (try clear hfz10_1)
 by_cases c12 : t120 = 0
 ·rw [if_pos c12] at H
  have c12b0 : (t120 == 0) = true := beq_iff_eq.mpr c12
  have c12b1 : (t120 != 0) = false := bne_eq_false_iff_eq.mpr c12
  clear c12
  (first | rw [c12b0] | (simp only [i64_w, i32_w]; rw [c12b0]) | skip)
  obtain ⟨y122, hy122⟩ : ∃ y_ : List Int, y_ = (([0, 4, (-1)] : List Int)) := ⟨_, rfl⟩
  replace H : ((spec_l12Rd_num.f k s0_0 t121 y122).bind fun bt125 => (some (bt125.1, t117, bt125.2))) = some (r1, r2, r3) := by first | (rw [hy122]; with_reducible exact H) | (have H2_ := (Option.bind_some _ _).symm.trans H; rw [hy122]; with_reducible exact H2_) | (have H2_ := (Option.bind_some _ _).symm.trans H; with_reducible exact H2_) | with_reducible exact H | (rw [hy122]; exact H) | exact H
  have Ny122 := z0 hy122
  clear hy122
  replace H := Option.bind_eq_some_iff.mp H
  obtain ⟨⟨t125, t126⟩, A130, H⟩ := H
  try dsimp only at H
  have A13 := z0 A130
  clear A130
  simp only [Option.some.injEq, Prod.mk.injEq] at H
  obtain ⟨rfl, rfl, rfl⟩ := H
  go_wp2_with (first | ((with_reducible refine gate_dst (N := 11) rfl ?_); refine Kd.R_lit (Kd.int .i64) _ 3 ?hg (N := 11) ?hd (xs := ([0, 4, (-1)] : List Int)) (inner := [.int .i64 0, .int .i64 4, .int .i64 (-1)]) (ok := fun _ => True) (okp := fun _ => True) ?hr ?hp (fun _ hk => hk) trivial (Below.refl _ _) (Nat.le_refl _) (by simp) ?_; (case hd => rfl); (case hg => rfl); (case hr => first | (go_simp; done) | (go_simp; rfl)); (case hp => exact (Reps.one (show Kd.M (Kd.int .i64) _ _ _ 0 [.int .i64 0] from rfl) (Reps.one (show Kd.M (Kd.int .i64) _ _ _ 4 [.int .i64 4] from rfl) (Reps.one (show Kd.M (Kd.int .i64) _ _ _ (-1) [.int .i64 (-1)] from rfl) (Reps.none _ _))))); intro v123 w14 ho15 hb hg_ hnew_; clear hg_ hnew_; (first | rw [← Ny122.out] at ho15 | (simp only [Int.reduceToNat] at ho15; rw [← Ny122.out] at ho15)); have n_ := az (Kd.R_lower ho15 (kS HK.out)) <| az (IsS93.below (mI93_1 HI0.out) hb) <| az (bB BK115.out hb) <| az (bB BK119.out hb) <| az (KeepBut.trans (mKp HK.out) (KeepBut.of_below hb g none) (.inl rfl)) <| z0 (below_step (mB93HI0 HB.out) hb); clear HI0 BK115 BK119 HK HB; obtain ⟨HO124, HI0, BK115, BK119, HK, HB⟩ := n_; clear hb ho15; obtain ⟨Ao16, co16, eo16⟩ := Kd.R_slice HO124.out; subst eo16) | ((with_reducible refine gate_callee (f := 51) rfl ?_); refine goesL_ (some 12) rfl rfl Tryz.func51 (by kernel_rfl) rfl #[.pointer (some ⟨g, 0, none⟩), .slice Ao16 y122.length co16] rfl argx ?_; (with_reducible refine (spec_l12Rd_num.calls k g s0_0 t121 _ _ y122 t125 t126 w0 _ ?side1 ?side2 ?side3 ?side4 ?side5 A13.out).mono ?_); (case side1 => exact mI93_1 HI0.out); (case side2 => exact mB93HI0 HB.out); (case side3 => exact mC (Kd.R_reads' HO124.out).2.2); (case side4 => exact (Kd.R_reads' HO124.out).2.1); (case side5 => exact far_slice (IsS93.own_ne HI0.out HO124.out (by decide))); rintro e w17 ⟨rfl, hi, hb, hk⟩; refine ⟨_, rfl, ?_⟩; have n_ := az (kB hk BK115.out NB115_0.out) <| az (kB hk BK119.out NB119_0.out) <| az (Kd.R_mono (Kd.R_keep (IsS93.apart (show IsS93 w0 _ g s0_0 t121 from mI93_1 HI0.out) (mR HO124.out) (by decide)) hk (fun _ h => h.2)) (fun _ h => h.1)) <| az (KeepBut.trans (mKp HK.out) hk (.inl rfl)) <| az (hb) <| z0 (hi); clear BK115 BK119 HO124 HK HB HI0; obtain ⟨BK115, BK119, HO124, HK, HB, HI0⟩ := n_; clear hb hk hi; have hnb18 := NB119_115.out; have hnc18 := NB115_119.out; have hnb19 := NB119_0.out; have hnc19 := NB0_119.out; obtain ⟨hcz20_0, hcz20_1, hfz20_0, hfz20_1⟩ := cel2 BK119.out; have hnb21 := NB115_0.out; have hnc21 := NB0_115.out; obtain ⟨hcz22_0, hcz22_1, hfz22_0, hfz22_1⟩ := cel2 BK115.out))
  refine bodyPost_ret (results_cell_row rfl _ _ gb115 24 #[.int .i64 t125, .int .i64 t117] (0, 0) _ rfl (by (with_reducible repeat (first | refine blk_drewN ?_ _ | refine blk_drew ?_ | refine blk_alloc ?_ _)); refine blk_put (cs := #[.int .i64 t125, .int .i64 0]) ?_ 1 _ rfl; (with_reducible repeat (first | refine blk_drewN ?_ _ | refine blk_drew ?_ | refine blk_alloc ?_ _)); refine blk_put (cs := #[.int .i64 0, .int .i64 0]) ?_ 0 _ rfl; (with_reducible repeat (first | refine blk_drewN ?_ _ | refine blk_drew ?_ | refine blk_alloc ?_ _)); refine blk_far ?_ NB115_119.out _; (with_reducible repeat (first | refine blk_drewN ?_ _ | refine blk_drew ?_ | refine blk_alloc ?_ _)); exact BK115.out) Tryz.underlying24 rfl (by kernel_rfl)) rfl ?_
  exact ⟨rfx, mI93_1 HI0.out, mB93HI0 HB.out, mKp HK.out⟩
 ·rw [if_neg c12] at H
  have c12b0 : (t120 == 0) = false := beq_eq_false_iff_ne.mpr c12
  have c12b1 : (t120 != 0) = true := bne_iff_ne.mpr c12
  (first | rw [c12b0] | (simp only [i64_w, i32_w]; rw [c12b0]) | skip)
  by_cases c23 : t120 = 1
  ·rw [if_pos c23] at H
   have c23b0 : (t120 == 1) = true := beq_iff_eq.mpr c23
   have c23b1 : (t120 != 1) = false := bne_eq_false_iff_eq.mpr c23
   clear c23
   obtain ⟨y127, hy127⟩ : ∃ y_ : List Int, y_ = (([(-1), 6, 5] : List Int)) := ⟨_, rfl⟩
   replace H : ((spec_l12Rd_num.f k s0_0 t121 y127).bind fun bt130 => (some (t116, bt130.1, bt130.2))) = some (r1, r2, r3) := by first | (rw [hy127]; with_reducible exact H) | (have H2_ := (Option.bind_some _ _).symm.trans H; rw [hy127]; with_reducible exact H2_) | (have H2_ := (Option.bind_some _ _).symm.trans H; with_reducible exact H2_) | with_reducible exact H | (rw [hy127]; exact H) | exact H
   have Ny127 := z0 hy127
   clear hy127
   replace H := Option.bind_eq_some_iff.mp H
   obtain ⟨⟨t130, t131⟩, A240, H⟩ := H
   try dsimp only at H
   have A24 := z0 A240
   clear A240
   simp only [Option.some.injEq, Prod.mk.injEq] at H
   obtain ⟨rfl, rfl, rfl⟩ := H
   go_wp2_with (first | ((with_reducible refine gate_dst (N := 17) rfl ?_); refine Kd.R_lit (Kd.int .i64) _ 3 ?hg (N := 17) ?hd (xs := ([(-1), 6, 5] : List Int)) (inner := [.int .i64 (-1), .int .i64 6, .int .i64 5]) (ok := fun _ => True) (okp := fun _ => True) ?hr ?hp (fun _ hk => hk) trivial (Below.refl _ _) (Nat.le_refl _) (by simp) ?_; (case hd => rfl); (case hg => rfl); (case hr => first | (go_simp; done) | (go_simp; rfl)); (case hp => exact (Reps.one (show Kd.M (Kd.int .i64) _ _ _ (-1) [.int .i64 (-1)] from rfl) (Reps.one (show Kd.M (Kd.int .i64) _ _ _ 6 [.int .i64 6] from rfl) (Reps.one (show Kd.M (Kd.int .i64) _ _ _ 5 [.int .i64 5] from rfl) (Reps.none _ _))))); intro v128 w25 ho26 hb hg_ hnew_; clear hg_ hnew_; (first | rw [← Ny127.out] at ho26 | (simp only [Int.reduceToNat] at ho26; rw [← Ny127.out] at ho26)); have n_ := az (Kd.R_lower ho26 (kS HK.out)) <| az (IsS93.below (mI93_1 HI0.out) hb) <| az (bB BK115.out hb) <| az (bB BK119.out hb) <| az (KeepBut.trans (mKp HK.out) (KeepBut.of_below hb g none) (.inl rfl)) <| z0 (below_step (mB93HI0 HB.out) hb); clear HI0 BK115 BK119 HK HB; obtain ⟨HO129, HI0, BK115, BK119, HK, HB⟩ := n_; clear hb ho26; obtain ⟨Ao27, co27, eo27⟩ := Kd.R_slice HO129.out; subst eo27) | ((with_reducible refine gate_callee (f := 51) rfl ?_); refine goesL_ (some 18) rfl rfl Tryz.func51 (by kernel_rfl) rfl #[.pointer (some ⟨g, 0, none⟩), .slice Ao27 y127.length co27] rfl argx ?_; (with_reducible refine (spec_l12Rd_num.calls k g s0_0 t121 _ _ y127 t130 t131 w0 _ ?side1 ?side2 ?side3 ?side4 ?side5 A24.out).mono ?_); (case side1 => exact mI93_1 HI0.out); (case side2 => exact mB93HI0 HB.out); (case side3 => exact mC (Kd.R_reads' HO129.out).2.2); (case side4 => exact (Kd.R_reads' HO129.out).2.1); (case side5 => exact far_slice (IsS93.own_ne HI0.out HO129.out (by decide))); rintro e w28 ⟨rfl, hi, hb, hk⟩; refine ⟨_, rfl, ?_⟩; have n_ := az (kB hk BK115.out NB115_0.out) <| az (kB hk BK119.out NB119_0.out) <| az (Kd.R_mono (Kd.R_keep (IsS93.apart (show IsS93 w0 _ g s0_0 t121 from mI93_1 HI0.out) (mR HO129.out) (by decide)) hk (fun _ h => h.2)) (fun _ h => h.1)) <| az (KeepBut.trans (mKp HK.out) hk (.inl rfl)) <| az (hb) <| z0 (hi); clear BK115 BK119 HO129 HK HB HI0; obtain ⟨BK115, BK119, HO129, HK, HB, HI0⟩ := n_; clear hb hk hi; have hnb29 := NB119_115.out; have hnc29 := NB115_119.out; have hnb30 := NB119_0.out; have hnc30 := NB0_119.out; obtain ⟨hcz31_0, hcz31_1, hfz31_0, hfz31_1⟩ := cel2 BK119.out; have hnb32 := NB115_0.out; have hnc32 := NB0_115.out; obtain ⟨hcz33_0, hcz33_1, hfz33_0, hfz33_1⟩ := cel2 BK115.out))
   refine bodyPost_ret (results_cell_row rfl _ _ gb115 24 #[.int .i64 t116, .int .i64 t130] (0, 0) _ rfl (by (with_reducible repeat (first | refine blk_drewN ?_ _ | refine blk_drew ?_ | refine blk_alloc ?_ _)); refine blk_put (cs := #[.int .i64 t116, .int .i64 0]) ?_ 1 _ rfl; (with_reducible repeat (first | refine blk_drewN ?_ _ | refine blk_drew ?_ | refine blk_alloc ?_ _)); refine blk_put (cs := #[.int .i64 0, .int .i64 0]) ?_ 0 _ rfl; (with_reducible repeat (first | refine blk_drewN ?_ _ | refine blk_drew ?_ | refine blk_alloc ?_ _)); refine blk_far ?_ NB115_119.out _; (with_reducible repeat (first | refine blk_drewN ?_ _ | refine blk_drew ?_ | refine blk_alloc ?_ _)); exact BK115.out) Tryz.underlying24 rfl (by kernel_rfl)) rfl ?_
   exact ⟨rfx, mI93_1 HI0.out, mB93HI0 HB.out, mKp HK.out⟩
  ·rw [if_neg c23] at H
   have c23b0 : (t120 == 1) = false := beq_eq_false_iff_ne.mpr c23
   have c23b1 : (t120 != 1) = true := bne_iff_ne.mpr c23
   simp only [Option.some.injEq, Prod.mk.injEq] at H
   obtain ⟨rfl, rfl, rfl⟩ := H
   have hnb34 := NB119_115.out
   have hnc34 := NB115_119.out
   have hnb35 := NB119_0.out
   have hnc35 := NB0_119.out
   obtain ⟨hcz36_0, hcz36_1, hfz36_0, hfz36_1⟩ := cel2 BK119.out
   have hnb37 := NB115_0.out
   have hnc37 := NB0_115.out
   obtain ⟨hcz38_0, hcz38_1, hfz38_0, hfz38_1⟩ := cel2 BK115.out
   go_wp2
   refine bodyPost_ret (results_cell_row rfl _ _ gb115 24 #[.int .i64 t116, .int .i64 t117] (0, 0) _ rfl (pF BK115.out) Tryz.underlying24 rfl (by kernel_rfl)) rfl ?_
   exact ⟨rfx, mI93_1 HI0.out, mB93HI0 HB.out, mKp HK.out⟩

/-! ### spec_l2To: function 84 -/
def spec_l2To.f (k : Nat) (s0_0 : List Int) (s0_1 : Int) : Option (Int × Int × Int) := (spec_l12Rd_pick.f k s0_0 s0_1 2).bind fun bt672 => ((spec_l12Rd_pick.f k s0_0 bt672.2 3).bind fun bt674 => (some (wrap64 (2 + bt672.1), bt674.1, bt674.2)))
set_option maxHeartbeats 8000000 in
set_option maxRecDepth 100000 in
theorem spec_l2To.calls (k : Nat) (g : Nat) (s0_0 : List Int) (s0_1 : Int) (r1 : Int) (r2 : Int) (r3 : Int) (w0 w : World) (hI : IsS93 w0 w g s0_0 s0_1) (hB : Below w0.heap.size w0 w) (h : spec_l2To.f k s0_0 s0_1 = some (r1, r2, r3)) :
  Calls Tryz.prog 84 #[.pointer (some ⟨g, 0, none⟩)] w fun e w' => e = .returned (.agg #[.int .i64 r1, .int .i64 r2]) ∧ IsS93 w0 w' g s0_0 r3 ∧ Below w0.heap.size w0 w' ∧ KeepBut w w' g none := by
 have hu24 := Tryz.underlying24
 have HI0 := z0 hI
 have HK := z0 (KeepBut.refl w g none)
 have HL := z0 hB.size
 clear hI
 have HW0 := z0 hB.size
 have HB := z0 hB
 clear hB
 have H : ((spec_l12Rd_pick.f k s0_0 s0_1 2).bind fun bt672 => ((spec_l12Rd_pick.f k s0_0 bt672.2 3).bind fun bt674 => (some (wrap64 (2 + bt672.1), bt674.1, bt674.2)))) = some (r1, r2, r3) := h
 clear h
 replace H := Option.bind_eq_some_iff.mp H
 obtain ⟨⟨t672, t673⟩, A20, H⟩ := H
 try dsimp only at H
 have A2 := z0 A20
 clear A20
 replace H := Option.bind_eq_some_iff.mp H
 obtain ⟨⟨t674, t675⟩, A30, H⟩ := H
 try dsimp only at H
 have A3 := z0 A30
 clear A30
 simp only [Option.some.injEq, Prod.mk.injEq] at H
 obtain ⟨rfl, rfl, rfl⟩ := H
 go_enter Tryz.func84, Tryz.ntmps84
 go_wp2_with (first | ((with_reducible refine gate_dst (N := 2) rfl ?_); refine box_event ?hg (N := 2) ?hd (cs := #[.int .i64 0, .int .i64 0]) (t := 24) ?hr ?_; (case hd => rfl); (case hg => rfl); (case hr => first | (go_simp; done) | (go_simp; rfl)); intro gb671 hg w4 hbox hb; have n_ := az (IsS93.below (mI93_1 HI0.out) hb) <| az (KeepBut.trans (mKp HK.out) (KeepBut.of_below hb g none) (.inl rfl)) <| az (below_step (mB93HI0 HB.out) hb) <| az (hbox) <| az ((gW hg HK.out)) <| az ((Nat.le_trans HW0.out (gW hg HK.out) : w0.heap.size ≤ gb671)) <| az ((by rw [hg]; exact Nat.ne_of_lt (IsS93.lt (show IsS93 w0 _ g s0_0 s0_1 from mI93_1 HI0.out)) : g ≠ gb671)) <| z0 ((by rw [hg]; exact Nat.ne_of_gt (IsS93.lt (show IsS93 w0 _ g s0_0 s0_1 from mI93_1 HI0.out)) : gb671 ≠ g)); clear HI0 HK HB; obtain ⟨HI0, HK, HB, BK671, GW671, GE671, NB0_671, NB671_0⟩ := n_; clear hb hbox hg) | ((with_reducible refine gate_callee (f := 61) rfl ?_); refine goesL_ (some 4) rfl rfl Tryz.func61 (by kernel_rfl) rfl #[.pointer (some ⟨g, 0, none⟩), .int .i64 2] rfl argx ?_; (with_reducible refine (spec_l12Rd_pick.calls k g s0_0 s0_1 2 t672 t673 w0 _ ?side1 ?side2 A2.out).mono ?_); (case side1 => exact mI93_1 HI0.out); (case side2 => exact mB93HI0 HB.out); rintro e w5 ⟨rfl, hi, hb, hk⟩; refine ⟨_, rfl, ?_⟩; have n_ := az (kB hk BK671.out NB671_0.out) <| az (KeepBut.trans (mKp HK.out) hk (.inl rfl)) <| az (hb) <| z0 (hi); clear BK671 HK HB HI0; obtain ⟨BK671, HK, HB, HI0⟩ := n_; clear hb hk hi) | ((with_reducible refine gate_callee (f := 61) rfl ?_); refine goesL_ (some 7) rfl rfl Tryz.func61 (by kernel_rfl) rfl #[.pointer (some ⟨g, 0, none⟩), .int .i64 3] rfl argx ?_; (with_reducible refine (spec_l12Rd_pick.calls k g s0_0 t673 3 t674 t675 w0 _ ?side1 ?side2 A3.out).mono ?_); (case side1 => exact mI93_1 HI0.out); (case side2 => exact mB93HI0 HB.out); rintro e w6 ⟨rfl, hi, hb, hk⟩; refine ⟨_, rfl, ?_⟩; have n_ := az (kB hk BK671.out NB671_0.out) <| az (KeepBut.trans (mKp HK.out) hk (.inl rfl)) <| az (hb) <| z0 (hi); clear BK671 HK HB HI0; obtain ⟨BK671, HK, HB, HI0⟩ := n_; clear hb hk hi; have hnb7 := NB671_0.out; have hnc7 := NB0_671.out; obtain ⟨hcz8_0, hcz8_1, hfz8_0, hfz8_1⟩ := cel2 BK671.out))
 refine bodyPost_ret (results_cell_row rfl _ _ gb671 24 #[.int .i64 (wrap64 (2 + t672)), .int .i64 t674] (0, 0) _ rfl (pF BK671.out) Tryz.underlying24 rfl (by kernel_rfl)) rfl ?_
 exact ⟨rfx, mI93_1 HI0.out, mB93HI0 HB.out, mKp HK.out⟩

/-! ### spec_l1Num: function 56 -/
def spec_l1Num.f (k : Nat) (s0_0 : List Int) (s0_1 : Int) : Option (Int × Int) := (spec_l12Rd_num.f k s0_0 s0_1 (([0, 1, 2, (-1), 3, 7, 100, 999999, 1000000, (-1000000), 1000001, (-1000007), 9223372036854775807, (-9223372036854775808), 4000000000] : List Int))).bind fun bt1267 => (some (bt1267.1, bt1267.2))
set_option maxHeartbeats 8000000 in
set_option maxRecDepth 100000 in
theorem spec_l1Num.calls (k : Nat) (g : Nat) (s0_0 : List Int) (s0_1 : Int) (r1 : Int) (r2 : Int) (w0 w : World) (hI : IsS93 w0 w g s0_0 s0_1) (hB : Below w0.heap.size w0 w) (h : spec_l1Num.f k s0_0 s0_1 = some (r1, r2)) :
  Calls Tryz.prog 56 #[.pointer (some ⟨g, 0, none⟩)] w fun e w' => e = .returned (.int .i64 r1) ∧ IsS93 w0 w' g s0_0 r2 ∧ Below w0.heap.size w0 w' ∧ KeepBut w w' g none := by
 have HI0 := z0 hI
 have HK := z0 (KeepBut.refl w g none)
 have HL := z0 hB.size
 clear hI
 have HW0 := z0 hB.size
 have HB := z0 hB
 clear hB
 have H : ((spec_l12Rd_num.f k s0_0 s0_1 (([0, 1, 2, (-1), 3, 7, 100, 999999, 1000000, (-1000000), 1000001, (-1000007), 9223372036854775807, (-9223372036854775808), 4000000000] : List Int))).bind fun bt1267 => (some (bt1267.1, bt1267.2))) = some (r1, r2) := h
 clear h
 obtain ⟨y1264, hy1264⟩ : ∃ y_ : List Int, y_ = (([0, 1, 2, (-1), 3, 7, 100, 999999, 1000000, (-1000000), 1000001, (-1000007), 9223372036854775807, (-9223372036854775808), 4000000000] : List Int)) := ⟨_, rfl⟩
 replace H : ((spec_l12Rd_num.f k s0_0 s0_1 y1264).bind fun bt1267 => (some (bt1267.1, bt1267.2))) = some (r1, r2) := by first | (rw [hy1264]; with_reducible exact H) | (have H2_ := (Option.bind_some _ _).symm.trans H; rw [hy1264]; with_reducible exact H2_) | (have H2_ := (Option.bind_some _ _).symm.trans H; with_reducible exact H2_) | with_reducible exact H | (rw [hy1264]; exact H) | exact H
 have Ny1264 := z0 hy1264
 clear hy1264
 replace H := Option.bind_eq_some_iff.mp H
 obtain ⟨⟨t1267, t1268⟩, A20, H⟩ := H
 try dsimp only at H
 have A2 := z0 A20
 clear A20
 simp only [Option.some.injEq, Prod.mk.injEq] at H
 obtain ⟨rfl, rfl⟩ := H
 go_enter Tryz.func56, Tryz.ntmps56
 go_wp2_with (first | ((with_reducible refine gate_dst (N := 4) rfl ?_); refine Kd.R_lit (Kd.int .i64) _ 3 ?hg (N := 4) ?hd (xs := ([0, 1, 2, (-1), 3, 7, 100, 999999, 1000000, (-1000000), 1000001, (-1000007), 9223372036854775807, (-9223372036854775808), 4000000000] : List Int)) (inner := [.int .i64 0, .int .i64 1, .int .i64 2, .int .i64 (-1), .int .i64 3, .int .i64 7, .int .i64 100, .int .i64 999999, .int .i64 1000000, .int .i64 (-1000000), .int .i64 1000001, .int .i64 (-1000007), .int .i64 9223372036854775807, .int .i64 (-9223372036854775808), .int .i64 4000000000]) (ok := fun _ => True) (okp := fun _ => True) ?hr ?hp (fun _ hk => hk) trivial (Below.refl _ _) (Nat.le_refl _) (by simp) ?_; (case hd => rfl); (case hg => rfl); (case hr => first | (go_simp; done) | (go_simp; rfl)); (case hp => exact (Reps.one (show Kd.M (Kd.int .i64) _ _ _ 0 [.int .i64 0] from rfl) (Reps.one (show Kd.M (Kd.int .i64) _ _ _ 1 [.int .i64 1] from rfl) (Reps.one (show Kd.M (Kd.int .i64) _ _ _ 2 [.int .i64 2] from rfl) (Reps.one (show Kd.M (Kd.int .i64) _ _ _ (-1) [.int .i64 (-1)] from rfl) (Reps.one (show Kd.M (Kd.int .i64) _ _ _ 3 [.int .i64 3] from rfl) (Reps.one (show Kd.M (Kd.int .i64) _ _ _ 7 [.int .i64 7] from rfl) (Reps.one (show Kd.M (Kd.int .i64) _ _ _ 100 [.int .i64 100] from rfl) (Reps.one (show Kd.M (Kd.int .i64) _ _ _ 999999 [.int .i64 999999] from rfl) (Reps.one (show Kd.M (Kd.int .i64) _ _ _ 1000000 [.int .i64 1000000] from rfl) (Reps.one (show Kd.M (Kd.int .i64) _ _ _ (-1000000) [.int .i64 (-1000000)] from rfl) (Reps.one (show Kd.M (Kd.int .i64) _ _ _ 1000001 [.int .i64 1000001] from rfl) (Reps.one (show Kd.M (Kd.int .i64) _ _ _ (-1000007) [.int .i64 (-1000007)] from rfl) (Reps.one (show Kd.M (Kd.int .i64) _ _ _ 9223372036854775807 [.int .i64 9223372036854775807] from rfl) (Reps.one (show Kd.M (Kd.int .i64) _ _ _ (-9223372036854775808) [.int .i64 (-9223372036854775808)] from rfl) (Reps.one (show Kd.M (Kd.int .i64) _ _ _ 4000000000 [.int .i64 4000000000] from rfl) (Reps.none _ _))))))))))))))))); intro v1265 w3 ho4 hb hg_ hnew_; clear hg_ hnew_; (first | rw [← Ny1264.out] at ho4 | (simp only [Int.reduceToNat] at ho4; rw [← Ny1264.out] at ho4)); have n_ := az (Kd.R_lower ho4 (kS HK.out)) <| az (IsS93.below (mI93_1 HI0.out) hb) <| az (KeepBut.trans (mKp HK.out) (KeepBut.of_below hb g none) (.inl rfl)) <| z0 (below_step (mB93HI0 HB.out) hb); clear HI0 HK HB; obtain ⟨HO1266, HI0, HK, HB⟩ := n_; clear hb ho4; obtain ⟨Ao5, co5, eo5⟩ := Kd.R_slice HO1266.out; subst eo5) | ((with_reducible refine gate_callee (f := 51) rfl ?_); refine goesL_ (some 5) rfl rfl Tryz.func51 (by kernel_rfl) rfl #[.pointer (some ⟨g, 0, none⟩), .slice Ao5 y1264.length co5] rfl argx ?_; (with_reducible refine (spec_l12Rd_num.calls k g s0_0 s0_1 _ _ y1264 t1267 t1268 w0 _ ?side1 ?side2 ?side3 ?side4 ?side5 A2.out).mono ?_); (case side1 => exact mI93_1 HI0.out); (case side2 => exact mB93HI0 HB.out); (case side3 => exact mC (Kd.R_reads' HO1266.out).2.2); (case side4 => exact (Kd.R_reads' HO1266.out).2.1); (case side5 => exact far_slice (IsS93.own_ne HI0.out HO1266.out (by decide))); rintro e w6 ⟨rfl, hi, hb, hk⟩; refine ⟨_, rfl, ?_⟩; have n_ := az (Kd.R_mono (Kd.R_keep (IsS93.apart (show IsS93 w0 _ g s0_0 s0_1 from mI93_1 HI0.out) (mR HO1266.out) (by decide)) hk (fun _ h => h.2)) (fun _ h => h.1)) <| az (KeepBut.trans (mKp HK.out) hk (.inl rfl)) <| az (hb) <| z0 (hi); clear HO1266 HK HB HI0; obtain ⟨HO1266, HK, HB, HI0⟩ := n_; clear hb hk hi))
 go_ret
 exact ⟨rfx, mI93_1 HI0.out, mB93HI0 HB.out, mKp HK.out⟩

end Go.Proofs.YtendbgedpjcocaaGreatDoor.B
namespace Go.Proofs.YtendbgedpjcocaaGreatDoor.B
open Go.RowKit Go.Proofs.YtendbgedpjcocaaGreatDoorW.PrintWords Go.Proofs.YtendbgedpjcocaaGreatDoorW.PrintLast Go.Proofs.YtendbgedpjcocaaGreatDoorW.PrintMore
attribute [local go_sem] max2_int min2_int max_two min_two max_three min_three max_four min_four   -- for this text's walks alone
set_option linter.unusedVariables false
set_option linter.unusedSimpArgs false

attribute [local go_sem high] eqA24
/-! ### spec_l10Reads: function 54 -/
mutual
def spec_l10Reads.l0 : Nat → Int → Int → Int → Int → Int → List (S27) → Int → Int → Option (Bool)
 | 0, _, _, _, _, _, _, _, _ => none
 | k + 1, x5, x1247000, x1247001, x1247002, x1247003, x1247004, x1248000, x1248001 => if x5 < (x1247004.length : Int) then (if 0 ≤ x5 then ((spec_l10Reads.f k ((rd_T27 x1247004 x5).f0) ((rd_T27 x1247004 x5).f1) ((rd_T27 x1247004 x5).f2.f0) ((rd_T27 x1247004 x5).f2.f1) ((rd_T27 x1247004 x5).f3) x1248000 x1248001).bind fun t1249 => (if t1249 = true then (some true) else (spec_l10Reads.l0 k (wrap64 (x5 + 1)) x1247000 x1247001 x1247002 x1247003 x1247004 x1248000 x1248001))) else (none)) else (some false)
def spec_l10Reads.f : Nat → Int → Int → Int → Int → List (S27) → Int → Int → Option (Bool)
 | 0, _, _, _, _, _, _, _ => none
 | k + 1, a0_0, a0_1, a0_2, a0_3, l0_4, a1_0, a1_1 => if a0_0 = 2 then (some (a0_2 == a1_0 && (a0_3 == a1_1))) else (spec_l10Reads.l0 k 0 a0_0 a0_1 a0_2 a0_3 l0_4 a1_0 a1_1)
end
theorem spec_l10Reads.mono_l : ∀ k, (∀ y0 y1 y2 y3 y4 y5 y6, LeO (spec_l10Reads.f k y0 y1 y2 y3 y4 y5 y6) (spec_l10Reads.f (k + 1) y0 y1 y2 y3 y4 y5 y6)) ∧ (∀ y0 y1 y2 y3 y4 y5 y6 y7, LeO (spec_l10Reads.l0 k y0 y1 y2 y3 y4 y5 y6 y7) (spec_l10Reads.l0 (k + 1) y0 y1 y2 y3 y4 y5 y6 y7))
 | 0 => ⟨fun _ _ _ _ _ _ _ r h => by simp [spec_l10Reads.f] at h, fun _ _ _ _ _ _ _ _ r h => by simp [spec_l10Reads.l0] at h⟩
 | k + 1 => by
  obtain ⟨ih0, ih1⟩ := spec_l10Reads.mono_l k
  refine ⟨?_, ?_⟩
  ·intro y0 y1 y2 y3 y4 y5 y6
   unfold spec_l10Reads.f
   repeat' first
   | (with_reducible exact ih0 _ _ _ _ _ _ _)
   | (with_reducible exact ih1 _ _ _ _ _ _ _ _)
   | (with_reducible exact LeO.refl _)
   | (with_reducible exact LeO.none _)
   | (with_reducible refine LeO.ite ?_ ?_)
   | (with_reducible refine LeO.bind ?_ (fun _ => ?_))
   | exact ih0 _ _ _ _ _ _ _
   | exact ih1 _ _ _ _ _ _ _ _
   | exact LeO.none _
   | refine LeO.ite ?_ ?_
   | refine LeO.bind ?_ (fun _ => ?_)
  ·intro y0 y1 y2 y3 y4 y5 y6 y7
   unfold spec_l10Reads.l0
   repeat' first
   | (with_reducible exact ih0 _ _ _ _ _ _ _)
   | (with_reducible exact ih1 _ _ _ _ _ _ _ _)
   | (with_reducible exact LeO.refl _)
   | (with_reducible exact LeO.none _)
   | (with_reducible refine LeO.ite ?_ ?_)
   | (with_reducible refine LeO.bind ?_ (fun _ => ?_))
   | exact ih0 _ _ _ _ _ _ _
   | exact ih1 _ _ _ _ _ _ _ _
   | exact LeO.none _
   | refine LeO.ite ?_ ?_
   | refine LeO.bind ?_ (fun _ => ?_)
set_option maxHeartbeats 8000000 in
set_option maxRecDepth 100000 in
theorem spec_l10Reads.calls (k : Nat) : ∀ (a0_0 : Int) (a0_1 : Int) (a0_2 : Int) (a0_3 : Int) (A0_4 : Option Addr) (c0_4 : Nat) (l0_4 : List (S27)) (a1_0 : Int) (a1_1 : Int) (r : Bool) (w : World) (hr0_4 : Kd.C k27 w A0_4 l0_4.length l0_4) (hc0_4 : l0_4.length ≤ c0_4) (h : spec_l10Reads.f k a0_0 a0_1 a0_2 a0_3 l0_4 a1_0 a1_1 = some r),
  Calls Tryz.prog 54 #[.agg #[.int .i64 a0_0, .int .i64 a0_1, .int .i64 a0_2, .int .i64 a0_3, .slice A0_4 l0_4.length c0_4], .agg #[.int .i64 a1_0, .int .i64 a1_1]] w fun e w' => e = .returned (.bool r) ∧ Below w.heap.size w w' := by
 induction k using Nat.strongRecOn with
 | _ k ih =>
 intro a0_0 a0_1 a0_2 a0_3 A0_4 c0_4 l0_4 a1_0 a1_1 r w hr0_4 hc0_4 h
 cases k with
 | zero => exact absurd h (by simp [spec_l10Reads.f])
 | succ k =>
 simp only [spec_l10Reads.f] at h
 have hu27 := Tryz.underlying27
 have hu24 := Tryz.underlying24
 have HR0_4 := z0 hr0_4
 have HC0_4 := z0 hc0_4
 clear hr0_4 hc0_4
 have HB := z0 (Below.refl w.heap.size w)
 have H : (if a0_0 = 2 then (some (a0_2 == a1_0 && (a0_3 == a1_1))) else (spec_l10Reads.l0 k 0 a0_0 a0_1 a0_2 a0_3 l0_4 a1_0 a1_1)) = some r := h
 clear h
 have HF3 := z0 H
 clear H
 go_enter Tryz.func54, Tryz.ntmps54
 go_upto_if 8 with (first | ((with_reducible refine gate_dst (N := 2) rfl ?_); refine box_event ?hg (N := 2) ?hd (cs := #[.int .i64 a0_0, .int .i64 a0_1, .int .i64 a0_2, .int .i64 a0_3, .slice A0_4 l0_4.length c0_4]) (t := 27) ?hr ?_; (case hd => rfl); (case hg => rfl); (case hr => first | (go_simp; done) | (go_simp; rfl)); intro gb1246 hg w4 hbox hb; have n_ := az (below_step (mB HB.out) hb) <| az (hbox) <| az ((by rw [hg]; exact (below_size (mB HB.out)) : w.heap.size ≤ gb1246)) <| z0 ((by rw [hg]; exact (below_size (mB HB.out)) : w.heap.size ≤ gb1246)); clear HB; obtain ⟨HB, BK1246, GW1246, GE1246⟩ := n_; clear hb hbox hg) | ((with_reducible refine gate_dst (N := 3) rfl ?_); refine box_event ?hg (N := 3) ?hd (cs := #[.int .i64 a1_0, .int .i64 a1_1]) (t := 24) ?hr ?_; (case hd => rfl); (case hg => rfl); (case hr => first | (go_simp; done) | (go_simp; rfl)); intro gb1247 hg w5 hbox hb; have n_ := az (bB BK1246.out hb) <| az (below_step (mB HB.out) hb) <| az (hbox) <| az ((by rw [hg]; exact (below_size (mB HB.out)) : w.heap.size ≤ gb1247)) <| az ((by rw [hg]; exact (below_size (mB HB.out)) : w.heap.size ≤ gb1247)) <| az ((nL hg BK1246.out)) <| z0 ((nG hg BK1246.out)); clear BK1246 HB; obtain ⟨BK1246, HB, BK1247, GW1247, GE1247, NB1246_1247, NB1247_1246⟩ := n_; clear hb hbox hg; have hnb6 := NB1246_1247.out; have hnc6 := NB1247_1246.out; obtain ⟨hcz7_0, hcz7_1, hcz7_2, hcz7_3, hcz7_4, hfz7_0, hfz7_1, hfz7_2, hfz7_3, hfz7_4⟩ := cel5 BK1246.out))
 (try simp only [Act.put, List.setIfInBounds_toArray, List.set_cons_zero, List.set_cons_succ])
 have H := HF3.out
 clear HF3
 (try clear hcz7_0); (try clear hcz7_1); (try clear hcz7_2); (try clear hcz7_3); (try clear hcz7_4); (try clear hfz7_0); (try clear hfz7_1); (try clear hfz7_2); (try clear hfz7_3); (try clear hfz7_4)
 by_cases c8 : a0_0 = 2
 ·rw [if_pos c8] at H
  have c8b0 : (a0_0 == 2) = true := beq_iff_eq.mpr c8
  have c8b1 : (a0_0 != 2) = false := bne_eq_false_iff_eq.mpr c8
  clear c8
  (first | rw [c8b0] | (simp only [i64_w, i32_w]; rw [c8b0]) | skip)
  obtain rfl := Option.some.inj H
  have hnb9 := NB1246_1247.out
  have hnc9 := NB1247_1246.out
  obtain ⟨hcz10_0, hcz10_1, hcz10_2, hcz10_3, hcz10_4, hfz10_0, hfz10_1, hfz10_2, hfz10_3, hfz10_4⟩ := cel5 BK1246.out
  obtain ⟨hcz11_0, hcz11_1, hfz11_0, hfz11_1⟩ := cel2 BK1247.out
  go_wp2
  go_ret
  exact ⟨rfx, mB HB.out⟩
 ·rw [if_neg c8] at H
  have c8b0 : (a0_0 == 2) = false := beq_eq_false_iff_ne.mpr c8
  have c8b1 : (a0_0 != 2) = true := bne_iff_ne.mpr c8
  (first | rw [c8b0] | (simp only [i64_w, i32_w]; rw [c8b0]) | skip)
  have H' := z0 H
  clear H
  go_wp2
  go_loopg [5] k (fun kq v5 w' => ∃ (x5_1 : Int), v5 = .int .i64 x5_1 ∧ Aside0 (spec_l10Reads.l0 kq x5_1 a0_0 a0_1 a0_2 a0_3 l0_4 a1_0 a1_1 = some r) ∧ Aside0 (kq ≤ k) ∧ Aside0 (w'.heap[gb1246]? = some (.cells #[.int .i64 a0_0, .int .i64 a0_1, .int .i64 a0_2, .int .i64 a0_3, (.slice A0_4 l0_4.length c0_4)] 27 (0, 0))) ∧ Aside0 (w'.heap[gb1247]? = some (.cells #[.int .i64 a1_0, .int .i64 a1_1] 24 (0, 0))) ∧ Aside0 (Below w.heap.size w w'))
  case atStart => exact ⟨(0), rfy, H', ⟨Nat.le_refl _⟩, ⟨mK BK1246.out⟩, ⟨mK BK1247.out⟩, ⟨mB HB.out⟩⟩
  case round =>
   clear H'
   (try clear c8); (try clear c8b0); (try clear c8b1); (try clear hcz10_0); (try clear hcz10_1); (try clear hcz10_2); (try clear hcz10_3); (try clear hcz10_4); (try clear hcz11_0); (try clear hcz11_1); (try clear hcz7_0); (try clear hcz7_1); (try clear hcz7_2); (try clear hcz7_3); (try clear hcz7_4); (try clear hfz10_0); (try clear hfz10_1); (try clear hfz10_2); (try clear hfz10_3); (try clear hfz10_4); (try clear hfz11_0); (try clear hfz11_1); (try clear hfz7_0); (try clear hfz7_1); (try clear hfz7_2); (try clear hfz7_3); (try clear hfz7_4)
   obtain ⟨x5_1, rfl, HA, HK1, BK1246, BK1247, HB⟩ := hrel
   cases gk with
   | zero => exact absurd HA.out (by simp [spec_l10Reads.l0])
   | succ k1 =>
    have H := HA.out
    clear HA
    simp only [spec_l10Reads.l0] at H
    by_cases c12 : x5_1 < (l0_4.length : Int)
    ·rw [if_pos c12] at H
     have c12b0 : decide (x5_1 < (l0_4.length : Int)) = true := decide_eq_true c12
     clear c12
     by_cases c13 : 0 ≤ x5_1
     ·rw [if_pos c13] at H
      have c13b0 : decide (0 ≤ x5_1) = true := decide_eq_true c13
      clear c13
      replace H := Option.bind_eq_some_iff.mp H
      obtain ⟨t1249, A140, H⟩ := H
      try dsimp only at H
      have A14 := z0 A140
      clear A140
      have HF15 := z0 H
      clear H
      have hnb16 := NB1246_1247.out
      have hnc16 := NB1247_1246.out
      obtain ⟨hcz17_0, hcz17_1, hcz17_2, hcz17_3, hcz17_4, hfz17_0, hfz17_1, hfz17_2, hfz17_3, hfz17_4⟩ := cel5 BK1246.out
      try go_wp2
      have n_ := az (blk_drew BK1246.out) <| az (blk_drew BK1247.out) <| z0 (below_drew1 HB.out)
      clear BK1246 BK1247 HB
      obtain ⟨BK1246, BK1247, HB⟩ := n_
      have p1248 : 0 ≤ (x5_1 : Int) := of_decide_eq_true (by first | (with_reducible assumption) | assumption)
      have q1248 : x5_1 < (l0_4.length : Int) := of_decide_eq_true (by first | (with_reducible assumption) | assumption)
      obtain ⟨ad1248, A1248_4, c1248_4, e1248, hx1248_0, hx1248_1, hx1248_2, hx1248_3, hx1248_4, hl1248_4, hi1248_4⟩ := at_T27 HR0_4.out x5_1 p1248 q1248
      have hw1248_4 := hx1248_4
      have hw1248_3 := hx1248_3
      have hw1248_2 := hx1248_2
      have hw1248_1 := hx1248_1
      have hw1248_0 := hx1248_0
      cases e1248
      replace hx1248_0 := (HB.out.cell (World.block_lt_of_cell? w _ hx1248_0)).trans hx1248_0
      replace hx1248_1 := (HB.out.cell (World.block_lt_of_cell? w _ hx1248_1)).trans hx1248_1
      replace hx1248_2 := (HB.out.cell (World.block_lt_of_cell? w _ hx1248_2)).trans hx1248_2
      replace hx1248_3 := (HB.out.cell (World.block_lt_of_cell? w _ hx1248_3)).trans hx1248_3
      replace hx1248_4 := (HB.out.cell (World.block_lt_of_cell? w _ hx1248_4)).trans hx1248_4
      have HR1248_4 := z0 hi1248_4
      have HC1248_4 := z0 hl1248_4
      clear hi1248_4 hl1248_4
      replace p1248 := eq_true p1248
      replace q1248 := eq_true q1248
      refine start_ (n := 7) (S := fun w' => w'.cell? ⟨gb1246, 0, none⟩ = some (.int .i64 a0_0) ∧ w'.cell? ⟨gb1246, 1, none⟩ = some (.int .i64 a0_1) ∧ w'.cell? ⟨gb1246, 2, none⟩ = some (.int .i64 a0_2) ∧ w'.cell? ⟨gb1246, 3, none⟩ = some (.int .i64 a0_3) ∧ w'.cell? ⟨gb1246, 4, none⟩ = some (.slice (some ad1248) l0_4.length c0_4) ∧ w'.cell? ⟨gb1247, 0, none⟩ = some (.int .i64 a1_0) ∧ w'.cell? ⟨gb1247, 1, none⟩ = some (.int .i64 a1_1) ∧ w'.cell? (ad1248.add ((x5_1).toNat * 5)) = some (.int .i64 ((rd_T27 l0_4 x5_1).f0)) ∧ w'.cell? ⟨(ad1248.add ((x5_1).toNat * 5)).block, (ad1248.add ((x5_1).toNat * 5)).off + 1, none⟩ = some (.int .i64 ((rd_T27 l0_4 x5_1).f1)) ∧ w'.cell? ⟨(ad1248.add ((x5_1).toNat * 5)).block, (ad1248.add ((x5_1).toNat * 5)).off + 2, none⟩ = some (.int .i64 ((rd_T27 l0_4 x5_1).f2.f0)) ∧ w'.cell? ⟨(ad1248.add ((x5_1).toNat * 5)).block, (ad1248.add ((x5_1).toNat * 5)).off + 3, none⟩ = some (.int .i64 ((rd_T27 l0_4 x5_1).f2.f1)) ∧ w'.cell? ⟨(ad1248.add ((x5_1).toNat * 5)).block, (ad1248.add ((x5_1).toNat * 5)).off + 4, none⟩ = some (.slice A1248_4 ((rd_T27 l0_4 x5_1).f3).length c1248_4)) (ds := []) #[false, false, false, false, false, false, false] (by kernel_rfl) rfl rfl ⟨(blk_cell BK1246.out 0).trans rfl, (blk_cell BK1246.out 1).trans rfl, (blk_cell BK1246.out 2).trans rfl, (blk_cell BK1246.out 3).trans rfl, (blk_cell BK1246.out 4).trans rfl, (blk_cell BK1247.out 0).trans rfl, (blk_cell BK1247.out 1).trans rfl, ((HB.out.cell (World.block_lt_of_cell? w _ hw1248_0)).trans hw1248_0), ((HB.out.cell (World.block_lt_of_cell? w _ hw1248_1)).trans hw1248_1), ((HB.out.cell (World.block_lt_of_cell? w _ hw1248_2)).trans hw1248_2), ((HB.out.cell (World.block_lt_of_cell? w _ hw1248_3)).trans hw1248_3), ((HB.out.cell (World.block_lt_of_cell? w _ hw1248_4)).trans hw1248_4)⟩ (fun hHeld => ?_)
      generalize wr.drew = w18 at BK1246 BK1247 HB HR1248_4 hx1248_0 hx1248_1 hx1248_2 hx1248_3 hx1248_4 hHeld ⊢
      refine pure_ (i := 0) (N := some 20) (v := ?_) (a' := ?_) #[true, false, false, false, false, false, false] rfl rfl (by kernel_rfl) (fun _ _ _ h => h) (Or.inl ⟨by rfl, ?_⟩) ?_ ?_
      rotate_left
      ·intro w'
       go_simp
       with_reducible rfl
      rotate_left
      ·simp only [Act.put, List.setIfInBounds_toArray, List.set_cons_zero, List.set_cons_succ, i64_w, i32_w]
       rfl
      refine pure_ (i := 2) (N := some 22) (v := ?_) (a' := ?_) #[true, false, true, false, false, false, false] rfl rfl (by kernel_rfl) (fun _ _ _ h => h) (Or.inl ⟨by rfl, ?_⟩) ?_ ?_
      rotate_left
      ·intro w'
       go_simp
       with_reducible rfl
      rotate_left
      ·simp only [Act.put, List.setIfInBounds_toArray, List.set_cons_zero, List.set_cons_succ, i64_w, i32_w]
       rfl
      refine take_ (i := 1) (N := some 21) (v := ?_) (a' := ?_) #[true, true, true, false, false, false, false] rfl rfl (by kernel_rfl) (fun _ _ _ h => h) (Or.inl ⟨by rfl, ?_⟩) hHeld ?_ ?_
      rotate_left
      ·rintro w' ⟨s0, s1, s2, s3, s4, s5, s6, s7, s8, s9, s10, s11⟩
       go_simp
       with_reducible rfl
      rotate_left
      ·simp only [Act.put, List.setIfInBounds_toArray, List.set_cons_zero, List.set_cons_succ, i64_w, i32_w]
       rfl
      refine pure_ (i := 3) (N := some 23) (v := ?_) (a' := ?_) #[true, true, true, true, false, false, false] rfl rfl (by kernel_rfl) (fun _ _ _ h => h) (Or.inl ⟨by rfl, ?_⟩) ?_ ?_
      rotate_left
      ·intro w'
       go_simp
       with_reducible rfl
      rotate_left
      ·simp only [Act.put, List.setIfInBounds_toArray, List.set_cons_zero, List.set_cons_succ, i64_w, i32_w]
       rfl
      refine take_ (i := 4) (N := some 24) (v := ?_) (a' := ?_) #[true, true, true, true, true, false, false] rfl rfl (by kernel_rfl) (fun _ _ _ h => h) (Or.inl ⟨by rfl, ?_⟩) hHeld ?_ ?_
      rotate_left
      ·rintro w' ⟨s0, s1, s2, s3, s4, s5, s6, s7, s8, s9, s10, s11⟩
       go_simp
       with_reducible rfl
      rotate_left
      ·simp only [Act.put, List.setIfInBounds_toArray, List.set_cons_zero, List.set_cons_succ, i64_w, i32_w]
       rfl
      refine take_ (i := 5) (N := some 25) (v := ?_) (a' := ?_) #[true, true, true, true, true, true, false] rfl rfl (by kernel_rfl) (fun _ _ _ h => h) (Or.inl ⟨by rfl, ?_⟩) hHeld ?_ ?_
      rotate_left
      ·rintro w' ⟨s0, s1, s2, s3, s4, s5, s6, s7, s8, s9, s10, s11⟩
       go_simp
       with_reducible rfl
      rotate_left
      ·simp only [Act.put, List.setIfInBounds_toArray, List.set_cons_zero, List.set_cons_succ, i64_w, i32_w]
       rfl
      refine one_ (i := 6) (N := some 26) #[true, true, true, true, true, true, true] rfl rfl (by kernel_rfl) (by decide) (fun K hK => ?_)
      refine goes_ Tryz.func54 (by kernel_rfl) rfl #[.agg #[.int .i64 ((rd_T27 l0_4 x5_1).f0), .int .i64 ((rd_T27 l0_4 x5_1).f1), .int .i64 ((rd_T27 l0_4 x5_1).f2.f0), .int .i64 ((rd_T27 l0_4 x5_1).f2.f1), .slice A1248_4 ((rd_T27 l0_4 x5_1).f3).length c1248_4], .agg #[.int .i64 a1_0, .int .i64 a1_1]] (by rfl) rfl rfl argx ?_
      with_reducible refine (ih k1 (by have := HK1.out; omega) ((rd_T27 l0_4 x5_1).f0) ((rd_T27 l0_4 x5_1).f1) ((rd_T27 l0_4 x5_1).f2.f0) ((rd_T27 l0_4 x5_1).f2.f1) _ _ ((rd_T27 l0_4 x5_1).f3) a1_0 a1_1 t1249 _ ?side1 ?side2 A14.out).mono ?_
      (case side1 => exact mC (Kd.C_below HR1248_4.out HB.out))
      (case side2 => exact HC1248_4.out)
      rintro e w19 ⟨rfl, hb⟩
      refine ⟨_, rfl, ?_⟩
      have n_ := az (bB BK1246.out hb) <| az (bB BK1247.out hb) <| z0 (below_step (mB HB.out) hb)
      clear BK1246 BK1247 HB
      obtain ⟨BK1246, BK1247, HB⟩ := n_
      (try clear hb)
      (try clear hb2)
      (try clear hk)
      (try clear hi)
      refine hK.out _ _ ⟨(blk_cell BK1246.out 0).trans rfl, (blk_cell BK1246.out 1).trans rfl, (blk_cell BK1246.out 2).trans rfl, (blk_cell BK1246.out 3).trans rfl, (blk_cell BK1246.out 4).trans rfl, (blk_cell BK1247.out 0).trans rfl, (blk_cell BK1247.out 1).trans rfl, ((HB.out.cell (World.block_lt_of_cell? w _ hw1248_0)).trans hw1248_0), ((HB.out.cell (World.block_lt_of_cell? w _ hw1248_1)).trans hw1248_1), ((HB.out.cell (World.block_lt_of_cell? w _ hw1248_2)).trans hw1248_2), ((HB.out.cell (World.block_lt_of_cell? w _ hw1248_3)).trans hw1248_3), ((HB.out.cell (World.block_lt_of_cell? w _ hw1248_4)).trans hw1248_4)⟩ (fun hHeld => ?_)
      clear hK K
      refine norm_ (a' := ?_) ?_ ?_
      rotate_left
      ·show Act.put _ (some 26) _ = _
       simp only [Act.put, List.setIfInBounds_toArray, List.set_cons_zero, List.set_cons_succ, i64_w, i32_w]
       rfl
      refine done_ (by kernel_rfl) ?_
      go_upto_if 26 with (fail)
      have H := HF15.out
      clear HF15
      (try clear c8); (try clear c8b0); (try clear c8b1); (try clear c12); (try clear c12b0); (try clear c13); (try clear c13b0); (try clear hcz10_0); (try clear hcz10_1); (try clear hcz10_2); (try clear hcz10_3); (try clear hcz10_4); (try clear hcz11_0); (try clear hcz11_1); (try clear hcz17_0); (try clear hcz17_1); (try clear hcz17_2); (try clear hcz17_3); (try clear hcz17_4); (try clear hcz7_0); (try clear hcz7_1); (try clear hcz7_2); (try clear hcz7_3); (try clear hcz7_4); (try clear hfz10_0); (try clear hfz10_1); (try clear hfz10_2); (try clear hfz10_3); (try clear hfz10_4); (try clear hfz11_0); (try clear hfz11_1); (try clear hfz17_0); (try clear hfz17_1); (try clear hfz17_2); (try clear hfz17_3); (try clear hfz17_4); (try clear hfz7_0); (try clear hfz7_1); (try clear hfz7_2); (try clear hfz7_3); (try clear hfz7_4); (try clear hx1248_0); (try clear hx1248_1); (try clear hx1248_2); (try clear hx1248_3); (try clear hx1248_4); (try clear p1248); (try clear q1248)
      by_cases c20 : t1249 = true
      ·subst c20
       have H1 : (some true) = some r := by rw [if_pos rfl] at H; exact H
       clear H
       have H := H1
       clear H1
       obtain rfl := Option.some.inj H
       go_wp2
       go_ret
       exact ⟨rfx, mB HB.out⟩
      ·replace c20 := Bool.eq_false_iff.mpr c20
       subst c20
       have H1 : (spec_l10Reads.l0 k1 (wrap64 (x5_1 + 1)) a0_0 a0_1 a0_2 a0_3 l0_4 a1_0 a1_1) = some r := by rw [if_neg (show ¬ (false = true) by decide)] at H; exact H
       clear H
       have H := H1
       clear H1
       have H' := z0 H
       clear H
       go_wp2
       go_roundg k1
       case measure => have := HK1.out; omega
       case rel => exact ⟨(wrap64 (x5_1 + 1)), rfy, H', ⟨by have := HK1.out; omega⟩, ⟨mK BK1246.out⟩, ⟨mK BK1247.out⟩, ⟨mB HB.out⟩⟩
     ·rw [if_neg c13] at H
      exact absurd H (by simp)
    ·rw [if_neg c12] at H
     have c12b0 : decide (x5_1 < (l0_4.length : Int)) = false := decide_eq_false c12
     clear c12
     obtain rfl := Option.some.inj H
     have hnb21 := NB1246_1247.out
     have hnc21 := NB1247_1246.out
     obtain ⟨hcz22_0, hcz22_1, hcz22_2, hcz22_3, hcz22_4, hfz22_0, hfz22_1, hfz22_2, hfz22_3, hfz22_4⟩ := cel5 BK1246.out
     go_wp2
     go_ret
     exact ⟨rfx, mB HB.out⟩

end Go.Proofs.YtendbgedpjcocaaGreatDoor.B
namespace Go.Proofs.YtendbgedpjcocaaGreatDoor.B
open Go.RowKit Go.Proofs.YtendbgedpjcocaaGreatDoorW.PrintWords Go.Proofs.YtendbgedpjcocaaGreatDoorW.PrintLast Go.Proofs.YtendbgedpjcocaaGreatDoorW.PrintMore
attribute [local go_sem] max2_int min2_int max_two min_two max_three min_three max_four min_four   -- for this text's walks alone
set_option linter.unusedVariables false
set_option linter.unusedSimpArgs false

/-! ### spec_SlimReads: function 27 -/
def spec_SlimReads.f (k : Nat) (a0_0 : Int) (a0_1 : Int) (a0_2 : Int) (a0_3 : Int) (l0_4 : List (S27)) (a1_0 : Int) (a1_1 : Int) : Option (Bool) := (spec_ExprOk.f k a0_0 a0_1 a0_2 a0_3 l0_4).bind fun t1252 => (if t1252 = true then ((spec_l10Reads.f k a0_0 a0_1 a0_2 a0_3 l0_4 a1_0 a1_1).bind fun t1253 => (some t1253)) else (some false))
set_option maxHeartbeats 8000000 in
set_option maxRecDepth 100000 in
theorem spec_SlimReads.calls (k : Nat) (a0_0 : Int) (a0_1 : Int) (a0_2 : Int) (a0_3 : Int) (A0_4 : Option Addr) (c0_4 : Nat) (l0_4 : List (S27)) (a1_0 : Int) (a1_1 : Int) (r : Bool) (w : World) (hr0_4 : Kd.C k27 w A0_4 l0_4.length l0_4) (hc0_4 : l0_4.length ≤ c0_4) (h : spec_SlimReads.f k a0_0 a0_1 a0_2 a0_3 l0_4 a1_0 a1_1 = some r) :
  Calls Tryz.prog 27 #[.agg #[.int .i64 a0_0, .int .i64 a0_1, .int .i64 a0_2, .int .i64 a0_3, .slice A0_4 l0_4.length c0_4], .agg #[.int .i64 a1_0, .int .i64 a1_1]] w fun e w' => e = .returned (.bool r) ∧ Below w.heap.size w w' := by
 have hu27 := Tryz.underlying27
 have hu24 := Tryz.underlying24
 have HR0_4 := z0 hr0_4
 have HC0_4 := z0 hc0_4
 clear hr0_4 hc0_4
 have HB := z0 (Below.refl w.heap.size w)
 have H : ((spec_ExprOk.f k a0_0 a0_1 a0_2 a0_3 l0_4).bind fun t1252 => (if t1252 = true then ((spec_l10Reads.f k a0_0 a0_1 a0_2 a0_3 l0_4 a1_0 a1_1).bind fun t1253 => (some t1253)) else (some false))) = some r := h
 clear h
 have HF3 := z0 H
 clear H
 go_enter Tryz.func27, Tryz.ntmps27
 go_upto_region 1 with (first | ((with_reducible refine gate_dst (N := 2) rfl ?_); refine box_event ?hg (N := 2) ?hd (cs := #[.int .i64 a0_0, .int .i64 a0_1, .int .i64 a0_2, .int .i64 a0_3, .slice A0_4 l0_4.length c0_4]) (t := 27) ?hr ?_; (case hd => rfl); (case hg => rfl); (case hr => first | (go_simp; done) | (go_simp; rfl)); intro gb1250 hg w4 hbox hb; have n_ := az (below_step (mB HB.out) hb) <| az (hbox) <| az ((by rw [hg]; exact (below_size (mB HB.out)) : w.heap.size ≤ gb1250)) <| z0 ((by rw [hg]; exact (below_size (mB HB.out)) : w.heap.size ≤ gb1250)); clear HB; obtain ⟨HB, BK1250, GW1250, GE1250⟩ := n_; clear hb hbox hg) | ((with_reducible refine gate_dst (N := 3) rfl ?_); refine box_event ?hg (N := 3) ?hd (cs := #[.int .i64 a1_0, .int .i64 a1_1]) (t := 24) ?hr ?_; (case hd => rfl); (case hg => rfl); (case hr => first | (go_simp; done) | (go_simp; rfl)); intro gb1251 hg w5 hbox hb; have n_ := az (bB BK1250.out hb) <| az (below_step (mB HB.out) hb) <| az (hbox) <| az ((by rw [hg]; exact (below_size (mB HB.out)) : w.heap.size ≤ gb1251)) <| az ((by rw [hg]; exact (below_size (mB HB.out)) : w.heap.size ≤ gb1251)) <| az ((nL hg BK1250.out)) <| z0 ((nG hg BK1250.out)); clear BK1250 HB; obtain ⟨BK1250, HB, BK1251, GW1251, GE1251, NB1250_1251, NB1251_1250⟩ := n_; clear hb hbox hg))
 (try simp only [Act.put, List.setIfInBounds_toArray, List.set_cons_zero, List.set_cons_succ])
 have H := HF3.out
 clear HF3
 try clear c2
 replace H := Option.bind_eq_some_iff.mp H
 obtain ⟨t1252, A60, H⟩ := H
 try dsimp only at H
 have A6 := z0 A60
 clear A60
 by_cases c7 : t1252 = true
 ·subst c7
  have H1 : ((spec_l10Reads.f k a0_0 a0_1 a0_2 a0_3 l0_4 a1_0 a1_1).bind fun t1253 => (some t1253)) = some r := by rw [if_pos rfl] at H; exact H
  clear H
  have H := H1
  clear H1
  replace H := Option.bind_eq_some_iff.mp H
  obtain ⟨t1253, A80, H⟩ := H
  try dsimp only at H
  have A8 := z0 A80
  clear A80
  obtain rfl := Option.some.inj H
  have hnb9 := NB1250_1251.out
  have hnc9 := NB1251_1250.out
  obtain ⟨hcz10_0, hcz10_1, hcz10_2, hcz10_3, hcz10_4, hfz10_0, hfz10_1, hfz10_2, hfz10_3, hfz10_4⟩ := cel5 BK1250.out
  go_wp2_with (first | ((with_reducible refine gate_callee (f := 30) rfl ?_); refine goesL_ (some 6) rfl rfl Tryz.func30 (by kernel_rfl) rfl #[.agg #[.int .i64 a0_0, .int .i64 a0_1, .int .i64 a0_2, .int .i64 a0_3, .slice A0_4 l0_4.length c0_4]] rfl argx ?_; (with_reducible refine (spec_ExprOk.calls k a0_0 a0_1 a0_2 a0_3 _ _ l0_4 true _ ?side1 ?side2 A6.out).mono ?_); (case side1 => exact mC (Kd.C_below HR0_4.out HB.out)); (case side2 => exact HC0_4.out); rintro e w11 ⟨rfl, hb⟩; refine ⟨_, rfl, ?_⟩; have n_ := az (bB BK1250.out hb) <| az (bB BK1251.out hb) <| z0 (below_step (mB HB.out) hb); clear BK1250 BK1251 HB; obtain ⟨BK1250, BK1251, HB⟩ := n_; clear hb; obtain ⟨hcz12_0, hcz12_1, hcz12_2, hcz12_3, hcz12_4, hfz12_0, hfz12_1, hfz12_2, hfz12_3, hfz12_4⟩ := cel5 BK1250.out; obtain ⟨hcz13_0, hcz13_1, hfz13_0, hfz13_1⟩ := cel2 BK1251.out) | (go_at_call 54; (with_reducible refine (spec_l10Reads.calls k a0_0 a0_1 a0_2 a0_3 _ _ l0_4 a1_0 a1_1 t1253 _ ?side1 ?side2 A8.out).mono ?_); (case side1 => exact mC (Kd.C_below HR0_4.out HB.out)); (case side2 => exact HC0_4.out); rintro e w14 ⟨rfl, hb⟩; have n_ := az (bB BK1250.out hb) <| az (bB BK1251.out hb) <| z0 (below_step (mB HB.out) hb); clear BK1250 BK1251 HB; obtain ⟨BK1250, BK1251, HB⟩ := n_; clear hb))
  go_ret
  exact ⟨rfx, mB HB.out⟩
 ·replace c7 := Bool.eq_false_iff.mpr c7
  subst c7
  have H1 : (some false) = some r := by rw [if_neg (show ¬ (false = true) by decide)] at H; exact H
  clear H
  have H := H1
  clear H1
  obtain rfl := Option.some.inj H
  have hnb15 := NB1250_1251.out
  have hnc15 := NB1251_1250.out
  obtain ⟨hcz16_0, hcz16_1, hcz16_2, hcz16_3, hcz16_4, hfz16_0, hfz16_1, hfz16_2, hfz16_3, hfz16_4⟩ := cel5 BK1250.out
  go_wp2_with (first | ((with_reducible refine gate_callee (f := 30) rfl ?_); refine goesL_ (some 6) rfl rfl Tryz.func30 (by kernel_rfl) rfl #[.agg #[.int .i64 a0_0, .int .i64 a0_1, .int .i64 a0_2, .int .i64 a0_3, .slice A0_4 l0_4.length c0_4]] rfl argx ?_; (with_reducible refine (spec_ExprOk.calls k a0_0 a0_1 a0_2 a0_3 _ _ l0_4 false _ ?side1 ?side2 A6.out).mono ?_); (case side1 => exact mC (Kd.C_below HR0_4.out HB.out)); (case side2 => exact HC0_4.out); rintro e w17 ⟨rfl, hb⟩; refine ⟨_, rfl, ?_⟩; have n_ := az (bB BK1250.out hb) <| az (bB BK1251.out hb) <| z0 (below_step (mB HB.out) hb); clear BK1250 BK1251 HB; obtain ⟨BK1250, BK1251, HB⟩ := n_; clear hb))
  go_ret
  exact ⟨rfx, mB HB.out⟩

end Go.Proofs.YtendbgedpjcocaaGreatDoor.B
namespace Go.Proofs.YtendbgedpjcocaaGreatDoor.B
open Go.RowKit Go.Proofs.YtendbgedpjcocaaGreatDoorW.PrintWords Go.Proofs.YtendbgedpjcocaaGreatDoorW.PrintLast Go.Proofs.YtendbgedpjcocaaGreatDoorW.PrintMore
attribute [local go_sem] max2_int min2_int max_two min_two max_three min_three max_four min_four   -- for this text's walks alone
set_option linter.unusedVariables false
set_option linter.unusedSimpArgs false

attribute [local go_sem high] eqA24
/-! ### spec_l10Writes: function 55 -/
mutual
def spec_l10Writes.l0 : Nat → List (S35) → Int → Int → Int → Option (Bool)
 | 0, _, _, _, _ => none
 | k + 1, x0, x5, x1255000, x1255001 => if x5 < (x0.length : Int) then (if 0 ≤ x5 then (if ((rd_T35 x0 x5).f0) = 1 then (if (((rd_T35 x0 x5).f1.f0) == x1255000 && (((rd_T35 x0 x5).f1.f1) == x1255001)) = true then (some true) else ((spec_l10Writes.f k ((rd_T35 x0 x5).f3) x1255000 x1255001).bind fun t1257 => (if t1257 = true then (some true) else ((spec_l10Writes.f k ((rd_T35 x0 x5).f4) x1255000 x1255001).bind fun t1258 => (if t1258 = true then (some true) else (spec_l10Writes.l0 k x0 (wrap64 (x5 + 1)) x1255000 x1255001)))))) else ((spec_l10Writes.f k ((rd_T35 x0 x5).f3) x1255000 x1255001).bind fun t1259 => (if t1259 = true then (some true) else ((spec_l10Writes.f k ((rd_T35 x0 x5).f4) x1255000 x1255001).bind fun t1260 => (if t1260 = true then (some true) else (spec_l10Writes.l0 k x0 (wrap64 (x5 + 1)) x1255000 x1255001)))))) else (none)) else (some false)
def spec_l10Writes.f : Nat → List (S35) → Int → Int → Option (Bool)
 | 0, _, _, _ => none
 | k + 1, l0, a1_0, a1_1 => spec_l10Writes.l0 k l0 0 a1_0 a1_1
end
theorem q55_1 {p : Prop} (h : p := by (with_reducible repeat (first | refine blk_drewN ?_ _ | refine blk_drew ?_ | refine blk_alloc ?_ _)); refine blk_put (cs := #[.int .i64 ((rd_T35 l0 x5_1).f0), .int .i64 ((rd_T35 l0 x5_1).f1.f0), .int .i64 ((rd_T35 l0 x5_1).f1.f1), .int .i64 ((rd_T35 l0 x5_1).f2.f0), .int .i64 ((rd_T35 l0 x5_1).f2.f1), .int .i64 ((rd_T35 l0 x5_1).f2.f2.f0), .int .i64 ((rd_T35 l0 x5_1).f2.f2.f1), .slice A1255_7 ((rd_T35 l0 x5_1).f2.f3).length c1255_7, .slice A1255_8 ((rd_T35 l0 x5_1).f3).length c1255_8, .slice none 0 0]) ?_ 9 _ rfl; (with_reducible repeat (first | refine blk_drewN ?_ _ | refine blk_drew ?_ | refine blk_alloc ?_ _)); refine blk_put (cs := #[.int .i64 ((rd_T35 l0 x5_1).f0), .int .i64 ((rd_T35 l0 x5_1).f1.f0), .int .i64 ((rd_T35 l0 x5_1).f1.f1), .int .i64 ((rd_T35 l0 x5_1).f2.f0), .int .i64 ((rd_T35 l0 x5_1).f2.f1), .int .i64 ((rd_T35 l0 x5_1).f2.f2.f0), .int .i64 ((rd_T35 l0 x5_1).f2.f2.f1), .slice A1255_7 ((rd_T35 l0 x5_1).f2.f3).length c1255_7, .slice none 0 0, .slice none 0 0]) ?_ 8 _ rfl; (with_reducible repeat (first | refine blk_drewN ?_ _ | refine blk_drew ?_ | refine blk_alloc ?_ _)); refine blk_put (cs := #[.int .i64 ((rd_T35 l0 x5_1).f0), .int .i64 ((rd_T35 l0 x5_1).f1.f0), .int .i64 ((rd_T35 l0 x5_1).f1.f1), .int .i64 ((rd_T35 l0 x5_1).f2.f0), .int .i64 ((rd_T35 l0 x5_1).f2.f1), .int .i64 ((rd_T35 l0 x5_1).f2.f2.f0), .int .i64 ((rd_T35 l0 x5_1).f2.f2.f1), .slice none 0 0, .slice none 0 0, .slice none 0 0]) ?_ 7 _ rfl; (with_reducible repeat (first | refine blk_drewN ?_ _ | refine blk_drew ?_ | refine blk_alloc ?_ _)); refine blk_put (cs := #[.int .i64 ((rd_T35 l0 x5_1).f0), .int .i64 ((rd_T35 l0 x5_1).f1.f0), .int .i64 ((rd_T35 l0 x5_1).f1.f1), .int .i64 ((rd_T35 l0 x5_1).f2.f0), .int .i64 ((rd_T35 l0 x5_1).f2.f1), .int .i64 ((rd_T35 l0 x5_1).f2.f2.f0), .int .i64 0, .slice none 0 0, .slice none 0 0, .slice none 0 0]) ?_ 6 _ rfl; (with_reducible repeat (first | refine blk_drewN ?_ _ | refine blk_drew ?_ | refine blk_alloc ?_ _)); refine blk_put (cs := #[.int .i64 ((rd_T35 l0 x5_1).f0), .int .i64 ((rd_T35 l0 x5_1).f1.f0), .int .i64 ((rd_T35 l0 x5_1).f1.f1), .int .i64 ((rd_T35 l0 x5_1).f2.f0), .int .i64 ((rd_T35 l0 x5_1).f2.f1), .int .i64 0, .int .i64 0, .slice none 0 0, .slice none 0 0, .slice none 0 0]) ?_ 5 _ rfl; (with_reducible repeat (first | refine blk_drewN ?_ _ | refine blk_drew ?_ | refine blk_alloc ?_ _)); refine blk_put (cs := #[.int .i64 ((rd_T35 l0 x5_1).f0), .int .i64 ((rd_T35 l0 x5_1).f1.f0), .int .i64 ((rd_T35 l0 x5_1).f1.f1), .int .i64 ((rd_T35 l0 x5_1).f2.f0), .int .i64 0, .int .i64 0, .int .i64 0, .slice none 0 0, .slice none 0 0, .slice none 0 0]) ?_ 4 _ rfl; (with_reducible repeat (first | refine blk_drewN ?_ _ | refine blk_drew ?_ | refine blk_alloc ?_ _)); refine blk_put (cs := #[.int .i64 ((rd_T35 l0 x5_1).f0), .int .i64 ((rd_T35 l0 x5_1).f1.f0), .int .i64 ((rd_T35 l0 x5_1).f1.f1), .int .i64 0, .int .i64 0, .int .i64 0, .int .i64 0, .slice none 0 0, .slice none 0 0, .slice none 0 0]) ?_ 3 _ rfl; (with_reducible repeat (first | refine blk_drewN ?_ _ | refine blk_drew ?_ | refine blk_alloc ?_ _)); refine blk_put (cs := #[.int .i64 ((rd_T35 l0 x5_1).f0), .int .i64 ((rd_T35 l0 x5_1).f1.f0), .int .i64 0, .int .i64 0, .int .i64 0, .int .i64 0, .int .i64 0, .slice none 0 0, .slice none 0 0, .slice none 0 0]) ?_ 2 _ rfl; (with_reducible repeat (first | refine blk_drewN ?_ _ | refine blk_drew ?_ | refine blk_alloc ?_ _)); refine blk_put (cs := #[.int .i64 ((rd_T35 l0 x5_1).f0), .int .i64 0, .int .i64 0, .int .i64 0, .int .i64 0, .int .i64 0, .int .i64 0, .slice none 0 0, .slice none 0 0, .slice none 0 0]) ?_ 1 _ rfl; (with_reducible repeat (first | refine blk_drewN ?_ _ | refine blk_drew ?_ | refine blk_alloc ?_ _)); refine blk_put (cs := #[.int .i64 0, .int .i64 0, .int .i64 0, .int .i64 0, .int .i64 0, .int .i64 0, .int .i64 0, .slice none 0 0, .slice none 0 0, .slice none 0 0]) ?_ 0 _ rfl; (with_reducible repeat (first | refine blk_drewN ?_ _ | refine blk_drew ?_ | refine blk_alloc ?_ _)); exact BK1256.out) : p := h
set_option maxHeartbeats 8000000 in
set_option maxRecDepth 100000 in
theorem spec_l10Writes.calls (k : Nat) : ∀ (A0 : Option Addr) (c0 : Nat) (l0 : List (S35)) (a1_0 : Int) (a1_1 : Int) (r : Bool) (w : World) (hr0 : Kd.C k35 w A0 l0.length l0) (hc0 : l0.length ≤ c0) (h : spec_l10Writes.f k l0 a1_0 a1_1 = some r),
  Calls Tryz.prog 55 #[.slice A0 l0.length c0, .agg #[.int .i64 a1_0, .int .i64 a1_1]] w fun e w' => e = .returned (.bool r) ∧ Below w.heap.size w w' := by
 induction k using Nat.strongRecOn with
 | _ k ih =>
 intro A0 c0 l0 a1_0 a1_1 r w hr0 hc0 h
 cases k with
 | zero => exact absurd h (by simp [spec_l10Writes.f])
 | succ k =>
 simp only [spec_l10Writes.f] at h
 have hu24 := Tryz.underlying24
 have hu35 := Tryz.underlying35
 have HR0 := z0 hr0
 have HC0 := z0 hc0
 clear hr0 hc0
 have HB := z0 (Below.refl w.heap.size w)
 have H : (spec_l10Writes.l0 k l0 0 a1_0 a1_1) = some r := h
 clear h
 have H' := z0 H
 clear H
 go_enter Tryz.func55, Tryz.ntmps55
 go_wp2_with (first | ((with_reducible refine gate_dst (N := 3) rfl ?_); refine box_event ?hg (N := 3) ?hd (cs := #[.int .i64 a1_0, .int .i64 a1_1]) (t := 24) ?hr ?_; (case hd => rfl); (case hg => rfl); (case hr => first | (go_simp; done) | (go_simp; rfl)); intro gb1254 hg w3 hbox hb; have n_ := az (below_step (mB HB.out) hb) <| az (hbox) <| az ((by rw [hg]; exact (below_size (mB HB.out)) : w.heap.size ≤ gb1254)) <| z0 ((by rw [hg]; exact (below_size (mB HB.out)) : w.heap.size ≤ gb1254)); clear HB; obtain ⟨HB, BK1254, GW1254, GE1254⟩ := n_; clear hb hbox hg))
 go_loopg [5] k (fun kq v5 w' => ∃ (x5_1 : Int), v5 = .int .i64 x5_1 ∧ Aside0 (spec_l10Writes.l0 kq l0 x5_1 a1_0 a1_1 = some r) ∧ Aside0 (kq ≤ k) ∧ Aside0 (w'.heap[gb1254]? = some (.cells #[.int .i64 a1_0, .int .i64 a1_1] 24 (0, 0))) ∧ Aside0 (Below w.heap.size w w'))
 case atStart => exact ⟨(0), rfy, H', ⟨Nat.le_refl _⟩, ⟨mK BK1254.out⟩, ⟨mB HB.out⟩⟩
 case round =>
  clear H'
  try clear p2
  obtain ⟨x5_1, rfl, HA, HK1, BK1254, HB⟩ := hrel
  cases gk with
  | zero => exact absurd HA.out (by simp [spec_l10Writes.l0])
  | succ k1 =>
   have H := HA.out
   clear HA
   simp only [spec_l10Writes.l0] at H
   by_cases c4 : x5_1 < (l0.length : Int)
   ·rw [if_pos c4] at H
    have c4b0 : decide (x5_1 < (l0.length : Int)) = true := decide_eq_true c4
    clear c4
    by_cases c5 : 0 ≤ x5_1
    ·rw [if_pos c5] at H
     have c5b0 : decide (0 ≤ x5_1) = true := decide_eq_true c5
     clear c5
     have HF6 := z0 H
     clear H
     have p1255 : 0 ≤ (x5_1 : Int) := of_decide_eq_true (by first | (with_reducible assumption) | assumption)
     have q1255 : x5_1 < (l0.length : Int) := of_decide_eq_true (by first | (with_reducible assumption) | assumption)
     obtain ⟨ad1255, A1255_7, c1255_7, A1255_8, c1255_8, A1255_9, c1255_9, e1255, hx1255_0, hx1255_1, hx1255_2, hx1255_3, hx1255_4, hx1255_5, hx1255_6, hx1255_7, hx1255_8, hx1255_9, hl1255_7, hi1255_7, hl1255_8, hi1255_8, hl1255_9, hi1255_9⟩ := at_T35 HR0.out x5_1 p1255 q1255
     cases e1255
     replace hx1255_0 := (HB.out.cell (World.block_lt_of_cell? w _ hx1255_0)).trans hx1255_0
     replace hx1255_1 := (HB.out.cell (World.block_lt_of_cell? w _ hx1255_1)).trans hx1255_1
     replace hx1255_2 := (HB.out.cell (World.block_lt_of_cell? w _ hx1255_2)).trans hx1255_2
     replace hx1255_3 := (HB.out.cell (World.block_lt_of_cell? w _ hx1255_3)).trans hx1255_3
     replace hx1255_4 := (HB.out.cell (World.block_lt_of_cell? w _ hx1255_4)).trans hx1255_4
     replace hx1255_5 := (HB.out.cell (World.block_lt_of_cell? w _ hx1255_5)).trans hx1255_5
     replace hx1255_6 := (HB.out.cell (World.block_lt_of_cell? w _ hx1255_6)).trans hx1255_6
     replace hx1255_7 := (HB.out.cell (World.block_lt_of_cell? w _ hx1255_7)).trans hx1255_7
     replace hx1255_8 := (HB.out.cell (World.block_lt_of_cell? w _ hx1255_8)).trans hx1255_8
     replace hx1255_9 := (HB.out.cell (World.block_lt_of_cell? w _ hx1255_9)).trans hx1255_9
     have HR1255_7 := z0 hi1255_7
     have HC1255_7 := z0 hl1255_7
     clear hi1255_7 hl1255_7
     have HR1255_8 := z0 hi1255_8
     have HC1255_8 := z0 hl1255_8
     clear hi1255_8 hl1255_8
     have HR1255_9 := z0 hi1255_9
     have HC1255_9 := z0 hl1255_9
     clear hi1255_9 hl1255_9
     replace p1255 := eq_true p1255
     replace q1255 := eq_true q1255
     go_upto_region 5 with (first | ((with_reducible refine gate_dst (N := 6) rfl ?_); refine box_event ?hg (N := 6) ?hd (cs := #[.int .i64 0, .int .i64 0, .int .i64 0, .int .i64 0, .int .i64 0, .int .i64 0, .int .i64 0, .slice none 0 0, .slice none 0 0, .slice none 0 0]) (t := 35) ?hr ?_; (case hd => rfl); (case hg => rfl); (case hr => first | (go_simp; done) | (go_simp; rfl)); intro gb1256 hg w7 hbox hb; have n_ := az (bB BK1254.out hb) <| az (below_step (mB HB.out) hb) <| az (hbox) <| az ((by rw [hg]; exact (below_size (mB HB.out)) : w.heap.size ≤ gb1256)) <| az ((by rw [hg]; exact (below_size (mB HB.out)) : w.heap.size ≤ gb1256)) <| az ((nL hg BK1254.out)) <| z0 ((nG hg BK1254.out)); clear BK1254 HB; obtain ⟨BK1254, HB, BK1256, GW1256, GE1256, NB1254_1256, NB1256_1254⟩ := n_; clear hb hbox hg; have hnb8 := NB1256_1254.out; have hnc8 := NB1254_1256.out; obtain ⟨hcz9_0, hcz9_1, hcz9_2, hcz9_3, hcz9_4, hcz9_5, hcz9_6, hcz9_7, hcz9_8, hcz9_9, hfz9_0, hfz9_1, hfz9_2, hfz9_3, hfz9_4, hfz9_5, hfz9_6, hfz9_7, hfz9_8, hfz9_9⟩ := cel10 BK1256.out))
     (try simp only [Act.put, List.setIfInBounds_toArray, List.set_cons_zero, List.set_cons_succ])
     have H := HF6.out
     clear HF6
     (try clear p2); (try clear c4); (try clear c4b0); (try clear c5); (try clear c5b0); (try clear hcz9_0); (try clear hcz9_1); (try clear hcz9_2); (try clear hcz9_3); (try clear hcz9_4); (try clear hcz9_5); (try clear hcz9_6); (try clear hcz9_7); (try clear hcz9_8); (try clear hcz9_9); (try clear hfz9_0); (try clear hfz9_1); (try clear hfz9_2); (try clear hfz9_3); (try clear hfz9_4); (try clear hfz9_5); (try clear hfz9_6); (try clear hfz9_7); (try clear hfz9_8); (try clear hfz9_9); (try clear hx1255_0); (try clear hx1255_1); (try clear hx1255_2); (try clear hx1255_3); (try clear hx1255_4); (try clear hx1255_5); (try clear hx1255_6); (try clear hx1255_7); (try clear hx1255_8); (try clear hx1255_9); (try clear p1255); (try clear p2); (try clear q1255)
     by_cases c10 : ((rd_T35 l0 x5_1).f0) = 1
     ·rw [if_pos c10] at H
      have c10b0 : (((rd_T35 l0 x5_1).f0) == 1) = true := beq_iff_eq.mpr c10
      have c10b1 : (((rd_T35 l0 x5_1).f0) != 1) = false := bne_eq_false_iff_eq.mpr c10
      clear c10
      by_cases c11 : (((rd_T35 l0 x5_1).f1.f0) == a1_0 && (((rd_T35 l0 x5_1).f1.f1) == a1_1)) = true
      ·rw [if_pos c11] at H
       have c11b0 : (((rd_T35 l0 x5_1).f1.f0) == a1_0 && (((rd_T35 l0 x5_1).f1.f1) == a1_1)) = true := c11
       (try (have c11b1 : decide (((rd_T35 l0 x5_1).f1.f0) = a1_0 && (((rd_T35 l0 x5_1).f1.f1) == a1_1)) = true := by simpa using c11))
       (try (have c11b2 : (((rd_T35 l0 x5_1).f1.f0) == a1_0 && (((rd_T35 l0 x5_1).f1.f1) == a1_1)) = true := by simpa using c11))
       clear c11
       obtain rfl := Option.some.inj H
       have hnb12 := NB1256_1254.out
       have hnc12 := NB1254_1256.out
       obtain ⟨hcz13_0, hcz13_1, hcz13_2, hcz13_3, hcz13_4, hcz13_5, hcz13_6, hcz13_7, hcz13_8, hcz13_9, hfz13_0, hfz13_1, hfz13_2, hfz13_3, hfz13_4, hfz13_5, hfz13_6, hfz13_7, hfz13_8, hfz13_9⟩ := cel10 BK1256.out
       obtain ⟨hcz14_0, hcz14_1, hfz14_0, hfz14_1⟩ := cel2 BK1254.out
       go_wp2
       go_ret
       exact ⟨rfx, mB HB.out⟩
      ·rw [if_neg c11] at H
       have c11b0 : (((rd_T35 l0 x5_1).f1.f0) == a1_0 && (((rd_T35 l0 x5_1).f1.f1) == a1_1)) = false := by simpa using c11
       (try (have c11b1 : decide (((rd_T35 l0 x5_1).f1.f0) = a1_0 && (((rd_T35 l0 x5_1).f1.f1) == a1_1)) = false := by simpa using c11))
       (try (have c11b2 : (((rd_T35 l0 x5_1).f1.f0) == a1_0 && (((rd_T35 l0 x5_1).f1.f1) == a1_1)) = false := by simpa using c11))
       (try (have c11b3 : ¬ (((rd_T35 l0 x5_1).f1.f0) = a1_0 && (((rd_T35 l0 x5_1).f1.f1) == a1_1)) := by simpa using c11))
       clear c11
       replace H := Option.bind_eq_some_iff.mp H
       obtain ⟨t1257, A150, H⟩ := H
       try dsimp only at H
       have A15 := z0 A150
       clear A150
       by_cases c16 : t1257 = true
       ·subst c16
        have H1 : (some true) = some r := by rw [if_pos rfl] at H; exact H
        clear H
        have H := H1
        clear H1
        obtain rfl := Option.some.inj H
        have hnb17 := NB1256_1254.out
        have hnc17 := NB1254_1256.out
        obtain ⟨hcz18_0, hcz18_1, hcz18_2, hcz18_3, hcz18_4, hcz18_5, hcz18_6, hcz18_7, hcz18_8, hcz18_9, hfz18_0, hfz18_1, hfz18_2, hfz18_3, hfz18_4, hfz18_5, hfz18_6, hfz18_7, hfz18_8, hfz18_9⟩ := cel10 BK1256.out
        obtain ⟨hcz19_0, hcz19_1, hfz19_0, hfz19_1⟩ := cel2 BK1254.out
        go_wp2_with (first | (go_at_call 55; (with_reducible refine (ih k1 (by have := HK1.out; omega) _ _ ((rd_T35 l0 x5_1).f3) a1_0 a1_1 true _ ?side1 ?side2 A15.out).mono ?_); (case side1 => exact Kd.C_below HR1255_8.out (mB HB.out)); (case side2 => exact HC1255_8.out); rintro e w20 ⟨rfl, hb⟩; have n_ := az (blk_below (g := gb1254) (o := .cells #[.int .i64 a1_0, .int .i64 a1_1] 24 (0, 0)) (mF BK1254.out) hb) <| az (blk_below (g := gb1256) (o := .cells #[.int .i64 ((rd_T35 l0 x5_1).f0), .int .i64 ((rd_T35 l0 x5_1).f1.f0), .int .i64 ((rd_T35 l0 x5_1).f1.f1), .int .i64 ((rd_T35 l0 x5_1).f2.f0), .int .i64 ((rd_T35 l0 x5_1).f2.f1), .int .i64 ((rd_T35 l0 x5_1).f2.f2.f0), .int .i64 ((rd_T35 l0 x5_1).f2.f2.f1), .slice A1255_7 ((rd_T35 l0 x5_1).f2.f3).length c1255_7, .slice A1255_8 ((rd_T35 l0 x5_1).f3).length c1255_8, .slice A1255_9 ((rd_T35 l0 x5_1).f4).length c1255_9] 35 (0, 0)) q55_1 hb) <| z0 (below_step (mB HB.out) hb); clear BK1254 BK1256 HB; obtain ⟨BK1254, BK1256, HB⟩ := n_; clear hb))
        go_ret
        exact ⟨rfx, mB HB.out⟩
       ·replace c16 := Bool.eq_false_iff.mpr c16
        subst c16
        have H1 : ((spec_l10Writes.f k1 ((rd_T35 l0 x5_1).f4) a1_0 a1_1).bind fun t1258 => (if t1258 = true then (some true) else (spec_l10Writes.l0 k1 l0 (wrap64 (x5_1 + 1)) a1_0 a1_1))) = some r := by rw [if_neg (show ¬ (false = true) by decide)] at H; exact H
        clear H
        have H := H1
        clear H1
        replace H := Option.bind_eq_some_iff.mp H
        obtain ⟨t1258, A210, H⟩ := H
        try dsimp only at H
        have A21 := z0 A210
        clear A210
        have HF22 := z0 H
        clear H
        have hnb23 := NB1256_1254.out
        have hnc23 := NB1254_1256.out
        obtain ⟨hcz24_0, hcz24_1, hcz24_2, hcz24_3, hcz24_4, hcz24_5, hcz24_6, hcz24_7, hcz24_8, hcz24_9, hfz24_0, hfz24_1, hfz24_2, hfz24_3, hfz24_4, hfz24_5, hfz24_6, hfz24_7, hfz24_8, hfz24_9⟩ := cel10 BK1256.out
        obtain ⟨hcz25_0, hcz25_1, hfz25_0, hfz25_1⟩ := cel2 BK1254.out
        go_upto_if 37 with (first | (go_at_call 55; (with_reducible refine (ih k1 (by have := HK1.out; omega) _ _ ((rd_T35 l0 x5_1).f3) a1_0 a1_1 false _ ?side1 ?side2 A15.out).mono ?_); (case side1 => exact Kd.C_below HR1255_8.out (mB HB.out)); (case side2 => exact HC1255_8.out); rintro e w26 ⟨rfl, hb⟩; have n_ := az (blk_below (g := gb1254) (o := .cells #[.int .i64 a1_0, .int .i64 a1_1] 24 (0, 0)) (mF BK1254.out) hb) <| az (blk_below (g := gb1256) (o := .cells #[.int .i64 ((rd_T35 l0 x5_1).f0), .int .i64 ((rd_T35 l0 x5_1).f1.f0), .int .i64 ((rd_T35 l0 x5_1).f1.f1), .int .i64 ((rd_T35 l0 x5_1).f2.f0), .int .i64 ((rd_T35 l0 x5_1).f2.f1), .int .i64 ((rd_T35 l0 x5_1).f2.f2.f0), .int .i64 ((rd_T35 l0 x5_1).f2.f2.f1), .slice A1255_7 ((rd_T35 l0 x5_1).f2.f3).length c1255_7, .slice A1255_8 ((rd_T35 l0 x5_1).f3).length c1255_8, .slice A1255_9 ((rd_T35 l0 x5_1).f4).length c1255_9] 35 (0, 0)) q55_1 hb) <| z0 (below_step (mB HB.out) hb); clear BK1254 BK1256 HB; obtain ⟨BK1254, BK1256, HB⟩ := n_; clear hb; obtain ⟨hcz27_0, hcz27_1, hcz27_2, hcz27_3, hcz27_4, hcz27_5, hcz27_6, hcz27_7, hcz27_8, hcz27_9, hfz27_0, hfz27_1, hfz27_2, hfz27_3, hfz27_4, hfz27_5, hfz27_6, hfz27_7, hfz27_8, hfz27_9⟩ := cel10 BK1256.out; obtain ⟨hcz28_0, hcz28_1, hfz28_0, hfz28_1⟩ := cel2 BK1254.out) | (go_at_call 55; (with_reducible refine (ih k1 (by have := HK1.out; omega) _ _ ((rd_T35 l0 x5_1).f4) a1_0 a1_1 t1258 _ ?side1 ?side2 A21.out).mono ?_); (case side1 => exact mC (Kd.C_below HR1255_9.out HB.out)); (case side2 => exact HC1255_9.out); rintro e w29 ⟨rfl, hb⟩; have n_ := az (bB BK1254.out hb) <| az (bB BK1256.out hb) <| z0 (below_step (mB HB.out) hb); clear BK1254 BK1256 HB; obtain ⟨BK1254, BK1256, HB⟩ := n_; clear hb))
        (try simp only [Act.put, List.setIfInBounds_toArray, List.set_cons_zero, List.set_cons_succ])
        have H := HF22.out
        clear HF22
        (try clear p2); (try clear c4); (try clear c4b0); (try clear c5); (try clear c5b0); (try clear c10); (try clear c10b0); (try clear c10b1); (try clear c11); (try clear c11b0); (try clear c11b1); (try clear c11b2); (try clear c16); (try clear hcz13_0); (try clear hcz13_1); (try clear hcz13_2); (try clear hcz13_3); (try clear hcz13_4); (try clear hcz13_5); (try clear hcz13_6); (try clear hcz13_7); (try clear hcz13_8); (try clear hcz13_9); (try clear hcz14_0); (try clear hcz14_1); (try clear hcz18_0); (try clear hcz18_1); (try clear hcz18_2); (try clear hcz18_3); (try clear hcz18_4); (try clear hcz18_5); (try clear hcz18_6); (try clear hcz18_7); (try clear hcz18_8); (try clear hcz18_9); (try clear hcz19_0); (try clear hcz19_1); (try clear hcz24_0); (try clear hcz24_1); (try clear hcz24_2); (try clear hcz24_3); (try clear hcz24_4); (try clear hcz24_5); (try clear hcz24_6); (try clear hcz24_7); (try clear hcz24_8); (try clear hcz24_9); (try clear hcz25_0); (try clear hcz25_1); (try clear hcz27_0); (try clear hcz27_1); (try clear hcz27_2); (try clear hcz27_3); (try clear hcz27_4); (try clear hcz27_5); (try clear hcz27_6); (try clear hcz27_7); (try clear hcz27_8); (try clear hcz27_9); (try clear hcz28_0); (try clear hcz28_1); (try clear hcz9_0); (try clear hcz9_1); (try clear hcz9_2); (try clear hcz9_3); (try clear hcz9_4); (try clear hcz9_5); (try clear hcz9_6); (try clear hcz9_7); (try clear hcz9_8); (try clear hcz9_9); (try clear hfz13_0); (try clear hfz13_1); (try clear hfz13_2); (try clear hfz13_3); (try clear hfz13_4); (try clear hfz13_5); (try clear hfz13_6); (try clear hfz13_7); (try clear hfz13_8); (try clear hfz13_9); (try clear hfz14_0); (try clear hfz14_1); (try clear hfz18_0); (try clear hfz18_1); (try clear hfz18_2); (try clear hfz18_3); (try clear hfz18_4); (try clear hfz18_5); (try clear hfz18_6); (try clear hfz18_7); (try clear hfz18_8); (try clear hfz18_9); (try clear hfz19_0); (try clear hfz19_1); (try clear hfz24_0); (try clear hfz24_1); (try clear hfz24_2); (try clear hfz24_3); (try clear hfz24_4); (try clear hfz24_5); (try clear hfz24_6); (try clear hfz24_7); (try clear hfz24_8); (try clear hfz24_9); (try clear hfz25_0); (try clear hfz25_1); (try clear hfz27_0); (try clear hfz27_1); (try clear hfz27_2); (try clear hfz27_3); (try clear hfz27_4); (try clear hfz27_5); (try clear hfz27_6); (try clear hfz27_7); (try clear hfz27_8); (try clear hfz27_9); (try clear hfz28_0); (try clear hfz28_1); (try clear hfz9_0); (try clear hfz9_1); (try clear hfz9_2); (try clear hfz9_3); (try clear hfz9_4); (try clear hfz9_5); (try clear hfz9_6); (try clear hfz9_7); (try clear hfz9_8); (try clear hfz9_9); (try clear hx1255_0); (try clear hx1255_1); (try clear hx1255_2); (try clear hx1255_3); (try clear hx1255_4); (try clear hx1255_5); (try clear hx1255_6); (try clear hx1255_7); (try clear hx1255_8); (try clear hx1255_9); (try clear p1255); (try clear p2); (try clear q1255)
        by_cases c30 : t1258 = true
        ·subst c30
         have H1 : (some true) = some r := by rw [if_pos rfl] at H; exact H
         clear H
         have H := H1
         clear H1
         obtain rfl := Option.some.inj H
         go_wp2
         go_ret
         exact ⟨rfx, mB HB.out⟩
        ·replace c30 := Bool.eq_false_iff.mpr c30
         subst c30
         have H1 : (spec_l10Writes.l0 k1 l0 (wrap64 (x5_1 + 1)) a1_0 a1_1) = some r := by rw [if_neg (show ¬ (false = true) by decide)] at H; exact H
         clear H
         have H := H1
         clear H1
         have H' := z0 H
         clear H
         go_wp2
         go_roundg k1
         case measure => have := HK1.out; omega
         case rel => exact ⟨(wrap64 (x5_1 + 1)), rfy, H', ⟨by have := HK1.out; omega⟩, ⟨mK BK1254.out⟩, ⟨mB HB.out⟩⟩
     ·rw [if_neg c10] at H
      have c10b0 : (((rd_T35 l0 x5_1).f0) == 1) = false := beq_eq_false_iff_ne.mpr c10
      have c10b1 : (((rd_T35 l0 x5_1).f0) != 1) = true := bne_iff_ne.mpr c10
      replace H := Option.bind_eq_some_iff.mp H
      obtain ⟨t1259, A310, H⟩ := H
      try dsimp only at H
      have A31 := z0 A310
      clear A310
      by_cases c32 : t1259 = true
      ·subst c32
       have H1 : (some true) = some r := by rw [if_pos rfl] at H; exact H
       clear H
       have H := H1
       clear H1
       obtain rfl := Option.some.inj H
       have hnb33 := NB1256_1254.out
       have hnc33 := NB1254_1256.out
       obtain ⟨hcz34_0, hcz34_1, hcz34_2, hcz34_3, hcz34_4, hcz34_5, hcz34_6, hcz34_7, hcz34_8, hcz34_9, hfz34_0, hfz34_1, hfz34_2, hfz34_3, hfz34_4, hfz34_5, hfz34_6, hfz34_7, hfz34_8, hfz34_9⟩ := cel10 BK1256.out
       obtain ⟨hcz35_0, hcz35_1, hfz35_0, hfz35_1⟩ := cel2 BK1254.out
       go_wp2_with (first | (go_at_call 55; (with_reducible refine (ih k1 (by have := HK1.out; omega) _ _ ((rd_T35 l0 x5_1).f3) a1_0 a1_1 true _ ?side1 ?side2 A31.out).mono ?_); (case side1 => exact Kd.C_below HR1255_8.out (mB HB.out)); (case side2 => exact HC1255_8.out); rintro e w36 ⟨rfl, hb⟩; have n_ := az (blk_below (g := gb1254) (o := .cells #[.int .i64 a1_0, .int .i64 a1_1] 24 (0, 0)) (mF BK1254.out) hb) <| az (blk_below (g := gb1256) (o := .cells #[.int .i64 ((rd_T35 l0 x5_1).f0), .int .i64 ((rd_T35 l0 x5_1).f1.f0), .int .i64 ((rd_T35 l0 x5_1).f1.f1), .int .i64 ((rd_T35 l0 x5_1).f2.f0), .int .i64 ((rd_T35 l0 x5_1).f2.f1), .int .i64 ((rd_T35 l0 x5_1).f2.f2.f0), .int .i64 ((rd_T35 l0 x5_1).f2.f2.f1), .slice A1255_7 ((rd_T35 l0 x5_1).f2.f3).length c1255_7, .slice A1255_8 ((rd_T35 l0 x5_1).f3).length c1255_8, .slice A1255_9 ((rd_T35 l0 x5_1).f4).length c1255_9] 35 (0, 0)) q55_1 hb) <| z0 (below_step (mB HB.out) hb); clear BK1254 BK1256 HB; obtain ⟨BK1254, BK1256, HB⟩ := n_; clear hb))
       go_ret
       exact ⟨rfx, mB HB.out⟩
      ·replace c32 := Bool.eq_false_iff.mpr c32
       subst c32
       have H1 : ((spec_l10Writes.f k1 ((rd_T35 l0 x5_1).f4) a1_0 a1_1).bind fun t1260 => (if t1260 = true then (some true) else (spec_l10Writes.l0 k1 l0 (wrap64 (x5_1 + 1)) a1_0 a1_1))) = some r := by rw [if_neg (show ¬ (false = true) by decide)] at H; exact H
       clear H
       have H := H1
       clear H1
       replace H := Option.bind_eq_some_iff.mp H
       obtain ⟨t1260, A370, H⟩ := H
       try dsimp only at H
       have A37 := z0 A370
       clear A370
       have HF38 := z0 H
       clear H
       have hnb39 := NB1256_1254.out
       have hnc39 := NB1254_1256.out
       obtain ⟨hcz40_0, hcz40_1, hcz40_2, hcz40_3, hcz40_4, hcz40_5, hcz40_6, hcz40_7, hcz40_8, hcz40_9, hfz40_0, hfz40_1, hfz40_2, hfz40_3, hfz40_4, hfz40_5, hfz40_6, hfz40_7, hfz40_8, hfz40_9⟩ := cel10 BK1256.out
       obtain ⟨hcz41_0, hcz41_1, hfz41_0, hfz41_1⟩ := cel2 BK1254.out
       go_upto_if 37 with (first | (go_at_call 55; (with_reducible refine (ih k1 (by have := HK1.out; omega) _ _ ((rd_T35 l0 x5_1).f3) a1_0 a1_1 false _ ?side1 ?side2 A31.out).mono ?_); (case side1 => exact Kd.C_below HR1255_8.out (mB HB.out)); (case side2 => exact HC1255_8.out); rintro e w42 ⟨rfl, hb⟩; have n_ := az (blk_below (g := gb1254) (o := .cells #[.int .i64 a1_0, .int .i64 a1_1] 24 (0, 0)) (mF BK1254.out) hb) <| az (blk_below (g := gb1256) (o := .cells #[.int .i64 ((rd_T35 l0 x5_1).f0), .int .i64 ((rd_T35 l0 x5_1).f1.f0), .int .i64 ((rd_T35 l0 x5_1).f1.f1), .int .i64 ((rd_T35 l0 x5_1).f2.f0), .int .i64 ((rd_T35 l0 x5_1).f2.f1), .int .i64 ((rd_T35 l0 x5_1).f2.f2.f0), .int .i64 ((rd_T35 l0 x5_1).f2.f2.f1), .slice A1255_7 ((rd_T35 l0 x5_1).f2.f3).length c1255_7, .slice A1255_8 ((rd_T35 l0 x5_1).f3).length c1255_8, .slice A1255_9 ((rd_T35 l0 x5_1).f4).length c1255_9] 35 (0, 0)) q55_1 hb) <| z0 (below_step (mB HB.out) hb); clear BK1254 BK1256 HB; obtain ⟨BK1254, BK1256, HB⟩ := n_; clear hb; obtain ⟨hcz43_0, hcz43_1, hcz43_2, hcz43_3, hcz43_4, hcz43_5, hcz43_6, hcz43_7, hcz43_8, hcz43_9, hfz43_0, hfz43_1, hfz43_2, hfz43_3, hfz43_4, hfz43_5, hfz43_6, hfz43_7, hfz43_8, hfz43_9⟩ := cel10 BK1256.out; obtain ⟨hcz44_0, hcz44_1, hfz44_0, hfz44_1⟩ := cel2 BK1254.out) | (go_at_call 55; (with_reducible refine (ih k1 (by have := HK1.out; omega) _ _ ((rd_T35 l0 x5_1).f4) a1_0 a1_1 t1260 _ ?side1 ?side2 A37.out).mono ?_); (case side1 => exact mC (Kd.C_below HR1255_9.out HB.out)); (case side2 => exact HC1255_9.out); rintro e w45 ⟨rfl, hb⟩; have n_ := az (bB BK1254.out hb) <| az (bB BK1256.out hb) <| z0 (below_step (mB HB.out) hb); clear BK1254 BK1256 HB; obtain ⟨BK1254, BK1256, HB⟩ := n_; clear hb))
       (try simp only [Act.put, List.setIfInBounds_toArray, List.set_cons_zero, List.set_cons_succ])
       have H := HF38.out
       clear HF38
       (try clear p2); (try clear c4); (try clear c4b0); (try clear c5); (try clear c5b0); (try clear c10); (try clear c10b0); (try clear c10b1); (try clear c11); (try clear c32); (try clear hcz34_0); (try clear hcz34_1); (try clear hcz34_2); (try clear hcz34_3); (try clear hcz34_4); (try clear hcz34_5); (try clear hcz34_6); (try clear hcz34_7); (try clear hcz34_8); (try clear hcz34_9); (try clear hcz35_0); (try clear hcz35_1); (try clear hcz40_0); (try clear hcz40_1); (try clear hcz40_2); (try clear hcz40_3); (try clear hcz40_4); (try clear hcz40_5); (try clear hcz40_6); (try clear hcz40_7); (try clear hcz40_8); (try clear hcz40_9); (try clear hcz41_0); (try clear hcz41_1); (try clear hcz43_0); (try clear hcz43_1); (try clear hcz43_2); (try clear hcz43_3); (try clear hcz43_4); (try clear hcz43_5); (try clear hcz43_6); (try clear hcz43_7); (try clear hcz43_8); (try clear hcz43_9); (try clear hcz44_0); (try clear hcz44_1); (try clear hcz9_0); (try clear hcz9_1); (try clear hcz9_2); (try clear hcz9_3); (try clear hcz9_4); (try clear hcz9_5); (try clear hcz9_6); (try clear hcz9_7); (try clear hcz9_8); (try clear hcz9_9); (try clear hfz34_0); (try clear hfz34_1); (try clear hfz34_2); (try clear hfz34_3); (try clear hfz34_4); (try clear hfz34_5); (try clear hfz34_6); (try clear hfz34_7); (try clear hfz34_8); (try clear hfz34_9); (try clear hfz35_0); (try clear hfz35_1); (try clear hfz40_0); (try clear hfz40_1); (try clear hfz40_2); (try clear hfz40_3); (try clear hfz40_4); (try clear hfz40_5); (try clear hfz40_6); (try clear hfz40_7); (try clear hfz40_8); (try clear hfz40_9); (try clear hfz41_0); (try clear hfz41_1); (try clear hfz43_0); (try clear hfz43_1); (try clear hfz43_2); (try clear hfz43_3); (try clear hfz43_4); (try clear hfz43_5); (try clear hfz43_6); (try clear hfz43_7); (try clear hfz43_8); (try clear hfz43_9); (try clear hfz44_0); (try clear hfz44_1); (try clear hfz9_0); (try clear hfz9_1); (try clear hfz9_2); (try clear hfz9_3); (try clear hfz9_4); (try clear hfz9_5); (try clear hfz9_6); (try clear hfz9_7); (try clear hfz9_8); (try clear hfz9_9); (try clear hx1255_0); (try clear hx1255_1); (try clear hx1255_2); (try clear hx1255_3); (try clear hx1255_4); (try clear hx1255_5); (try clear hx1255_6); (try clear hx1255_7); (try clear hx1255_8); (try clear hx1255_9); (try clear p1255); (try clear p2); (try clear q1255)
       by_cases c46 : t1260 = true
       ·subst c46
        have H1 : (some true) = some r := by rw [if_pos rfl] at H; exact H
        clear H
        have H := H1
        clear H1
        obtain rfl := Option.some.inj H
        go_wp2
        go_ret
        exact ⟨rfx, mB HB.out⟩
       ·replace c46 := Bool.eq_false_iff.mpr c46
        subst c46
        have H1 : (spec_l10Writes.l0 k1 l0 (wrap64 (x5_1 + 1)) a1_0 a1_1) = some r := by rw [if_neg (show ¬ (false = true) by decide)] at H; exact H
        clear H
        have H := H1
        clear H1
        have H' := z0 H
        clear H
        go_wp2
        go_roundg k1
        case measure => have := HK1.out; omega
        case rel => exact ⟨(wrap64 (x5_1 + 1)), rfy, H', ⟨by have := HK1.out; omega⟩, ⟨mK BK1254.out⟩, ⟨mB HB.out⟩⟩
    ·rw [if_neg c5] at H
     exact absurd H (by simp)
   ·rw [if_neg c4] at H
    have c4b0 : decide (x5_1 < (l0.length : Int)) = false := decide_eq_false c4
    clear c4
    obtain rfl := Option.some.inj H
    go_wp2
    go_ret
    exact ⟨rfx, mB HB.out⟩

end Go.Proofs.YtendbgedpjcocaaGreatDoor.B
namespace Go.Proofs.YtendbgedpjcocaaGreatDoor.B
open Go.RowKit Go.Proofs.YtendbgedpjcocaaGreatDoorW.PrintWords Go.Proofs.YtendbgedpjcocaaGreatDoorW.PrintLast Go.Proofs.YtendbgedpjcocaaGreatDoorW.PrintMore
attribute [local go_sem] max2_int min2_int max_two min_two max_three min_three max_four min_four   -- for this text's walks alone
set_option linter.unusedVariables false
set_option linter.unusedSimpArgs false

/-! ### spec_SlimWrites: function 28 -/
def spec_SlimWrites.f (k : Nat) (l0 : List (S35)) (a1_0 : Int) (a1_1 : Int) : Option (Bool) := (spec_StmtsOk.f k l0).bind fun t1262 => (if t1262 = true then ((spec_l10Writes.f k l0 a1_0 a1_1).bind fun t1263 => (some t1263)) else (some false))
set_option maxHeartbeats 8000000 in
set_option maxRecDepth 100000 in
theorem spec_SlimWrites.calls (k : Nat) (A0 : Option Addr) (c0 : Nat) (l0 : List (S35)) (a1_0 : Int) (a1_1 : Int) (r : Bool) (w : World) (hr0 : Kd.C k35 w A0 l0.length l0) (hc0 : l0.length ≤ c0) (h : spec_SlimWrites.f k l0 a1_0 a1_1 = some r) :
  Calls Tryz.prog 28 #[.slice A0 l0.length c0, .agg #[.int .i64 a1_0, .int .i64 a1_1]] w fun e w' => e = .returned (.bool r) ∧ Below w.heap.size w w' := by
 have hu24 := Tryz.underlying24
 have HR0 := z0 hr0
 have HC0 := z0 hc0
 clear hr0 hc0
 have HB := z0 (Below.refl w.heap.size w)
 have H : ((spec_StmtsOk.f k l0).bind fun t1262 => (if t1262 = true then ((spec_l10Writes.f k l0 a1_0 a1_1).bind fun t1263 => (some t1263)) else (some false))) = some r := h
 clear h
 have HF3 := z0 H
 clear H
 go_enter Tryz.func28, Tryz.ntmps28
 go_upto_region 1 with (first | ((with_reducible refine gate_dst (N := 3) rfl ?_); refine box_event ?hg (N := 3) ?hd (cs := #[.int .i64 a1_0, .int .i64 a1_1]) (t := 24) ?hr ?_; (case hd => rfl); (case hg => rfl); (case hr => first | (go_simp; done) | (go_simp; rfl)); intro gb1261 hg w4 hbox hb; have n_ := az (below_step (mB HB.out) hb) <| az (hbox) <| az ((by rw [hg]; exact (below_size (mB HB.out)) : w.heap.size ≤ gb1261)) <| z0 ((by rw [hg]; exact (below_size (mB HB.out)) : w.heap.size ≤ gb1261)); clear HB; obtain ⟨HB, BK1261, GW1261, GE1261⟩ := n_; clear hb hbox hg))
 (try simp only [Act.put, List.setIfInBounds_toArray, List.set_cons_zero, List.set_cons_succ])
 have H := HF3.out
 clear HF3
 try clear c2
 replace H := Option.bind_eq_some_iff.mp H
 obtain ⟨t1262, A50, H⟩ := H
 try dsimp only at H
 have A5 := z0 A50
 clear A50
 by_cases c6 : t1262 = true
 ·subst c6
  have H1 : ((spec_l10Writes.f k l0 a1_0 a1_1).bind fun t1263 => (some t1263)) = some r := by rw [if_pos rfl] at H; exact H
  clear H
  have H := H1
  clear H1
  replace H := Option.bind_eq_some_iff.mp H
  obtain ⟨t1263, A70, H⟩ := H
  try dsimp only at H
  have A7 := z0 A70
  clear A70
  obtain rfl := Option.some.inj H
  go_wp2_with (first | ((with_reducible refine gate_callee (f := 16) rfl ?_); refine goesL_ (some 6) rfl rfl Tryz.func16 (by kernel_rfl) rfl #[.slice A0 l0.length c0] rfl argx ?_; (with_reducible refine (spec_StmtsOk.calls k _ _ l0 true _ ?side1 ?side2 A5.out).mono ?_); (case side1 => exact mC (Kd.C_below HR0.out HB.out)); (case side2 => exact HC0.out); rintro e w8 ⟨rfl, hb⟩; refine ⟨_, rfl, ?_⟩; have n_ := az (bB BK1261.out hb) <| z0 (below_step (mB HB.out) hb); clear BK1261 HB; obtain ⟨BK1261, HB⟩ := n_; clear hb; obtain ⟨hcz9_0, hcz9_1, hfz9_0, hfz9_1⟩ := cel2 BK1261.out) | (go_at_call 55; (with_reducible refine (spec_l10Writes.calls k _ _ l0 a1_0 a1_1 t1263 _ ?side1 ?side2 A7.out).mono ?_); (case side1 => exact mC (Kd.C_below HR0.out HB.out)); (case side2 => exact HC0.out); rintro e w10 ⟨rfl, hb⟩; have n_ := az (bB BK1261.out hb) <| z0 (below_step (mB HB.out) hb); clear BK1261 HB; obtain ⟨BK1261, HB⟩ := n_; clear hb))
  go_ret
  exact ⟨rfx, mB HB.out⟩
 ·replace c6 := Bool.eq_false_iff.mpr c6
  subst c6
  have H1 : (some false) = some r := by rw [if_neg (show ¬ (false = true) by decide)] at H; exact H
  clear H
  have H := H1
  clear H1
  obtain rfl := Option.some.inj H
  go_wp2_with (first | ((with_reducible refine gate_callee (f := 16) rfl ?_); refine goesL_ (some 6) rfl rfl Tryz.func16 (by kernel_rfl) rfl #[.slice A0 l0.length c0] rfl argx ?_; (with_reducible refine (spec_StmtsOk.calls k _ _ l0 false _ ?side1 ?side2 A5.out).mono ?_); (case side1 => exact mC (Kd.C_below HR0.out HB.out)); (case side2 => exact HC0.out); rintro e w11 ⟨rfl, hb⟩; refine ⟨_, rfl, ?_⟩; have n_ := az (bB BK1261.out hb) <| z0 (below_step (mB HB.out) hb); clear BK1261 HB; obtain ⟨BK1261, HB⟩ := n_; clear hb))
  go_ret
  exact ⟨rfx, mB HB.out⟩

end Go.Proofs.YtendbgedpjcocaaGreatDoor.B
