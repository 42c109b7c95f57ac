-- printed by base.py (this claim's tool) over the kit's print
import Derived.Test.YtddnijmgipffeaaDoorB0
import Derived.Test.YtddnijmgipffeaaDoorSq
import Derived.Test.YtddnijmgipffeaaDoorF13
import Derived.Test.YtddnijmgipffeaaDoorF22
namespace Go.Proofs.YtddnijmgipffeaaDoor.B
open Go.RowKit Go.Proofs.YtddnijmgipffeaaDoorW.PrintWords Go.Proofs.YtddnijmgipffeaaDoorW.PrintLast Go.Proofs.YtddnijmgipffeaaDoorW.PrintMore
attribute [local go_sem] max2_int min2_int max_two min_two max_three min_three max_four min_four   -- for this text's walks alone
set_option linter.unusedVariables false
set_option linter.unusedSimpArgs false

/-! ### spec_AddrText: function 14 -/
def spec_AddrText.f (k : Nat) (a0_0 : Int) (a0_1 : Int) : Option (ByteArray) := (spec_AddrOk.f a0_0 a0_1).bind fun t110 => (if t110 = true then ((some (([(⟨#[]⟩ : ByteArray), (⟨#[105]⟩ : ByteArray), (⟨#[111]⟩ : ByteArray), (⟨#[118]⟩ : ByteArray)] : List ByteArray) : List ByteArray)).bind fun y111 => (if 0 ≤ a0_0 then (if a0_0 < (y111.length : Int) then ((spec_l12Dec.f k a0_1).bind fun t115 => (if (rdOf ByteArray.empty y111 a0_0).size + t115.size ≤ 9223372036854775807 then (some ((rdOf ByteArray.empty y111 a0_0) ++ t115)) else (none))) else (none)) else (none))) else (some (⟨#[]⟩ : ByteArray)))
theorem spec_AddrText.mono : ∀ a0 a1 k, LeO (spec_AddrText.f k a0 a1) (spec_AddrText.f (k + 1) a0 a1) := by
 intro a0 a1 k
 unfold spec_AddrText.f
 repeat' first
   | (with_reducible exact spec_l12Dec.mono _ _)
   | (with_reducible exact LeO.refl _)
   | (with_reducible exact LeO.none _)
   | (with_reducible refine LeO.ite ?_ ?_)
   | (with_reducible refine LeO.bind ?_ (fun _ => ?_))
   | exact spec_l12Dec.mono _ _
   | exact LeO.none _
   | refine LeO.ite ?_ ?_
   | refine LeO.bind ?_ (fun _ => ?_)
def spec_AddrText.T3 : Bool × List (List Nat × List Nat) := (true, [([], []), ([], []), ([1], [1]), ([0, 2], [0, 2]), ([3], [3]), ([], []), ([5], [5]), ([6], [6]), ([4, 7], [4, 7]), ([8, 7, 0, 1, 2, 3, 4, 5, 6, 7, 8], [8])])
def spec_AddrText.B3 : List Nat := [0, 0, 2, 7, 15, 0, 32, 96, 255, 511]
theorem spec_AddrText.tab3 : rtab .any (opsOf Tryd.f14 3) = spec_AddrText.T3 := by kernel_rfl
theorem spec_AddrText.bits3 : waitsOk spec_AddrText.T3.2 spec_AddrText.B3 = true := by kernel_rfl
set_option maxHeartbeats 8000000 in
set_option maxRecDepth 100000 in
theorem spec_AddrText.calls (k : Nat) (a0_0 : Int) (a0_1 : Int) (r : ByteArray) (w : World) (h : spec_AddrText.f k a0_0 a0_1 = some r) :
  Calls Tryd.prog 14 #[.agg #[.int .i64 a0_0, .int .i64 a0_1]] w fun e w' => e = .returned (.string r) ∧ Below w.heap.size w w' := by
 have hu31 := Tryd.underlying31
 have HB := z0 (Below.refl w.heap.size w)
 have H : ((spec_AddrOk.f a0_0 a0_1).bind fun t110 => (if t110 = true then ((some (([(⟨#[]⟩ : ByteArray), (⟨#[105]⟩ : ByteArray), (⟨#[111]⟩ : ByteArray), (⟨#[118]⟩ : ByteArray)] : List ByteArray) : List ByteArray)).bind fun y111 => (if 0 ≤ a0_0 then (if a0_0 < (y111.length : Int) then ((spec_l12Dec.f k a0_1).bind fun t115 => (if (rdOf ByteArray.empty y111 a0_0).size + t115.size ≤ 9223372036854775807 then (some ((rdOf ByteArray.empty y111 a0_0) ++ t115)) else (none))) else (none)) else (none))) else (some (⟨#[]⟩ : ByteArray)))) = some r := h
 clear h
 replace H := Option.bind_eq_some_iff.mp H
 obtain ⟨t110, A20, H⟩ := H
 try dsimp only at H
 have A2 := z0 A20
 clear A20
 have HF3 := z0 H
 clear H
 go_enter Tryd.func14, Tryd.ntmps14
 go_upto_if 5 with (first | ((with_reducible refine gate_dst (N := 1) rfl ?_); refine box_event ?hg (N := 1) ?hd (cs := #[.int .i64 a0_0, .int .i64 a0_1]) (t := 31) ?hr ?_; (case hd => rfl); (case hg => rfl); (case hr => first | (go_simp; done) | (go_simp; rfl)); intro gb109 hg w4 hbox hb; have n_ := az (below_step (mB HB.out) hb) <| az (hbox) <| az ((by rw [hg]; exact (below_size (mB HB.out)) : w.heap.size ≤ gb109)) <| z0 ((by rw [hg]; exact (below_size (mB HB.out)) : w.heap.size ≤ gb109)); clear HB; obtain ⟨HB, BK109, GW109, GE109⟩ := n_; clear hb hbox hg; obtain ⟨hcz5_0, hcz5_1, hfz5_0, hfz5_1⟩ := cel2 BK109.out) | ((with_reducible refine gate_callee (f := 22) rfl ?_); refine goesL_ (some 4) rfl rfl Tryd.func22 (by kernel_rfl) rfl #[.agg #[.int .i64 a0_0, .int .i64 a0_1]] rfl argx ?_; (with_reducible refine (spec_AddrOk.calls a0_0 a0_1 t110 _ A2.out).mono ?_); rintro e w6 ⟨rfl, hb⟩; refine ⟨_, rfl, ?_⟩; have n_ := az (bB BK109.out hb) <| z0 (below_step (mB HB.out) hb); clear BK109 HB; obtain ⟨BK109, HB⟩ := n_; clear hb))
 (try simp only [Act.put, List.setIfInBounds_toArray, List.set_cons_zero, List.set_cons_succ])
 have H := HF3.out
 clear HF3
 (try clear hcz5_0); (try clear hcz5_1); (try clear hfz5_0); (try clear hfz5_1)
 by_cases c7 : t110 = true
 ·subst c7
  have H1 : ((some (([(⟨#[]⟩ : ByteArray), (⟨#[105]⟩ : ByteArray), (⟨#[111]⟩ : ByteArray), (⟨#[118]⟩ : ByteArray)] : List ByteArray) : List ByteArray)).bind fun y111 => (if 0 ≤ a0_0 then (if a0_0 < (y111.length : Int) then ((spec_l12Dec.f k a0_1).bind fun t115 => (if (rdOf ByteArray.empty y111 a0_0).size + t115.size ≤ 9223372036854775807 then (some ((rdOf ByteArray.empty y111 a0_0) ++ t115)) else (none))) else (none)) else (none))) = some r := by rw [if_pos rfl] at H; exact H
  clear H
  have H := H1
  clear H1
  obtain ⟨y111, hy111⟩ : ∃ y_ : List ByteArray, y_ = (([(⟨#[]⟩ : ByteArray), (⟨#[105]⟩ : ByteArray), (⟨#[111]⟩ : ByteArray), (⟨#[118]⟩ : ByteArray)] : List ByteArray)) := ⟨_, rfl⟩
  replace H : (if 0 ≤ a0_0 then (if a0_0 < (y111.length : Int) then ((spec_l12Dec.f k a0_1).bind fun t115 => (if (rdOf ByteArray.empty y111 a0_0).size + t115.size ≤ 9223372036854775807 then (some ((rdOf ByteArray.empty y111 a0_0) ++ t115)) else (none))) else (none)) else (none)) = some r := by first | (rw [hy111]; with_reducible exact H) | (have H2_ := (Option.bind_some _ _).symm.trans H; rw [hy111]; with_reducible exact H2_) | (have H2_ := (Option.bind_some _ _).symm.trans H; with_reducible exact H2_) | with_reducible exact H | (rw [hy111]; exact H) | exact H
  have Ny111 := z0 hy111
  clear hy111
  by_cases c8 : 0 ≤ a0_0
  ·rw [if_pos c8] at H
   have c8b0 : decide (0 ≤ a0_0) = true := decide_eq_true c8
   clear c8
   (first | rw [c8b0] | (simp only [i64_w, i32_w]; rw [c8b0]) | skip)
   by_cases c9 : a0_0 < (y111.length : Int)
   ·rw [if_pos c9] at H
    have c9b0 : decide (a0_0 < (y111.length : Int)) = true := decide_eq_true c9
    clear c9
    replace H := Option.bind_eq_some_iff.mp H
    obtain ⟨t115, A100, H⟩ := H
    try dsimp only at H
    have A10 := z0 A100
    clear A100
    by_cases c11 : (rdOf ByteArray.empty y111 a0_0).size + t115.size ≤ 9223372036854775807
    ·rw [if_pos c11] at H
     have c11b0 := eq_true c11
     have c11b1 : decide ((rdOf ByteArray.empty y111 a0_0).size + t115.size ≤ 9223372036854775807) = true := decide_eq_true c11
     try have c11b2 : (9223372036854775807 < (rdOf ByteArray.empty y111 a0_0).size + t115.size) = False := eq_false (Nat.not_lt.2 c11)
     obtain rfl := Option.some.inj H
     try go_wp2
     have pi114 : (0 ≤ (a0_0 : Int)) = True := eq_true (of_decide_eq_true (by first | (with_reducible assumption) | assumption))
     have qi114 : (a0_0 < (y111.length : Int)) = True := eq_true (of_decide_eq_true (by first | (with_reducible assumption) | assumption))
     have n_ := az (blk_drew BK109.out) <| z0 (below_drew1 HB.out)
     clear BK109 HB
     obtain ⟨BK109, HB⟩ := n_
     refine start_ (n := 10) (S := fun w' => True) (ds := []) #[false, false, false, false, false, false, false, false, false, false] (by kernel_rfl) rfl rfl trivial (fun hHeld => ?_); refine with_tabW spec_AddrText.tab3 spec_AddrText.bits3 (fun HT_ HW_ => ?_)
     generalize w6.drew = w12 at BK109 HB hHeld ⊢
     refine pure_ (i := 1) (N := some 7) (v := ?_) (a' := ?_) #[false, true, false, false, false, false, false, false, false, false] rfl rfl (any_of HT_.out (by kernel_rfl)) (fun _ _ _ h => h) (Or.inl ⟨by rfl, ?_⟩) ?_ ?_
     rotate_left
     ·intro w'
      go_simp
      with_reducible rfl
     rotate_left
     ·simp only [Act.put, List.setIfInBounds_toArray, List.set_cons_zero, List.set_cons_succ, i64_w, i32_w]
      rfl
     refine pure_ (i := 5) (N := some 11) (v := ?_) (a' := ?_) #[false, true, false, false, false, true, false, false, false, false] rfl rfl (any_of HT_.out (by kernel_rfl)) (fun _ _ _ h => h) (Or.inl ⟨by rfl, ?_⟩) ?_ ?_
     rotate_left
     ·intro w'
      go_simp
      with_reducible rfl
     rotate_left
     ·simp only [Act.put, List.setIfInBounds_toArray, List.set_cons_zero, List.set_cons_succ, i64_w, i32_w]
      rfl
     refine inv_at [0, 2, 3, 4, 6, 7, 8, 9] (fun a0_ b a w' => ∃ (v112 : Value) (adz_v112 : Addr) (m3_ : Value), a = putSel a0_ b [(0, 6, v112), (2, 8, .int .i64 a0_0), (3, 9, m3_), (4, 10, .string (rdOf ByteArray.empty y111 a0_0)), (6, 12, .int .i64 a0_1), (7, 13, .string t115), (8, 14, .string ((rdOf ByteArray.empty y111 a0_0) ++ t115)), (9, 2, .string ((rdOf ByteArray.empty y111 a0_0) ++ t115))] ∧ (w'.heap[gb109]? = some (.cells #[.int .i64 a0_0, .int .i64 a0_1] 31 (0, 0))) ∧ (Below w.heap.size w w') ∧ (b 0 = true → Kd.R Kd.string 9 w' w.heap.size (fun _ => True) v112 y111) ∧ (b 0 = true → ∃ c_, (v112 : Value) = .slice (some adz_v112) y111.length c_) ∧ (b 3 = true → (m3_ : Value) = .pointer (some (adz_v112.add (a0_0).toNat)))) HT_.out HW_.out (by kernel_rfl) (by kernel_rfl) ?_ ?_ ?_
     ·exact ⟨.bool false, ⟨0, 0, none⟩, .bool false, by simp only [putSel, Bool.false_eq_true, if_false], BK109.out, HB.out, fun h_ => absurd h_ (by decide), fun h_ => absurd h_ (by decide), fun h_ => absurd h_ (by decide)⟩
     ·skip
      clear BK109 HB
      refine steps_cons ?_ ?_
      ·rintro b a w' ⟨v112, adz_v112, m3_, ha, Q_BK109, Q_HB, Q_HO113, Q_HA_HO113, Q_X3_⟩ hb_ hon hoff
       refine ⟨_, rfl, fun K hK => ?_⟩
       replace ha := z0 ha
       have BK109 := z0 Q_BK109
       have HB := z0 Q_HB
       refine Kd.R_lit_step Kd.string _ 9 ?hg (N := 6) ?hd (xs := ([(⟨#[]⟩ : ByteArray), (⟨#[105]⟩ : ByteArray), (⟨#[111]⟩ : ByteArray), (⟨#[118]⟩ : ByteArray)] : List ByteArray)) (inner := [.string (⟨#[]⟩ : ByteArray), .string (⟨#[105]⟩ : ByteArray), .string (⟨#[111]⟩ : ByteArray), .string (⟨#[118]⟩ : ByteArray)]) (ok := fun _ => True) (okp := fun _ => True) ?hr ?hp (fun _ hk => hk) trivial (Below.refl _ _) (Nat.le_refl _) (by simp) ?_; (case hd => rfl); (case hg => rfl); (case hr => first | (go_simp; done) | (go_simp; rfl)); (case hp => exact (Reps.one (show Kd.M Kd.string _ _ _ (⟨#[]⟩ : ByteArray) [.string (⟨#[]⟩ : ByteArray)] from rfl) (Reps.one (show Kd.M Kd.string _ _ _ (⟨#[105]⟩ : ByteArray) [.string (⟨#[105]⟩ : ByteArray)] from rfl) (Reps.one (show Kd.M Kd.string _ _ _ (⟨#[111]⟩ : ByteArray) [.string (⟨#[111]⟩ : ByteArray)] from rfl) (Reps.one (show Kd.M Kd.string _ _ _ (⟨#[118]⟩ : ByteArray) [.string (⟨#[118]⟩ : ByteArray)] from rfl) (Reps.none _ _))))))
       intro v112 w13 ho14 hb hg_ hnew_
       clear hg_ hnew_
       (first | rw [← Ny111.out] at ho14 | (simp only [Int.reduceToNat] at ho14; rw [← Ny111.out] at ho14))
       have n_ := az (Kd.R_lower ho14 (below_size (mB HB.out))) <| az (bB BK109.out hb) <| z0 (below_step (mB HB.out) hb)
       clear BK109 HB
       obtain ⟨HO113, BK109, HB⟩ := n_
       clear hb ho14
       obtain ⟨Ao15, co15, eo15⟩ := Kd.R_slice HO113.out
       subst eo15
       obtain ⟨ado15, fo15, _⟩ := Kd.at_string (Kd.R_reads' HO113.out).2.2 0 (by decide) (by rw [Ny111.out]; simp)
       cases fo15
       refine hK.out _ _ ⟨.slice (some ado15) y111.length co15, ado15, m3_, (by rw [ha.out]; exact putSel_upk 0 hb_ rfl rfl rfl), (mK BK109.out), (mB HB.out), fun _ => (mR HO113.out), fun _ => ⟨_, rfl⟩, fun h0_ => absurd ((hoff 3 (by kernel_rfl)).symm.trans h0_) (by decide)⟩
      refine steps_cons ?_ ?_
      ·rintro b a w' ⟨v112, adz_v112, m3_, ha, Q_BK109, Q_HB, Q_HO113, Q_HA_HO113, Q_X3_⟩ hb_ hon hoff
       refine ⟨_, rfl, fun K hK => ?_⟩
       have e7 : a.tmps[7]? = some (.pointer (some ⟨gb109, 0, none⟩)) := by rw [ha]; exact (putSel_off rfl).trans rfl
       replace ha := z0 ha
       have BK109 := z0 Q_BK109
       have HB := z0 Q_HB
       have hc0_ : w'.cell? ⟨gb109, 0, none⟩ = some (.int .i64 a0_0) := (blk_cell BK109.out 0).trans rfl
       have hc1_ : w'.cell? ⟨gb109, 1, none⟩ = some (.int .i64 a0_1) := (blk_cell BK109.out 1).trans rfl
       refine value_ (w1 := w') (v := .int .i64 a0_0) (by rfl) rfl ?_ ?_
       ·go_simp
        (try simp only [i64_w])
        try rfl
       refine hK.out _ _ ⟨v112, adz_v112, m3_, (by rw [ha.out]; exact putSel_upk 1 hb_ rfl rfl rfl), Q_BK109, Q_HB, Q_HO113, Q_HA_HO113, fun h0_ => absurd ((hoff 3 (by kernel_rfl)).symm.trans h0_) (by decide)⟩
      refine steps_cons ?_ ?_
      ·rintro b a w' ⟨v112, adz_v112, m3_, ha, Q_BK109, Q_HB, Q_HO113, Q_HA_HO113, Q_X3_⟩ hb_ hon hoff
       refine ⟨_, rfl, fun K hK => ?_⟩
       have e6 : a.tmps[6]? = some (v112) := by rw [ha]; exact putSel_on (e := (0, 6, v112)) 0 rfl rfl (hon 0 (by kernel_rfl)) rfl
       have e8 : a.tmps[8]? = some (.int .i64 a0_0) := by rw [ha]; exact putSel_on (e := (2, 8, .int .i64 a0_0)) 1 rfl rfl (hon 2 (by kernel_rfl)) rfl
       replace ha := z0 ha
       have BK109 := z0 Q_BK109
       have HB := z0 Q_HB
       have HO113 := z0 (Q_HO113 (hon 0 (by kernel_rfl)))
       have HA_HO113 := z0 (Q_HA_HO113 (hon 0 (by kernel_rfl)))
       obtain ⟨c_, hv_⟩ := HA_HO113.out
       rw [hv_] at e6
       refine value_ (w1 := w') (v := .pointer (some (adz_v112.add (a0_0).toNat))) (by rfl) rfl ?_ ?_
       ·go_simp
        (try simp only [i64_w])
        try rfl
       refine hK.out _ _ ⟨v112, adz_v112, (.pointer (some (adz_v112.add (a0_0).toNat))), (by rw [ha.out]; exact putSel_upk 2 hb_ rfl rfl rfl), Q_BK109, Q_HB, Q_HO113, Q_HA_HO113, fun _ => rfl⟩
      refine steps_cons ?_ ?_
      ·rintro b a w' ⟨v112, adz_v112, m3_, ha, Q_BK109, Q_HB, Q_HO113, Q_HA_HO113, Q_X3_⟩ hb_ hon hoff
       refine ⟨_, rfl, fun K hK => ?_⟩
       have e9 : a.tmps[9]? = some (m3_) := by rw [ha]; exact putSel_on (e := (3, 9, m3_)) 2 rfl rfl (hon 3 (by kernel_rfl)) rfl
       rw [Q_X3_ (hon 3 (by kernel_rfl))] at e9
       replace ha := z0 ha
       have BK109 := z0 Q_BK109
       have HB := z0 Q_HB
       have HO113 := z0 (Q_HO113 (hon 0 (by kernel_rfl)))
       have HA_HO113 := z0 (Q_HA_HO113 (hon 0 (by kernel_rfl)))
       obtain ⟨c_, hv_⟩ := HA_HO113.out
       have hF_ := HO113.out
       rw [hv_] at hF_
       obtain ⟨ad_, ea_, hx_⟩ := Kd.at_string (Kd.R_reads' hF_).2.2 a0_0 (of_eq_true pi114) (of_eq_true qi114)
       cases ea_
       refine value_ (w1 := w') (v := .string (rdOf ByteArray.empty y111 a0_0)) (by rfl) rfl ?_ ?_
       ·go_simp
        (try simp only [i64_w])
        try rfl
       refine hK.out _ _ ⟨v112, adz_v112, m3_, (by rw [ha.out]; exact putSel_upk 3 hb_ rfl rfl rfl), Q_BK109, Q_HB, Q_HO113, Q_HA_HO113, Q_X3_⟩
      refine steps_cons ?_ ?_
      ·rintro b a w' ⟨v112, adz_v112, m3_, ha, Q_BK109, Q_HB, Q_HO113, Q_HA_HO113, Q_X3_⟩ hb_ hon hoff
       refine ⟨_, rfl, fun K hK => ?_⟩
       have e11 : a.tmps[11]? = some (.pointer (some ⟨gb109, 1, none⟩)) := by rw [ha]; exact (putSel_off rfl).trans rfl
       replace ha := z0 ha
       have BK109 := z0 Q_BK109
       have HB := z0 Q_HB
       have hc0_ : w'.cell? ⟨gb109, 0, none⟩ = some (.int .i64 a0_0) := (blk_cell BK109.out 0).trans rfl
       have hc1_ : w'.cell? ⟨gb109, 1, none⟩ = some (.int .i64 a0_1) := (blk_cell BK109.out 1).trans rfl
       refine value_ (w1 := w') (v := .int .i64 a0_1) (by rfl) rfl ?_ ?_
       ·go_simp
        (try simp only [i64_w])
        try rfl
       refine hK.out _ _ ⟨v112, adz_v112, m3_, (by rw [ha.out]; exact putSel_upk 4 hb_ rfl rfl rfl), Q_BK109, Q_HB, Q_HO113, Q_HA_HO113, Q_X3_⟩
      refine steps_cons ?_ ?_
      ·rintro b a w' ⟨v112, adz_v112, m3_, ha, Q_BK109, Q_HB, Q_HO113, Q_HA_HO113, Q_X3_⟩ hb_ hon hoff
       refine ⟨_, rfl, fun K hK => ?_⟩
       have e12 : a.tmps[12]? = some (.int .i64 a0_1) := by rw [ha]; exact putSel_on (e := (6, 12, .int .i64 a0_1)) 4 rfl rfl (hon 6 (by kernel_rfl)) rfl
       replace ha := z0 ha
       have BK109 := z0 Q_BK109
       have HB := z0 Q_HB
       refine goes_ Tryd.func13 (by kernel_rfl) rfl #[.int .i64 a0_1] (by rfl) rfl rfl (by first | (simp only [List.map_toArray, List.map_cons, List.map_nil, Act.eval, Array.getD_eq_getD_getElem?, Option.getD_some, e12]; done) | (simp only [List.map_toArray, List.map_cons, List.map_nil, Act.eval, Array.getD_eq_getD_getElem?, Option.getD_some, e12]; rfl)) ?_
       with_reducible refine (spec_l12Dec.calls k a0_1 t115 _ A10.out).mono ?_
       rintro e w13 ⟨rfl, hb⟩
       refine ⟨_, rfl, ?_⟩
       have n0_ := z0 (bB BK109.out hb)
       have n1_ := z0 (below_step (mB HB.out) hb)
       have z_HO113 := fun (h0_ : b 0 = true) => (show Kd.R Kd.string 9 w13 w.heap.size (fun _ => True) v112 y111 from by first | exact (Kd.R_below (by (with_reducible repeat (first | apply Kd.R_alloc | apply Kd.R_drewN | apply Kd.R_drew)); exact (Q_HO113 h0_)) hb) | exact Kd.R_mono (Kd.R_below (by (with_reducible repeat (first | apply Kd.R_alloc | apply Kd.R_drewN | apply Kd.R_drew)); exact (Q_HO113 h0_)) hb) (fun _ h_ => by first | trivial | exact h_ | exact h_.1))
       clear BK109 HB
       have BK109 := n0_
       have HB := n1_
       clear n0_ n1_
       (try clear hb)
       (try clear hb2)
       (try clear hk)
       (try clear hi)
       refine hK.out _ _ ⟨v112, adz_v112, m3_, (by rw [ha.out]; exact putSel_upk 5 hb_ rfl rfl rfl), (mK BK109.out), (mB HB.out), z_HO113, Q_HA_HO113, Q_X3_⟩
      refine steps_cons ?_ ?_
      ·rintro b a w' ⟨v112, adz_v112, m3_, ha, Q_BK109, Q_HB, Q_HO113, Q_HA_HO113, Q_X3_⟩ hb_ hon hoff
       refine ⟨_, rfl, fun K hK => ?_⟩
       have e10 : a.tmps[10]? = some (.string (rdOf ByteArray.empty y111 a0_0)) := by rw [ha]; exact putSel_on (e := (4, 10, .string (rdOf ByteArray.empty y111 a0_0))) 3 rfl rfl (hon 4 (by kernel_rfl)) rfl
       have e13 : a.tmps[13]? = some (.string t115) := by rw [ha]; exact putSel_on (e := (7, 13, .string t115)) 5 rfl rfl (hon 7 (by kernel_rfl)) rfl
       replace ha := z0 ha
       have BK109 := z0 Q_BK109
       have HB := z0 Q_HB
       have HO113 := z0 (Q_HO113 (hon 0 (by kernel_rfl)))
       have HA_HO113 := z0 (Q_HA_HO113 (hon 0 (by kernel_rfl)))
       refine value_ (w1 := w') (v := .string ((rdOf ByteArray.empty y111 a0_0) ++ t115)) (by rfl) rfl ?_ ?_
       ·go_simp
        (try simp only [i64_w])
        try rfl
       refine hK.out _ _ ⟨v112, adz_v112, m3_, (by rw [ha.out]; exact putSel_upk 6 hb_ rfl rfl rfl), Q_BK109, Q_HB, Q_HO113, Q_HA_HO113, Q_X3_⟩
      refine steps_cons ?_ ?_
      ·rintro b a w' ⟨v112, adz_v112, m3_, ha, Q_BK109, Q_HB, Q_HO113, Q_HA_HO113, Q_X3_⟩ hb_ hon hoff
       refine ⟨_, rfl, fun K hK => ?_⟩
       have e14 : a.tmps[14]? = some (.string ((rdOf ByteArray.empty y111 a0_0) ++ t115)) := by rw [ha]; exact putSel_on (e := (8, 14, .string ((rdOf ByteArray.empty y111 a0_0) ++ t115))) 6 rfl rfl (hon 8 (by kernel_rfl)) rfl
       replace ha := z0 ha
       have BK109 := z0 Q_BK109
       have HB := z0 Q_HB
       have HO113 := z0 (Q_HO113 (hon 0 (by kernel_rfl)))
       have HA_HO113 := z0 (Q_HA_HO113 (hon 0 (by kernel_rfl)))
       refine value_ (w1 := w') (v := .string ((rdOf ByteArray.empty y111 a0_0) ++ t115)) (by rfl) rfl ?_ ?_
       ·go_simp
        (try simp only [i64_w])
        try rfl
       refine hK.out _ _ ⟨v112, adz_v112, m3_, (by rw [ha.out]; exact putSel_upk 7 hb_ rfl rfl rfl), Q_BK109, Q_HB, Q_HO113, Q_HA_HO113, Q_X3_⟩
      exact steps_nil
     rintro b a w17 hall ⟨v112, adz_v112, m3_, ha, Q_BK109, Q_HB, Q_HO113, Q_HA_HO113, Q_X3_⟩
     clear BK109 HB
     have hb0_ := hall 0 (by kernel_rfl)
     have hb2_ := hall 2 (by kernel_rfl)
     have hb3_ := hall 3 (by kernel_rfl)
     have hb4_ := hall 4 (by kernel_rfl)
     have hb6_ := hall 6 (by kernel_rfl)
     have hb7_ := hall 7 (by kernel_rfl)
     have hb8_ := hall 8 (by kernel_rfl)
     have hb9_ := hall 9 (by kernel_rfl)
     subst ha
     obtain rfl := Q_X3_ hb3_
     simp only [putSel, hb0_, hb2_, hb3_, hb4_, hb6_, hb7_, hb8_, hb9_, if_true, Act.put, List.setIfInBounds_toArray, List.set_cons_zero, List.set_cons_succ]
     have BK109 := z0 Q_BK109
     clear Q_BK109
     have HB := z0 Q_HB
     clear Q_HB
     have HO113 := z0 (Q_HO113 hb0_)
     clear Q_HO113
     have HA_HO113 := z0 (Q_HA_HO113 hb0_)
     clear Q_HA_HO113 hall hb0_ hb2_ hb3_ hb4_ hb6_ hb7_ hb8_ hb9_
     obtain ⟨co18, eo18⟩ := HA_HO113.out
     clear HA_HO113
     subst eo18
     try go_wp2
     go_ret
     exact ⟨rfx, mB HB.out⟩
    ·rw [if_neg c11] at H
     exact absurd H (by simp)
   ·rw [if_neg c9] at H
    exact absurd H (by simp)
  ·rw [if_neg c8] at H
   exact absurd H (by simp)
 ·replace c7 := Bool.eq_false_iff.mpr c7
  subst c7
  have H1 : (some (⟨#[]⟩ : ByteArray)) = some r := by rw [if_neg (show ¬ (false = true) by decide)] at H; exact H
  clear H
  have H := H1
  clear H1
  obtain rfl := Option.some.inj H
  go_wp2
  go_ret
  exact ⟨rfx, mB HB.out⟩

end Go.Proofs.YtddnijmgipffeaaDoor.B
