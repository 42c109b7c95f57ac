/- Printed functions of this seat, in one text. -/
import Derived.Test.YtiofkhfmdophpaaB0
import Derived.Test.YtiofkhfmdophpaaSq
import Derived.Test.YtiofkhfmdophpaaPkA
namespace Go.Proofs.Ytiofkhfmdophpaa.B
open Go.RowKit Go.Proofs.YtiofkhfmdophpaaW.PrintWords Go.Proofs.YtiofkhfmdophpaaW.PrintLast Go.Proofs.YtiofkhfmdophpaaW.PrintMore
attribute [local go_sem] max2_int min2_int max_two min_two max_three min_three max_four min_four   -- for this text's walks alone
set_option linter.unusedVariables false
set_option linter.unusedSimpArgs false

/-! ### spec_MemOpen: function 127 -/
def spec_MemOpen.f  : Option (List Int × List Int × List Int) := if 6 ≤ 35184372088832 then (some ((List.replicate 6 0), (List.replicate 6 0), (List.replicate 6 0))) else (none)
theorem q127_1 {p : Prop} (h : p := by first | (simp only [putAll, Act.put, List.setIfInBounds_toArray, List.set_cons_zero, List.set_cons_succ]; done) | (simp only [putAll, Act.put, List.setIfInBounds_toArray, List.set_cons_zero, List.set_cons_succ]; rfl)) : p := h
theorem q127_2 {p : Prop} (h : p := by (with_reducible repeat (first | apply Kd.R_alloc | apply Kd.R_drewN | apply Kd.R_drew)); exact Kd.R_mono HO751.out (fun _ hk => hk.2)) : p := h
theorem q127_3 {p : Prop} (h : p := by (with_reducible repeat (first | apply Kd.R_alloc | apply Kd.R_drewN | apply Kd.R_drew)); exact Kd.R_mono HO757.out (fun _ hk => hk.2)) : p := h
theorem q127_4 {p : Prop} (h : p := by (with_reducible repeat (first | apply Kd.R_alloc | apply Kd.R_drewN | apply Kd.R_drew)); exact Kd.R_mono HO754.out (fun _ hk => hk.2)) : p := h
set_option maxHeartbeats 8000000 in
set_option maxRecDepth 100000 in
theorem spec_MemOpen.calls  (r1 : List Int) (r2 : List Int) (r3 : List Int) (w : World) (h : spec_MemOpen.f  = some (r1, r2, r3)) :
  Calls Try.prog 127 #[] w fun e w' => ∃ v0_ v1_ v2_ : Value, e = .returned (.agg #[v0_, v1_, v2_]) ∧ Kd.R (Kd.int .i64) 3 w' w.heap.size (fun k_ => nB k_ v1_ ∧ nB k_ v2_) v0_ r1 ∧ Kd.R (Kd.int .i64) 3 w' w.heap.size (fun k_ => nB k_ v0_ ∧ nB k_ v2_) v1_ r2 ∧ Kd.R (Kd.int .i64) 3 w' w.heap.size (fun k_ => nB k_ v0_ ∧ nB k_ v1_) v2_ r3 ∧ Below w.heap.size w w' := by
 have hu44 := Try.underlying44
 have HB := z0 (Below.refl w.heap.size w)
 have H : (if 6 ≤ 35184372088832 then (some ((List.replicate 6 0), (List.replicate 6 0), (List.replicate 6 0))) else (none)) = some (r1, r2, r3) := h
 clear h
 by_cases c1 : 6 ≤ 35184372088832
 ·rw [if_pos c1] at H
  have c1b0 := eq_true c1
  have c1b1 : decide (6 ≤ 35184372088832) = true := decide_eq_true c1
  clear c1
  obtain ⟨y749, hy749⟩ : ∃ y_ : List Int, y_ = (List.replicate 6 0) := ⟨_, rfl⟩
  replace H : (some (y749, (List.replicate 6 0), (List.replicate 6 0))) = some (r1, r2, r3) := by first | (rw [hy749]; with_reducible exact H) | (have H2_ := (Option.bind_some _ _).symm.trans H; rw [hy749]; with_reducible exact H2_) | (have H2_ := (Option.bind_some _ _).symm.trans H; with_reducible exact H2_) | with_reducible exact H | (rw [hy749]; exact H) | exact H
  have Ny749 := z0 hy749
  clear hy749
  obtain ⟨y752, hy752⟩ : ∃ y_ : List Int, y_ = (List.replicate 6 0) := ⟨_, rfl⟩
  replace H : (some (y749, y752, (List.replicate 6 0))) = some (r1, r2, r3) := by first | (rw [hy752]; with_reducible exact H) | (have H2_ := (Option.bind_some _ _).symm.trans H; rw [hy752]; with_reducible exact H2_) | (have H2_ := (Option.bind_some _ _).symm.trans H; with_reducible exact H2_) | with_reducible exact H | (rw [hy752]; exact H) | exact H
  have Ny752 := z0 hy752
  clear hy752
  obtain ⟨y755, hy755⟩ : ∃ y_ : List Int, y_ = (List.replicate 6 0) := ⟨_, rfl⟩
  replace H : (some (y749, y752, y755)) = some (r1, r2, r3) := by first | (rw [hy755]; with_reducible exact H) | (have H2_ := (Option.bind_some _ _).symm.trans H; rw [hy755]; with_reducible exact H2_) | (have H2_ := (Option.bind_some _ _).symm.trans H; with_reducible exact H2_) | with_reducible exact H | (rw [hy755]; exact H) | exact H
  have Ny755 := z0 hy755
  clear hy755
  simp only [Option.some.injEq, Prod.mk.injEq] at H
  obtain ⟨rfl, rfl, rfl⟩ := H
  go_enter Try.func127, Try.ntmps127
  try go_wp2_with (first | ((with_reducible refine gate_dst (N := 0) rfl ?_); refine box_event ?hg (N := 0) ?hd (cs := #[.slice none 0 0, .slice none 0 0, .slice none 0 0]) (t := 44) ?hr ?_; (case hd => rfl); (case hg => rfl); (case hr => first | (go_simp; done) | (go_simp; rfl)); intro gb748 hg w2 hbox hb; have n_ := az (below_step (mB HB.out) hb) <| az (hbox) <| az ((by rw [hg]; exact (below_size (mB HB.out)) : w.heap.size ≤ gb748)) <| z0 ((by rw [hg]; exact (below_size (mB HB.out)) : w.heap.size ≤ gb748)); clear HB; obtain ⟨HB, BK748, GW748, GE748⟩ := n_; clear hb hbox hg))
  have n_ := az (blk_drew BK748.out) <| z0 (below_drew1 HB.out)
  clear BK748 HB
  obtain ⟨BK748, HB⟩ := n_
  refine start_ (n := 5) (S := fun w' => True) (ds := []) #[false, false, false, false, false] (by kernel_rfl) rfl rfl trivial (fun hHeld => ?_)
  generalize w2.drew = w3 at BK748 HB hHeld ⊢
  refine join_ (σ := Value × Value × Value) 2 #[true, true, true, false, false] (fun s_ => [(1, s_.1), (2, s_.2.1), (3, s_.2.2)]) (fun s_ w' => (Kd.R (Kd.int .i64) 3 w' w.heap.size (fun k_ => some k_ ≠ (s_.2.1 : Value).ownBlock ∧ some k_ ≠ (s_.2.2 : Value).ownBlock) s_.1 y749) ∧ (Kd.R (Kd.int .i64) 3 w' w.heap.size (fun k_ => some k_ ≠ (s_.1 : Value).ownBlock ∧ some k_ ≠ (s_.2.2 : Value).ownBlock) s_.2.1 y752) ∧ (Kd.R (Kd.int .i64) 3 w' w.heap.size (fun k_ => some k_ ≠ (s_.1 : Value).ownBlock ∧ some k_ ≠ (s_.2.1 : Value).ownBlock) s_.2.2 y755) ∧ (w'.heap[gb748]? = some (.cells #[.slice none 0 0, .slice none 0 0, .slice none 0 0] 44 (0, 0))) ∧ (Below w.heap.size w w')) ?_ ?_
  rotate_left
  ·intro hJ0_1_2
   refine join_ (σ := Value × Value) 3 #[true, true, false, false, false] (fun s_ => [(1, s_.1), (2, s_.2)]) (fun s_ w' => (Kd.R (Kd.int .i64) 3 w' w.heap.size (fun k_ => some k_ ≠ (s_.2 : Value).ownBlock) s_.1 y749) ∧ (Kd.R (Kd.int .i64) 3 w' w.heap.size (fun k_ => some k_ ≠ (s_.1 : Value).ownBlock) s_.2 y752) ∧ (w'.heap[gb748]? = some (.cells #[.slice none 0 0, .slice none 0 0, .slice none 0 0] 44 (0, 0))) ∧ (Below w.heap.size w w')) ?_ ?_
   rotate_left
   ·intro hJ0_1
    refine join_ (σ := Value × Value) 3 #[true, false, true, false, false] (fun s_ => [(1, s_.1), (3, s_.2)]) (fun s_ w' => (Kd.R (Kd.int .i64) 3 w' w.heap.size (fun k_ => some k_ ≠ (s_.2 : Value).ownBlock) s_.1 y749) ∧ (Kd.R (Kd.int .i64) 3 w' w.heap.size (fun k_ => some k_ ≠ (s_.1 : Value).ownBlock) s_.2 y755) ∧ (w'.heap[gb748]? = some (.cells #[.slice none 0 0, .slice none 0 0, .slice none 0 0] 44 (0, 0))) ∧ (Below w.heap.size w w')) ?_ ?_
    rotate_left
    ·intro hJ0_2
     refine join_ (σ := Value × Value) 3 #[false, true, true, false, false] (fun s_ => [(2, s_.1), (3, s_.2)]) (fun s_ w' => (Kd.R (Kd.int .i64) 3 w' w.heap.size (fun k_ => some k_ ≠ (s_.2 : Value).ownBlock) s_.1 y752) ∧ (Kd.R (Kd.int .i64) 3 w' w.heap.size (fun k_ => some k_ ≠ (s_.1 : Value).ownBlock) s_.2 y755) ∧ (w'.heap[gb748]? = some (.cells #[.slice none 0 0, .slice none 0 0, .slice none 0 0] 44 (0, 0))) ∧ (Below w.heap.size w w')) ?_ ?_
     rotate_left
     ·intro hJ1_2
      refine join_ (σ := Value) 4 #[true, false, false, false, false] (fun s_ => [(1, s_)]) (fun s_ w' => (Kd.R (Kd.int .i64) 3 w' w.heap.size (fun _ => True) s_ y749) ∧ (w'.heap[gb748]? = some (.cells #[.slice none 0 0, .slice none 0 0, .slice none 0 0] 44 (0, 0))) ∧ (Below w.heap.size w w')) ?_ ?_
      rotate_left
      ·intro hJ0
       refine join_ (σ := Value) 4 #[false, true, false, false, false] (fun s_ => [(2, s_)]) (fun s_ w' => (Kd.R (Kd.int .i64) 3 w' w.heap.size (fun _ => True) s_ y752) ∧ (w'.heap[gb748]? = some (.cells #[.slice none 0 0, .slice none 0 0, .slice none 0 0] 44 (0, 0))) ∧ (Below w.heap.size w w')) ?_ ?_
       rotate_left
       ·intro hJ1
        refine join_ (σ := Value) 4 #[false, false, true, false, false] (fun s_ => [(3, s_)]) (fun s_ w' => (Kd.R (Kd.int .i64) 3 w' w.heap.size (fun _ => True) s_ y755) ∧ (w'.heap[gb748]? = some (.cells #[.slice none 0 0, .slice none 0 0, .slice none 0 0] 44 (0, 0))) ∧ (Below w.heap.size w w')) ?_ ?_
        rotate_left
        ·intro hJ2
         refine three_ (i := 0) (j := 1) (k := 2) (Ni := some 1) (Nj := some 2) (Nk := some 3) #[true, false, false, false, false] #[false, true, false, false, false] #[false, false, true, false, false] rfl rfl rfl rfl rfl rfl (by kernel_rfl) (by decide) (by decide) (by decide) (fun K hK => ?_) (fun K hK => ?_) (fun K hK => ?_)
         ·skip
          refine Kd.R_make_step (Kd.int .i64) _ 3 (by rfl) (N := 1) rfl 39 _ _ rfl 6 rfl rfl Try.underlying39 (.int .i64 0) 8 info3 rfl (by decide) (by omega) 0 (ok := fun _ => True) (okp := fun _ => True) rfl (fun _ hk => hk) trivial (by omega) (by omega) (Below.refl _ _) (Nat.le_refl _) ?_
          intro v750 w4 ho5 hb hg_ hnew_
          clear hg_ hnew_
          (first | rw [← Ny749.out] at ho5 | (simp only [Int.reduceToNat] at ho5; rw [← Ny749.out] at ho5))
          have n_ := az (Kd.R_lower ho5 (below_size (mB HB.out))) <| az (bB BK748.out hb) <| z0 (below_step (mB HB.out) hb)
          clear BK748 HB
          obtain ⟨HO751, BK748, HB⟩ := n_
          clear hb ho5
          refine hK.out _ _ trivial (fun hHeld => ?_)
          clear hK K
          refine norm_ (a' := ?_) ?_ ?_
          rotate_left
          ·show Act.put _ (some 1) _ = _
           simp only [Act.put, List.setIfInBounds_toArray, List.set_cons_zero, List.set_cons_succ, i64_w, i32_w]
           rfl
          exact norm_ q127_1 (hJ0 (v750) _ ⟨(mR HO751.out), (mK BK748.out), (mB HB.out)⟩)
         ·skip
          refine Kd.R_make_step (Kd.int .i64) _ 3 (by rfl) (N := 2) rfl 39 _ _ rfl 6 rfl rfl Try.underlying39 (.int .i64 0) 8 info3 rfl (by decide) (by omega) 0 (ok := fun _ => True) (okp := fun _ => True) rfl (fun _ hk => hk) trivial (by omega) (by omega) (Below.refl _ _) (Nat.le_refl _) ?_
          intro v753 w4 ho5 hb hg_ hnew_
          clear hg_ hnew_
          (first | rw [← Ny752.out] at ho5 | (simp only [Int.reduceToNat] at ho5; rw [← Ny752.out] at ho5))
          have n_ := az (Kd.R_lower ho5 (below_size (mB HB.out))) <| az (bB BK748.out hb) <| z0 (below_step (mB HB.out) hb)
          clear BK748 HB
          obtain ⟨HO754, BK748, HB⟩ := n_
          clear hb ho5
          refine hK.out _ _ trivial (fun hHeld => ?_)
          clear hK K
          refine norm_ (a' := ?_) ?_ ?_
          rotate_left
          ·show Act.put _ (some 2) _ = _
           simp only [Act.put, List.setIfInBounds_toArray, List.set_cons_zero, List.set_cons_succ, i64_w, i32_w]
           rfl
          exact norm_ q127_1 (hJ1 (v753) _ ⟨(mR HO754.out), (mK BK748.out), (mB HB.out)⟩)
         ·skip
          refine Kd.R_make_step (Kd.int .i64) _ 3 (by rfl) (N := 3) rfl 39 _ _ rfl 6 rfl rfl Try.underlying39 (.int .i64 0) 8 info3 rfl (by decide) (by omega) 0 (ok := fun _ => True) (okp := fun _ => True) rfl (fun _ hk => hk) trivial (by omega) (by omega) (Below.refl _ _) (Nat.le_refl _) ?_
          intro v756 w4 ho5 hb hg_ hnew_
          clear hg_ hnew_
          (first | rw [← Ny755.out] at ho5 | (simp only [Int.reduceToNat] at ho5; rw [← Ny755.out] at ho5))
          have n_ := az (Kd.R_lower ho5 (below_size (mB HB.out))) <| az (bB BK748.out hb) <| z0 (below_step (mB HB.out) hb)
          clear BK748 HB
          obtain ⟨HO757, BK748, HB⟩ := n_
          clear hb ho5
          refine hK.out _ _ trivial (fun hHeld => ?_)
          clear hK K
          refine norm_ (a' := ?_) ?_ ?_
          rotate_left
          ·show Act.put _ (some 3) _ = _
           simp only [Act.put, List.setIfInBounds_toArray, List.set_cons_zero, List.set_cons_succ, i64_w, i32_w]
           rfl
          exact norm_ q127_1 (hJ2 (v756) _ ⟨(mR HO757.out), (mK BK748.out), (mB HB.out)⟩)
        ·skip
         rintro v756 w6 ⟨h0_, h1_, h2_⟩
         have n0_ : Aside0 (Kd.R (Kd.int .i64) 3 w6 w.heap.size (fun _ => True) v756 y755) := ⟨h0_⟩
         have n1_ : Aside0 (w6.heap[gb748]? = some (.cells #[.slice none 0 0, .slice none 0 0, .slice none 0 0] 44 (0, 0))) := ⟨h1_⟩
         have n2_ : Aside0 (Below w.heap.size w w6) := ⟨h2_⟩
         clear BK748 HB h0_ h1_ h2_
         have HO757 := n0_
         have BK748 := n1_
         have HB := n2_
         clear n0_ n1_ n2_
         have hHeld := trivial
         refine norm_ (a' := ?_) ?_ ?_
         rotate_left
         ·simp only [putAll, Act.put, List.setIfInBounds_toArray, List.set_cons_zero, List.set_cons_succ]
          rfl
         refine two_ (i := 0) (j := 1) (Ni := some 1) (Nj := some 2) #[true, false, true, false, false] #[false, true, true, false, false] rfl rfl rfl rfl (by kernel_rfl) (by decide) (by decide) (fun K hK => ?_) (fun K hK => ?_)
         ·skip
          refine Kd.R_make_step (Kd.int .i64) _ 3 (by rfl) (N := 1) rfl 39 _ _ rfl 6 rfl rfl Try.underlying39 (.int .i64 0) 8 info3 rfl (by decide) (by omega) 0 (ok := fun _ => True) (okp := fun _ => True) rfl (fun _ hk => hk) trivial (by omega) (by omega) (Below.refl _ _) (Nat.le_refl _) ?_
          intro v750 w7 ho8 hb hg_ hnew_
          clear hg_ hnew_
          (first | rw [← Ny749.out] at ho8 | (simp only [Int.reduceToNat] at ho8; rw [← Ny749.out] at ho8))
          have n_ := az (Kd.R_elder' (mR HO757.out) (by first | exact Kd.R_base ho8 | exact Kd.R_base ho8) hb) <| And.intro (z0 (Kd.R_lower (Kd.R_new' ho8 (Kd.R_lt (mR HO757.out))) (below_size (mB HB.out)))) <| az (bB BK748.out hb) <| z0 (below_step (mB HB.out) hb)
          clear HO757 BK748 HB
          obtain ⟨HO757, HO751, BK748, HB⟩ := n_
          clear hb ho8
          refine hK.out _ _ trivial (fun hHeld => ?_)
          clear hK K
          refine norm_ (a' := ?_) ?_ ?_
          rotate_left
          ·show Act.put _ (some 1) _ = _
           simp only [Act.put, List.setIfInBounds_toArray, List.set_cons_zero, List.set_cons_succ, i64_w, i32_w]
           rfl
          exact norm_ q127_1 (hJ0_2 (v750, v756) _ ⟨q127_2, q127_3, (mK BK748.out), (mB HB.out)⟩)
         ·skip
          refine Kd.R_make_step (Kd.int .i64) _ 3 (by rfl) (N := 2) rfl 39 _ _ rfl 6 rfl rfl Try.underlying39 (.int .i64 0) 8 info3 rfl (by decide) (by omega) 0 (ok := fun _ => True) (okp := fun _ => True) rfl (fun _ hk => hk) trivial (by omega) (by omega) (Below.refl _ _) (Nat.le_refl _) ?_
          intro v753 w7 ho8 hb hg_ hnew_
          clear hg_ hnew_
          (first | rw [← Ny752.out] at ho8 | (simp only [Int.reduceToNat] at ho8; rw [← Ny752.out] at ho8))
          have n_ := az (Kd.R_elder' (mR HO757.out) (by first | exact Kd.R_base ho8 | exact Kd.R_base ho8) hb) <| And.intro (z0 (Kd.R_lower (Kd.R_new' ho8 (Kd.R_lt (mR HO757.out))) (below_size (mB HB.out)))) <| az (bB BK748.out hb) <| z0 (below_step (mB HB.out) hb)
          clear HO757 BK748 HB
          obtain ⟨HO757, HO754, BK748, HB⟩ := n_
          clear hb ho8
          refine hK.out _ _ trivial (fun hHeld => ?_)
          clear hK K
          refine norm_ (a' := ?_) ?_ ?_
          rotate_left
          ·show Act.put _ (some 2) _ = _
           simp only [Act.put, List.setIfInBounds_toArray, List.set_cons_zero, List.set_cons_succ, i64_w, i32_w]
           rfl
          exact norm_ q127_1 (hJ1_2 (v753, v756) _ ⟨q127_4, q127_3, (mK BK748.out), (mB HB.out)⟩)
       ·skip
        rintro v753 w6 ⟨h0_, h1_, h2_⟩
        have n0_ : Aside0 (Kd.R (Kd.int .i64) 3 w6 w.heap.size (fun _ => True) v753 y752) := ⟨h0_⟩
        have n1_ : Aside0 (w6.heap[gb748]? = some (.cells #[.slice none 0 0, .slice none 0 0, .slice none 0 0] 44 (0, 0))) := ⟨h1_⟩
        have n2_ : Aside0 (Below w.heap.size w w6) := ⟨h2_⟩
        clear BK748 HB h0_ h1_ h2_
        have HO754 := n0_
        have BK748 := n1_
        have HB := n2_
        clear n0_ n1_ n2_
        have hHeld := trivial
        refine norm_ (a' := ?_) ?_ ?_
        rotate_left
        ·simp only [putAll, Act.put, List.setIfInBounds_toArray, List.set_cons_zero, List.set_cons_succ]
         rfl
        refine two_ (i := 0) (j := 2) (Ni := some 1) (Nj := some 3) #[true, true, false, false, false] #[false, true, true, false, false] rfl rfl rfl rfl (by kernel_rfl) (by decide) (by decide) (fun K hK => ?_) (fun K hK => ?_)
        ·skip
         refine Kd.R_make_step (Kd.int .i64) _ 3 (by rfl) (N := 1) rfl 39 _ _ rfl 6 rfl rfl Try.underlying39 (.int .i64 0) 8 info3 rfl (by decide) (by omega) 0 (ok := fun _ => True) (okp := fun _ => True) rfl (fun _ hk => hk) trivial (by omega) (by omega) (Below.refl _ _) (Nat.le_refl _) ?_
         intro v750 w7 ho8 hb hg_ hnew_
         clear hg_ hnew_
         (first | rw [← Ny749.out] at ho8 | (simp only [Int.reduceToNat] at ho8; rw [← Ny749.out] at ho8))
         have n_ := az (Kd.R_elder' (mR HO754.out) (by first | exact Kd.R_base ho8 | exact Kd.R_base ho8) hb) <| And.intro (z0 (Kd.R_lower (Kd.R_new' ho8 (Kd.R_lt (mR HO754.out))) (below_size (mB HB.out)))) <| az (bB BK748.out hb) <| z0 (below_step (mB HB.out) hb)
         clear HO754 BK748 HB
         obtain ⟨HO754, HO751, BK748, HB⟩ := n_
         clear hb ho8
         refine hK.out _ _ trivial (fun hHeld => ?_)
         clear hK K
         refine norm_ (a' := ?_) ?_ ?_
         rotate_left
         ·show Act.put _ (some 1) _ = _
          simp only [Act.put, List.setIfInBounds_toArray, List.set_cons_zero, List.set_cons_succ, i64_w, i32_w]
          rfl
         exact norm_ q127_1 (hJ0_1 (v750, v753) _ ⟨q127_2, q127_4, (mK BK748.out), (mB HB.out)⟩)
        ·skip
         refine Kd.R_make_step (Kd.int .i64) _ 3 (by rfl) (N := 3) rfl 39 _ _ rfl 6 rfl rfl Try.underlying39 (.int .i64 0) 8 info3 rfl (by decide) (by omega) 0 (ok := fun _ => True) (okp := fun _ => True) rfl (fun _ hk => hk) trivial (by omega) (by omega) (Below.refl _ _) (Nat.le_refl _) ?_
         intro v756 w7 ho8 hb hg_ hnew_
         clear hg_ hnew_
         (first | rw [← Ny755.out] at ho8 | (simp only [Int.reduceToNat] at ho8; rw [← Ny755.out] at ho8))
         have n_ := az (Kd.R_elder' (mR HO754.out) (by first | exact Kd.R_base ho8 | exact Kd.R_base ho8) hb) <| And.intro (z0 (Kd.R_lower (Kd.R_new' ho8 (Kd.R_lt (mR HO754.out))) (below_size (mB HB.out)))) <| az (bB BK748.out hb) <| z0 (below_step (mB HB.out) hb)
         clear HO754 BK748 HB
         obtain ⟨HO754, HO757, BK748, HB⟩ := n_
         clear hb ho8
         refine hK.out _ _ trivial (fun hHeld => ?_)
         clear hK K
         refine norm_ (a' := ?_) ?_ ?_
         rotate_left
         ·show Act.put _ (some 3) _ = _
          simp only [Act.put, List.setIfInBounds_toArray, List.set_cons_zero, List.set_cons_succ, i64_w, i32_w]
          rfl
         exact norm_ q127_1 (hJ1_2 (v753, v756) _ ⟨q127_4, q127_3, (mK BK748.out), (mB HB.out)⟩)
      ·skip
       rintro v750 w6 ⟨h0_, h1_, h2_⟩
       have n0_ : Aside0 (Kd.R (Kd.int .i64) 3 w6 w.heap.size (fun _ => True) v750 y749) := ⟨h0_⟩
       have n1_ : Aside0 (w6.heap[gb748]? = some (.cells #[.slice none 0 0, .slice none 0 0, .slice none 0 0] 44 (0, 0))) := ⟨h1_⟩
       have n2_ : Aside0 (Below w.heap.size w w6) := ⟨h2_⟩
       clear BK748 HB h0_ h1_ h2_
       have HO751 := n0_
       have BK748 := n1_
       have HB := n2_
       clear n0_ n1_ n2_
       have hHeld := trivial
       refine norm_ (a' := ?_) ?_ ?_
       rotate_left
       ·simp only [putAll, Act.put, List.setIfInBounds_toArray, List.set_cons_zero, List.set_cons_succ]
        rfl
       refine two_ (i := 1) (j := 2) (Ni := some 2) (Nj := some 3) #[true, true, false, false, false] #[true, false, true, false, false] rfl rfl rfl rfl (by kernel_rfl) (by decide) (by decide) (fun K hK => ?_) (fun K hK => ?_)
       ·skip
        refine Kd.R_make_step (Kd.int .i64) _ 3 (by rfl) (N := 2) rfl 39 _ _ rfl 6 rfl rfl Try.underlying39 (.int .i64 0) 8 info3 rfl (by decide) (by omega) 0 (ok := fun _ => True) (okp := fun _ => True) rfl (fun _ hk => hk) trivial (by omega) (by omega) (Below.refl _ _) (Nat.le_refl _) ?_
        intro v753 w7 ho8 hb hg_ hnew_
        clear hg_ hnew_
        (first | rw [← Ny752.out] at ho8 | (simp only [Int.reduceToNat] at ho8; rw [← Ny752.out] at ho8))
        have n_ := az (Kd.R_elder' (mR HO751.out) (by first | exact Kd.R_base ho8 | exact Kd.R_base ho8) hb) <| And.intro (z0 (Kd.R_lower (Kd.R_new' ho8 (Kd.R_lt (mR HO751.out))) (below_size (mB HB.out)))) <| az (bB BK748.out hb) <| z0 (below_step (mB HB.out) hb)
        clear HO751 BK748 HB
        obtain ⟨HO751, HO754, BK748, HB⟩ := n_
        clear hb ho8
        refine hK.out _ _ trivial (fun hHeld => ?_)
        clear hK K
        refine norm_ (a' := ?_) ?_ ?_
        rotate_left
        ·show Act.put _ (some 2) _ = _
         simp only [Act.put, List.setIfInBounds_toArray, List.set_cons_zero, List.set_cons_succ, i64_w, i32_w]
         rfl
        exact norm_ q127_1 (hJ0_1 (v750, v753) _ ⟨q127_2, q127_4, (mK BK748.out), (mB HB.out)⟩)
       ·skip
        refine Kd.R_make_step (Kd.int .i64) _ 3 (by rfl) (N := 3) rfl 39 _ _ rfl 6 rfl rfl Try.underlying39 (.int .i64 0) 8 info3 rfl (by decide) (by omega) 0 (ok := fun _ => True) (okp := fun _ => True) rfl (fun _ hk => hk) trivial (by omega) (by omega) (Below.refl _ _) (Nat.le_refl _) ?_
        intro v756 w7 ho8 hb hg_ hnew_
        clear hg_ hnew_
        (first | rw [← Ny755.out] at ho8 | (simp only [Int.reduceToNat] at ho8; rw [← Ny755.out] at ho8))
        have n_ := az (Kd.R_elder' (mR HO751.out) (by first | exact Kd.R_base ho8 | exact Kd.R_base ho8) hb) <| And.intro (z0 (Kd.R_lower (Kd.R_new' ho8 (Kd.R_lt (mR HO751.out))) (below_size (mB HB.out)))) <| az (bB BK748.out hb) <| z0 (below_step (mB HB.out) hb)
        clear HO751 BK748 HB
        obtain ⟨HO751, HO757, BK748, HB⟩ := n_
        clear hb ho8
        refine hK.out _ _ trivial (fun hHeld => ?_)
        clear hK K
        refine norm_ (a' := ?_) ?_ ?_
        rotate_left
        ·show Act.put _ (some 3) _ = _
         simp only [Act.put, List.setIfInBounds_toArray, List.set_cons_zero, List.set_cons_succ, i64_w, i32_w]
         rfl
        exact norm_ q127_1 (hJ0_2 (v750, v756) _ ⟨q127_2, q127_3, (mK BK748.out), (mB HB.out)⟩)
     ·skip
      rintro ⟨v753, v756⟩ w8 ⟨h0_, h1_, h2_, h3_⟩
      have n0_ : Aside0 (Kd.R (Kd.int .i64) 3 w8 w.heap.size (fun k_ => nB k_ v756) v753 y752) := ⟨h0_⟩
      have n1_ : Aside0 (Kd.R (Kd.int .i64) 3 w8 w.heap.size (fun k_ => nB k_ v753) v756 y755) := ⟨h1_⟩
      have n2_ : Aside0 (w8.heap[gb748]? = some (.cells #[.slice none 0 0, .slice none 0 0, .slice none 0 0] 44 (0, 0))) := ⟨h2_⟩
      have n3_ : Aside0 (Below w.heap.size w w8) := ⟨h3_⟩
      clear BK748 HB h0_ h1_ h2_ h3_
      have HO754 := n0_
      have HO757 := n1_
      have BK748 := n2_
      have HB := n3_
      clear n0_ n1_ n2_ n3_
      have hHeld := trivial
      refine norm_ (a' := ?_) ?_ ?_
      rotate_left
      ·simp only [putAll, Act.put, List.setIfInBounds_toArray, List.set_cons_zero, List.set_cons_succ]
       rfl
      refine one_ (i := 0) (N := some 1) #[true, true, true, false, false] rfl rfl (by kernel_rfl) (by decide) (fun K hK => ?_)
      refine Kd.R_make_step (Kd.int .i64) _ 3 (by rfl) (N := 1) rfl 39 _ _ rfl 6 rfl rfl Try.underlying39 (.int .i64 0) 8 info3 rfl (by decide) (by omega) 0 (ok := fun _ => True) (okp := fun _ => True) rfl (fun _ hk => hk) trivial (by omega) (by omega) (Below.refl _ _) (Nat.le_refl _) ?_
      intro v750 w9 ho10 hb hg_ hnew_
      clear hg_ hnew_
      (first | rw [← Ny749.out] at ho10 | (simp only [Int.reduceToNat] at ho10; rw [← Ny749.out] at ho10))
      have n_ := az (Kd.R_elder' (mR HO754.out) (by first | exact Kd.R_base ho10 | exact Kd.R_base ho10) hb) <| az (Kd.R_elder' (mR HO757.out) (by first | exact Kd.R_base ho10 | exact Kd.R_base ho10) hb) <| And.intro (z0 (Kd.R_lower (Kd.R_new' (Kd.R_new' ho10 (Kd.R_lt (mR HO754.out))) (Kd.R_lt (mR HO757.out))) (below_size (mB HB.out)))) <| az (bB BK748.out hb) <| z0 (below_step (mB HB.out) hb)
      clear HO754 HO757 BK748 HB
      obtain ⟨HO754, HO757, HO751, BK748, HB⟩ := n_
      clear hb ho10
      obtain ⟨Ao11, co11, eo11⟩ := Kd.R_slice HO757.out
      (first | subst eo11 | (injection eo11 with f1_ f2_ f3_; have f4_ := f1_.symm; have f5_ := f3_.symm; clear f1_ f2_ f3_; subst f4_; subst f5_))
      obtain ⟨Ao12, co12, eo12⟩ := Kd.R_slice HO754.out
      (first | subst eo12 | (injection eo12 with f1_ f2_ f3_; have f4_ := f1_.symm; have f5_ := f3_.symm; clear f1_ f2_ f3_; subst f4_; subst f5_))
      obtain ⟨Ao13, co13, eo13⟩ := Kd.R_slice HO751.out
      (first | subst eo13 | (injection eo13 with f1_ f2_ f3_; have f4_ := f1_.symm; have f5_ := f3_.symm; clear f1_ f2_ f3_; subst f4_; subst f5_))
      refine hK.out _ _ trivial (fun hHeld => ?_)
      clear hK K
      refine norm_ (a' := ?_) ?_ ?_
      rotate_left
      ·show Act.put _ (some 1) _ = _
       simp only [Act.put, List.setIfInBounds_toArray, List.set_cons_zero, List.set_cons_succ, i64_w, i32_w]
       rfl
      exact norm_ q127_1 (hJ0_1_2 (.slice Ao13 y749.length co13, .slice Ao12 y752.length co12, .slice Ao11 y755.length co11) _ ⟨(by (with_reducible repeat (first | apply Kd.R_alloc | apply Kd.R_drewN | apply Kd.R_drew)); exact Kd.R_mono HO751.out (fun _ hk => ⟨hk.1.2, hk.2⟩)), (by (with_reducible repeat (first | apply Kd.R_alloc | apply Kd.R_drewN | apply Kd.R_drew)); exact Kd.R_mono HO754.out (fun _ hk => ⟨hk.2, hk.1⟩)), (by (with_reducible repeat (first | apply Kd.R_alloc | apply Kd.R_drewN | apply Kd.R_drew)); exact Kd.R_mono HO757.out (fun _ hk => ⟨hk.2, hk.1⟩)), (mK BK748.out), (mB HB.out)⟩)
    ·skip
     rintro ⟨v750, v756⟩ w8 ⟨h0_, h1_, h2_, h3_⟩
     have n0_ : Aside0 (Kd.R (Kd.int .i64) 3 w8 w.heap.size (fun k_ => nB k_ v756) v750 y749) := ⟨h0_⟩
     have n1_ : Aside0 (Kd.R (Kd.int .i64) 3 w8 w.heap.size (fun k_ => nB k_ v750) v756 y755) := ⟨h1_⟩
     have n2_ : Aside0 (w8.heap[gb748]? = some (.cells #[.slice none 0 0, .slice none 0 0, .slice none 0 0] 44 (0, 0))) := ⟨h2_⟩
     have n3_ : Aside0 (Below w.heap.size w w8) := ⟨h3_⟩
     clear BK748 HB h0_ h1_ h2_ h3_
     have HO751 := n0_
     have HO757 := n1_
     have BK748 := n2_
     have HB := n3_
     clear n0_ n1_ n2_ n3_
     have hHeld := trivial
     refine norm_ (a' := ?_) ?_ ?_
     rotate_left
     ·simp only [putAll, Act.put, List.setIfInBounds_toArray, List.set_cons_zero, List.set_cons_succ]
      rfl
     refine one_ (i := 1) (N := some 2) #[true, true, true, false, false] rfl rfl (by kernel_rfl) (by decide) (fun K hK => ?_)
     refine Kd.R_make_step (Kd.int .i64) _ 3 (by rfl) (N := 2) rfl 39 _ _ rfl 6 rfl rfl Try.underlying39 (.int .i64 0) 8 info3 rfl (by decide) (by omega) 0 (ok := fun _ => True) (okp := fun _ => True) rfl (fun _ hk => hk) trivial (by omega) (by omega) (Below.refl _ _) (Nat.le_refl _) ?_
     intro v753 w9 ho10 hb hg_ hnew_
     clear hg_ hnew_
     (first | rw [← Ny752.out] at ho10 | (simp only [Int.reduceToNat] at ho10; rw [← Ny752.out] at ho10))
     have n_ := az (Kd.R_elder' (mR HO751.out) (by first | exact Kd.R_base ho10 | exact Kd.R_base ho10) hb) <| az (Kd.R_elder' (mR HO757.out) (by first | exact Kd.R_base ho10 | exact Kd.R_base ho10) hb) <| And.intro (z0 (Kd.R_lower (Kd.R_new' (Kd.R_new' ho10 (Kd.R_lt (mR HO751.out))) (Kd.R_lt (mR HO757.out))) (below_size (mB HB.out)))) <| az (bB BK748.out hb) <| z0 (below_step (mB HB.out) hb)
     clear HO751 HO757 BK748 HB
     obtain ⟨HO751, HO757, HO754, BK748, HB⟩ := n_
     clear hb ho10
     obtain ⟨Ao11, co11, eo11⟩ := Kd.R_slice HO757.out
     (first | subst eo11 | (injection eo11 with f1_ f2_ f3_; have f4_ := f1_.symm; have f5_ := f3_.symm; clear f1_ f2_ f3_; subst f4_; subst f5_))
     obtain ⟨Ao12, co12, eo12⟩ := Kd.R_slice HO754.out
     (first | subst eo12 | (injection eo12 with f1_ f2_ f3_; have f4_ := f1_.symm; have f5_ := f3_.symm; clear f1_ f2_ f3_; subst f4_; subst f5_))
     obtain ⟨Ao13, co13, eo13⟩ := Kd.R_slice HO751.out
     (first | subst eo13 | (injection eo13 with f1_ f2_ f3_; have f4_ := f1_.symm; have f5_ := f3_.symm; clear f1_ f2_ f3_; subst f4_; subst f5_))
     refine hK.out _ _ trivial (fun hHeld => ?_)
     clear hK K
     refine norm_ (a' := ?_) ?_ ?_
     rotate_left
     ·show Act.put _ (some 2) _ = _
      simp only [Act.put, List.setIfInBounds_toArray, List.set_cons_zero, List.set_cons_succ, i64_w, i32_w]
      rfl
     exact norm_ q127_1 (hJ0_1_2 (.slice Ao13 y749.length co13, .slice Ao12 y752.length co12, .slice Ao11 y755.length co11) _ ⟨(by (with_reducible repeat (first | apply Kd.R_alloc | apply Kd.R_drewN | apply Kd.R_drew)); exact Kd.R_mono HO751.out (fun _ hk => ⟨hk.2, hk.1⟩)), (by (with_reducible repeat (first | apply Kd.R_alloc | apply Kd.R_drewN | apply Kd.R_drew)); exact Kd.R_mono HO754.out (fun _ hk => ⟨hk.1.2, hk.2⟩)), (mR HO757.out), (mK BK748.out), (mB HB.out)⟩)
   ·skip
    rintro ⟨v750, v753⟩ w8 ⟨h0_, h1_, h2_, h3_⟩
    have n0_ : Aside0 (Kd.R (Kd.int .i64) 3 w8 w.heap.size (fun k_ => nB k_ v753) v750 y749) := ⟨h0_⟩
    have n1_ : Aside0 (Kd.R (Kd.int .i64) 3 w8 w.heap.size (fun k_ => nB k_ v750) v753 y752) := ⟨h1_⟩
    have n2_ : Aside0 (w8.heap[gb748]? = some (.cells #[.slice none 0 0, .slice none 0 0, .slice none 0 0] 44 (0, 0))) := ⟨h2_⟩
    have n3_ : Aside0 (Below w.heap.size w w8) := ⟨h3_⟩
    clear BK748 HB h0_ h1_ h2_ h3_
    have HO751 := n0_
    have HO754 := n1_
    have BK748 := n2_
    have HB := n3_
    clear n0_ n1_ n2_ n3_
    have hHeld := trivial
    refine norm_ (a' := ?_) ?_ ?_
    rotate_left
    ·simp only [putAll, Act.put, List.setIfInBounds_toArray, List.set_cons_zero, List.set_cons_succ]
     rfl
    refine one_ (i := 2) (N := some 3) #[true, true, true, false, false] rfl rfl (by kernel_rfl) (by decide) (fun K hK => ?_)
    refine Kd.R_make_step (Kd.int .i64) _ 3 (by rfl) (N := 3) rfl 39 _ _ rfl 6 rfl rfl Try.underlying39 (.int .i64 0) 8 info3 rfl (by decide) (by omega) 0 (ok := fun _ => True) (okp := fun _ => True) rfl (fun _ hk => hk) trivial (by omega) (by omega) (Below.refl _ _) (Nat.le_refl _) ?_
    intro v756 w9 ho10 hb hg_ hnew_
    clear hg_ hnew_
    (first | rw [← Ny755.out] at ho10 | (simp only [Int.reduceToNat] at ho10; rw [← Ny755.out] at ho10))
    have n_ := az (Kd.R_elder' (mR HO751.out) (by first | exact Kd.R_base ho10 | exact Kd.R_base ho10) hb) <| az (Kd.R_elder' (mR HO754.out) (by first | exact Kd.R_base ho10 | exact Kd.R_base ho10) hb) <| And.intro (z0 (Kd.R_lower (Kd.R_new' (Kd.R_new' ho10 (Kd.R_lt (mR HO751.out))) (Kd.R_lt (mR HO754.out))) (below_size (mB HB.out)))) <| az (bB BK748.out hb) <| z0 (below_step (mB HB.out) hb)
    clear HO751 HO754 BK748 HB
    obtain ⟨HO751, HO754, HO757, BK748, HB⟩ := n_
    clear hb ho10
    obtain ⟨Ao11, co11, eo11⟩ := Kd.R_slice HO757.out
    (first | subst eo11 | (injection eo11 with f1_ f2_ f3_; have f4_ := f1_.symm; have f5_ := f3_.symm; clear f1_ f2_ f3_; subst f4_; subst f5_))
    obtain ⟨Ao12, co12, eo12⟩ := Kd.R_slice HO754.out
    (first | subst eo12 | (injection eo12 with f1_ f2_ f3_; have f4_ := f1_.symm; have f5_ := f3_.symm; clear f1_ f2_ f3_; subst f4_; subst f5_))
    obtain ⟨Ao13, co13, eo13⟩ := Kd.R_slice HO751.out
    (first | subst eo13 | (injection eo13 with f1_ f2_ f3_; have f4_ := f1_.symm; have f5_ := f3_.symm; clear f1_ f2_ f3_; subst f4_; subst f5_))
    refine hK.out _ _ trivial (fun hHeld => ?_)
    clear hK K
    refine norm_ (a' := ?_) ?_ ?_
    rotate_left
    ·show Act.put _ (some 3) _ = _
     simp only [Act.put, List.setIfInBounds_toArray, List.set_cons_zero, List.set_cons_succ, i64_w, i32_w]
     rfl
    exact norm_ q127_1 (hJ0_1_2 (.slice Ao13 y749.length co13, .slice Ao12 y752.length co12, .slice Ao11 y755.length co11) _ ⟨(mR HO751.out), (mR HO754.out), (by (with_reducible repeat (first | apply Kd.R_alloc | apply Kd.R_drewN | apply Kd.R_drew)); exact Kd.R_mono HO757.out (fun _ hk => ⟨hk.1.2, hk.2⟩)), (mK BK748.out), (mB HB.out)⟩)
  rintro ⟨v750, v753, v756⟩ w13 ⟨h0_, h1_, h2_, h3_, h4_⟩
  have n0_ : Aside0 (Kd.R (Kd.int .i64) 3 w13 w.heap.size (fun k_ => nB k_ v753 ∧ nB k_ v756) v750 y749) := ⟨h0_⟩
  have n1_ : Aside0 (Kd.R (Kd.int .i64) 3 w13 w.heap.size (fun k_ => nB k_ v750 ∧ nB k_ v756) v753 y752) := ⟨h1_⟩
  have n2_ : Aside0 (Kd.R (Kd.int .i64) 3 w13 w.heap.size (fun k_ => nB k_ v750 ∧ nB k_ v753) v756 y755) := ⟨h2_⟩
  have n3_ : Aside0 (w13.heap[gb748]? = some (.cells #[.slice none 0 0, .slice none 0 0, .slice none 0 0] 44 (0, 0))) := ⟨h3_⟩
  have n4_ : Aside0 (Below w.heap.size w w13) := ⟨h4_⟩
  clear BK748 HB h0_ h1_ h2_ h3_ h4_
  have HO751 := n0_
  have HO754 := n1_
  have HO757 := n2_
  have BK748 := n3_
  have HB := n4_
  clear n0_ n1_ n2_ n3_ n4_
  have hHeld := trivial
  obtain ⟨Ao14, co14, eo14⟩ := Kd.R_slice HO757.out
  (first | subst eo14 | (injection eo14 with f1_ f2_ f3_; have f4_ := f1_.symm; have f5_ := f3_.symm; clear f1_ f2_ f3_; subst f4_; subst f5_))
  obtain ⟨Ao15, co15, eo15⟩ := Kd.R_slice HO754.out
  (first | subst eo15 | (injection eo15 with f1_ f2_ f3_; have f4_ := f1_.symm; have f5_ := f3_.symm; clear f1_ f2_ f3_; subst f4_; subst f5_))
  obtain ⟨Ao16, co16, eo16⟩ := Kd.R_slice HO751.out
  (first | subst eo16 | (injection eo16 with f1_ f2_ f3_; have f4_ := f1_.symm; have f5_ := f3_.symm; clear f1_ f2_ f3_; subst f4_; subst f5_))
  refine norm_ (a' := ?_) ?_ ?_
  rotate_left
  ·simp only [putAll, Act.put, List.setIfInBounds_toArray, List.set_cons_zero, List.set_cons_succ]
   rfl
  refine pure_ (i := 3) (N := some 4) (v := ?_) (a' := ?_) #[true, true, true, true, false] rfl rfl (by kernel_rfl) (fun _ _ _ h => h) (Or.inl ⟨by rfl, ?_⟩) ?_ ?_
  rotate_left
  ·intro w'
   go_simp
   with_reducible rfl
  rotate_left
  ·simp only [Act.put, List.setIfInBounds_toArray, List.set_cons_zero, List.set_cons_succ, i64_w, i32_w]
   rfl
  refine one_ (i := 4) (N := none) #[true, true, true, true, true] rfl rfl (by kernel_rfl) (by decide) (fun K hK => ?_)
  have hs17 : w13.cell? ⟨gb748, 0, none⟩ = some (.slice none 0 0) := (blk_cell BK748.out 0).trans rfl
  have hfs17 := blk_frozen BK748.out 0
  have hs18 : w13.cell? ⟨gb748, 1, none⟩ = some (.slice none 0 0) := (blk_cell BK748.out 1).trans rfl
  have hfs18 := blk_frozen BK748.out 1
  have hs19 : w13.cell? ⟨gb748, 2, none⟩ = some (.slice none 0 0) := (blk_cell BK748.out 2).trans rfl
  have hfs19 := blk_frozen BK748.out 2
  refine skip_ (w1 := ?_) (by rfl) rfl ?_ ?_
  rotate_left
  ·go_simp
   rfl
  refine hK.out _ _ trivial (fun hHeld => ?_)
  clear hK K
  refine done_ (by kernel_rfl) ?_
  try go_wp2
  refine bodyPost_ret (results_cell_row rfl _ _ gb748 44 #[.slice Ao16 y749.length co16, .slice Ao15 y752.length co15, .slice Ao14 y755.length co14] (0, 0) _ rfl (pF BK748.out) Try.underlying44 rfl (by kernel_rfl)) rfl ?_
  exact ⟨_, _, _, rfx, by (with_reducible repeat (first | apply Kd.R_alloc | apply Kd.R_drewN | apply Kd.R_drew)); exact Kd.R_mono (Kd.R_far (p := ⟨gb748, 2, none⟩) (Kd.R_far (p := ⟨gb748, 1, none⟩) (Kd.R_far (p := ⟨gb748, 0, none⟩) (Kd.R_types HO751.out BK748.out (by decide)) (fun _ hk => hk.2) (.slice Ao16 y749.length co16)) (fun _ hk => hk.2) (.slice Ao15 y752.length co15)) (fun _ hk => hk.2) (.slice Ao14 y755.length co14)) (fun _ hk => ⟨hk.1.1, hk.1.2⟩), by (with_reducible repeat (first | apply Kd.R_alloc | apply Kd.R_drewN | apply Kd.R_drew)); exact Kd.R_mono (Kd.R_far (p := ⟨gb748, 2, none⟩) (Kd.R_far (p := ⟨gb748, 1, none⟩) (Kd.R_far (p := ⟨gb748, 0, none⟩) (Kd.R_types HO754.out BK748.out (by decide)) (fun _ hk => hk.2) (.slice Ao16 y749.length co16)) (fun _ hk => hk.2) (.slice Ao15 y752.length co15)) (fun _ hk => hk.2) (.slice Ao14 y755.length co14)) (fun _ hk => ⟨hk.1.1, hk.1.2⟩), by (with_reducible repeat (first | apply Kd.R_alloc | apply Kd.R_drewN | apply Kd.R_drew)); exact Kd.R_mono (Kd.R_far (p := ⟨gb748, 2, none⟩) (Kd.R_far (p := ⟨gb748, 1, none⟩) (Kd.R_far (p := ⟨gb748, 0, none⟩) (Kd.R_types HO757.out BK748.out (by decide)) (fun _ hk => hk.2) (.slice Ao16 y749.length co16)) (fun _ hk => hk.2) (.slice Ao15 y752.length co15)) (fun _ hk => hk.2) (.slice Ao14 y755.length co14)) (fun _ hk => ⟨hk.1.1, hk.1.2⟩), mB HB.out⟩
 ·rw [if_neg c1] at H
  exact absurd H (by simp)

/-! ### spec_l2Mem: function 108 -/
def spec_l2Mem.l0 : Nat → Int → List Int → Int → List Int → List Int → List Int → Option (List Int × List Int × List Int × Int)
 | 0, _, _, _, _, _, _ => none
 | k + 1, x4, x1000, x1001, x769000, x769001, x769002 => if x4 < 4 then ((spec_l12Rd_num.f k x1000 x1001 (([0, 0, 1, 1, 2, 5, (-1)] : List Int))).bind fun bt772 => (if 0 ≤ x4 then (if x4 < (x769000.length : Int) then ((spec_l12Rd_num.f k x1000 bt772.2 (([0, 0, 1, 3] : List Int))).bind fun bt778 => (if x4 < (x769001.length : Int) then ((spec_l12Rd_num.f k x1000 bt778.2 (([0, 0, 1, 2, 7, 1000000] : List Int))).bind fun bt784 => (if x4 < (x769002.length : Int) then (spec_l2Mem.l0 k (wrap64 (x4 + 1)) x1000 bt784.2 (x769000.set (x4 : Int).toNat bt772.1) (x769001.set (x4 : Int).toNat bt778.1) (x769002.set (x4 : Int).toNat bt784.1)) else (none))) else (none))) else (none)) else (none))) else (some (x769000, x769001, x769002, x1001))
def spec_l2Mem.f (k : Nat) (s0_0 : List Int) (s0_1 : Int) : Option (List Int × List Int × List Int × Int) := (spec_MemOpen.f).bind fun bt759 => (spec_l2Mem.l0 k 0 s0_0 s0_1 bt759.1 bt759.2.1 bt759.2.2)
def spec_l2Mem.T5 : Bool × List (List Nat × List Nat) := (true, [([], []), ([0], [0]), ([], []), ([], []), ([], []), ([3, 4], [3, 4]), ([1, 2, 0, 1, 2, 3, 4, 5], [1, 2]), ([6, 5, 5, 0, 1, 2, 3, 4, 5], [5, 6])])
def spec_l2Mem.B5 : List Nat := [0, 1, 0, 0, 0, 24, 63, 127]
theorem spec_l2Mem.tab5 : rtab .any (opsOf Try.f108 5) = spec_l2Mem.T5 := by kernel_rfl
theorem spec_l2Mem.bits5 : waitsOk spec_l2Mem.T5.2 spec_l2Mem.B5 = true := by kernel_rfl
def spec_l2Mem.T6 : Bool × List (List Nat × List Nat) := (true, [([], []), ([0], [0]), ([], []), ([], []), ([], []), ([3, 4], [3, 4]), ([1, 2, 0, 1, 2, 3, 4, 5], [1, 2]), ([6, 5, 5, 0, 1, 2, 3, 4, 5], [5, 6])])
def spec_l2Mem.B6 : List Nat := [0, 1, 0, 0, 0, 24, 63, 127]
theorem spec_l2Mem.tab6 : rtab .any (opsOf Try.f108 6) = spec_l2Mem.T6 := by kernel_rfl
theorem spec_l2Mem.bits6 : waitsOk spec_l2Mem.T6.2 spec_l2Mem.B6 = true := by kernel_rfl
def spec_l2Mem.T7 : Bool × List (List Nat × List Nat) := (true, [([], []), ([0], [0]), ([], []), ([], []), ([], []), ([3, 4], [3, 4]), ([1, 2, 0, 1, 2, 3, 4, 5], [1, 2]), ([6, 5, 5, 0, 1, 2, 3, 4, 5], [5, 6])])
def spec_l2Mem.B7 : List Nat := [0, 1, 0, 0, 0, 24, 63, 127]
theorem spec_l2Mem.tab7 : rtab .any (opsOf Try.f108 7) = spec_l2Mem.T7 := by kernel_rfl
theorem spec_l2Mem.bits7 : waitsOk spec_l2Mem.T7.2 spec_l2Mem.B7 = true := by kernel_rfl
theorem q108_1 {p : Prop} (h : p := by exact ⟨(blk_cell BK768.out 0).trans rfl, (blk_cell BK768.out 1).trans rfl, (blk_cell BK768.out 2).trans rfl⟩) : p := h
set_option maxHeartbeats 8000000 in
set_option maxRecDepth 100000 in
theorem spec_l2Mem.calls (k : Nat) (g : Nat) (s0_0 : List Int) (s0_1 : Int) (r1 : List Int) (r2 : List Int) (r3 : List Int) (r4 : Int) (w0 w : World) (hI : IsS132 w0 w g s0_0 s0_1) (hB : Below w0.heap.size w0 w) (h : spec_l2Mem.f k s0_0 s0_1 = some (r1, r2, r3, r4)) :
  Calls Try.prog 108 #[.pointer (some ⟨g, 0, none⟩)] w fun e w' => ∃ v0_ v1_ v2_ : Value, e = .returned (.agg #[v0_, v1_, v2_]) ∧ Kd.R (Kd.int .i64) 3 w' w.heap.size (fun k_ => nB k_ v1_ ∧ nB k_ v2_) v0_ r1 ∧ Kd.R (Kd.int .i64) 3 w' w.heap.size (fun k_ => nB k_ v0_ ∧ nB k_ v2_) v1_ r2 ∧ Kd.R (Kd.int .i64) 3 w' w.heap.size (fun k_ => nB k_ v0_ ∧ nB k_ v1_) v2_ r3 ∧ IsS132 w0 w' g s0_0 r4 ∧ Below w0.heap.size w0 w' ∧ KeepBut w w' g none := by
 have hu44 := Try.underlying44
 have HI0 := z0 hI
 have HK := z0 (KeepBut.refl w g none)
 have HL := z0 hB.size
 clear hI
 have HW0 := z0 hB.size
 have HB := z0 hB
 clear hB
 have H : ((spec_MemOpen.f).bind fun bt759 => (spec_l2Mem.l0 k 0 s0_0 s0_1 bt759.1 bt759.2.1 bt759.2.2)) = some (r1, r2, r3, r4) := h
 clear h
 replace H := Option.bind_eq_some_iff.mp H
 obtain ⟨⟨t759, t762, t765⟩, A20, H⟩ := H
 try dsimp only at H
 have A2 := z0 A20
 clear A20
 have H' := z0 H
 clear H
 go_enter Try.func108, Try.ntmps108
 go_wp2_with (first | ((with_reducible refine gate_dst (N := 2) rfl ?_); refine box_event ?hg (N := 2) ?hd (cs := #[.slice none 0 0, .slice none 0 0, .slice none 0 0]) (t := 44) ?hr ?_; (case hd => rfl); (case hg => rfl); (case hr => first | (go_simp; done) | (go_simp; rfl)); intro gb758 hg w3 hbox hb; have n_ := az (IsS132.below (mI132_1 HI0.out) hb) <| az (KeepBut.trans (mKp HK.out) (KeepBut.of_below hb g none) (.inl rfl)) <| az (below_step (mB132HI0 HB.out) hb) <| az (hbox) <| az ((gW hg HK.out)) <| az ((Nat.le_trans HW0.out (gW hg HK.out) : w0.heap.size ≤ gb758)) <| az ((by rw [hg]; exact Nat.ne_of_lt (IsS132.lt (show IsS132 w0 _ g s0_0 s0_1 from mI132_1 HI0.out)) : g ≠ gb758)) <| z0 ((by rw [hg]; exact Nat.ne_of_gt (IsS132.lt (show IsS132 w0 _ g s0_0 s0_1 from mI132_1 HI0.out)) : gb758 ≠ g)); clear HI0 HK HB; obtain ⟨HI0, HK, HB, BK758, GW758, GE758, NB0_758, NB758_0⟩ := n_; clear hb hbox hg) | ((with_reducible refine gate_callee (f := 127) rfl ?_); refine goesL_ (some 5) rfl rfl Try.func127 (by kernel_rfl) rfl #[] rfl argx ?_; (with_reducible refine (spec_MemOpen.calls  t759 t762 t765 _ A2.out).mono ?_); rintro e w4 ⟨v760, v763, v766, rfl, ho0, ho1, ho2, hb⟩; refine ⟨_, rfl, ?_⟩; have n_ := az (Kd.R_lower ho0 (kS HK.out)) <| az (Kd.R_lower ho1 (kS HK.out)) <| az (Kd.R_lower ho2 (kS HK.out)) <| az (IsS132.below (mI132_1 HI0.out) hb) <| az (bB BK758.out hb) <| az (KeepBut.trans (mKp HK.out) (KeepBut.of_below hb g none) (.inl rfl)) <| z0 (below_step (mB132HI0 HB.out) hb); clear HI0 BK758 HK HB; obtain ⟨HO761, HO764, HO767, HI0, BK758, HK, HB⟩ := n_; clear hb ho0; (try clear ho1); (try clear ho2)) | ((with_reducible refine gate_dst (N := 3) rfl ?_); refine box_event ?hg (N := 3) ?hd (cs := #[.slice none 0 0, .slice none 0 0, .slice none 0 0]) (t := 44) ?hr ?_; (case hd => rfl); (case hg => rfl); (case hr => first | (go_simp; done) | (go_simp; rfl)); intro gb768 hg w5 hbox hb; have n_ := az (Kd.R_below (mR HO761.out) hb) <| az (Kd.R_below (mR HO764.out) hb) <| az (Kd.R_below (mR HO767.out) hb) <| az (IsS132.below (mI132_1 HI0.out) hb) <| az (bB BK758.out hb) <| az (KeepBut.trans (mKp HK.out) (KeepBut.of_below hb g none) (.inl rfl)) <| az (below_step (mB132HI0 HB.out) hb) <| az (hbox) <| az ((gW hg HK.out)) <| az ((Nat.le_trans HW0.out (gW hg HK.out) : w0.heap.size ≤ gb768)) <| az ((nL hg BK758.out)) <| az ((nG hg BK758.out)) <| az ((by rw [hg]; exact Nat.ne_of_lt (IsS132.lt (show IsS132 w0 _ g s0_0 s0_1 from mI132_1 HI0.out)) : g ≠ gb768)) <| z0 ((by rw [hg]; exact Nat.ne_of_gt (IsS132.lt (show IsS132 w0 _ g s0_0 s0_1 from mI132_1 HI0.out)) : gb768 ≠ g)); clear HO761 HO764 HO767 HI0 BK758 HK HB; obtain ⟨HO761, HO764, HO767, HI0, BK758, HK, HB, BK768, GW768, GE768, NB758_768, NB768_758, NB0_768, NB768_0⟩ := n_; clear hb hbox hg; obtain ⟨Ao6, co6, eo6⟩ := Kd.R_slice HO761.out; subst eo6; have hnb7 := NB768_758.out; have hnc7 := NB758_768.out; have hnb8 := NB768_0.out; have hnc8 := NB0_768.out; obtain ⟨hcz9_0, hcz9_1, hcz9_2, hfz9_0, hfz9_1, hfz9_2⟩ := cel3 BK768.out; obtain ⟨Ao10, co10, eo10⟩ := Kd.R_slice HO764.out; subst eo10; obtain ⟨Ao11, co11, eo11⟩ := Kd.R_slice HO767.out; subst eo11))
 go_loopg [4] k (fun kq v4 w' => ∃ (x4_1 : Int) (x1001_1 : Int) (x769000_1 : List Int) (x769001_1 : List Int) (x769002_1 : List Int) (u769000 : Value) (u769001 : Value) (u769002 : Value), v4 = .int .i64 x4_1 ∧ Aside0 (spec_l2Mem.l0 kq x4_1 s0_0 x1001_1 x769000_1 x769001_1 x769002_1 = some (r1, r2, r3, r4)) ∧ Aside0 (kq ≤ k) ∧ Aside0 (Kd.R (Kd.int .i64) 3 w' w.heap.size (fun k_ => nB k_ u769001 ∧ nB k_ u769002) u769000 x769000_1) ∧ Aside0 (Kd.R (Kd.int .i64) 3 w' w.heap.size (fun k_ => nB k_ u769000 ∧ nB k_ u769002) u769001 x769001_1) ∧ Aside0 (Kd.R (Kd.int .i64) 3 w' w.heap.size (fun k_ => nB k_ u769000 ∧ nB k_ u769001) u769002 x769002_1) ∧ Aside0 (w'.heap[gb758]? = some (.cells #[(.slice none 0 0), (.slice none 0 0), (.slice none 0 0)] 44 (0, 0))) ∧ Aside0 (w'.heap[gb768]? = some (.cells #[u769000, u769001, u769002] 44 (0, 0))) ∧ Aside0 (IsS132 w0 w' g s0_0 x1001_1) ∧ Aside0 (KeepBut w w' g none) ∧ Aside0 (Below w0.heap.size w0 w'))
 case atStart => exact ⟨(0), (s0_1), (t759), (t762), (t765), (.slice Ao6 t759.length co6), (.slice Ao10 t762.length co10), (.slice Ao11 t765.length co11), rfy, H', ⟨Nat.le_refl _⟩, ⟨by (with_reducible repeat (first | apply Kd.R_alloc | apply Kd.R_drewN | apply Kd.R_drew)); exact Kd.R_mono (Kd.R_far (p := ⟨gb768, 2, none⟩) (Kd.R_far (p := ⟨gb768, 1, none⟩) (Kd.R_far (p := ⟨gb768, 0, none⟩) (Kd.R_types HO761.out BK768.out (by decide)) (fun _ hk => hk.2) (.slice Ao6 t759.length co6)) (fun _ hk => hk.2) (.slice Ao10 t762.length co10)) (fun _ hk => hk.2) (.slice Ao11 t765.length co11)) (fun _ hk => ⟨hk.1.1, hk.1.2⟩)⟩, ⟨by (with_reducible repeat (first | apply Kd.R_alloc | apply Kd.R_drewN | apply Kd.R_drew)); exact Kd.R_mono (Kd.R_far (p := ⟨gb768, 2, none⟩) (Kd.R_far (p := ⟨gb768, 1, none⟩) (Kd.R_far (p := ⟨gb768, 0, none⟩) (Kd.R_types HO764.out BK768.out (by decide)) (fun _ hk => hk.2) (.slice Ao6 t759.length co6)) (fun _ hk => hk.2) (.slice Ao10 t762.length co10)) (fun _ hk => hk.2) (.slice Ao11 t765.length co11)) (fun _ hk => ⟨hk.1.1, hk.1.2⟩)⟩, ⟨by (with_reducible repeat (first | apply Kd.R_alloc | apply Kd.R_drewN | apply Kd.R_drew)); exact Kd.R_mono (Kd.R_far (p := ⟨gb768, 2, none⟩) (Kd.R_far (p := ⟨gb768, 1, none⟩) (Kd.R_far (p := ⟨gb768, 0, none⟩) (Kd.R_types HO767.out BK768.out (by decide)) (fun _ hk => hk.2) (.slice Ao6 t759.length co6)) (fun _ hk => hk.2) (.slice Ao10 t762.length co10)) (fun _ hk => hk.2) (.slice Ao11 t765.length co11)) (fun _ hk => ⟨hk.1.1, hk.1.2⟩)⟩, ⟨mF BK758.out⟩, ⟨by (with_reducible repeat (first | refine blk_drewN ?_ _ | refine blk_drew ?_ | refine blk_alloc ?_ _)); refine blk_put (cs := #[.slice Ao6 t759.length co6, .slice Ao10 t762.length co10, .slice none 0 0]) ?_ 2 _ rfl; (with_reducible repeat (first | refine blk_drewN ?_ _ | refine blk_drew ?_ | refine blk_alloc ?_ _)); refine blk_put (cs := #[.slice Ao6 t759.length co6, .slice none 0 0, .slice none 0 0]) ?_ 1 _ rfl; (with_reducible repeat (first | refine blk_drewN ?_ _ | refine blk_drew ?_ | refine blk_alloc ?_ _)); refine blk_put (cs := #[.slice none 0 0, .slice none 0 0, .slice none 0 0]) ?_ 0 _ rfl; (with_reducible repeat (first | refine blk_drewN ?_ _ | refine blk_drew ?_ | refine blk_alloc ?_ _)); exact BK768.out⟩, ⟨mI132_1 HI0.out⟩, ⟨mKp HK.out⟩, ⟨mB132HI0 HB.out⟩⟩
 case round =>
  clear H'
  (try clear hcz9_0); (try clear hcz9_1); (try clear hcz9_2); (try clear hfz9_0); (try clear hfz9_1); (try clear hfz9_2)
  obtain ⟨x4_1, x1001_1, x769000_1, x769001_1, x769002_1, u769000, u769001, u769002, rfl, HA, HK1, HO_769000, HO_769001, HO_769002, BK758, BK768, HI0, HK, HB⟩ := hrel
  cases gk with
  | zero => exact absurd HA.out (by simp [spec_l2Mem.l0])
  | succ k1 =>
   have H := HA.out
   clear HA
   simp only [spec_l2Mem.l0] at H
   by_cases c12 : x4_1 < 4
   ·rw [if_pos c12] at H
    have c12b0 : decide (x4_1 < 4) = true := decide_eq_true c12
    clear c12
    obtain ⟨y769, hy769⟩ : ∃ y_ : List Int, y_ = (([0, 0, 1, 1, 2, 5, (-1)] : List Int)) := ⟨_, rfl⟩
    replace H : ((spec_l12Rd_num.f k1 s0_0 x1001_1 y769).bind fun bt772 => (if 0 ≤ x4_1 then (if x4_1 < (x769000_1.length : Int) then ((spec_l12Rd_num.f k1 s0_0 bt772.2 (([0, 0, 1, 3] : List Int))).bind fun bt778 => (if x4_1 < (x769001_1.length : Int) then ((spec_l12Rd_num.f k1 s0_0 bt778.2 (([0, 0, 1, 2, 7, 1000000] : List Int))).bind fun bt784 => (if x4_1 < (x769002_1.length : Int) then (spec_l2Mem.l0 k1 (wrap64 (x4_1 + 1)) s0_0 bt784.2 (x769000_1.set (x4_1 : Int).toNat bt772.1) (x769001_1.set (x4_1 : Int).toNat bt778.1) (x769002_1.set (x4_1 : Int).toNat bt784.1)) else (none))) else (none))) else (none)) else (none))) = some (r1, r2, r3, r4) := by first | (rw [hy769]; with_reducible exact H) | (have H2_ := (Option.bind_some _ _).symm.trans H; rw [hy769]; with_reducible exact H2_) | (have H2_ := (Option.bind_some _ _).symm.trans H; with_reducible exact H2_) | with_reducible exact H | (rw [hy769]; exact H) | exact H
    have Ny769 := z0 hy769
    clear hy769
    replace H := Option.bind_eq_some_iff.mp H
    obtain ⟨⟨t772, t773⟩, A130, H⟩ := H
    try dsimp only at H
    have A13 := z0 A130
    clear A130
    by_cases c14 : 0 ≤ x4_1
    ·rw [if_pos c14] at H
     have c14b0 : decide (0 ≤ x4_1) = true := decide_eq_true c14
     clear c14
     by_cases c15 : x4_1 < (x769000_1.length : Int)
     ·rw [if_pos c15] at H
      have c15b0 : decide (x4_1 < (x769000_1.length : Int)) = true := decide_eq_true c15
      clear c15
      obtain ⟨y774, hy774⟩ : ∃ y_ : List Int, y_ = (x769000_1.set (x4_1 : Int).toNat t772) := ⟨_, rfl⟩
      replace H : ((spec_l12Rd_num.f k1 s0_0 t773 (([0, 0, 1, 3] : List Int))).bind fun bt778 => (if x4_1 < (x769001_1.length : Int) then ((spec_l12Rd_num.f k1 s0_0 bt778.2 (([0, 0, 1, 2, 7, 1000000] : List Int))).bind fun bt784 => (if x4_1 < (x769002_1.length : Int) then (spec_l2Mem.l0 k1 (wrap64 (x4_1 + 1)) s0_0 bt784.2 y774 (x769001_1.set (x4_1 : Int).toNat bt778.1) (x769002_1.set (x4_1 : Int).toNat bt784.1)) else (none))) else (none))) = some (r1, r2, r3, r4) := by first | (rw [hy774]; with_reducible exact H) | (have H2_ := (Option.bind_some _ _).symm.trans H; rw [hy774]; with_reducible exact H2_) | (have H2_ := (Option.bind_some _ _).symm.trans H; with_reducible exact H2_) | with_reducible exact H | (rw [hy774]; exact H) | exact H
      have Ny774 := z0 hy774
      clear hy774
      obtain ⟨y775, hy775⟩ : ∃ y_ : List Int, y_ = (([0, 0, 1, 3] : List Int)) := ⟨_, rfl⟩
      replace H : ((spec_l12Rd_num.f k1 s0_0 t773 y775).bind fun bt778 => (if x4_1 < (x769001_1.length : Int) then ((spec_l12Rd_num.f k1 s0_0 bt778.2 (([0, 0, 1, 2, 7, 1000000] : List Int))).bind fun bt784 => (if x4_1 < (x769002_1.length : Int) then (spec_l2Mem.l0 k1 (wrap64 (x4_1 + 1)) s0_0 bt784.2 y774 (x769001_1.set (x4_1 : Int).toNat bt778.1) (x769002_1.set (x4_1 : Int).toNat bt784.1)) else (none))) else (none))) = some (r1, r2, r3, r4) := by first | (rw [hy775]; with_reducible exact H) | (have H2_ := (Option.bind_some _ _).symm.trans H; rw [hy775]; with_reducible exact H2_) | (have H2_ := (Option.bind_some _ _).symm.trans H; with_reducible exact H2_) | with_reducible exact H | (rw [hy775]; exact H) | exact H
      have Ny775 := z0 hy775
      clear hy775
      replace H := Option.bind_eq_some_iff.mp H
      obtain ⟨⟨t778, t779⟩, A170, H⟩ := H
      try dsimp only at H
      have A17 := z0 A170
      clear A170
      by_cases c18 : x4_1 < (x769001_1.length : Int)
      ·rw [if_pos c18] at H
       have c18b0 : decide (x4_1 < (x769001_1.length : Int)) = true := decide_eq_true c18
       clear c18
       obtain ⟨y780, hy780⟩ : ∃ y_ : List Int, y_ = (x769001_1.set (x4_1 : Int).toNat t778) := ⟨_, rfl⟩
       replace H : ((spec_l12Rd_num.f k1 s0_0 t779 (([0, 0, 1, 2, 7, 1000000] : List Int))).bind fun bt784 => (if x4_1 < (x769002_1.length : Int) then (spec_l2Mem.l0 k1 (wrap64 (x4_1 + 1)) s0_0 bt784.2 y774 y780 (x769002_1.set (x4_1 : Int).toNat bt784.1)) else (none))) = some (r1, r2, r3, r4) := by first | (rw [hy780]; with_reducible exact H) | (have H2_ := (Option.bind_some _ _).symm.trans H; rw [hy780]; with_reducible exact H2_) | (have H2_ := (Option.bind_some _ _).symm.trans H; with_reducible exact H2_) | with_reducible exact H | (rw [hy780]; exact H) | exact H
       have Ny780 := z0 hy780
       clear hy780
       obtain ⟨y781, hy781⟩ : ∃ y_ : List Int, y_ = (([0, 0, 1, 2, 7, 1000000] : List Int)) := ⟨_, rfl⟩
       replace H : ((spec_l12Rd_num.f k1 s0_0 t779 y781).bind fun bt784 => (if x4_1 < (x769002_1.length : Int) then (spec_l2Mem.l0 k1 (wrap64 (x4_1 + 1)) s0_0 bt784.2 y774 y780 (x769002_1.set (x4_1 : Int).toNat bt784.1)) else (none))) = some (r1, r2, r3, r4) := by first | (rw [hy781]; with_reducible exact H) | (have H2_ := (Option.bind_some _ _).symm.trans H; rw [hy781]; with_reducible exact H2_) | (have H2_ := (Option.bind_some _ _).symm.trans H; with_reducible exact H2_) | with_reducible exact H | (rw [hy781]; exact H) | exact H
       have Ny781 := z0 hy781
       clear hy781
       replace H := Option.bind_eq_some_iff.mp H
       obtain ⟨⟨t784, t785⟩, A200, H⟩ := H
       try dsimp only at H
       have A20 := z0 A200
       clear A200
       by_cases c21 : x4_1 < (x769002_1.length : Int)
       ·rw [if_pos c21] at H
        have c21b0 : decide (x4_1 < (x769002_1.length : Int)) = true := decide_eq_true c21
        clear c21
        obtain ⟨y786, hy786⟩ : ∃ y_ : List Int, y_ = (x769002_1.set (x4_1 : Int).toNat t784) := ⟨_, rfl⟩
        replace H : (spec_l2Mem.l0 k1 (wrap64 (x4_1 + 1)) s0_0 t785 y774 y780 y786) = some (r1, r2, r3, r4) := by first | (rw [hy786]; with_reducible exact H) | (have H2_ := (Option.bind_some _ _).symm.trans H; rw [hy786]; with_reducible exact H2_) | (have H2_ := (Option.bind_some _ _).symm.trans H; with_reducible exact H2_) | with_reducible exact H | (rw [hy786]; exact H) | exact H
        have Ny786 := z0 hy786
        clear hy786
        have H' := z0 H
        clear H
        try go_wp2
        have n_ := az (Kd.R_drew HO_769000.out) <| az (Kd.R_drew HO_769001.out) <| az (Kd.R_drew HO_769002.out) <| az (blk_drew BK758.out) <| az (blk_drew BK768.out) <| az (IsS132.drew HI0.out) <| az (keep_drew HK.out) <| z0 (below_drew1 HB.out)
        clear HO_769000 HO_769001 HO_769002 BK758 BK768 HI0 HK HB
        obtain ⟨HO_769000, HO_769001, HO_769002, BK758, BK768, HI0, HK, HB⟩ := n_
        refine start_ (n := 8) (S := fun w' => w'.cell? ⟨gb768, 0, none⟩ = some (u769000) ∧ w'.cell? ⟨gb768, 1, none⟩ = some (u769001) ∧ w'.cell? ⟨gb768, 2, none⟩ = some (u769002)) (ds := [7]) #[false, false, false, false, false, false, false, false] (by kernel_rfl) rfl rfl q108_1 (fun hHeld => ?_); refine with_tabW spec_l2Mem.tab5 spec_l2Mem.bits5 (fun HT_ HW_ => ?_)
        generalize wr.drew = w23 at HO_769000 HO_769001 HO_769002 BK758 BK768 HI0 HK HB hHeld ⊢
        refine pure_ (i := 0) (N := some 10) (v := ?_) (a' := ?_) #[true, false, false, false, false, false, false, false] rfl rfl (any_of HT_.out (by kernel_rfl)) (fun _ _ _ h => h) (Or.inl ⟨by rfl, ?_⟩) ?_ ?_
        rotate_left
        ·intro w'
         go_simp
         with_reducible rfl
        rotate_left
        ·simp only [Act.put, List.setIfInBounds_toArray, List.set_cons_zero, List.set_cons_succ, i64_w, i32_w]
         rfl
        refine pure_ (i := 2) (N := some 12) (v := ?_) (a' := ?_) #[true, false, true, false, false, false, false, false] rfl rfl (any_of HT_.out (by kernel_rfl)) (fun _ _ _ h => h) (Or.inl ⟨by rfl, ?_⟩) ?_ ?_
        rotate_left
        ·intro w'
         go_simp
         with_reducible rfl
        rotate_left
        ·simp only [Act.put, List.setIfInBounds_toArray, List.set_cons_zero, List.set_cons_succ, i64_w, i32_w]
         rfl
        refine pure_ (i := 3) (N := some 13) (v := ?_) (a' := ?_) #[true, false, true, true, false, false, false, false] rfl rfl (any_of HT_.out (by kernel_rfl)) (fun _ _ _ h => h) (Or.inl ⟨by rfl, ?_⟩) ?_ ?_
        rotate_left
        ·intro w'
         go_simp
         with_reducible rfl
        rotate_left
        ·simp only [Act.put, List.setIfInBounds_toArray, List.set_cons_zero, List.set_cons_succ, i64_w, i32_w]
         rfl
        refine take_ (i := 1) (N := some 11) (v := ?_) (a' := ?_) #[true, true, true, true, false, false, false, false] rfl rfl (take_ofW HT_.out HW_.out (by kernel_rfl)) (fun _ _ _ h => h) (Or.inl ⟨by rfl, ?_⟩) hHeld ?_ ?_
        rotate_left
        ·rintro w' ⟨s0, s1, s2⟩
         go_simp
         with_reducible rfl
        rotate_left
        ·simp only [Act.put, List.setIfInBounds_toArray, List.set_cons_zero, List.set_cons_succ, i64_w, i32_w]
         rfl
        refine one_ (i := 4) (N := some 14) #[true, true, true, true, true, false, false, false] rfl rfl (one_of HT_.out (by kernel_rfl)) (by decide) (fun K hK => ?_)
        refine Kd.R_lit_step (Kd.int .i64) _ 3 ?hg (N := 14) ?hd (xs := ([0, 0, 1, 1, 2, 5, (-1)] : List Int)) (inner := [.int .i64 0, .int .i64 0, .int .i64 1, .int .i64 1, .int .i64 2, .int .i64 5, .int .i64 (-1)]) (ok := fun _ => True) (okp := fun _ => True) ?hr ?hp (fun _ hk => hk) trivial (Below.refl _ _) (Nat.le_refl _) (by simp) ?_; (case hd => rfl); (case hg => rfl); (case hr => first | (go_simp; done) | (go_simp; rfl)); (case hp => exact (Reps.one (show Kd.M (Kd.int .i64) _ _ _ 0 [.int .i64 0] from rfl) (Reps.one (show Kd.M (Kd.int .i64) _ _ _ 0 [.int .i64 0] from rfl) (Reps.one (show Kd.M (Kd.int .i64) _ _ _ 1 [.int .i64 1] from rfl) (Reps.one (show Kd.M (Kd.int .i64) _ _ _ 1 [.int .i64 1] from rfl) (Reps.one (show Kd.M (Kd.int .i64) _ _ _ 2 [.int .i64 2] from rfl) (Reps.one (show Kd.M (Kd.int .i64) _ _ _ 5 [.int .i64 5] from rfl) (Reps.one (show Kd.M (Kd.int .i64) _ _ _ (-1) [.int .i64 (-1)] from rfl) (Reps.none _ _)))))))))
        intro v770 w24 ho25 hb hg_ hnew_
        clear hg_ hnew_
        (first | rw [← Ny769.out] at ho25 | (simp only [Int.reduceToNat] at ho25; rw [← Ny769.out] at ho25))
        have n_ := az (Kd.R_elder' (mR HO_769000.out) (by first | exact Kd.R_base ho25 | exact Kd.R_base ho25) hb) <| az (Kd.R_elder' (mR HO_769001.out) (by first | exact Kd.R_base ho25 | exact Kd.R_base ho25) hb) <| az (Kd.R_elder' (mR HO_769002.out) (by first | exact Kd.R_base ho25 | exact Kd.R_base ho25) hb) <| And.intro (z0 (Kd.R_lower (Kd.R_new' (Kd.R_new' (Kd.R_new' ho25 (Kd.R_lt (mR HO_769000.out))) (Kd.R_lt (mR HO_769001.out))) (Kd.R_lt (mR HO_769002.out))) (kS HK.out))) <| az (bB BK758.out hb) <| az (bB BK768.out hb) <| az (IsS132.below (mI132_1 HI0.out) hb) <| az (KeepBut.trans (mKp HK.out) (KeepBut.of_below hb g none) (.inl rfl)) <| z0 (below_step (mB132HI0 HB.out) hb)
        clear HO_769000 HO_769001 HO_769002 BK758 BK768 HI0 HK HB
        obtain ⟨HO_769000, HO_769001, HO_769002, HO771, BK758, BK768, HI0, HK, HB⟩ := n_
        clear hb ho25
        obtain ⟨Ao26, co26, eo26⟩ := Kd.R_slice HO771.out
        (first | subst eo26 | (injection eo26 with f1_ f2_ f3_; have f4_ := f1_.symm; have f5_ := f3_.symm; clear f1_ f2_ f3_; subst f4_; subst f5_))
        refine hK.out _ _ q108_1 (fun hHeld => ?_)
        clear hK K
        refine norm_ (a' := ?_) ?_ ?_
        rotate_left
        ·show Act.put _ (some 14) _ = _
         simp only [Act.put, List.setIfInBounds_toArray, List.set_cons_zero, List.set_cons_succ, i64_w, i32_w]
         rfl
        refine one_ (i := 5) (N := some 15) #[true, true, true, true, true, true, false, false] rfl rfl (one_of HT_.out (by kernel_rfl)) (by decide) (fun K hK => ?_)
        refine goes_ Try.func106 (by kernel_rfl) rfl #[.pointer (some ⟨g, 0, none⟩), .slice Ao26 y769.length co26] (by rfl) rfl rfl argx ?_
        with_reducible refine (spec_l12Rd_num.calls k1 g s0_0 x1001_1 _ _ y769 t772 t773 w0 _ ?side1 ?side2 ?side3 ?side4 ?side5 A13.out).mono ?_
        (case side1 => exact mI132_1 HI0.out)
        (case side2 => exact mB132HI0 HB.out)
        (case side3 => exact mC (Kd.R_reads' HO771.out).2.2)
        (case side4 => exact (Kd.R_reads' HO771.out).2.1)
        (case side5 => exact far_slice (IsS132.own_ne HI0.out HO771.out (by decide)))
        rintro e w27 ⟨rfl, hi, hb, hk⟩
        refine ⟨_, rfl, ?_⟩
        have n_ := And.intro (z0 (Kd.R_mono (Kd.R_keep (IsS132.apart (show IsS132 w0 _ g s0_0 x1001_1 from mI132_1 HI0.out) (mR HO_769000.out) (by decide)) hk (fun _ h => h.2)) (fun _ h => h.1))) <| And.intro (z0 (Kd.R_mono (Kd.R_keep (IsS132.apart (show IsS132 w0 _ g s0_0 x1001_1 from mI132_1 HI0.out) (mR HO_769001.out) (by decide)) hk (fun _ h => h.2)) (fun _ h => h.1))) <| And.intro (z0 (Kd.R_mono (Kd.R_keep (IsS132.apart (show IsS132 w0 _ g s0_0 x1001_1 from mI132_1 HI0.out) (mR HO_769002.out) (by decide)) hk (fun _ h => h.2)) (fun _ h => h.1))) <| az (kB hk BK758.out NB758_0.out) <| az (kB hk BK768.out NB768_0.out) <| And.intro (z0 (Kd.R_mono (Kd.R_keep (IsS132.apart (show IsS132 w0 _ g s0_0 x1001_1 from mI132_1 HI0.out) (mR HO771.out) (by decide)) hk (fun _ h => h.2)) (fun _ h => h.1))) <| az (KeepBut.trans (mKp HK.out) hk (.inl rfl)) <| az (hb) <| z0 (hi)
        clear HO_769000 HO_769001 HO_769002 BK758 BK768 HO771 HK HB HI0
        obtain ⟨HO_769000, HO_769001, HO_769002, BK758, BK768, HO771, HK, HB, HI0⟩ := n_
        (try clear hb)
        (try clear hb2)
        (try clear hk)
        (try clear hi)
        have p16 : 0 ≤ (x4_1 : Int) := of_decide_eq_true (by first | (with_reducible assumption) | assumption)
        have q16 : (x4_1 : Int) < ((x769000_1.length : Int) : Int) := of_decide_eq_true (by first | (with_reducible assumption) | assumption)
        obtain ⟨go16, co16, eo16, gb16, gl16, cl16, HG16⟩ := Kd.R_form HO_769000.out (by omega)
        (first | cases eo16 | (injection eo16 with ea_ en_ ec_; (first | subst ea_ | (injection ea_ with ea_; subst ea_)); subst ec_; clear en_))
        have GB16 := z0 gb16
        have GG16 := z0 HG16
        clear gb16 gl16 HG16
        obtain ⟨hx16_0, hf16_0⟩ := Kd.R_celln 0 HO_769000.out (x4_1 : Int) p16 q16
        replace p16 := eq_true p16
        replace q16 := eq_true q16
        have HN0_go16 := z0 (show g ≠ go16 from by have h_ := IsS132.own_ne HI0.out HO_769000.out (by decide); intro e_; exact h_ (by rw [e_]; rfl))
        have HP28 := Kd.R_putn HO_769000.out (x4_1 : Int) t772
        rw [← Ny774.out] at HP28
        have HQ28 := z0 HP28
        clear HP28
        refine hK.out _ _ q108_1 (fun hHeld => ?_)
        clear hK K
        refine norm_ (a' := ?_) ?_ ?_
        rotate_left
        ·show Act.put _ (some 15) _ = _
         simp only [Act.put, List.setIfInBounds_toArray, List.set_cons_zero, List.set_cons_succ, i64_w, i32_w]
         rfl
        refine pure_ (i := 6) (N := some 16) (v := ?_) (a' := ?_) #[true, true, true, true, true, true, true, false] rfl rfl (any_of HT_.out (by kernel_rfl)) (fun _ _ _ h => h) (Or.inl ⟨by rfl, ?_⟩) ?_ ?_
        rotate_left
        ·intro w'
         go_simp
         with_reducible rfl
        rotate_left
        ·simp only [Act.put, List.setIfInBounds_toArray, List.set_cons_zero, List.set_cons_succ, i64_w, i32_w]
         rfl
        refine last_ (i := 7) (N := none) #[true, true, true, true, true, true, true, true] rfl rfl (one_of HT_.out (by kernel_rfl)) (by decide) (fun K hK => ?_)
        refine skip_ (w1 := ?_) (by rfl) rfl ?_ ?_
        rotate_left
        ·go_simp
         rfl
        refine hK.out _ _ ?_
        clear hK K
        refine done_ (done_of HT_.out (by kernel_rfl)) ?_
        try go_wp2
        have n0_ : Aside0 (Kd.R (Kd.int .i64) 3 (w27.setCell ⟨go16, (x4_1 : Int).toNat, none⟩ (.int .i64 t772)) w.heap.size (fun k_ => nB k_ u769001 ∧ nB k_ u769002 ∧ nB k_ (.slice Ao26 y769.length co26)) (.slice (some ⟨go16, 0, none⟩) x769000_1.length co16) y774) := ⟨by (with_reducible repeat (first | apply Kd.R_alloc | apply Kd.R_drewN | apply Kd.R_drew)); exact Kd.R_mono HQ28.out (fun _ hk => ⟨hk.1.1, ⟨hk.1.2, hk.2⟩⟩)⟩
        have n1_ : Aside0 (Kd.R (Kd.int .i64) 3 (w27.setCell ⟨go16, (x4_1 : Int).toNat, none⟩ (.int .i64 t772)) w.heap.size (fun k_ => some k_ ≠ (.slice (some ⟨go16, 0, none⟩) x769000_1.length co16 : Value).ownBlock ∧ nB k_ u769002 ∧ nB k_ (.slice Ao26 y769.length co26)) u769001 x769001_1) := ⟨by (with_reducible repeat (first | apply Kd.R_alloc | apply Kd.R_drewN | apply Kd.R_drew)); exact Kd.R_mono (Kd.R_far (p := ⟨go16, (x4_1 : Int).toNat, none⟩) (Kd.R_mono HO_769001.out (fun k_ hk => (⟨hk, fun e_ => hk.1.1 (by rw [e_]; rfl)⟩ : _ ∧ k_ ≠ go16))) (fun _ hk => hk.2) (.int .i64 t772)) (fun _ hk => ⟨hk.1.1.1, ⟨hk.1.1.2, hk.1.2⟩⟩)⟩
        have n2_ : Aside0 (Kd.R (Kd.int .i64) 3 (w27.setCell ⟨go16, (x4_1 : Int).toNat, none⟩ (.int .i64 t772)) w.heap.size (fun k_ => some k_ ≠ (.slice (some ⟨go16, 0, none⟩) x769000_1.length co16 : Value).ownBlock ∧ nB k_ u769001 ∧ nB k_ (.slice Ao26 y769.length co26)) u769002 x769002_1) := ⟨by (with_reducible repeat (first | apply Kd.R_alloc | apply Kd.R_drewN | apply Kd.R_drew)); exact Kd.R_mono (Kd.R_far (p := ⟨go16, (x4_1 : Int).toNat, none⟩) (Kd.R_mono HO_769002.out (fun k_ hk => (⟨hk, fun e_ => hk.1.1 (by rw [e_]; rfl)⟩ : _ ∧ k_ ≠ go16))) (fun _ hk => hk.2) (.int .i64 t772)) (fun _ hk => ⟨hk.1.1.1, ⟨hk.1.1.2, hk.1.2⟩⟩)⟩
        have n3_ : Aside0 (Kd.R (Kd.int .i64) 3 (w27.setCell ⟨go16, (x4_1 : Int).toNat, none⟩ (.int .i64 t772)) w.heap.size (fun k_ => some k_ ≠ (.slice (some ⟨go16, 0, none⟩) x769000_1.length co16 : Value).ownBlock ∧ nB k_ u769001 ∧ nB k_ u769002) (.slice Ao26 y769.length co26) y769) := ⟨by (with_reducible repeat (first | apply Kd.R_alloc | apply Kd.R_drewN | apply Kd.R_drew)); exact Kd.R_mono (Kd.R_far (p := ⟨go16, (x4_1 : Int).toNat, none⟩) (Kd.R_mono HO771.out (fun k_ hk => (⟨hk, fun e_ => hk.1.1.2 (by rw [e_]; rfl)⟩ : _ ∧ k_ ≠ go16))) (fun _ hk => hk.2) (.int .i64 t772)) (fun _ hk => ⟨hk.1.1.1.2, ⟨hk.1.1.2, hk.1.2⟩⟩)⟩
        have n4_ : Aside0 ((w27.setCell ⟨go16, (x4_1 : Int).toNat, none⟩ (.int .i64 t772)).heap[gb758]? = some (.cells #[.slice none 0 0, .slice none 0 0, .slice none 0 0] 44 (0, 0))) := ⟨by (with_reducible repeat (first | refine blk_drewN ?_ _ | refine blk_drew ?_ | refine blk_alloc ?_ _)); refine blk_far ?_ (by have h_ := Kd.R_ne HO_769000.out BK758.out (by decide); intro e_; exact h_ (by rw [e_]; rfl)) _; (with_reducible repeat (first | refine blk_drewN ?_ _ | refine blk_drew ?_ | refine blk_alloc ?_ _)); exact BK758.out⟩
        have n5_ : Aside0 ((w27.setCell ⟨go16, (x4_1 : Int).toNat, none⟩ (.int .i64 t772)).heap[gb768]? = some (.cells #[.slice (some ⟨go16, 0, none⟩) x769000_1.length co16, u769001, u769002] 44 (0, 0))) := ⟨by (with_reducible repeat (first | refine blk_drewN ?_ _ | refine blk_drew ?_ | refine blk_alloc ?_ _)); refine blk_far ?_ (by have h_ := Kd.R_ne HO_769000.out BK768.out (by decide); intro e_; exact h_ (by rw [e_]; rfl)) _; (with_reducible repeat (first | refine blk_drewN ?_ _ | refine blk_drew ?_ | refine blk_alloc ?_ _)); exact BK768.out⟩
        have n6_ : Aside0 (IsS132 w0 (w27.setCell ⟨go16, (x4_1 : Int).toNat, none⟩ (.int .i64 t772)) g s0_0 t773) := ⟨mI132_1 HI0.out⟩
        have n7_ : Aside0 (KeepBut w (w27.setCell ⟨go16, (x4_1 : Int).toNat, none⟩ (.int .i64 t772)) g none) := ⟨mKp HK.out⟩
        have n8_ : Aside0 (Below w0.heap.size w0 (w27.setCell ⟨go16, (x4_1 : Int).toNat, none⟩ (.int .i64 t772))) := ⟨by repeat (first | (with_reducible first | exact HB.out | apply below_alloc | apply pw_below_drewN | apply below_drew1 | refine below_set ?_ (Nat.le_trans HL.out GB16.out) | refine below_set ?_ (IsS132.ge HI0.out) | refine below_set ?_ GE758.out | refine below_set ?_ GE768.out) | exact HB.out)⟩
        (try clear HO_769000)
        (try clear HO_769001)
        (try clear HO_769002)
        (try clear HO771)
        (try clear BK758)
        (try clear BK768)
        (try clear HI0)
        (try clear HK)
        (try clear HB)
        generalize (w27.setCell ⟨go16, (x4_1 : Int).toNat, none⟩ (.int .i64 t772)) = w29 at n0_ n1_ n2_ n3_ n4_ n5_ n6_ n7_ n8_ ⊢
        have HO_769000 := n0_
        have HO_769001 := n1_
        have HO_769002 := n2_
        have HO771 := n3_
        have BK758 := n4_
        have BK768 := n5_
        have HI0 := n6_
        have HK := n7_
        have HB := n8_
        clear n0_ n1_ n2_ n3_ n4_ n5_ n6_ n7_ n8_
        have n_ := az (Kd.R_drew HO_769000.out) <| az (Kd.R_drew HO_769001.out) <| az (Kd.R_drew HO_769002.out) <| az (Kd.R_drew HO771.out) <| az (blk_drew BK758.out) <| az (blk_drew BK768.out) <| az (IsS132.drew HI0.out) <| az (keep_drew HK.out) <| z0 (below_drew1 HB.out)
        clear HO_769000 HO_769001 HO_769002 HO771 BK758 BK768 HI0 HK HB
        obtain ⟨HO_769000, HO_769001, HO_769002, HO771, BK758, BK768, HI0, HK, HB⟩ := n_
        refine start_ (n := 8) (S := fun w' => w'.cell? ⟨gb768, 0, none⟩ = some (.slice (some ⟨go16, 0, none⟩) x769000_1.length co16) ∧ w'.cell? ⟨gb768, 1, none⟩ = some (u769001) ∧ w'.cell? ⟨gb768, 2, none⟩ = some (u769002)) (ds := [7]) #[false, false, false, false, false, false, false, false] (by kernel_rfl) rfl rfl q108_1 (fun hHeld => ?_); refine with_tabW spec_l2Mem.tab6 spec_l2Mem.bits6 (fun HT_ HW_ => ?_)
        generalize w29.drew = w30 at HO_769000 HO_769001 HO_769002 HO771 BK758 BK768 HI0 HK HB HQ28 hHeld ⊢
        refine pure_ (i := 0) (N := some 17) (v := ?_) (a' := ?_) #[true, false, false, false, false, false, false, false] rfl rfl (any_of HT_.out (by kernel_rfl)) (fun _ _ _ h => h) (Or.inl ⟨by rfl, ?_⟩) ?_ ?_
        rotate_left
        ·intro w'
         go_simp
         with_reducible rfl
        rotate_left
        ·simp only [Act.put, List.setIfInBounds_toArray, List.set_cons_zero, List.set_cons_succ, i64_w, i32_w]
         rfl
        refine pure_ (i := 2) (N := some 19) (v := ?_) (a' := ?_) #[true, false, true, false, false, false, false, false] rfl rfl (any_of HT_.out (by kernel_rfl)) (fun _ _ _ h => h) (Or.inl ⟨by rfl, ?_⟩) ?_ ?_
        rotate_left
        ·intro w'
         go_simp
         with_reducible rfl
        rotate_left
        ·simp only [Act.put, List.setIfInBounds_toArray, List.set_cons_zero, List.set_cons_succ, i64_w, i32_w]
         rfl
        refine pure_ (i := 3) (N := some 20) (v := ?_) (a' := ?_) #[true, false, true, true, false, false, false, false] rfl rfl (any_of HT_.out (by kernel_rfl)) (fun _ _ _ h => h) (Or.inl ⟨by rfl, ?_⟩) ?_ ?_
        rotate_left
        ·intro w'
         go_simp
         with_reducible rfl
        rotate_left
        ·simp only [Act.put, List.setIfInBounds_toArray, List.set_cons_zero, List.set_cons_succ, i64_w, i32_w]
         rfl
        refine take_ (i := 1) (N := some 18) (v := ?_) (a' := ?_) #[true, true, true, true, false, false, false, false] rfl rfl (take_ofW HT_.out HW_.out (by kernel_rfl)) (fun _ _ _ h => h) (Or.inl ⟨by rfl, ?_⟩) hHeld ?_ ?_
        rotate_left
        ·rintro w' ⟨s0, s1, s2⟩
         go_simp
         with_reducible rfl
        rotate_left
        ·simp only [Act.put, List.setIfInBounds_toArray, List.set_cons_zero, List.set_cons_succ, i64_w, i32_w]
         rfl
        refine one_ (i := 4) (N := some 21) #[true, true, true, true, true, false, false, false] rfl rfl (one_of HT_.out (by kernel_rfl)) (by decide) (fun K hK => ?_)
        refine Kd.R_lit_step (Kd.int .i64) _ 3 ?hg (N := 21) ?hd (xs := ([0, 0, 1, 3] : List Int)) (inner := [.int .i64 0, .int .i64 0, .int .i64 1, .int .i64 3]) (ok := fun _ => True) (okp := fun _ => True) ?hr ?hp (fun _ hk => hk) trivial (Below.refl _ _) (Nat.le_refl _) (by simp) ?_; (case hd => rfl); (case hg => rfl); (case hr => first | (go_simp; done) | (go_simp; rfl)); (case hp => exact (Reps.one (show Kd.M (Kd.int .i64) _ _ _ 0 [.int .i64 0] from rfl) (Reps.one (show Kd.M (Kd.int .i64) _ _ _ 0 [.int .i64 0] from rfl) (Reps.one (show Kd.M (Kd.int .i64) _ _ _ 1 [.int .i64 1] from rfl) (Reps.one (show Kd.M (Kd.int .i64) _ _ _ 3 [.int .i64 3] from rfl) (Reps.none _ _))))))
        intro v776 w31 ho32 hb hg_ hnew_
        clear hg_ hnew_
        (first | rw [← Ny775.out] at ho32 | (simp only [Int.reduceToNat] at ho32; rw [← Ny775.out] at ho32))
        have n_ := az (Kd.R_elder' (mR HO_769000.out) (by first | exact Kd.R_base ho32 | exact Kd.R_base ho32) hb) <| az (Kd.R_elder' (mR HO_769001.out) (by first | exact Kd.R_base ho32 | exact Kd.R_base ho32) hb) <| az (Kd.R_elder' (mR HO_769002.out) (by first | exact Kd.R_base ho32 | exact Kd.R_base ho32) hb) <| az (Kd.R_elder' (mR HO771.out) (by first | exact Kd.R_base ho32 | exact Kd.R_base ho32) hb) <| And.intro (z0 (Kd.R_lower (Kd.R_new' (Kd.R_new' (Kd.R_new' (Kd.R_new' ho32 (Kd.R_lt (mR HO_769000.out))) (Kd.R_lt (mR HO_769001.out))) (Kd.R_lt (mR HO_769002.out))) (Kd.R_lt (mR HO771.out))) (kS HK.out))) <| az (bB BK758.out hb) <| az (bB BK768.out hb) <| az (IsS132.below (mI132_1 HI0.out) hb) <| az (KeepBut.trans (mKp HK.out) (KeepBut.of_below hb g none) (.inl rfl)) <| z0 (below_step (mB132HI0 HB.out) hb)
        clear HO_769000 HO_769001 HO_769002 HO771 BK758 BK768 HI0 HK HB
        obtain ⟨HO_769000, HO_769001, HO_769002, HO771, HO777, BK758, BK768, HI0, HK, HB⟩ := n_
        clear hb ho32
        obtain ⟨Ao33, co33, eo33⟩ := Kd.R_slice HO777.out
        (first | subst eo33 | (injection eo33 with f1_ f2_ f3_; have f4_ := f1_.symm; have f5_ := f3_.symm; clear f1_ f2_ f3_; subst f4_; subst f5_))
        refine hK.out _ _ q108_1 (fun hHeld => ?_)
        clear hK K
        refine norm_ (a' := ?_) ?_ ?_
        rotate_left
        ·show Act.put _ (some 21) _ = _
         simp only [Act.put, List.setIfInBounds_toArray, List.set_cons_zero, List.set_cons_succ, i64_w, i32_w]
         rfl
        refine one_ (i := 5) (N := some 22) #[true, true, true, true, true, true, false, false] rfl rfl (one_of HT_.out (by kernel_rfl)) (by decide) (fun K hK => ?_)
        refine goes_ Try.func106 (by kernel_rfl) rfl #[.pointer (some ⟨g, 0, none⟩), .slice Ao33 y775.length co33] (by rfl) rfl rfl argx ?_
        with_reducible refine (spec_l12Rd_num.calls k1 g s0_0 t773 _ _ y775 t778 t779 w0 _ ?side1 ?side2 ?side3 ?side4 ?side5 A17.out).mono ?_
        (case side1 => exact mI132_1 HI0.out)
        (case side2 => exact mB132HI0 HB.out)
        (case side3 => exact mC (Kd.R_reads' HO777.out).2.2)
        (case side4 => exact (Kd.R_reads' HO777.out).2.1)
        (case side5 => exact far_slice (IsS132.own_ne HI0.out HO777.out (by decide)))
        rintro e w34 ⟨rfl, hi, hb, hk⟩
        refine ⟨_, rfl, ?_⟩
        have n_ := And.intro (z0 (Kd.R_mono (Kd.R_keep (IsS132.apart (show IsS132 w0 _ g s0_0 t773 from mI132_1 HI0.out) (mR HO_769000.out) (by decide)) hk (fun _ h => h.2)) (fun _ h => h.1))) <| And.intro (z0 (Kd.R_mono (Kd.R_keep (IsS132.apart (show IsS132 w0 _ g s0_0 t773 from mI132_1 HI0.out) (mR HO_769001.out) (by decide)) hk (fun _ h => h.2)) (fun _ h => h.1))) <| And.intro (z0 (Kd.R_mono (Kd.R_keep (IsS132.apart (show IsS132 w0 _ g s0_0 t773 from mI132_1 HI0.out) (mR HO_769002.out) (by decide)) hk (fun _ h => h.2)) (fun _ h => h.1))) <| az (kB hk BK758.out NB758_0.out) <| az (kB hk BK768.out NB768_0.out) <| And.intro (z0 (Kd.R_mono (Kd.R_keep (IsS132.apart (show IsS132 w0 _ g s0_0 t773 from mI132_1 HI0.out) (mR HO771.out) (by decide)) hk (fun _ h => h.2)) (fun _ h => h.1))) <| And.intro (z0 (Kd.R_mono (Kd.R_keep (IsS132.apart (show IsS132 w0 _ g s0_0 t773 from mI132_1 HI0.out) (mR HO777.out) (by decide)) hk (fun _ h => h.2)) (fun _ h => h.1))) <| az (KeepBut.trans (mKp HK.out) hk (.inl rfl)) <| az (hb) <| z0 (hi)
        clear HO_769000 HO_769001 HO_769002 BK758 BK768 HO771 HO777 HK HB HI0
        obtain ⟨HO_769000, HO_769001, HO_769002, BK758, BK768, HO771, HO777, HK, HB, HI0⟩ := n_
        (try clear hb)
        (try clear hb2)
        (try clear hk)
        (try clear hi)
        have p19 : 0 ≤ (x4_1 : Int) := of_decide_eq_true (by first | (with_reducible assumption) | assumption)
        have q19 : (x4_1 : Int) < ((x769001_1.length : Int) : Int) := of_decide_eq_true (by first | (with_reducible assumption) | assumption)
        obtain ⟨go19, co19, eo19, gb19, gl19, cl19, HG19⟩ := Kd.R_form HO_769001.out (by omega)
        (first | cases eo19 | (injection eo19 with ea_ en_ ec_; (first | subst ea_ | (injection ea_ with ea_; subst ea_)); subst ec_; clear en_))
        have GB19 := z0 gb19
        have GG19 := z0 HG19
        clear gb19 gl19 HG19
        obtain ⟨hx19_0, hf19_0⟩ := Kd.R_celln 0 HO_769001.out (x4_1 : Int) p19 q19
        replace p19 := eq_true p19
        replace q19 := eq_true q19
        have HN0_go19 := z0 (show g ≠ go19 from by have h_ := IsS132.own_ne HI0.out HO_769001.out (by decide); intro e_; exact h_ (by rw [e_]; rfl))
        have HP35 := Kd.R_putn HO_769001.out (x4_1 : Int) t778
        rw [← Ny780.out] at HP35
        have HQ35 := z0 HP35
        clear HP35
        refine hK.out _ _ q108_1 (fun hHeld => ?_)
        clear hK K
        refine norm_ (a' := ?_) ?_ ?_
        rotate_left
        ·show Act.put _ (some 22) _ = _
         simp only [Act.put, List.setIfInBounds_toArray, List.set_cons_zero, List.set_cons_succ, i64_w, i32_w]
         rfl
        refine pure_ (i := 6) (N := some 23) (v := ?_) (a' := ?_) #[true, true, true, true, true, true, true, false] rfl rfl (any_of HT_.out (by kernel_rfl)) (fun _ _ _ h => h) (Or.inl ⟨by rfl, ?_⟩) ?_ ?_
        rotate_left
        ·intro w'
         go_simp
         with_reducible rfl
        rotate_left
        ·simp only [Act.put, List.setIfInBounds_toArray, List.set_cons_zero, List.set_cons_succ, i64_w, i32_w]
         rfl
        refine last_ (i := 7) (N := none) #[true, true, true, true, true, true, true, true] rfl rfl (one_of HT_.out (by kernel_rfl)) (by decide) (fun K hK => ?_)
        refine skip_ (w1 := ?_) (by rfl) rfl ?_ ?_
        rotate_left
        ·go_simp
         rfl
        refine hK.out _ _ ?_
        clear hK K
        refine done_ (done_of HT_.out (by kernel_rfl)) ?_
        try go_wp2
        have n0_ : Aside0 (Kd.R (Kd.int .i64) 3 (w34.setCell ⟨go19, (x4_1 : Int).toNat, none⟩ (.int .i64 t778)) w.heap.size (fun k_ => some k_ ≠ (.slice (some ⟨go19, 0, none⟩) x769001_1.length co19 : Value).ownBlock ∧ nB k_ u769002 ∧ nB k_ (.slice Ao26 y769.length co26) ∧ nB k_ (.slice Ao33 y775.length co33)) (.slice (some ⟨go16, 0, none⟩) x769000_1.length co16) y774) := ⟨by (with_reducible repeat (first | apply Kd.R_alloc | apply Kd.R_drewN | apply Kd.R_drew)); exact Kd.R_mono (Kd.R_far (p := ⟨go19, (x4_1 : Int).toNat, none⟩) (Kd.R_mono HO_769000.out (fun k_ hk => (⟨hk, fun e_ => hk.1.1 (by rw [e_]; rfl)⟩ : _ ∧ k_ ≠ go19))) (fun _ hk => hk.2) (.int .i64 t778)) (fun _ hk => ⟨hk.1.1.1, ⟨hk.1.1.2.1, ⟨hk.1.1.2.2, hk.1.2⟩⟩⟩)⟩
        have n1_ : Aside0 (Kd.R (Kd.int .i64) 3 (w34.setCell ⟨go19, (x4_1 : Int).toNat, none⟩ (.int .i64 t778)) w.heap.size (fun k_ => some k_ ≠ (.slice (some ⟨go16, 0, none⟩) x769000_1.length co16 : Value).ownBlock ∧ nB k_ u769002 ∧ nB k_ (.slice Ao26 y769.length co26) ∧ nB k_ (.slice Ao33 y775.length co33)) (.slice (some ⟨go19, 0, none⟩) x769001_1.length co19) y780) := ⟨by (with_reducible repeat (first | apply Kd.R_alloc | apply Kd.R_drewN | apply Kd.R_drew)); exact Kd.R_mono HQ35.out (fun _ hk => ⟨hk.1.1, ⟨hk.1.2.1, ⟨hk.1.2.2, hk.2⟩⟩⟩)⟩
        have n2_ : Aside0 (Kd.R (Kd.int .i64) 3 (w34.setCell ⟨go19, (x4_1 : Int).toNat, none⟩ (.int .i64 t778)) w.heap.size (fun k_ => some k_ ≠ (.slice (some ⟨go16, 0, none⟩) x769000_1.length co16 : Value).ownBlock ∧ some k_ ≠ (.slice (some ⟨go19, 0, none⟩) x769001_1.length co19 : Value).ownBlock ∧ nB k_ (.slice Ao26 y769.length co26) ∧ nB k_ (.slice Ao33 y775.length co33)) u769002 x769002_1) := ⟨by (with_reducible repeat (first | apply Kd.R_alloc | apply Kd.R_drewN | apply Kd.R_drew)); exact Kd.R_mono (Kd.R_far (p := ⟨go19, (x4_1 : Int).toNat, none⟩) (Kd.R_mono HO_769002.out (fun k_ hk => (⟨hk, fun e_ => hk.1.2.1 (by rw [e_]; rfl)⟩ : _ ∧ k_ ≠ go19))) (fun _ hk => hk.2) (.int .i64 t778)) (fun _ hk => ⟨hk.1.1.1, ⟨hk.1.1.2.1, ⟨hk.1.1.2.2, hk.1.2⟩⟩⟩)⟩
        have n3_ : Aside0 (Kd.R (Kd.int .i64) 3 (w34.setCell ⟨go19, (x4_1 : Int).toNat, none⟩ (.int .i64 t778)) w.heap.size (fun k_ => some k_ ≠ (.slice (some ⟨go16, 0, none⟩) x769000_1.length co16 : Value).ownBlock ∧ some k_ ≠ (.slice (some ⟨go19, 0, none⟩) x769001_1.length co19 : Value).ownBlock ∧ nB k_ u769002 ∧ nB k_ (.slice Ao33 y775.length co33)) (.slice Ao26 y769.length co26) y769) := ⟨by (with_reducible repeat (first | apply Kd.R_alloc | apply Kd.R_drewN | apply Kd.R_drew)); exact Kd.R_mono (Kd.R_far (p := ⟨go19, (x4_1 : Int).toNat, none⟩) (Kd.R_mono HO771.out (fun k_ hk => (⟨hk, fun e_ => hk.1.2.1 (by rw [e_]; rfl)⟩ : _ ∧ k_ ≠ go19))) (fun _ hk => hk.2) (.int .i64 t778)) (fun _ hk => ⟨hk.1.1.1, ⟨hk.1.1.2.1, ⟨hk.1.1.2.2, hk.1.2⟩⟩⟩)⟩
        have n4_ : Aside0 (Kd.R (Kd.int .i64) 3 (w34.setCell ⟨go19, (x4_1 : Int).toNat, none⟩ (.int .i64 t778)) w.heap.size (fun k_ => some k_ ≠ (.slice (some ⟨go16, 0, none⟩) x769000_1.length co16 : Value).ownBlock ∧ some k_ ≠ (.slice (some ⟨go19, 0, none⟩) x769001_1.length co19 : Value).ownBlock ∧ nB k_ u769002 ∧ nB k_ (.slice Ao26 y769.length co26)) (.slice Ao33 y775.length co33) y775) := ⟨by (with_reducible repeat (first | apply Kd.R_alloc | apply Kd.R_drewN | apply Kd.R_drew)); exact Kd.R_mono (Kd.R_far (p := ⟨go19, (x4_1 : Int).toNat, none⟩) (Kd.R_mono HO777.out (fun k_ hk => (⟨hk, fun e_ => hk.1.1.2 (by rw [e_]; rfl)⟩ : _ ∧ k_ ≠ go19))) (fun _ hk => hk.2) (.int .i64 t778)) (fun _ hk => ⟨hk.1.1.1.1.2, ⟨hk.1.1.1.2, ⟨hk.1.1.2, hk.1.2⟩⟩⟩)⟩
        have n5_ : Aside0 ((w34.setCell ⟨go19, (x4_1 : Int).toNat, none⟩ (.int .i64 t778)).heap[gb758]? = some (.cells #[.slice none 0 0, .slice none 0 0, .slice none 0 0] 44 (0, 0))) := ⟨by (with_reducible repeat (first | refine blk_drewN ?_ _ | refine blk_drew ?_ | refine blk_alloc ?_ _)); refine blk_far ?_ (by have h_ := Kd.R_ne HO_769001.out BK758.out (by decide); intro e_; exact h_ (by rw [e_]; rfl)) _; (with_reducible repeat (first | refine blk_drewN ?_ _ | refine blk_drew ?_ | refine blk_alloc ?_ _)); exact BK758.out⟩
        have n6_ : Aside0 ((w34.setCell ⟨go19, (x4_1 : Int).toNat, none⟩ (.int .i64 t778)).heap[gb768]? = some (.cells #[.slice (some ⟨go16, 0, none⟩) x769000_1.length co16, .slice (some ⟨go19, 0, none⟩) x769001_1.length co19, u769002] 44 (0, 0))) := ⟨by (with_reducible repeat (first | refine blk_drewN ?_ _ | refine blk_drew ?_ | refine blk_alloc ?_ _)); refine blk_far ?_ (by have h_ := Kd.R_ne HO_769001.out BK768.out (by decide); intro e_; exact h_ (by rw [e_]; rfl)) _; (with_reducible repeat (first | refine blk_drewN ?_ _ | refine blk_drew ?_ | refine blk_alloc ?_ _)); exact BK768.out⟩
        have n7_ : Aside0 (IsS132 w0 (w34.setCell ⟨go19, (x4_1 : Int).toNat, none⟩ (.int .i64 t778)) g s0_0 t779) := ⟨mI132_1 HI0.out⟩
        have n8_ : Aside0 (KeepBut w (w34.setCell ⟨go19, (x4_1 : Int).toNat, none⟩ (.int .i64 t778)) g none) := ⟨mKp HK.out⟩
        have n9_ : Aside0 (Below w0.heap.size w0 (w34.setCell ⟨go19, (x4_1 : Int).toNat, none⟩ (.int .i64 t778))) := ⟨by repeat (first | (with_reducible first | exact HB.out | apply below_alloc | apply pw_below_drewN | apply below_drew1 | refine below_set ?_ (Nat.le_trans HL.out GB19.out) | refine below_set ?_ (IsS132.ge HI0.out) | refine below_set ?_ GE758.out | refine below_set ?_ GE768.out) | exact HB.out)⟩
        (try clear HO_769000)
        (try clear HO_769001)
        (try clear HO_769002)
        (try clear HO771)
        (try clear HO777)
        (try clear BK758)
        (try clear BK768)
        (try clear HI0)
        (try clear HK)
        (try clear HB)
        generalize (w34.setCell ⟨go19, (x4_1 : Int).toNat, none⟩ (.int .i64 t778)) = w36 at n0_ n1_ n2_ n3_ n4_ n5_ n6_ n7_ n8_ n9_ ⊢
        have HO_769000 := n0_
        have HO_769001 := n1_
        have HO_769002 := n2_
        have HO771 := n3_
        have HO777 := n4_
        have BK758 := n5_
        have BK768 := n6_
        have HI0 := n7_
        have HK := n8_
        have HB := n9_
        clear n0_ n1_ n2_ n3_ n4_ n5_ n6_ n7_ n8_ n9_
        have n_ := az (Kd.R_drew HO_769000.out) <| az (Kd.R_drew HO_769001.out) <| az (Kd.R_drew HO_769002.out) <| az (Kd.R_drew HO771.out) <| az (Kd.R_drew HO777.out) <| az (blk_drew BK758.out) <| az (blk_drew BK768.out) <| az (IsS132.drew HI0.out) <| az (keep_drew HK.out) <| z0 (below_drew1 HB.out)
        clear HO_769000 HO_769001 HO_769002 HO771 HO777 BK758 BK768 HI0 HK HB
        obtain ⟨HO_769000, HO_769001, HO_769002, HO771, HO777, BK758, BK768, HI0, HK, HB⟩ := n_
        refine start_ (n := 8) (S := fun w' => w'.cell? ⟨gb768, 0, none⟩ = some (.slice (some ⟨go16, 0, none⟩) x769000_1.length co16) ∧ w'.cell? ⟨gb768, 1, none⟩ = some (.slice (some ⟨go19, 0, none⟩) x769001_1.length co19) ∧ w'.cell? ⟨gb768, 2, none⟩ = some (u769002)) (ds := [7]) #[false, false, false, false, false, false, false, false] (by kernel_rfl) rfl rfl q108_1 (fun hHeld => ?_); refine with_tabW spec_l2Mem.tab7 spec_l2Mem.bits7 (fun HT_ HW_ => ?_)
        generalize w36.drew = w37 at HO_769000 HO_769001 HO_769002 HO771 HO777 BK758 BK768 HI0 HK HB HQ35 hHeld ⊢
        refine pure_ (i := 0) (N := some 24) (v := ?_) (a' := ?_) #[true, false, false, false, false, false, false, false] rfl rfl (any_of HT_.out (by kernel_rfl)) (fun _ _ _ h => h) (Or.inl ⟨by rfl, ?_⟩) ?_ ?_
        rotate_left
        ·intro w'
         go_simp
         with_reducible rfl
        rotate_left
        ·simp only [Act.put, List.setIfInBounds_toArray, List.set_cons_zero, List.set_cons_succ, i64_w, i32_w]
         rfl
        refine pure_ (i := 2) (N := some 26) (v := ?_) (a' := ?_) #[true, false, true, false, false, false, false, false] rfl rfl (any_of HT_.out (by kernel_rfl)) (fun _ _ _ h => h) (Or.inl ⟨by rfl, ?_⟩) ?_ ?_
        rotate_left
        ·intro w'
         go_simp
         with_reducible rfl
        rotate_left
        ·simp only [Act.put, List.setIfInBounds_toArray, List.set_cons_zero, List.set_cons_succ, i64_w, i32_w]
         rfl
        refine pure_ (i := 3) (N := some 27) (v := ?_) (a' := ?_) #[true, false, true, true, false, false, false, false] rfl rfl (any_of HT_.out (by kernel_rfl)) (fun _ _ _ h => h) (Or.inl ⟨by rfl, ?_⟩) ?_ ?_
        rotate_left
        ·intro w'
         go_simp
         with_reducible rfl
        rotate_left
        ·simp only [Act.put, List.setIfInBounds_toArray, List.set_cons_zero, List.set_cons_succ, i64_w, i32_w]
         rfl
        refine take_ (i := 1) (N := some 25) (v := ?_) (a' := ?_) #[true, true, true, true, false, false, false, false] rfl rfl (take_ofW HT_.out HW_.out (by kernel_rfl)) (fun _ _ _ h => h) (Or.inl ⟨by rfl, ?_⟩) hHeld ?_ ?_
        rotate_left
        ·rintro w' ⟨s0, s1, s2⟩
         go_simp
         with_reducible rfl
        rotate_left
        ·simp only [Act.put, List.setIfInBounds_toArray, List.set_cons_zero, List.set_cons_succ, i64_w, i32_w]
         rfl
        refine one_ (i := 4) (N := some 28) #[true, true, true, true, true, false, false, false] rfl rfl (one_of HT_.out (by kernel_rfl)) (by decide) (fun K hK => ?_)
        refine Kd.R_lit_step (Kd.int .i64) _ 3 ?hg (N := 28) ?hd (xs := ([0, 0, 1, 2, 7, 1000000] : List Int)) (inner := [.int .i64 0, .int .i64 0, .int .i64 1, .int .i64 2, .int .i64 7, .int .i64 1000000]) (ok := fun _ => True) (okp := fun _ => True) ?hr ?hp (fun _ hk => hk) trivial (Below.refl _ _) (Nat.le_refl _) (by simp) ?_; (case hd => rfl); (case hg => rfl); (case hr => first | (go_simp; done) | (go_simp; rfl)); (case hp => exact (Reps.one (show Kd.M (Kd.int .i64) _ _ _ 0 [.int .i64 0] from rfl) (Reps.one (show Kd.M (Kd.int .i64) _ _ _ 0 [.int .i64 0] from rfl) (Reps.one (show Kd.M (Kd.int .i64) _ _ _ 1 [.int .i64 1] from rfl) (Reps.one (show Kd.M (Kd.int .i64) _ _ _ 2 [.int .i64 2] from rfl) (Reps.one (show Kd.M (Kd.int .i64) _ _ _ 7 [.int .i64 7] from rfl) (Reps.one (show Kd.M (Kd.int .i64) _ _ _ 1000000 [.int .i64 1000000] from rfl) (Reps.none _ _))))))))
        intro v782 w38 ho39 hb hg_ hnew_
        clear hg_ hnew_
        (first | rw [← Ny781.out] at ho39 | (simp only [Int.reduceToNat] at ho39; rw [← Ny781.out] at ho39))
        have n_ := az (Kd.R_elder' (mR HO_769000.out) (by first | exact Kd.R_base ho39 | exact Kd.R_base ho39) hb) <| az (Kd.R_elder' (mR HO_769001.out) (by first | exact Kd.R_base ho39 | exact Kd.R_base ho39) hb) <| az (Kd.R_elder' (mR HO_769002.out) (by first | exact Kd.R_base ho39 | exact Kd.R_base ho39) hb) <| az (Kd.R_elder' (mR HO771.out) (by first | exact Kd.R_base ho39 | exact Kd.R_base ho39) hb) <| az (Kd.R_elder' (mR HO777.out) (by first | exact Kd.R_base ho39 | exact Kd.R_base ho39) hb) <| And.intro (z0 (Kd.R_lower (Kd.R_new' (Kd.R_new' (Kd.R_new' (Kd.R_new' (Kd.R_new' ho39 (Kd.R_lt (mR HO_769000.out))) (Kd.R_lt (mR HO_769001.out))) (Kd.R_lt (mR HO_769002.out))) (Kd.R_lt (mR HO771.out))) (Kd.R_lt (mR HO777.out))) (kS HK.out))) <| az (bB BK758.out hb) <| az (bB BK768.out hb) <| az (IsS132.below (mI132_1 HI0.out) hb) <| az (KeepBut.trans (mKp HK.out) (KeepBut.of_below hb g none) (.inl rfl)) <| z0 (below_step (mB132HI0 HB.out) hb)
        clear HO_769000 HO_769001 HO_769002 HO771 HO777 BK758 BK768 HI0 HK HB
        obtain ⟨HO_769000, HO_769001, HO_769002, HO771, HO777, HO783, BK758, BK768, HI0, HK, HB⟩ := n_
        clear hb ho39
        obtain ⟨Ao40, co40, eo40⟩ := Kd.R_slice HO783.out
        (first | subst eo40 | (injection eo40 with f1_ f2_ f3_; have f4_ := f1_.symm; have f5_ := f3_.symm; clear f1_ f2_ f3_; subst f4_; subst f5_))
        refine hK.out _ _ q108_1 (fun hHeld => ?_)
        clear hK K
        refine norm_ (a' := ?_) ?_ ?_
        rotate_left
        ·show Act.put _ (some 28) _ = _
         simp only [Act.put, List.setIfInBounds_toArray, List.set_cons_zero, List.set_cons_succ, i64_w, i32_w]
         rfl
        refine one_ (i := 5) (N := some 29) #[true, true, true, true, true, true, false, false] rfl rfl (one_of HT_.out (by kernel_rfl)) (by decide) (fun K hK => ?_)
        refine goes_ Try.func106 (by kernel_rfl) rfl #[.pointer (some ⟨g, 0, none⟩), .slice Ao40 y781.length co40] (by rfl) rfl rfl argx ?_
        with_reducible refine (spec_l12Rd_num.calls k1 g s0_0 t779 _ _ y781 t784 t785 w0 _ ?side1 ?side2 ?side3 ?side4 ?side5 A20.out).mono ?_
        (case side1 => exact mI132_1 HI0.out)
        (case side2 => exact mB132HI0 HB.out)
        (case side3 => exact mC (Kd.R_reads' HO783.out).2.2)
        (case side4 => exact (Kd.R_reads' HO783.out).2.1)
        (case side5 => exact far_slice (IsS132.own_ne HI0.out HO783.out (by decide)))
        rintro e w41 ⟨rfl, hi, hb, hk⟩
        refine ⟨_, rfl, ?_⟩
        have n_ := And.intro (z0 (Kd.R_mono (Kd.R_keep (IsS132.apart (show IsS132 w0 _ g s0_0 t779 from mI132_1 HI0.out) (mR HO_769000.out) (by decide)) hk (fun _ h => h.2)) (fun _ h => h.1))) <| And.intro (z0 (Kd.R_mono (Kd.R_keep (IsS132.apart (show IsS132 w0 _ g s0_0 t779 from mI132_1 HI0.out) (mR HO_769001.out) (by decide)) hk (fun _ h => h.2)) (fun _ h => h.1))) <| And.intro (z0 (Kd.R_mono (Kd.R_keep (IsS132.apart (show IsS132 w0 _ g s0_0 t779 from mI132_1 HI0.out) (mR HO_769002.out) (by decide)) hk (fun _ h => h.2)) (fun _ h => h.1))) <| az (kB hk BK758.out NB758_0.out) <| az (kB hk BK768.out NB768_0.out) <| And.intro (z0 (Kd.R_mono (Kd.R_keep (IsS132.apart (show IsS132 w0 _ g s0_0 t779 from mI132_1 HI0.out) (mR HO771.out) (by decide)) hk (fun _ h => h.2)) (fun _ h => h.1))) <| And.intro (z0 (Kd.R_mono (Kd.R_keep (IsS132.apart (show IsS132 w0 _ g s0_0 t779 from mI132_1 HI0.out) (mR HO777.out) (by decide)) hk (fun _ h => h.2)) (fun _ h => h.1))) <| And.intro (z0 (Kd.R_mono (Kd.R_keep (IsS132.apart (show IsS132 w0 _ g s0_0 t779 from mI132_1 HI0.out) (mR HO783.out) (by decide)) hk (fun _ h => h.2)) (fun _ h => h.1))) <| az (KeepBut.trans (mKp HK.out) hk (.inl rfl)) <| az (hb) <| z0 (hi)
        clear HO_769000 HO_769001 HO_769002 BK758 BK768 HO771 HO777 HO783 HK HB HI0
        obtain ⟨HO_769000, HO_769001, HO_769002, BK758, BK768, HO771, HO777, HO783, HK, HB, HI0⟩ := n_
        (try clear hb)
        (try clear hb2)
        (try clear hk)
        (try clear hi)
        have p22 : 0 ≤ (x4_1 : Int) := of_decide_eq_true (by first | (with_reducible assumption) | assumption)
        have q22 : (x4_1 : Int) < ((x769002_1.length : Int) : Int) := of_decide_eq_true (by first | (with_reducible assumption) | assumption)
        obtain ⟨go22, co22, eo22, gb22, gl22, cl22, HG22⟩ := Kd.R_form HO_769002.out (by omega)
        (first | cases eo22 | (injection eo22 with ea_ en_ ec_; (first | subst ea_ | (injection ea_ with ea_; subst ea_)); subst ec_; clear en_))
        have GB22 := z0 gb22
        have GG22 := z0 HG22
        clear gb22 gl22 HG22
        obtain ⟨hx22_0, hf22_0⟩ := Kd.R_celln 0 HO_769002.out (x4_1 : Int) p22 q22
        replace p22 := eq_true p22
        replace q22 := eq_true q22
        have HN0_go22 := z0 (show g ≠ go22 from by have h_ := IsS132.own_ne HI0.out HO_769002.out (by decide); intro e_; exact h_ (by rw [e_]; rfl))
        have HP42 := Kd.R_putn HO_769002.out (x4_1 : Int) t784
        rw [← Ny786.out] at HP42
        have HQ42 := z0 HP42
        clear HP42
        refine hK.out _ _ q108_1 (fun hHeld => ?_)
        clear hK K
        refine norm_ (a' := ?_) ?_ ?_
        rotate_left
        ·show Act.put _ (some 29) _ = _
         simp only [Act.put, List.setIfInBounds_toArray, List.set_cons_zero, List.set_cons_succ, i64_w, i32_w]
         rfl
        refine pure_ (i := 6) (N := some 30) (v := ?_) (a' := ?_) #[true, true, true, true, true, true, true, false] rfl rfl (any_of HT_.out (by kernel_rfl)) (fun _ _ _ h => h) (Or.inl ⟨by rfl, ?_⟩) ?_ ?_
        rotate_left
        ·intro w'
         go_simp
         with_reducible rfl
        rotate_left
        ·simp only [Act.put, List.setIfInBounds_toArray, List.set_cons_zero, List.set_cons_succ, i64_w, i32_w]
         rfl
        refine last_ (i := 7) (N := none) #[true, true, true, true, true, true, true, true] rfl rfl (one_of HT_.out (by kernel_rfl)) (by decide) (fun K hK => ?_)
        refine skip_ (w1 := ?_) (by rfl) rfl ?_ ?_
        rotate_left
        ·go_simp
         rfl
        refine hK.out _ _ ?_
        clear hK K
        refine done_ (done_of HT_.out (by kernel_rfl)) ?_
        try go_wp2
        go_roundg k1
        case measure => have := HK1.out; omega
        case rel => exact ⟨(wrap64 (x4_1 + 1)), (t785), (y774), (y780), (y786), (.slice (some ⟨go16, 0, none⟩) x769000_1.length co16), (.slice (some ⟨go19, 0, none⟩) x769001_1.length co19), (.slice (some ⟨go22, 0, none⟩) x769002_1.length co22), rfy, H', ⟨by have := HK1.out; omega⟩, ⟨by (with_reducible repeat (first | apply Kd.R_alloc | apply Kd.R_drewN | apply Kd.R_drew)); exact Kd.R_mono (Kd.R_far (p := ⟨go22, (x4_1 : Int).toNat, none⟩) (Kd.R_mono HO_769000.out (fun k_ hk => (⟨hk, fun e_ => hk.1.2.1 (by rw [e_]; rfl)⟩ : _ ∧ k_ ≠ go22))) (fun _ hk => hk.2) (.int .i64 t784)) (fun _ hk => ⟨hk.1.1.1, hk.1.1.2.1⟩)⟩, ⟨by (with_reducible repeat (first | apply Kd.R_alloc | apply Kd.R_drewN | apply Kd.R_drew)); exact Kd.R_mono (Kd.R_far (p := ⟨go22, (x4_1 : Int).toNat, none⟩) (Kd.R_mono HO_769001.out (fun k_ hk => (⟨hk, fun e_ => hk.1.2.1 (by rw [e_]; rfl)⟩ : _ ∧ k_ ≠ go22))) (fun _ hk => hk.2) (.int .i64 t784)) (fun _ hk => ⟨hk.1.1.1, hk.1.1.2.1⟩)⟩, ⟨by (with_reducible repeat (first | apply Kd.R_alloc | apply Kd.R_drewN | apply Kd.R_drew)); exact Kd.R_mono HQ42.out (fun _ hk => ⟨hk.1.1, hk.1.2.1⟩)⟩, ⟨by (with_reducible repeat (first | refine blk_drewN ?_ _ | refine blk_drew ?_ | refine blk_alloc ?_ _)); refine blk_far ?_ (by have h_ := Kd.R_ne HO_769002.out BK758.out (by decide); intro e_; exact h_ (by rw [e_]; rfl)) _; (with_reducible repeat (first | refine blk_drewN ?_ _ | refine blk_drew ?_ | refine blk_alloc ?_ _)); exact BK758.out⟩, ⟨by (with_reducible repeat (first | refine blk_drewN ?_ _ | refine blk_drew ?_ | refine blk_alloc ?_ _)); refine blk_far ?_ (by have h_ := Kd.R_ne HO_769002.out BK768.out (by decide); intro e_; exact h_ (by rw [e_]; rfl)) _; (with_reducible repeat (first | refine blk_drewN ?_ _ | refine blk_drew ?_ | refine blk_alloc ?_ _)); exact BK768.out⟩, ⟨mI132_1 HI0.out⟩, ⟨mKp HK.out⟩, ⟨by repeat (first | (with_reducible first | exact HB.out | apply below_alloc | apply pw_below_drewN | apply below_drew1 | refine below_set ?_ (Nat.le_trans HL.out GB22.out) | refine below_set ?_ (IsS132.ge HI0.out) | refine below_set ?_ GE758.out | refine below_set ?_ GE768.out) | exact HB.out)⟩⟩
       ·rw [if_neg c21] at H
        exact absurd H (by simp)
      ·rw [if_neg c18] at H
       exact absurd H (by simp)
     ·rw [if_neg c15] at H
      exact absurd H (by simp)
    ·rw [if_neg c14] at H
     exact absurd H (by simp)
   ·rw [if_neg c12] at H
    have c12b0 : decide (x4_1 < 4) = false := decide_eq_false c12
    clear c12
    simp only [Option.some.injEq, Prod.mk.injEq] at H
    obtain ⟨rfl, rfl, rfl, rfl⟩ := H
    have hnb43 := NB768_758.out
    have hnc43 := NB758_768.out
    have hnb44 := NB768_0.out
    have hnc44 := NB0_768.out
    obtain ⟨hcz45_0, hcz45_1, hcz45_2, hfz45_0, hfz45_1, hfz45_2⟩ := cel3 BK768.out
    obtain ⟨Ao46, co46, eo46⟩ := Kd.R_slice HO_769000.out
    subst eo46
    have hnb47 := NB758_0.out
    have hnc47 := NB0_758.out
    obtain ⟨hcz48_0, hcz48_1, hcz48_2, hfz48_0, hfz48_1, hfz48_2⟩ := cel3 BK758.out
    obtain ⟨Ao49, co49, eo49⟩ := Kd.R_slice HO_769001.out
    subst eo49
    obtain ⟨Ao50, co50, eo50⟩ := Kd.R_slice HO_769002.out
    subst eo50
    go_wp2
    refine bodyPost_ret (results_cell_row rfl _ _ gb758 44 #[.slice Ao46 x769000_1.length co46, .slice Ao49 x769001_1.length co49, .slice Ao50 x769002_1.length co50] (0, 0) _ rfl (pF BK758.out) Try.underlying44 rfl (by kernel_rfl)) rfl ?_
    exact ⟨_, _, _, rfx, by (with_reducible repeat (first | apply Kd.R_alloc | apply Kd.R_drewN | apply Kd.R_drew)); exact Kd.R_mono (Kd.R_far (p := ⟨gb758, 2, none⟩) (Kd.R_far (p := ⟨gb758, 1, none⟩) (Kd.R_far (p := ⟨gb758, 0, none⟩) (Kd.R_types HO_769000.out BK758.out (by decide)) (fun _ hk => hk.2) (.slice Ao46 x769000_1.length co46)) (fun _ hk => hk.2) (.slice Ao49 x769001_1.length co49)) (fun _ hk => hk.2) (.slice Ao50 x769002_1.length co50)) (fun _ hk => ⟨hk.1.1, hk.1.2⟩), by (with_reducible repeat (first | apply Kd.R_alloc | apply Kd.R_drewN | apply Kd.R_drew)); exact Kd.R_mono (Kd.R_far (p := ⟨gb758, 2, none⟩) (Kd.R_far (p := ⟨gb758, 1, none⟩) (Kd.R_far (p := ⟨gb758, 0, none⟩) (Kd.R_types HO_769001.out BK758.out (by decide)) (fun _ hk => hk.2) (.slice Ao46 x769000_1.length co46)) (fun _ hk => hk.2) (.slice Ao49 x769001_1.length co49)) (fun _ hk => hk.2) (.slice Ao50 x769002_1.length co50)) (fun _ hk => ⟨hk.1.1, hk.1.2⟩), by (with_reducible repeat (first | apply Kd.R_alloc | apply Kd.R_drewN | apply Kd.R_drew)); exact Kd.R_mono (Kd.R_far (p := ⟨gb758, 2, none⟩) (Kd.R_far (p := ⟨gb758, 1, none⟩) (Kd.R_far (p := ⟨gb758, 0, none⟩) (Kd.R_types HO_769002.out BK758.out (by decide)) (fun _ hk => hk.2) (.slice Ao46 x769000_1.length co46)) (fun _ hk => hk.2) (.slice Ao49 x769001_1.length co49)) (fun _ hk => hk.2) (.slice Ao50 x769002_1.length co50)) (fun _ hk => ⟨hk.1.1, hk.1.2⟩), mI132_1 HI0.out, mB132HI0 HB.out, mKp HK.out⟩

/-! ### spec_l3Bent: function 76 -/
mutual
def spec_l3Bent.l0 : Nat → Int → List Int → Int → Int → Int → Int → Int → List (S32) → Option (Int × Int × Int × Int × (List (S32)) × Int)
 | 0, _, _, _, _, _, _, _, _ => none
 | k + 1, x4, x1000, x1001, x720000, x720001, x720002, x720003, x720004 => if x4 < 6 then (spec_l3Bent.l0 k (wrap64 (x4 + 1)) x1000 x1001 10 0 0 0 (([(⟨x720000, x720001, (⟨x720002, x720003⟩ : S29), x720004⟩ : S32)] : List (S32)))) else (some (x720000, x720001, x720002, x720003, x720004, x1001))
def spec_l3Bent.l1 : Nat → Int → List Int → Int → Int → Int → Int → Int → List (S32) → Option (Int × Int × Int × Int × (List (S32)) × Int)
 | 0, _, _, _, _, _, _, _, _ => none
 | k + 1, x5, x1000, x1001, x720000, x720001, x720002, x720003, x720004 => if x5 < 4 then ((spec_l3Copy.f k x720000 x720001 x720002 x720003 x720004).bind fun bt738 => (spec_l3Bent.l1 k (wrap64 (x5 + 1)) x1000 x1001 3 0 0 0 (([(⟨x720000, x720001, (⟨x720002, x720003⟩ : S29), x720004⟩ : S32), (⟨bt738.1, bt738.2.1, (⟨bt738.2.2.1, bt738.2.2.2.1⟩ : S29), bt738.2.2.2.2⟩ : S32)] : List (S32))))) else (some (x720000, x720001, x720002, x720003, x720004, x1001))
end
def spec_l3Bent.f (k : Nat) (s0_0 : List Int) (s0_1 : Int) : Option (Int × Int × Int × Int × (List (S32)) × Int) := (spec_l3Some.f k s0_0 s0_1).bind fun bt711 => ((spec_l12Rd_pick.f k s0_0 bt711.2.2.2.2.2 60).bind fun bt720 => (if bt720.1 = 0 then ((spec_l12Rd_num.f k s0_0 bt720.2 (([0, 11, 3, 10] : List Int))).bind fun bt725 => (some (bt725.1, bt711.2.1, bt711.2.2.1, bt711.2.2.2.1, bt711.2.2.2.2.1, bt725.2))) else (if bt720.1 = 1 then ((spec_l12Rd_num.f k s0_0 bt720.2 (([1, 1000001] : List Int))).bind fun bt730 => (some (bt711.1, bt730.1, bt711.2.2.1, bt711.2.2.2.1, bt711.2.2.2.2.1, bt730.2))) else (if bt720.1 = 2 then ((spec_l2AddrBent.f k s0_0 bt720.2).bind fun bt732 => (some (bt711.1, bt711.2.1, bt732.1, bt732.2.1, bt711.2.2.2.2.1, bt732.2.2))) else (if bt720.1 = 3 then (spec_l3Bent.l0 k 0 s0_0 bt720.2 bt711.1 bt711.2.1 bt711.2.2.1 bt711.2.2.2.1 bt711.2.2.2.2.1) else (if bt720.1 = 4 then (spec_l3Bent.l1 k 0 s0_0 bt720.2 bt711.1 bt711.2.1 bt711.2.2.1 bt711.2.2.2.1 bt711.2.2.2.2.1) else (some (bt711.1, bt711.2.1, bt711.2.2.1, bt711.2.2.2.1, bt711.2.2.2.2.1, bt720.2))))))))
set_option maxHeartbeats 8000000 in
set_option maxRecDepth 100000 in
theorem spec_l3Bent.calls (k : Nat) (g : Nat) (s0_0 : List Int) (s0_1 : Int) (r1 : Int) (r2 : Int) (r3 : Int) (r4 : Int) (r5 : List (S32)) (r6 : Int) (w0 w : World) (hI : IsS132 w0 w g s0_0 s0_1) (hB : Below w0.heap.size w0 w) (h : spec_l3Bent.f k s0_0 s0_1 = some (r1, r2, r3, r4, r5, r6)) :
  Calls Try.prog 76 #[.pointer (some ⟨g, 0, none⟩)] w fun e w' => ∃ v4_ : Value, e = .returned (.agg #[.int .i64 r1, .int .i64 r2, .int .i64 r3, .int .i64 r4, v4_]) ∧ Kd.N k32 32 w' w.heap.size (fun k_ => (w.heap.size ≤ k_)) v4_ r5 ∧ IsS132 w0 w' g s0_0 r6 ∧ Below w0.heap.size w0 w' ∧ KeepBut w w' g none := by
 have hu32 := Try.underlying32
 have hu29 := Try.underlying29
 have HI0 := z0 hI
 have HK := z0 (KeepBut.refl w g none)
 have HL := z0 hB.size
 clear hI
 have HW0 := z0 hB.size
 have HB := z0 hB
 clear hB
 have H : ((spec_l3Some.f k s0_0 s0_1).bind fun bt711 => ((spec_l12Rd_pick.f k s0_0 bt711.2.2.2.2.2 60).bind fun bt720 => (if bt720.1 = 0 then ((spec_l12Rd_num.f k s0_0 bt720.2 (([0, 11, 3, 10] : List Int))).bind fun bt725 => (some (bt725.1, bt711.2.1, bt711.2.2.1, bt711.2.2.2.1, bt711.2.2.2.2.1, bt725.2))) else (if bt720.1 = 1 then ((spec_l12Rd_num.f k s0_0 bt720.2 (([1, 1000001] : List Int))).bind fun bt730 => (some (bt711.1, bt730.1, bt711.2.2.1, bt711.2.2.2.1, bt711.2.2.2.2.1, bt730.2))) else (if bt720.1 = 2 then ((spec_l2AddrBent.f k s0_0 bt720.2).bind fun bt732 => (some (bt711.1, bt711.2.1, bt732.1, bt732.2.1, bt711.2.2.2.2.1, bt732.2.2))) else (if bt720.1 = 3 then (spec_l3Bent.l0 k 0 s0_0 bt720.2 bt711.1 bt711.2.1 bt711.2.2.1 bt711.2.2.2.1 bt711.2.2.2.2.1) else (if bt720.1 = 4 then (spec_l3Bent.l1 k 0 s0_0 bt720.2 bt711.1 bt711.2.1 bt711.2.2.1 bt711.2.2.2.1 bt711.2.2.2.2.1) else (some (bt711.1, bt711.2.1, bt711.2.2.1, bt711.2.2.2.1, bt711.2.2.2.2.1, bt720.2))))))))) = some (r1, r2, r3, r4, r5, r6) := h
 clear h
 replace H := Option.bind_eq_some_iff.mp H
 obtain ⟨⟨t711, t712, t713, t714, t715, t718⟩, A20, H⟩ := H
 try dsimp only at H
 have A2 := z0 A20
 clear A20
 replace H := Option.bind_eq_some_iff.mp H
 obtain ⟨⟨t720, t721⟩, A30, H⟩ := H
 try dsimp only at H
 have A3 := z0 A30
 clear A30
 have HF4 := z0 H
 clear H
 go_enter Try.func76, Try.ntmps76
 go_upto_if 10 with (first | ((with_reducible refine gate_dst (N := 2) rfl ?_); refine box_event ?hg (N := 2) ?hd (cs := #[.int .i64 0, .int .i64 0, .int .i64 0, .int .i64 0, .slice none 0 0]) (t := 32) ?hr ?_; (case hd => rfl); (case hg => rfl); (case hr => first | (go_simp; done) | (go_simp; rfl)); intro gb710 hg w5 hbox hb; have n_ := az (IsS132.below (mI132_1 HI0.out) hb) <| az (KeepBut.trans (mKp HK.out) (KeepBut.of_below hb g none) (.inl rfl)) <| az (below_step (mB132HI0 HB.out) hb) <| az (hbox) <| az ((gW hg HK.out)) <| az ((Nat.le_trans HW0.out (gW hg HK.out) : w0.heap.size ≤ gb710)) <| az ((by rw [hg]; exact Nat.ne_of_lt (IsS132.lt (show IsS132 w0 _ g s0_0 s0_1 from mI132_1 HI0.out)) : g ≠ gb710)) <| z0 ((by rw [hg]; exact Nat.ne_of_gt (IsS132.lt (show IsS132 w0 _ g s0_0 s0_1 from mI132_1 HI0.out)) : gb710 ≠ g)); clear HI0 HK HB; obtain ⟨HI0, HK, HB, BK710, GW710, GE710, NB0_710, NB710_0⟩ := n_; clear hb hbox hg) | ((with_reducible refine gate_callee (f := 104) rfl ?_); refine goesL_ (some 7) rfl rfl Try.func104 (by kernel_rfl) rfl #[.pointer (some ⟨g, 0, none⟩)] rfl argx ?_; (with_reducible refine (spec_l3Some.calls k g s0_0 s0_1 t711 t712 t713 t714 t715 t718 w0 _ ?side1 ?side2 A2.out).mono ?_); (case side1 => exact mI132_1 HI0.out); (case side2 => exact mB132HI0 HB.out); rintro e w6 ⟨v716, rfl, ho0, hi, hb, hk⟩; refine ⟨_, rfl, ?_⟩; have n_ := az (kB hk BK710.out NB710_0.out) <| az (Kd.N_lower (Kd.N_mono (ok' := fun k_ => (w.heap.size ≤ k_) ∧ k_ ≠ gb710 ∧ k_ ≠ g) (Kd.R_N (Kd.R_bound ho0)) (fun k_ hk_ => ⟨(Nat.le_trans (kS HK.out) hk_.2.1), (fB BK710.out hk_.2.1), (IsS132.fresh (mI132_1 HI0.out) k_ hk_.2.1)⟩)) (kS HK.out)) <| az (KeepBut.trans (mKp HK.out) hk (.inl rfl)) <| az (hb) <| z0 (hi); clear BK710 HK HB HI0; obtain ⟨BK710, HO717, HK, HB, HI0⟩ := n_; clear hb hk hi ho0) | ((with_reducible refine gate_dst (N := 3) rfl ?_); refine box_event ?hg (N := 3) ?hd (cs := #[.int .i64 0, .int .i64 0, .int .i64 0, .int .i64 0, .slice none 0 0]) (t := 32) ?hr ?_; (case hd => rfl); (case hg => rfl); (case hr => first | (go_simp; done) | (go_simp; rfl)); intro gb719 hg w7 hbox hb; have n_ := az (Kd.N_below (Kd.N_elderB (mN HO717.out) gb719 (Nat.le_of_eq hg.symm)) hb) <| az (IsS132.below (mI132_1 HI0.out) hb) <| az (bB BK710.out hb) <| az (KeepBut.trans (mKp HK.out) (KeepBut.of_below hb g none) (.inl rfl)) <| az (below_step (mB132HI0 HB.out) hb) <| az (hbox) <| az ((gW hg HK.out)) <| az ((Nat.le_trans HW0.out (gW hg HK.out) : w0.heap.size ≤ gb719)) <| az ((nL hg BK710.out)) <| az ((nG hg BK710.out)) <| az ((by rw [hg]; exact Nat.ne_of_lt (IsS132.lt (show IsS132 w0 _ g s0_0 t718 from mI132_1 HI0.out)) : g ≠ gb719)) <| z0 ((by rw [hg]; exact Nat.ne_of_gt (IsS132.lt (show IsS132 w0 _ g s0_0 t718 from mI132_1 HI0.out)) : gb719 ≠ g)); clear HO717 HI0 BK710 HK HB; obtain ⟨HO717, HI0, BK710, HK, HB, BK719, GW719, GE719, NB710_719, NB719_710, NB0_719, NB719_0⟩ := n_; clear hb hbox hg; have hnb8 := NB719_710.out; have hnc8 := NB710_719.out; have hnb9 := NB719_0.out; have hnc9 := NB0_719.out; obtain ⟨hcz10_0, hcz10_1, hcz10_2, hcz10_3, hcz10_4, hfz10_0, hfz10_1, hfz10_2, hfz10_3, hfz10_4⟩ := cel5 BK719.out; obtain ⟨Ao11, co11, eo11⟩ := Kd.N_slice HO717.out; subst eo11) | ((with_reducible refine gate_callee (f := 105) rfl ?_); refine goesL_ (some 9) rfl rfl Try.func105 (by kernel_rfl) rfl #[.pointer (some ⟨g, 0, none⟩), .int .i64 60] rfl argx ?_; (with_reducible refine (spec_l12Rd_pick.calls k g s0_0 t718 60 t720 t721 w0 _ ?side1 ?side2 A3.out).mono ?_); (case side1 => exact mI132_1 HI0.out); (case side2 => exact mB132HI0 HB.out); rintro e w12 ⟨rfl, hi, hb, hk⟩; refine ⟨_, rfl, ?_⟩; have n_ := az (KeepBut.blk hk (g' := gb710) (o := .cells #[.int .i64 0, .int .i64 0, .int .i64 0, .int .i64 0, .slice none 0 0] 32 (0, 0)) (mF BK710.out) NB710_0.out (by simp)) <| az (Kd.N_mono (Kd.N_keep (Kd.N_mono (ok := fun k_ => ((((w.heap.size ≤ k_)) ∧ (k_ ≠ gb710 ∧ k_ ≠ g)) ∧ k_ ≠ gb719)) (by (with_reducible repeat (first | apply Kd.N_alloc | apply Kd.N_drewN | apply Kd.N_drew)); exact (Kd.N_mono (Kd.N_far (p := ⟨gb719, 4, none⟩) (Kd.N_far (p := ⟨gb719, 3, none⟩) (Kd.N_far (p := ⟨gb719, 2, none⟩) (Kd.N_far (p := ⟨gb719, 1, none⟩) (Kd.N_far (p := ⟨gb719, 0, none⟩) (Kd.N_mono HO717.out (fun k_ hk => (⟨hk, hk.2⟩ : _ ∧ k_ ≠ gb719))) (fun _ hk => hk.2) (.int .i64 t711)) (fun _ hk => hk.2) (.int .i64 t712)) (fun _ hk => hk.2) (.int .i64 t713)) (fun _ hk => hk.2) (.int .i64 t714)) (fun _ hk => hk.2) (.slice Ao11 t715.length co11)) (fun _ h_ => h_.1))) (fun k_ hk_ => (⟨hk_, hk_.1.2.2⟩ : _ ∧ k_ ≠ g))) hk (fun _ h => h.2)) (fun _ h => h.1)) <| az (KeepBut.blk hk (g' := gb719) (o := .cells #[.int .i64 t711, .int .i64 t712, .int .i64 t713, .int .i64 t714, .slice Ao11 t715.length co11] 32 (0, 0)) (by (with_reducible repeat (first | refine blk_drewN ?_ _ | refine blk_drew ?_ | refine blk_alloc ?_ _)); refine blk_put (cs := #[.int .i64 t711, .int .i64 t712, .int .i64 t713, .int .i64 t714, .slice none 0 0]) ?_ 4 _ rfl; (with_reducible repeat (first | refine blk_drewN ?_ _ | refine blk_drew ?_ | refine blk_alloc ?_ _)); refine blk_put (cs := #[.int .i64 t711, .int .i64 t712, .int .i64 t713, .int .i64 0, .slice none 0 0]) ?_ 3 _ rfl; (with_reducible repeat (first | refine blk_drewN ?_ _ | refine blk_drew ?_ | refine blk_alloc ?_ _)); refine blk_put (cs := #[.int .i64 t711, .int .i64 t712, .int .i64 0, .int .i64 0, .slice none 0 0]) ?_ 2 _ rfl; (with_reducible repeat (first | refine blk_drewN ?_ _ | refine blk_drew ?_ | refine blk_alloc ?_ _)); refine blk_put (cs := #[.int .i64 t711, .int .i64 0, .int .i64 0, .int .i64 0, .slice none 0 0]) ?_ 1 _ rfl; (with_reducible repeat (first | refine blk_drewN ?_ _ | refine blk_drew ?_ | refine blk_alloc ?_ _)); refine blk_put (cs := #[.int .i64 0, .int .i64 0, .int .i64 0, .int .i64 0, .slice none 0 0]) ?_ 0 _ rfl; (with_reducible repeat (first | refine blk_drewN ?_ _ | refine blk_drew ?_ | refine blk_alloc ?_ _)); exact BK719.out) NB719_0.out (by simp)) <| az (KeepBut.trans (mKp HK.out) hk (.inl rfl)) <| az (hb) <| z0 (hi); clear BK710 HO717 BK719 HK HB HI0; obtain ⟨BK710, HO717, BK719, HK, HB, HI0⟩ := n_; clear hb hk hi))
 (try simp only [Act.put, List.setIfInBounds_toArray, List.set_cons_zero, List.set_cons_succ])
 have H := HF4.out
 clear HF4
 (try clear hcz10_0); (try clear hcz10_1); (try clear hcz10_2); (try clear hcz10_3); (try clear hcz10_4); (try clear hfz10_0); (try clear hfz10_1); (try clear hfz10_2); (try clear hfz10_3); (try clear hfz10_4)
 by_cases c13 : t720 = 0
 ·rw [if_pos c13] at H
  have c13b0 : (t720 == 0) = true := beq_iff_eq.mpr c13
  have c13b1 : (t720 != 0) = false := bne_eq_false_iff_eq.mpr c13
  clear c13
  (first | rw [c13b0] | (simp only [i64_w, i32_w]; rw [c13b0]) | skip)
  obtain ⟨y722, hy722⟩ : ∃ y_ : List Int, y_ = (([0, 11, 3, 10] : List Int)) := ⟨_, rfl⟩
  replace H : ((spec_l12Rd_num.f k s0_0 t721 y722).bind fun bt725 => (some (bt725.1, t712, t713, t714, t715, bt725.2))) = some (r1, r2, r3, r4, r5, r6) := by first | (rw [hy722]; with_reducible exact H) | (have H2_ := (Option.bind_some _ _).symm.trans H; rw [hy722]; with_reducible exact H2_) | (have H2_ := (Option.bind_some _ _).symm.trans H; with_reducible exact H2_) | with_reducible exact H | (rw [hy722]; exact H) | exact H
  have Ny722 := z0 hy722
  clear hy722
  replace H := Option.bind_eq_some_iff.mp H
  obtain ⟨⟨t725, t726⟩, A140, H⟩ := H
  try dsimp only at H
  have A14 := z0 A140
  clear A140
  simp only [Option.some.injEq, Prod.mk.injEq] at H
  obtain ⟨rfl, rfl, rfl, rfl, rfl, rfl⟩ := H
  go_wp2_with (first | ((with_reducible refine gate_dst (N := 13) rfl ?_); refine Kd.R_lit (Kd.int .i64) _ 3 ?hg (N := 13) ?hd (xs := ([0, 11, 3, 10] : List Int)) (inner := [.int .i64 0, .int .i64 11, .int .i64 3, .int .i64 10]) (ok := fun _ => True) (okp := fun _ => True) ?hr ?hp (fun _ hk => hk) trivial (Below.refl _ _) (Nat.le_refl _) (by simp) ?_; (case hd => rfl); (case hg => rfl); (case hr => first | (go_simp; done) | (go_simp; rfl)); (case hp => exact (Reps.one (show Kd.M (Kd.int .i64) _ _ _ 0 [.int .i64 0] from rfl) (Reps.one (show Kd.M (Kd.int .i64) _ _ _ 11 [.int .i64 11] from rfl) (Reps.one (show Kd.M (Kd.int .i64) _ _ _ 3 [.int .i64 3] from rfl) (Reps.one (show Kd.M (Kd.int .i64) _ _ _ 10 [.int .i64 10] from rfl) (Reps.none _ _)))))); intro v723 w15 ho16 hb hg_ hnew_; clear hg_ hnew_; (first | rw [← Ny722.out] at ho16 | (simp only [Int.reduceToNat] at ho16; rw [← Ny722.out] at ho16)); have n_ := az (Kd.N_elder' (mN HO717.out) (by first | exact Kd.R_base ho16 | exact Kd.R_base ho16) hb) <| az (Kd.R_lower (Kd.R_newM (M := fun k_ => (w.heap.size ≤ k_)) ho16 (kS HK.out) (fun k_ h_ => h_)) (kS HK.out)) <| az (IsS132.below (mI132_1 HI0.out) hb) <| az (bB BK710.out hb) <| az (bB BK719.out hb) <| az (KeepBut.trans (mKp HK.out) (KeepBut.of_below hb g none) (.inl rfl)) <| z0 (below_step (mB132HI0 HB.out) hb); clear HO717 HI0 BK710 BK719 HK HB; obtain ⟨HO717, HO724, HI0, BK710, BK719, HK, HB⟩ := n_; clear hb ho16; obtain ⟨Ao17, co17, eo17⟩ := Kd.R_slice HO724.out; subst eo17) | ((with_reducible refine gate_callee (f := 106) rfl ?_); refine goesL_ (some 14) rfl rfl Try.func106 (by kernel_rfl) rfl #[.pointer (some ⟨g, 0, none⟩), .slice Ao17 y722.length co17] rfl argx ?_; (with_reducible refine (spec_l12Rd_num.calls k g s0_0 t721 _ _ y722 t725 t726 w0 _ ?side1 ?side2 ?side3 ?side4 ?side5 A14.out).mono ?_); (case side1 => exact mI132_1 HI0.out); (case side2 => exact mB132HI0 HB.out); (case side3 => exact mC (Kd.R_reads' HO724.out).2.2); (case side4 => exact (Kd.R_reads' HO724.out).2.1); (case side5 => exact far_slice (IsS132.own_ne HI0.out HO724.out (by decide))); rintro e w18 ⟨rfl, hi, hb, hk⟩; refine ⟨_, rfl, ?_⟩; have n_ := az (kB hk BK710.out NB710_0.out) <| az (Kd.N_mono (Kd.N_keep (Kd.N_mono (ok := fun k_ => (((((w.heap.size ≤ k_)) ∧ (k_ ≠ gb710 ∧ k_ ≠ g)) ∧ k_ ≠ gb719) ∧ nB k_ (.slice Ao17 y722.length co17))) (mN HO717.out) (fun k_ hk_ => (⟨hk_, hk_.1.1.2.2⟩ : _ ∧ k_ ≠ g))) hk (fun _ h => h.2)) (fun _ h => h.1)) <| az (kB hk BK719.out NB719_0.out) <| az (Kd.R_mono (Kd.R_keep (IsS132.apart (show IsS132 w0 _ g s0_0 t721 from mI132_1 HI0.out) (mR HO724.out) (by decide)) hk (fun _ h => h.2)) (fun _ h => h.1)) <| az (KeepBut.trans (mKp HK.out) hk (.inl rfl)) <| az (hb) <| z0 (hi); clear BK710 HO717 BK719 HO724 HK HB HI0; obtain ⟨BK710, HO717, BK719, HO724, HK, HB, HI0⟩ := n_; clear hb hk hi; have hnb19 := NB719_710.out; have hnc19 := NB710_719.out; have hnb20 := NB719_0.out; have hnc20 := NB0_719.out; obtain ⟨hcz21_0, hcz21_1, hcz21_2, hcz21_3, hcz21_4, hfz21_0, hfz21_1, hfz21_2, hfz21_3, hfz21_4⟩ := cel5 BK719.out; have hnb22 := NB710_0.out; have hnc22 := NB0_710.out; obtain ⟨hcz23_0, hcz23_1, hcz23_2, hcz23_3, hcz23_4, hfz23_0, hfz23_1, hfz23_2, hfz23_3, hfz23_4⟩ := cel5 BK710.out))
  refine bodyPost_ret (results_cell_row rfl _ _ gb710 32 #[.int .i64 t725, .int .i64 t712, .int .i64 t713, .int .i64 t714, .slice Ao11 t715.length co11] (0, 0) _ rfl (by (with_reducible repeat (first | refine blk_drewN ?_ _ | refine blk_drew ?_ | refine blk_alloc ?_ _)); refine blk_put (cs := #[.int .i64 t725, .int .i64 t712, .int .i64 t713, .int .i64 t714, .slice none 0 0]) ?_ 4 _ rfl; (with_reducible repeat (first | refine blk_drewN ?_ _ | refine blk_drew ?_ | refine blk_alloc ?_ _)); refine blk_put (cs := #[.int .i64 t725, .int .i64 t712, .int .i64 t713, .int .i64 0, .slice none 0 0]) ?_ 3 _ rfl; (with_reducible repeat (first | refine blk_drewN ?_ _ | refine blk_drew ?_ | refine blk_alloc ?_ _)); refine blk_put (cs := #[.int .i64 t725, .int .i64 t712, .int .i64 0, .int .i64 0, .slice none 0 0]) ?_ 2 _ rfl; (with_reducible repeat (first | refine blk_drewN ?_ _ | refine blk_drew ?_ | refine blk_alloc ?_ _)); refine blk_put (cs := #[.int .i64 t725, .int .i64 0, .int .i64 0, .int .i64 0, .slice none 0 0]) ?_ 1 _ rfl; (with_reducible repeat (first | refine blk_drewN ?_ _ | refine blk_drew ?_ | refine blk_alloc ?_ _)); refine blk_put (cs := #[.int .i64 0, .int .i64 0, .int .i64 0, .int .i64 0, .slice none 0 0]) ?_ 0 _ rfl; (with_reducible repeat (first | refine blk_drewN ?_ _ | refine blk_drew ?_ | refine blk_alloc ?_ _)); refine blk_far ?_ NB710_719.out _; (with_reducible repeat (first | refine blk_drewN ?_ _ | refine blk_drew ?_ | refine blk_alloc ?_ _)); exact BK710.out) Try.underlying32 rfl (by kernel_rfl)) rfl ?_
  exact ⟨_, rfx, by (with_reducible repeat (first | apply Kd.N_alloc | apply Kd.N_drewN | apply Kd.N_drew)); exact Kd.N_mono (Kd.N_far (p := ⟨gb710, 4, none⟩) (Kd.N_far (p := ⟨gb710, 3, none⟩) (Kd.N_far (p := ⟨gb710, 2, none⟩) (Kd.N_far (p := ⟨gb710, 1, none⟩) (Kd.N_far (p := ⟨gb710, 0, none⟩) (Kd.N_far (p := ⟨gb719, 0, none⟩) (Kd.N_mono (Kd.N_mono HO717.out (fun k_ hk => (⟨hk, hk.1.2⟩ : _ ∧ k_ ≠ gb719))) (fun k_ hk => (⟨hk, hk.1.1.1.2.1⟩ : _ ∧ k_ ≠ gb710))) (fun _ hk => hk.1.2) (.int .i64 t725)) (fun _ hk => hk.2) (.int .i64 t725)) (fun _ hk => hk.2) (.int .i64 t712)) (fun _ hk => hk.2) (.int .i64 t713)) (fun _ hk => hk.2) (.int .i64 t714)) (fun _ hk => hk.2) (.slice Ao11 t715.length co11)) (fun _ hk => hk.1.1.1.1.1), mI132_1 HI0.out, mB132HI0 HB.out, mKp HK.out⟩
 ·rw [if_neg c13] at H
  have c13b0 : (t720 == 0) = false := beq_eq_false_iff_ne.mpr c13
  have c13b1 : (t720 != 0) = true := bne_iff_ne.mpr c13
  (first | rw [c13b0] | (simp only [i64_w, i32_w]; rw [c13b0]) | skip)
  by_cases c24 : t720 = 1
  ·rw [if_pos c24] at H
   have c24b0 : (t720 == 1) = true := beq_iff_eq.mpr c24
   have c24b1 : (t720 != 1) = false := bne_eq_false_iff_eq.mpr c24
   clear c24
   obtain ⟨y727, hy727⟩ : ∃ y_ : List Int, y_ = (([1, 1000001] : List Int)) := ⟨_, rfl⟩
   replace H : ((spec_l12Rd_num.f k s0_0 t721 y727).bind fun bt730 => (some (t711, bt730.1, t713, t714, t715, bt730.2))) = some (r1, r2, r3, r4, r5, r6) := by first | (rw [hy727]; with_reducible exact H) | (have H2_ := (Option.bind_some _ _).symm.trans H; rw [hy727]; with_reducible exact H2_) | (have H2_ := (Option.bind_some _ _).symm.trans H; with_reducible exact H2_) | with_reducible exact H | (rw [hy727]; exact H) | exact H
   have Ny727 := z0 hy727
   clear hy727
   replace H := Option.bind_eq_some_iff.mp H
   obtain ⟨⟨t730, t731⟩, A250, H⟩ := H
   try dsimp only at H
   have A25 := z0 A250
   clear A250
   simp only [Option.some.injEq, Prod.mk.injEq] at H
   obtain ⟨rfl, rfl, rfl, rfl, rfl, rfl⟩ := H
   go_wp2_with (first | ((with_reducible refine gate_dst (N := 19) rfl ?_); refine Kd.R_lit (Kd.int .i64) _ 3 ?hg (N := 19) ?hd (xs := ([1, 1000001] : List Int)) (inner := [.int .i64 1, .int .i64 1000001]) (ok := fun _ => True) (okp := fun _ => True) ?hr ?hp (fun _ hk => hk) trivial (Below.refl _ _) (Nat.le_refl _) (by simp) ?_; (case hd => rfl); (case hg => rfl); (case hr => first | (go_simp; done) | (go_simp; rfl)); (case hp => exact (Reps.one (show Kd.M (Kd.int .i64) _ _ _ 1 [.int .i64 1] from rfl) (Reps.one (show Kd.M (Kd.int .i64) _ _ _ 1000001 [.int .i64 1000001] from rfl) (Reps.none _ _)))); intro v728 w26 ho27 hb hg_ hnew_; clear hg_ hnew_; (first | rw [← Ny727.out] at ho27 | (simp only [Int.reduceToNat] at ho27; rw [← Ny727.out] at ho27)); have n_ := az (Kd.N_elder' (mN HO717.out) (by first | exact Kd.R_base ho27 | exact Kd.R_base ho27) hb) <| az (Kd.R_lower (Kd.R_newM (M := fun k_ => (w.heap.size ≤ k_)) ho27 (kS HK.out) (fun k_ h_ => h_)) (kS HK.out)) <| az (IsS132.below (mI132_1 HI0.out) hb) <| az (bB BK710.out hb) <| az (bB BK719.out hb) <| az (KeepBut.trans (mKp HK.out) (KeepBut.of_below hb g none) (.inl rfl)) <| z0 (below_step (mB132HI0 HB.out) hb); clear HO717 HI0 BK710 BK719 HK HB; obtain ⟨HO717, HO729, HI0, BK710, BK719, HK, HB⟩ := n_; clear hb ho27; obtain ⟨Ao28, co28, eo28⟩ := Kd.R_slice HO729.out; subst eo28) | ((with_reducible refine gate_callee (f := 106) rfl ?_); refine goesL_ (some 20) rfl rfl Try.func106 (by kernel_rfl) rfl #[.pointer (some ⟨g, 0, none⟩), .slice Ao28 y727.length co28] rfl argx ?_; (with_reducible refine (spec_l12Rd_num.calls k g s0_0 t721 _ _ y727 t730 t731 w0 _ ?side1 ?side2 ?side3 ?side4 ?side5 A25.out).mono ?_); (case side1 => exact mI132_1 HI0.out); (case side2 => exact mB132HI0 HB.out); (case side3 => exact mC (Kd.R_reads' HO729.out).2.2); (case side4 => exact (Kd.R_reads' HO729.out).2.1); (case side5 => exact far_slice (IsS132.own_ne HI0.out HO729.out (by decide))); rintro e w29 ⟨rfl, hi, hb, hk⟩; refine ⟨_, rfl, ?_⟩; have n_ := az (kB hk BK710.out NB710_0.out) <| az (Kd.N_mono (Kd.N_keep (Kd.N_mono (ok := fun k_ => (((((w.heap.size ≤ k_)) ∧ (k_ ≠ gb710 ∧ k_ ≠ g)) ∧ k_ ≠ gb719) ∧ nB k_ (.slice Ao28 y727.length co28))) (mN HO717.out) (fun k_ hk_ => (⟨hk_, hk_.1.1.2.2⟩ : _ ∧ k_ ≠ g))) hk (fun _ h => h.2)) (fun _ h => h.1)) <| az (kB hk BK719.out NB719_0.out) <| az (Kd.R_mono (Kd.R_keep (IsS132.apart (show IsS132 w0 _ g s0_0 t721 from mI132_1 HI0.out) (mR HO729.out) (by decide)) hk (fun _ h => h.2)) (fun _ h => h.1)) <| az (KeepBut.trans (mKp HK.out) hk (.inl rfl)) <| az (hb) <| z0 (hi); clear BK710 HO717 BK719 HO729 HK HB HI0; obtain ⟨BK710, HO717, BK719, HO729, HK, HB, HI0⟩ := n_; clear hb hk hi; have hnb30 := NB719_710.out; have hnc30 := NB710_719.out; have hnb31 := NB719_0.out; have hnc31 := NB0_719.out; obtain ⟨hcz32_0, hcz32_1, hcz32_2, hcz32_3, hcz32_4, hfz32_0, hfz32_1, hfz32_2, hfz32_3, hfz32_4⟩ := cel5 BK719.out; have hnb33 := NB710_0.out; have hnc33 := NB0_710.out; obtain ⟨hcz34_0, hcz34_1, hcz34_2, hcz34_3, hcz34_4, hfz34_0, hfz34_1, hfz34_2, hfz34_3, hfz34_4⟩ := cel5 BK710.out))
   refine bodyPost_ret (results_cell_row rfl _ _ gb710 32 #[.int .i64 t711, .int .i64 t730, .int .i64 t713, .int .i64 t714, .slice Ao11 t715.length co11] (0, 0) _ rfl (by (with_reducible repeat (first | refine blk_drewN ?_ _ | refine blk_drew ?_ | refine blk_alloc ?_ _)); refine blk_put (cs := #[.int .i64 t711, .int .i64 t730, .int .i64 t713, .int .i64 t714, .slice none 0 0]) ?_ 4 _ rfl; (with_reducible repeat (first | refine blk_drewN ?_ _ | refine blk_drew ?_ | refine blk_alloc ?_ _)); refine blk_put (cs := #[.int .i64 t711, .int .i64 t730, .int .i64 t713, .int .i64 0, .slice none 0 0]) ?_ 3 _ rfl; (with_reducible repeat (first | refine blk_drewN ?_ _ | refine blk_drew ?_ | refine blk_alloc ?_ _)); refine blk_put (cs := #[.int .i64 t711, .int .i64 t730, .int .i64 0, .int .i64 0, .slice none 0 0]) ?_ 2 _ rfl; (with_reducible repeat (first | refine blk_drewN ?_ _ | refine blk_drew ?_ | refine blk_alloc ?_ _)); refine blk_put (cs := #[.int .i64 t711, .int .i64 0, .int .i64 0, .int .i64 0, .slice none 0 0]) ?_ 1 _ rfl; (with_reducible repeat (first | refine blk_drewN ?_ _ | refine blk_drew ?_ | refine blk_alloc ?_ _)); refine blk_put (cs := #[.int .i64 0, .int .i64 0, .int .i64 0, .int .i64 0, .slice none 0 0]) ?_ 0 _ rfl; (with_reducible repeat (first | refine blk_drewN ?_ _ | refine blk_drew ?_ | refine blk_alloc ?_ _)); refine blk_far ?_ NB710_719.out _; (with_reducible repeat (first | refine blk_drewN ?_ _ | refine blk_drew ?_ | refine blk_alloc ?_ _)); exact BK710.out) Try.underlying32 rfl (by kernel_rfl)) rfl ?_
   exact ⟨_, rfx, by (with_reducible repeat (first | apply Kd.N_alloc | apply Kd.N_drewN | apply Kd.N_drew)); exact Kd.N_mono (Kd.N_far (p := ⟨gb710, 4, none⟩) (Kd.N_far (p := ⟨gb710, 3, none⟩) (Kd.N_far (p := ⟨gb710, 2, none⟩) (Kd.N_far (p := ⟨gb710, 1, none⟩) (Kd.N_far (p := ⟨gb710, 0, none⟩) (Kd.N_far (p := ⟨gb719, 1, none⟩) (Kd.N_mono (Kd.N_mono HO717.out (fun k_ hk => (⟨hk, hk.1.2⟩ : _ ∧ k_ ≠ gb719))) (fun k_ hk => (⟨hk, hk.1.1.1.2.1⟩ : _ ∧ k_ ≠ gb710))) (fun _ hk => hk.1.2) (.int .i64 t730)) (fun _ hk => hk.2) (.int .i64 t711)) (fun _ hk => hk.2) (.int .i64 t730)) (fun _ hk => hk.2) (.int .i64 t713)) (fun _ hk => hk.2) (.int .i64 t714)) (fun _ hk => hk.2) (.slice Ao11 t715.length co11)) (fun _ hk => hk.1.1.1.1.1), mI132_1 HI0.out, mB132HI0 HB.out, mKp HK.out⟩
  ·rw [if_neg c24] at H
   have c24b0 : (t720 == 1) = false := beq_eq_false_iff_ne.mpr c24
   have c24b1 : (t720 != 1) = true := bne_iff_ne.mpr c24
   by_cases c35 : t720 = 2
   ·rw [if_pos c35] at H
    have c35b0 : (t720 == 2) = true := beq_iff_eq.mpr c35
    have c35b1 : (t720 != 2) = false := bne_eq_false_iff_eq.mpr c35
    clear c35
    replace H := Option.bind_eq_some_iff.mp H
    obtain ⟨⟨t732, t733, t734⟩, A360, H⟩ := H
    try dsimp only at H
    have A36 := z0 A360
    clear A360
    simp only [Option.some.injEq, Prod.mk.injEq] at H
    obtain ⟨rfl, rfl, rfl, rfl, rfl, rfl⟩ := H
    go_wp2_with (first | ((with_reducible refine gate_callee (f := 107) rfl ?_); refine goesL_ (some 25) rfl rfl Try.func107 (by kernel_rfl) rfl #[.pointer (some ⟨g, 0, none⟩)] rfl argx ?_; (with_reducible refine (spec_l2AddrBent.calls k g s0_0 t721 t732 t733 t734 w0 _ ?side1 ?side2 A36.out).mono ?_); (case side1 => exact mI132_1 HI0.out); (case side2 => exact mB132HI0 HB.out); rintro e w37 ⟨rfl, hi, hb, hk⟩; refine ⟨_, rfl, ?_⟩; have n_ := az (kB hk BK710.out NB710_0.out) <| az (Kd.N_mono (Kd.N_keep (Kd.N_mono (ok := fun k_ => ((((w.heap.size ≤ k_)) ∧ (k_ ≠ gb710 ∧ k_ ≠ g)) ∧ k_ ≠ gb719)) (mN HO717.out) (fun k_ hk_ => (⟨hk_, hk_.1.2.2⟩ : _ ∧ k_ ≠ g))) hk (fun _ h => h.2)) (fun _ h => h.1)) <| az (kB hk BK719.out NB719_0.out) <| az (KeepBut.trans (mKp HK.out) hk (.inl rfl)) <| az (hb) <| z0 (hi); clear BK710 HO717 BK719 HK HB HI0; obtain ⟨BK710, HO717, BK719, HK, HB, HI0⟩ := n_; clear hb hk hi; have hnb38 := NB719_710.out; have hnc38 := NB710_719.out; have hnb39 := NB719_0.out; have hnc39 := NB0_719.out; obtain ⟨hcz40_0, hcz40_1, hcz40_2, hcz40_3, hcz40_4, hfz40_0, hfz40_1, hfz40_2, hfz40_3, hfz40_4⟩ := cel5 BK719.out; have hnb41 := NB710_0.out; have hnc41 := NB0_710.out; obtain ⟨hcz42_0, hcz42_1, hcz42_2, hcz42_3, hcz42_4, hfz42_0, hfz42_1, hfz42_2, hfz42_3, hfz42_4⟩ := cel5 BK710.out))
    refine bodyPost_ret (results_cell_row rfl _ _ gb710 32 #[.int .i64 t711, .int .i64 t712, .int .i64 t732, .int .i64 t733, .slice Ao11 t715.length co11] (0, 0) _ rfl (by (with_reducible repeat (first | refine blk_drewN ?_ _ | refine blk_drew ?_ | refine blk_alloc ?_ _)); refine blk_put (cs := #[.int .i64 t711, .int .i64 t712, .int .i64 t732, .int .i64 t733, .slice none 0 0]) ?_ 4 _ rfl; (with_reducible repeat (first | refine blk_drewN ?_ _ | refine blk_drew ?_ | refine blk_alloc ?_ _)); refine blk_put (cs := #[.int .i64 t711, .int .i64 t712, .int .i64 t732, .int .i64 0, .slice none 0 0]) ?_ 3 _ rfl; (with_reducible repeat (first | refine blk_drewN ?_ _ | refine blk_drew ?_ | refine blk_alloc ?_ _)); refine blk_put (cs := #[.int .i64 t711, .int .i64 t712, .int .i64 0, .int .i64 0, .slice none 0 0]) ?_ 2 _ rfl; (with_reducible repeat (first | refine blk_drewN ?_ _ | refine blk_drew ?_ | refine blk_alloc ?_ _)); refine blk_put (cs := #[.int .i64 t711, .int .i64 0, .int .i64 0, .int .i64 0, .slice none 0 0]) ?_ 1 _ rfl; (with_reducible repeat (first | refine blk_drewN ?_ _ | refine blk_drew ?_ | refine blk_alloc ?_ _)); refine blk_put (cs := #[.int .i64 0, .int .i64 0, .int .i64 0, .int .i64 0, .slice none 0 0]) ?_ 0 _ rfl; (with_reducible repeat (first | refine blk_drewN ?_ _ | refine blk_drew ?_ | refine blk_alloc ?_ _)); refine blk_far ?_ NB710_719.out _; (with_reducible repeat (first | refine blk_drewN ?_ _ | refine blk_drew ?_ | refine blk_alloc ?_ _)); refine blk_far ?_ NB710_719.out _; (with_reducible repeat (first | refine blk_drewN ?_ _ | refine blk_drew ?_ | refine blk_alloc ?_ _)); exact BK710.out) Try.underlying32 rfl (by kernel_rfl)) rfl ?_
    exact ⟨_, rfx, by (with_reducible repeat (first | apply Kd.N_alloc | apply Kd.N_drewN | apply Kd.N_drew)); exact Kd.N_mono (Kd.N_far (p := ⟨gb710, 4, none⟩) (Kd.N_far (p := ⟨gb710, 3, none⟩) (Kd.N_far (p := ⟨gb710, 2, none⟩) (Kd.N_far (p := ⟨gb710, 1, none⟩) (Kd.N_far (p := ⟨gb710, 0, none⟩) (Kd.N_far (p := ⟨gb719, 3, none⟩) (Kd.N_far (p := ⟨gb719, 2, none⟩) (Kd.N_mono (Kd.N_mono HO717.out (fun k_ hk => (⟨hk, hk.2⟩ : _ ∧ k_ ≠ gb719))) (fun k_ hk => (⟨hk, hk.1.1.2.1⟩ : _ ∧ k_ ≠ gb710))) (fun _ hk => hk.1.2) (.int .i64 t732)) (fun _ hk => hk.1.2) (.int .i64 t733)) (fun _ hk => hk.2) (.int .i64 t711)) (fun _ hk => hk.2) (.int .i64 t712)) (fun _ hk => hk.2) (.int .i64 t732)) (fun _ hk => hk.2) (.int .i64 t733)) (fun _ hk => hk.2) (.slice Ao11 t715.length co11)) (fun _ hk => hk.1.1.1.1), mI132_1 HI0.out, mB132HI0 HB.out, mKp HK.out⟩
   ·rw [if_neg c35] at H
    have c35b0 : (t720 == 2) = false := beq_eq_false_iff_ne.mpr c35
    have c35b1 : (t720 != 2) = true := bne_iff_ne.mpr c35
    by_cases c43 : t720 = 3
    ·rw [if_pos c43] at H
     have c43b0 : (t720 == 3) = true := beq_iff_eq.mpr c43
     have c43b1 : (t720 != 3) = false := bne_eq_false_iff_eq.mpr c43
     clear c43
     have H' := z0 H
     clear H
     go_wp2
     go_loopg [4] k (fun kq v4 w' => ∃ (x4_1 : Int) (x720000_1 : Int) (x720001_1 : Int) (x720002_1 : Int) (x720003_1 : Int) (x720004_1 : List (S32)) (u720004 : Value), v4 = .int .i64 x4_1 ∧ Aside0 (spec_l3Bent.l0 kq x4_1 s0_0 t721 x720000_1 x720001_1 x720002_1 x720003_1 x720004_1 = some (r1, r2, r3, r4, r5, r6)) ∧ Aside0 (kq ≤ k) ∧ Aside0 (Kd.N k32 32 w' w.heap.size (fun k_ => (w.heap.size ≤ k_) ∧ k_ ≠ gb710 ∧ k_ ≠ gb719 ∧ k_ ≠ g) u720004 x720004_1) ∧ Aside0 (w'.heap[gb710]? = some (.cells #[.int .i64 0, .int .i64 0, .int .i64 0, .int .i64 0, (.slice none 0 0)] 32 (0, 0))) ∧ Aside0 (w'.heap[gb719]? = some (.cells #[.int .i64 x720000_1, .int .i64 x720001_1, .int .i64 x720002_1, .int .i64 x720003_1, u720004] 32 (0, 0))) ∧ Aside0 (IsS132 w0 w' g s0_0 t721) ∧ Aside0 (KeepBut w w' g none) ∧ Aside0 (Below w0.heap.size w0 w'))
     case atStart => exact ⟨(0), (t711), (t712), (t713), (t714), (t715), (.slice Ao11 t715.length co11), rfy, H', ⟨Nat.le_refl _⟩, ⟨by (with_reducible repeat (first | apply Kd.N_alloc | apply Kd.N_drewN | apply Kd.N_drew)); exact Kd.N_mono HO717.out (fun _ hk => ⟨hk.1.1, ⟨hk.1.2.1, ⟨hk.2, hk.1.2.2⟩⟩⟩)⟩, ⟨mK BK710.out⟩, ⟨mK BK719.out⟩, ⟨mI132_1 HI0.out⟩, ⟨mKp HK.out⟩, ⟨mB132HI0 HB.out⟩⟩
     case round =>
      clear H'
      (try clear c13); (try clear c13b0); (try clear c13b1); (try clear c24); (try clear c24b0); (try clear c24b1); (try clear c35); (try clear c35b0); (try clear c35b1); (try clear c43); (try clear c43b0); (try clear c43b1); (try clear hcz10_0); (try clear hcz10_1); (try clear hcz10_2); (try clear hcz10_3); (try clear hcz10_4); (try clear hcz21_0); (try clear hcz21_1); (try clear hcz21_2); (try clear hcz21_3); (try clear hcz21_4); (try clear hcz23_0); (try clear hcz23_1); (try clear hcz23_2); (try clear hcz23_3); (try clear hcz23_4); (try clear hcz32_0); (try clear hcz32_1); (try clear hcz32_2); (try clear hcz32_3); (try clear hcz32_4); (try clear hcz34_0); (try clear hcz34_1); (try clear hcz34_2); (try clear hcz34_3); (try clear hcz34_4); (try clear hcz40_0); (try clear hcz40_1); (try clear hcz40_2); (try clear hcz40_3); (try clear hcz40_4); (try clear hcz42_0); (try clear hcz42_1); (try clear hcz42_2); (try clear hcz42_3); (try clear hcz42_4); (try clear hfz10_0); (try clear hfz10_1); (try clear hfz10_2); (try clear hfz10_3); (try clear hfz10_4); (try clear hfz21_0); (try clear hfz21_1); (try clear hfz21_2); (try clear hfz21_3); (try clear hfz21_4); (try clear hfz23_0); (try clear hfz23_1); (try clear hfz23_2); (try clear hfz23_3); (try clear hfz23_4); (try clear hfz32_0); (try clear hfz32_1); (try clear hfz32_2); (try clear hfz32_3); (try clear hfz32_4); (try clear hfz34_0); (try clear hfz34_1); (try clear hfz34_2); (try clear hfz34_3); (try clear hfz34_4); (try clear hfz40_0); (try clear hfz40_1); (try clear hfz40_2); (try clear hfz40_3); (try clear hfz40_4); (try clear hfz42_0); (try clear hfz42_1); (try clear hfz42_2); (try clear hfz42_3); (try clear hfz42_4)
      obtain ⟨x4_1, x720000_1, x720001_1, x720002_1, x720003_1, x720004_1, u720004, rfl, HA, HK1, HO_720004, BK710, BK719, HI0, HK, HB⟩ := hrel
      cases gk with
      | zero => exact absurd HA.out (by simp [spec_l3Bent.l0])
      | succ k1 =>
       have H := HA.out
       clear HA
       simp only [spec_l3Bent.l0] at H
       by_cases c44 : x4_1 < 6
       ·rw [if_pos c44] at H
        have c44b0 : decide (x4_1 < 6) = true := decide_eq_true c44
        clear c44
        obtain ⟨y735, hy735⟩ : ∃ y_ : List (S32), y_ = (([(⟨x720000_1, x720001_1, (⟨x720002_1, x720003_1⟩ : S29), x720004_1⟩ : S32)] : List (S32))) := ⟨_, rfl⟩
        replace H : (spec_l3Bent.l0 k1 (wrap64 (x4_1 + 1)) s0_0 t721 10 0 0 0 y735) = some (r1, r2, r3, r4, r5, r6) := by first | (rw [hy735]; with_reducible exact H) | (have H2_ := (Option.bind_some _ _).symm.trans H; rw [hy735]; with_reducible exact H2_) | (have H2_ := (Option.bind_some _ _).symm.trans H; with_reducible exact H2_) | with_reducible exact H | (rw [hy735]; exact H) | exact H
        have Ny735 := z0 hy735
        clear hy735
        have H' := z0 H
        clear H
        have hnb45 := NB719_710.out
        have hnc45 := NB710_719.out
        have hnb46 := NB719_0.out
        have hnc46 := NB0_719.out
        obtain ⟨hcz47_0, hcz47_1, hcz47_2, hcz47_3, hcz47_4, hfz47_0, hfz47_1, hfz47_2, hfz47_3, hfz47_4⟩ := cel5 BK719.out
        obtain ⟨Ao48, co48, eo48⟩ := Kd.N_slice HO_720004.out
        subst eo48
        go_wp2_with (first | ((with_reducible refine gate_dst (N := 34) rfl ?_); refine Kd.N_lit k32 _ 32 ?hg (N' := 34) ?hd (xs := ([(⟨x720000_1, x720001_1, (⟨x720002_1, x720003_1⟩ : S29), x720004_1⟩ : S32)] : List (S32))) (inner := [.int .i64 x720000_1, .int .i64 x720001_1, .int .i64 x720002_1, .int .i64 x720003_1, .slice Ao48 x720004_1.length co48]) (ok := (fun k_ => (w.heap.size ≤ k_) ∧ k_ ≠ gb710 ∧ k_ ≠ gb719 ∧ k_ ≠ g)) (okp := (fun k_ => (w.heap.size ≤ k_) ∧ k_ ≠ gb710 ∧ k_ ≠ gb719 ∧ k_ ≠ g)) ?hr ?hp (fun _ hk => hk) ((show ∀ k_, wr.heap.size ≤ k_ → (fun k_ => (w.heap.size ≤ k_) ∧ k_ ≠ gb710 ∧ k_ ≠ gb719 ∧ k_ ≠ g) k_ from fun k_ hk => ⟨(Nat.le_trans (kS HK.out) hk), fB BK710.out hk, fB BK719.out hk, IsS132.fresh (mI132_1 HI0.out) k_ hk⟩) _ (Nat.le_refl _)) (Below.refl _ _) (Nat.le_refl _) (by simp) ?_; (case hd => rfl); (case hg => rfl); (case hr => first | (go_simp; done) | (go_simp; rfl)); (case hp => exact (Reps.c5 (show Kd.FK k32 _ _ (⟨x720000_1, x720001_1, (⟨x720002_1, x720003_1⟩ : S29), x720004_1⟩ : S32) [.int .i64 x720000_1, .int .i64 x720001_1, .int .i64 x720002_1, .int .i64 x720003_1, .slice Ao48 x720004_1.length co48] from (k32_mkF _ _ (⟨x720000_1, x720001_1, (⟨x720002_1, x720003_1⟩ : S29), x720004_1⟩ : S32) (Kd.N_reads' (Kd.N_mono (ok' := (fun k_ => (w.heap.size ≤ k_) ∧ k_ ≠ gb710 ∧ k_ ≠ gb719 ∧ k_ ≠ g)) (HO_720004.out) (fun k_ hk => ⟨hk.1, ⟨hk.2.1, ⟨hk.2.2.1, hk.2.2.2⟩⟩⟩))).2.1 (Kd.N_F (Kd.N_mono (ok' := (fun k_ => (w.heap.size ≤ k_) ∧ k_ ≠ gb710 ∧ k_ ≠ gb719 ∧ k_ ≠ g)) (HO_720004.out) (fun k_ hk => ⟨hk.1, ⟨hk.2.1, ⟨hk.2.2.1, hk.2.2.2⟩⟩⟩))))) (Reps.none _ _))); intro v736 w49 ho50 hb hg_ hnew_; clear hg_ hnew_; (first | rw [← Ny735.out] at ho50 | (simp only [Int.reduceToNat] at ho50; rw [← Ny735.out] at ho50)); have n_ := az (Kd.N_lower ho50 (kS HK.out)) <| az (bB BK710.out hb) <| az (bB BK719.out hb) <| az (IsS132.below (mI132_1 HI0.out) hb) <| az (KeepBut.trans (mKp HK.out) (KeepBut.of_below hb g none) (.inl rfl)) <| z0 (below_step (mB132HI0 HB.out) hb); clear BK710 BK719 HI0 HK HB HO_720004; obtain ⟨HO737, BK710, BK719, HI0, HK, HB⟩ := n_; clear hb ho50; obtain ⟨Ao51, co51, eo51⟩ := Kd.N_slice HO737.out; subst eo51; obtain ⟨hcz52_0, hcz52_1, hcz52_2, hcz52_3, hcz52_4, hfz52_0, hfz52_1, hfz52_2, hfz52_3, hfz52_4⟩ := cel5 BK719.out))
        go_roundg k1
        case measure => have := HK1.out; omega
        case rel => exact ⟨(wrap64 (x4_1 + 1)), (10), (0), (0), (0), (y735), (.slice Ao51 y735.length co51), rfy, H', ⟨by have := HK1.out; omega⟩, ⟨by (with_reducible repeat (first | apply Kd.N_alloc | apply Kd.N_drewN | apply Kd.N_drew)); exact Kd.N_mono (Kd.N_far (p := ⟨gb719, 4, none⟩) (Kd.N_far (p := ⟨gb719, 3, none⟩) (Kd.N_far (p := ⟨gb719, 2, none⟩) (Kd.N_far (p := ⟨gb719, 1, none⟩) (Kd.N_far (p := ⟨gb719, 0, none⟩) (Kd.N_mono HO737.out (fun k_ hk => (⟨hk, hk.2.2.1⟩ : _ ∧ k_ ≠ gb719))) (fun _ hk => hk.2) (.int .i64 10)) (fun _ hk => hk.2) (.int .i64 0)) (fun _ hk => hk.2) (.int .i64 0)) (fun _ hk => hk.2) (.int .i64 0)) (fun _ hk => hk.2) (.slice Ao51 y735.length co51)) (fun _ hk => ⟨hk.1.1, ⟨hk.1.2.1, ⟨hk.1.2.2.1, hk.1.2.2.2⟩⟩⟩)⟩, ⟨mF BK710.out⟩, ⟨by (with_reducible repeat (first | refine blk_drewN ?_ _ | refine blk_drew ?_ | refine blk_alloc ?_ _)); refine blk_put (cs := #[.int .i64 10, .int .i64 0, .int .i64 0, .int .i64 0, .slice Ao48 x720004_1.length co48]) ?_ 4 _ rfl; (with_reducible repeat (first | refine blk_drewN ?_ _ | refine blk_drew ?_ | refine blk_alloc ?_ _)); refine blk_put (cs := #[.int .i64 10, .int .i64 0, .int .i64 0, .int .i64 x720003_1, .slice Ao48 x720004_1.length co48]) ?_ 3 _ rfl; (with_reducible repeat (first | refine blk_drewN ?_ _ | refine blk_drew ?_ | refine blk_alloc ?_ _)); refine blk_put (cs := #[.int .i64 10, .int .i64 0, .int .i64 x720002_1, .int .i64 x720003_1, .slice Ao48 x720004_1.length co48]) ?_ 2 _ rfl; (with_reducible repeat (first | refine blk_drewN ?_ _ | refine blk_drew ?_ | refine blk_alloc ?_ _)); refine blk_put (cs := #[.int .i64 10, .int .i64 x720001_1, .int .i64 x720002_1, .int .i64 x720003_1, .slice Ao48 x720004_1.length co48]) ?_ 1 _ rfl; (with_reducible repeat (first | refine blk_drewN ?_ _ | refine blk_drew ?_ | refine blk_alloc ?_ _)); refine blk_put (cs := #[.int .i64 x720000_1, .int .i64 x720001_1, .int .i64 x720002_1, .int .i64 x720003_1, .slice Ao48 x720004_1.length co48]) ?_ 0 _ rfl; (with_reducible repeat (first | refine blk_drewN ?_ _ | refine blk_drew ?_ | refine blk_alloc ?_ _)); exact BK719.out⟩, ⟨mI132_1 HI0.out⟩, ⟨mKp HK.out⟩, ⟨mB132HI0 HB.out⟩⟩
       ·rw [if_neg c44] at H
        have c44b0 : decide (x4_1 < 6) = false := decide_eq_false c44
        clear c44
        simp only [Option.some.injEq, Prod.mk.injEq] at H
        obtain ⟨rfl, rfl, rfl, rfl, rfl, rfl⟩ := H
        have hnb53 := NB719_710.out
        have hnc53 := NB710_719.out
        have hnb54 := NB719_0.out
        have hnc54 := NB0_719.out
        obtain ⟨hcz55_0, hcz55_1, hcz55_2, hcz55_3, hcz55_4, hfz55_0, hfz55_1, hfz55_2, hfz55_3, hfz55_4⟩ := cel5 BK719.out
        have hnb56 := NB710_0.out
        have hnc56 := NB0_710.out
        obtain ⟨hcz57_0, hcz57_1, hcz57_2, hcz57_3, hcz57_4, hfz57_0, hfz57_1, hfz57_2, hfz57_3, hfz57_4⟩ := cel5 BK710.out
        obtain ⟨Ao58, co58, eo58⟩ := Kd.N_slice HO_720004.out
        subst eo58
        go_wp2
        refine bodyPost_ret (results_cell_row rfl _ _ gb710 32 #[.int .i64 x720000_1, .int .i64 x720001_1, .int .i64 x720002_1, .int .i64 x720003_1, .slice Ao58 x720004_1.length co58] (0, 0) _ rfl (pF BK710.out) Try.underlying32 rfl (by kernel_rfl)) rfl ?_
        exact ⟨_, rfx, by (with_reducible repeat (first | apply Kd.N_alloc | apply Kd.N_drewN | apply Kd.N_drew)); exact Kd.N_mono (Kd.N_far (p := ⟨gb710, 4, none⟩) (Kd.N_far (p := ⟨gb710, 3, none⟩) (Kd.N_far (p := ⟨gb710, 2, none⟩) (Kd.N_far (p := ⟨gb710, 1, none⟩) (Kd.N_far (p := ⟨gb710, 0, none⟩) (Kd.N_mono HO_720004.out (fun k_ hk => (⟨hk, hk.2.1⟩ : _ ∧ k_ ≠ gb710))) (fun _ hk => hk.2) (.int .i64 x720000_1)) (fun _ hk => hk.2) (.int .i64 x720001_1)) (fun _ hk => hk.2) (.int .i64 x720002_1)) (fun _ hk => hk.2) (.int .i64 x720003_1)) (fun _ hk => hk.2) (.slice Ao58 x720004_1.length co58)) (fun _ hk => hk.1.1), mI132_1 HI0.out, mB132HI0 HB.out, mKp HK.out⟩
    ·rw [if_neg c43] at H
     have c43b0 : (t720 == 3) = false := beq_eq_false_iff_ne.mpr c43
     have c43b1 : (t720 != 3) = true := bne_iff_ne.mpr c43
     by_cases c59 : t720 = 4
     ·rw [if_pos c59] at H
      have c59b0 : (t720 == 4) = true := beq_iff_eq.mpr c59
      have c59b1 : (t720 != 4) = false := bne_eq_false_iff_eq.mpr c59
      clear c59
      have H' := z0 H
      clear H
      go_wp2
      go_loopg [5] k (fun kq v5 w' => ∃ (x5_1 : Int) (x720000_1 : Int) (x720001_1 : Int) (x720002_1 : Int) (x720003_1 : Int) (x720004_1 : List (S32)) (u720004 : Value), v5 = .int .i64 x5_1 ∧ Aside0 (spec_l3Bent.l1 kq x5_1 s0_0 t721 x720000_1 x720001_1 x720002_1 x720003_1 x720004_1 = some (r1, r2, r3, r4, r5, r6)) ∧ Aside0 (kq ≤ k) ∧ Aside0 (Kd.N k32 32 w' w.heap.size (fun k_ => (w.heap.size ≤ k_) ∧ k_ ≠ gb710 ∧ k_ ≠ gb719 ∧ k_ ≠ g) u720004 x720004_1) ∧ Aside0 (w'.heap[gb710]? = some (.cells #[.int .i64 0, .int .i64 0, .int .i64 0, .int .i64 0, (.slice none 0 0)] 32 (0, 0))) ∧ Aside0 (w'.heap[gb719]? = some (.cells #[.int .i64 x720000_1, .int .i64 x720001_1, .int .i64 x720002_1, .int .i64 x720003_1, u720004] 32 (0, 0))) ∧ Aside0 (IsS132 w0 w' g s0_0 t721) ∧ Aside0 (KeepBut w w' g none) ∧ Aside0 (Below w0.heap.size w0 w'))
      case atStart => exact ⟨(0), (t711), (t712), (t713), (t714), (t715), (.slice Ao11 t715.length co11), rfy, H', ⟨Nat.le_refl _⟩, ⟨by (with_reducible repeat (first | apply Kd.N_alloc | apply Kd.N_drewN | apply Kd.N_drew)); exact Kd.N_mono HO717.out (fun _ hk => ⟨hk.1.1, ⟨hk.1.2.1, ⟨hk.2, hk.1.2.2⟩⟩⟩)⟩, ⟨mK BK710.out⟩, ⟨mK BK719.out⟩, ⟨mI132_1 HI0.out⟩, ⟨mKp HK.out⟩, ⟨mB132HI0 HB.out⟩⟩
      case round =>
       clear H'
       (try clear c13); (try clear c13b0); (try clear c13b1); (try clear c24); (try clear c24b0); (try clear c24b1); (try clear c35); (try clear c35b0); (try clear c35b1); (try clear c43); (try clear c43b0); (try clear c43b1); (try clear c59); (try clear c59b0); (try clear c59b1); (try clear hcz10_0); (try clear hcz10_1); (try clear hcz10_2); (try clear hcz10_3); (try clear hcz10_4); (try clear hcz21_0); (try clear hcz21_1); (try clear hcz21_2); (try clear hcz21_3); (try clear hcz21_4); (try clear hcz23_0); (try clear hcz23_1); (try clear hcz23_2); (try clear hcz23_3); (try clear hcz23_4); (try clear hcz32_0); (try clear hcz32_1); (try clear hcz32_2); (try clear hcz32_3); (try clear hcz32_4); (try clear hcz34_0); (try clear hcz34_1); (try clear hcz34_2); (try clear hcz34_3); (try clear hcz34_4); (try clear hcz40_0); (try clear hcz40_1); (try clear hcz40_2); (try clear hcz40_3); (try clear hcz40_4); (try clear hcz42_0); (try clear hcz42_1); (try clear hcz42_2); (try clear hcz42_3); (try clear hcz42_4); (try clear hfz10_0); (try clear hfz10_1); (try clear hfz10_2); (try clear hfz10_3); (try clear hfz10_4); (try clear hfz21_0); (try clear hfz21_1); (try clear hfz21_2); (try clear hfz21_3); (try clear hfz21_4); (try clear hfz23_0); (try clear hfz23_1); (try clear hfz23_2); (try clear hfz23_3); (try clear hfz23_4); (try clear hfz32_0); (try clear hfz32_1); (try clear hfz32_2); (try clear hfz32_3); (try clear hfz32_4); (try clear hfz34_0); (try clear hfz34_1); (try clear hfz34_2); (try clear hfz34_3); (try clear hfz34_4); (try clear hfz40_0); (try clear hfz40_1); (try clear hfz40_2); (try clear hfz40_3); (try clear hfz40_4); (try clear hfz42_0); (try clear hfz42_1); (try clear hfz42_2); (try clear hfz42_3); (try clear hfz42_4)
       obtain ⟨x5_1, x720000_1, x720001_1, x720002_1, x720003_1, x720004_1, u720004, rfl, HA, HK1, HO_720004, BK710, BK719, HI0, HK, HB⟩ := hrel
       cases gk with
       | zero => exact absurd HA.out (by simp [spec_l3Bent.l1])
       | succ k1 =>
        have H := HA.out
        clear HA
        simp only [spec_l3Bent.l1] at H
        by_cases c60 : x5_1 < 4
        ·rw [if_pos c60] at H
         have c60b0 : decide (x5_1 < 4) = true := decide_eq_true c60
         clear c60
         replace H := Option.bind_eq_some_iff.mp H
         obtain ⟨⟨t738, t739, t740, t741, t742⟩, A610, H⟩ := H
         try dsimp only at H
         have A61 := z0 A610
         clear A610
         obtain ⟨y745, hy745⟩ : ∃ y_ : List (S32), y_ = (([(⟨x720000_1, x720001_1, (⟨x720002_1, x720003_1⟩ : S29), x720004_1⟩ : S32), (⟨t738, t739, (⟨t740, t741⟩ : S29), t742⟩ : S32)] : List (S32))) := ⟨_, rfl⟩
         replace H : (spec_l3Bent.l1 k1 (wrap64 (x5_1 + 1)) s0_0 t721 3 0 0 0 y745) = some (r1, r2, r3, r4, r5, r6) := by first | (rw [hy745]; with_reducible exact H) | (have H2_ := (Option.bind_some _ _).symm.trans H; rw [hy745]; with_reducible exact H2_) | (have H2_ := (Option.bind_some _ _).symm.trans H; with_reducible exact H2_) | with_reducible exact H | (rw [hy745]; exact H) | exact H
         have Ny745 := z0 hy745
         clear hy745
         have H' := z0 H
         clear H
         try go_wp2
         have n_ := az (Kd.N_drew HO_720004.out) <| az (blk_drew BK710.out) <| az (blk_drew BK719.out) <| az (IsS132.drew HI0.out) <| az (keep_drew HK.out) <| z0 (below_drew1 HB.out)
         clear HO_720004 BK710 BK719 HI0 HK HB
         obtain ⟨HO_720004, BK710, BK719, HI0, HK, HB⟩ := n_
         obtain ⟨Ao63, co63, eo63⟩ := Kd.N_slice HO_720004.out
         (first | subst eo63 | (injection eo63 with f1_ f2_ f3_; have f4_ := f1_.symm; have f5_ := f3_.symm; clear f1_ f2_ f3_; subst f4_; subst f5_))
         refine start_ (n := 6) (S := fun w' => w'.cell? ⟨gb719, 0, none⟩ = some (.int .i64 x720000_1) ∧ w'.cell? ⟨gb719, 1, none⟩ = some (.int .i64 x720001_1) ∧ w'.cell? ⟨gb719, 2, none⟩ = some (.int .i64 x720002_1) ∧ w'.cell? ⟨gb719, 3, none⟩ = some (.int .i64 x720003_1) ∧ w'.cell? ⟨gb719, 4, none⟩ = some (.slice Ao63 x720004_1.length co63)) (ds := [5]) #[false, false, false, false, false, false] (by kernel_rfl) rfl rfl ⟨(blk_cell BK719.out 0).trans rfl, (blk_cell BK719.out 1).trans rfl, (blk_cell BK719.out 2).trans rfl, (blk_cell BK719.out 3).trans rfl, (blk_cell BK719.out 4).trans rfl⟩ (fun hHeld => ?_)
         generalize wr.drew = w62 at HO_720004 BK710 BK719 HI0 HK HB hHeld ⊢
         refine take_ (i := 0) (N := some 42) (v := ?_) (a' := ?_) #[true, false, false, false, false, false] rfl rfl (by kernel_rfl) (fun _ _ _ h => h) (Or.inl ⟨by rfl, ?_⟩) hHeld ?_ ?_
         rotate_left
         ·rintro w' ⟨s0, s1, s2, s3, s4⟩
          go_simp
          with_reducible rfl
         rotate_left
         ·simp only [Act.put, List.setIfInBounds_toArray, List.set_cons_zero, List.set_cons_succ, i64_w, i32_w]
          rfl
         refine take_ (i := 1) (N := some 43) (v := ?_) (a' := ?_) #[true, true, false, false, false, false] rfl rfl (by kernel_rfl) (fun _ _ _ h => h) (Or.inl ⟨by rfl, ?_⟩) hHeld ?_ ?_
         rotate_left
         ·rintro w' ⟨s0, s1, s2, s3, s4⟩
          go_simp
          with_reducible rfl
         rotate_left
         ·simp only [Act.put, List.setIfInBounds_toArray, List.set_cons_zero, List.set_cons_succ, i64_w, i32_w]
          rfl
         refine one_ (i := 2) (N := some 44) #[true, true, true, false, false, false] rfl rfl (by kernel_rfl) (by decide) (fun K hK => ?_)
         refine goes_ Try.func69 (by kernel_rfl) rfl #[.agg #[.int .i64 x720000_1, .int .i64 x720001_1, .int .i64 x720002_1, .int .i64 x720003_1, .slice Ao63 x720004_1.length co63]] (by rfl) rfl rfl argx ?_
         with_reducible refine (spec_l3Copy.calls k1 x720000_1 x720001_1 x720002_1 x720003_1 _ _ x720004_1 t738 t739 t740 t741 t742 _ ?side1 ?side2 A61.out).mono ?_
         (case side1 => exact mC (Kd.N_reads' HO_720004.out).2.2)
         (case side2 => exact (Kd.N_reads' HO_720004.out).2.1)
         rintro e w64 ⟨v743, rfl, ho0, hb⟩
         refine ⟨_, rfl, ?_⟩
         have n_ := az (Kd.N_elder' (mN HO_720004.out) (by first | exact Kd.N_base ho0 | exact Kd.R_base ho0) hb) <| And.intro (z0 (Kd.N_lower (Kd.N_mono (ok' := fun k_ => (w.heap.size ≤ k_) ∧ nB k_ (.slice Ao63 x720004_1.length co63) ∧ k_ ≠ gb710 ∧ k_ ≠ gb719 ∧ k_ ≠ g) (Kd.R_N (Kd.R_bound ho0)) (fun k_ hk_ => ⟨(Nat.le_trans (kS HK.out) hk_.2.1), (Kd.fresh' (Kd.N_lt (mN HO_720004.out)) k_ hk_.2.1), (fB BK710.out hk_.2.1), (fB BK719.out hk_.2.1), (IsS132.fresh (mI132_1 HI0.out) k_ hk_.2.1)⟩)) (kS HK.out))) <| az (bB BK710.out hb) <| az (bB BK719.out hb) <| az (IsS132.below (mI132_1 HI0.out) hb) <| az (KeepBut.trans (mKp HK.out) (KeepBut.of_below hb g none) (.inl rfl)) <| z0 (below_step (mB132HI0 HB.out) hb)
         clear HO_720004 BK710 BK719 HI0 HK HB
         obtain ⟨HO_720004, HO744, BK710, BK719, HI0, HK, HB⟩ := n_
         (try clear hb)
         (try clear hb2)
         (try clear hk)
         (try clear hi)
         (try clear ho0)
         obtain ⟨Ao65, co65, eo65⟩ := Kd.N_slice HO744.out
         (first | subst eo65 | (injection eo65 with f1_ f2_ f3_; have f4_ := f1_.symm; have f5_ := f3_.symm; clear f1_ f2_ f3_; subst f4_; subst f5_))
         refine hK.out _ _ ⟨(blk_cell BK719.out 0).trans rfl, (blk_cell BK719.out 1).trans rfl, (blk_cell BK719.out 2).trans rfl, (blk_cell BK719.out 3).trans rfl, (blk_cell BK719.out 4).trans rfl⟩ (fun hHeld => ?_)
         clear hK K
         refine norm_ (a' := ?_) ?_ ?_
         rotate_left
         ·show Act.put _ (some 44) _ = _
          simp only [Act.put, List.setIfInBounds_toArray, List.set_cons_zero, List.set_cons_succ, i64_w, i32_w]
          rfl
         refine one_ (i := 3) (N := some 45) #[true, true, true, true, false, false] rfl rfl (by kernel_rfl) (by decide) (fun K hK => ?_)
         refine Kd.N_lit_step k32 _ 32 ?hg (N' := 45) ?hd (xs := ([(⟨x720000_1, x720001_1, (⟨x720002_1, x720003_1⟩ : S29), x720004_1⟩ : S32), (⟨t738, t739, (⟨t740, t741⟩ : S29), t742⟩ : S32)] : List (S32))) (inner := [.int .i64 x720000_1, .int .i64 x720001_1, .int .i64 x720002_1, .int .i64 x720003_1, .slice Ao63 x720004_1.length co63, .int .i64 t738, .int .i64 t739, .int .i64 t740, .int .i64 t741, .slice Ao65 t742.length co65]) (ok := (fun k_ => (w.heap.size ≤ k_) ∧ k_ ≠ gb710 ∧ k_ ≠ gb719 ∧ k_ ≠ g)) (okp := (fun k_ => (w.heap.size ≤ k_) ∧ k_ ≠ gb710 ∧ k_ ≠ gb719 ∧ k_ ≠ g)) ?hr ?hp (fun _ hk => hk) ((show ∀ k_, w64.heap.size ≤ k_ → (fun k_ => (w.heap.size ≤ k_) ∧ k_ ≠ gb710 ∧ k_ ≠ gb719 ∧ k_ ≠ g) k_ from fun k_ hk => ⟨(Nat.le_trans (kS HK.out) hk), fB BK710.out hk, fB BK719.out hk, IsS132.fresh (mI132_1 HI0.out) k_ hk⟩) _ (Nat.le_refl _)) (Below.refl _ _) (Nat.le_refl _) (by simp) ?_; (case hd => rfl); (case hg => rfl); (case hr => first | (go_simp; done) | (go_simp; rfl)); (case hp => exact (Reps.c5 (show Kd.FK k32 _ _ (⟨x720000_1, x720001_1, (⟨x720002_1, x720003_1⟩ : S29), x720004_1⟩ : S32) [.int .i64 x720000_1, .int .i64 x720001_1, .int .i64 x720002_1, .int .i64 x720003_1, .slice Ao63 x720004_1.length co63] from (k32_mkF _ _ (⟨x720000_1, x720001_1, (⟨x720002_1, x720003_1⟩ : S29), x720004_1⟩ : S32) (Kd.N_reads' (Kd.N_mono (ok' := (fun k_ => (w.heap.size ≤ k_) ∧ k_ ≠ gb710 ∧ k_ ≠ gb719 ∧ k_ ≠ g)) (HO_720004.out) (fun k_ hk => ⟨hk.1.1, ⟨hk.1.2.1, ⟨hk.1.2.2.1, hk.1.2.2.2⟩⟩⟩))).2.1 (Kd.N_F (Kd.N_mono (ok' := (fun k_ => (w.heap.size ≤ k_) ∧ k_ ≠ gb710 ∧ k_ ≠ gb719 ∧ k_ ≠ g)) (HO_720004.out) (fun k_ hk => ⟨hk.1.1, ⟨hk.1.2.1, ⟨hk.1.2.2.1, hk.1.2.2.2⟩⟩⟩))))) (Reps.c5 (show Kd.FK k32 _ _ (⟨t738, t739, (⟨t740, t741⟩ : S29), t742⟩ : S32) [.int .i64 t738, .int .i64 t739, .int .i64 t740, .int .i64 t741, .slice Ao65 t742.length co65] from (k32_mkF _ _ (⟨t738, t739, (⟨t740, t741⟩ : S29), t742⟩ : S32) (Kd.N_reads' (Kd.N_mono (ok' := (fun k_ => (w.heap.size ≤ k_) ∧ k_ ≠ gb710 ∧ k_ ≠ gb719 ∧ k_ ≠ g)) (HO744.out) (fun k_ hk => ⟨hk.1, ⟨hk.2.2.1, ⟨hk.2.2.2.1, hk.2.2.2.2⟩⟩⟩))).2.1 (Kd.N_F (Kd.N_mono (ok' := (fun k_ => (w.heap.size ≤ k_) ∧ k_ ≠ gb710 ∧ k_ ≠ gb719 ∧ k_ ≠ g)) (HO744.out) (fun k_ hk => ⟨hk.1, ⟨hk.2.2.1, ⟨hk.2.2.2.1, hk.2.2.2.2⟩⟩⟩))))) (Reps.none _ _))))
         intro v746 w66 ho67 hb hg_ hnew_
         clear hg_ hnew_
         (first | rw [← Ny745.out] at ho67 | (simp only [Int.reduceToNat] at ho67; rw [← Ny745.out] at ho67))
         have n_ := az (Kd.N_lower ho67 (kS HK.out)) <| az (bB BK710.out hb) <| az (bB BK719.out hb) <| az (IsS132.below (mI132_1 HI0.out) hb) <| az (KeepBut.trans (mKp HK.out) (KeepBut.of_below hb g none) (.inl rfl)) <| z0 (below_step (mB132HI0 HB.out) hb)
         clear BK710 BK719 HI0 HK HB HO744 HO_720004
         obtain ⟨HO747, BK710, BK719, HI0, HK, HB⟩ := n_
         clear hb ho67
         obtain ⟨Ao68, co68, eo68⟩ := Kd.N_slice HO747.out
         (first | subst eo68 | (injection eo68 with f1_ f2_ f3_; have f4_ := f1_.symm; have f5_ := f3_.symm; clear f1_ f2_ f3_; subst f4_; subst f5_))
         refine hK.out _ _ ⟨(blk_cell BK719.out 0).trans rfl, (blk_cell BK719.out 1).trans rfl, (blk_cell BK719.out 2).trans rfl, (blk_cell BK719.out 3).trans rfl, (blk_cell BK719.out 4).trans rfl⟩ (fun hHeld => ?_)
         clear hK K
         refine norm_ (a' := ?_) ?_ ?_
         rotate_left
         ·show Act.put _ (some 45) _ = _
          simp only [Act.put, List.setIfInBounds_toArray, List.set_cons_zero, List.set_cons_succ, i64_w, i32_w]
          rfl
         refine pure_ (i := 4) (N := some 46) (v := ?_) (a' := ?_) #[true, true, true, true, true, false] rfl rfl (by kernel_rfl) (fun _ _ _ h => h) (Or.inl ⟨by rfl, ?_⟩) ?_ ?_
         rotate_left
         ·intro w'
          go_simp
          with_reducible rfl
         rotate_left
         ·simp only [Act.put, List.setIfInBounds_toArray, List.set_cons_zero, List.set_cons_succ, i64_w, i32_w]
          rfl
         refine last_ (i := 5) (N := none) #[true, true, true, true, true, true] rfl rfl (by kernel_rfl) (by decide) (fun K hK => ?_)
         have hs69 : w66.cell? ⟨gb719, 0, none⟩ = some (.int .i64 x720000_1) := (blk_cell BK719.out 0).trans rfl
         have hfs69 := blk_frozen BK719.out 0
         have hns69_0 := NB710_719.out
         have hms69_0 := NB719_710.out
         have hs70 : w66.cell? ⟨gb719, 1, none⟩ = some (.int .i64 x720001_1) := (blk_cell BK719.out 1).trans rfl
         have hfs70 := blk_frozen BK719.out 1
         have hns70_0 := NB710_719.out
         have hms70_0 := NB719_710.out
         have hs71 : w66.cell? ⟨gb719, 2, none⟩ = some (.int .i64 x720002_1) := (blk_cell BK719.out 2).trans rfl
         have hfs71 := blk_frozen BK719.out 2
         have hns71_0 := NB710_719.out
         have hms71_0 := NB719_710.out
         have hs72 : w66.cell? ⟨gb719, 3, none⟩ = some (.int .i64 x720003_1) := (blk_cell BK719.out 3).trans rfl
         have hfs72 := blk_frozen BK719.out 3
         have hns72_0 := NB710_719.out
         have hms72_0 := NB719_710.out
         have hs73 : w66.cell? ⟨gb719, 4, none⟩ = some (.slice Ao63 x720004_1.length co63) := (blk_cell BK719.out 4).trans rfl
         have hfs73 := blk_frozen BK719.out 4
         have hns73_0 := NB710_719.out
         have hms73_0 := NB719_710.out
         refine skip_ (w1 := ?_) (by rfl) rfl ?_ ?_
         rotate_left
         ·go_simp
          rfl
         refine hK.out _ _ ?_
         clear hK K
         refine done_ (by kernel_rfl) ?_
         try go_wp2
         go_roundg k1
         case measure => have := HK1.out; omega
         case rel => exact ⟨(wrap64 (x5_1 + 1)), (3), (0), (0), (0), (y745), (.slice Ao68 y745.length co68), rfy, H', ⟨by have := HK1.out; omega⟩, ⟨by (with_reducible repeat (first | apply Kd.N_alloc | apply Kd.N_drewN | apply Kd.N_drew)); exact Kd.N_mono (Kd.N_far (p := ⟨gb719, 4, none⟩) (Kd.N_far (p := ⟨gb719, 3, none⟩) (Kd.N_far (p := ⟨gb719, 2, none⟩) (Kd.N_far (p := ⟨gb719, 1, none⟩) (Kd.N_far (p := ⟨gb719, 0, none⟩) (Kd.N_mono HO747.out (fun k_ hk => (⟨hk, hk.2.2.1⟩ : _ ∧ k_ ≠ gb719))) (fun _ hk => hk.2) (.int .i64 3)) (fun _ hk => hk.2) (.int .i64 0)) (fun _ hk => hk.2) (.int .i64 0)) (fun _ hk => hk.2) (.int .i64 0)) (fun _ hk => hk.2) (.slice Ao68 y745.length co68)) (fun _ hk => ⟨hk.1.1, ⟨hk.1.2.1, ⟨hk.1.2.2.1, hk.1.2.2.2⟩⟩⟩)⟩, ⟨mF BK710.out⟩, ⟨by (with_reducible repeat (first | refine blk_drewN ?_ _ | refine blk_drew ?_ | refine blk_alloc ?_ _)); refine blk_put (cs := #[.int .i64 3, .int .i64 0, .int .i64 0, .int .i64 0, .slice Ao63 x720004_1.length co63]) ?_ 4 _ rfl; (with_reducible repeat (first | refine blk_drewN ?_ _ | refine blk_drew ?_ | refine blk_alloc ?_ _)); refine blk_put (cs := #[.int .i64 3, .int .i64 0, .int .i64 0, .int .i64 x720003_1, .slice Ao63 x720004_1.length co63]) ?_ 3 _ rfl; (with_reducible repeat (first | refine blk_drewN ?_ _ | refine blk_drew ?_ | refine blk_alloc ?_ _)); refine blk_put (cs := #[.int .i64 3, .int .i64 0, .int .i64 x720002_1, .int .i64 x720003_1, .slice Ao63 x720004_1.length co63]) ?_ 2 _ rfl; (with_reducible repeat (first | refine blk_drewN ?_ _ | refine blk_drew ?_ | refine blk_alloc ?_ _)); refine blk_put (cs := #[.int .i64 3, .int .i64 x720001_1, .int .i64 x720002_1, .int .i64 x720003_1, .slice Ao63 x720004_1.length co63]) ?_ 1 _ rfl; (with_reducible repeat (first | refine blk_drewN ?_ _ | refine blk_drew ?_ | refine blk_alloc ?_ _)); refine blk_put (cs := #[.int .i64 x720000_1, .int .i64 x720001_1, .int .i64 x720002_1, .int .i64 x720003_1, .slice Ao63 x720004_1.length co63]) ?_ 0 _ rfl; (with_reducible repeat (first | refine blk_drewN ?_ _ | refine blk_drew ?_ | refine blk_alloc ?_ _)); exact BK719.out⟩, ⟨mI132_1 HI0.out⟩, ⟨mKp HK.out⟩, ⟨mB132HI0 HB.out⟩⟩
        ·rw [if_neg c60] at H
         have c60b0 : decide (x5_1 < 4) = false := decide_eq_false c60
         clear c60
         simp only [Option.some.injEq, Prod.mk.injEq] at H
         obtain ⟨rfl, rfl, rfl, rfl, rfl, rfl⟩ := H
         have hnb74 := NB719_710.out
         have hnc74 := NB710_719.out
         have hnb75 := NB719_0.out
         have hnc75 := NB0_719.out
         obtain ⟨hcz76_0, hcz76_1, hcz76_2, hcz76_3, hcz76_4, hfz76_0, hfz76_1, hfz76_2, hfz76_3, hfz76_4⟩ := cel5 BK719.out
         have hnb77 := NB710_0.out
         have hnc77 := NB0_710.out
         obtain ⟨hcz78_0, hcz78_1, hcz78_2, hcz78_3, hcz78_4, hfz78_0, hfz78_1, hfz78_2, hfz78_3, hfz78_4⟩ := cel5 BK710.out
         obtain ⟨Ao79, co79, eo79⟩ := Kd.N_slice HO_720004.out
         subst eo79
         go_wp2
         refine bodyPost_ret (results_cell_row rfl _ _ gb710 32 #[.int .i64 x720000_1, .int .i64 x720001_1, .int .i64 x720002_1, .int .i64 x720003_1, .slice Ao79 x720004_1.length co79] (0, 0) _ rfl (pF BK710.out) Try.underlying32 rfl (by kernel_rfl)) rfl ?_
         exact ⟨_, rfx, by (with_reducible repeat (first | apply Kd.N_alloc | apply Kd.N_drewN | apply Kd.N_drew)); exact Kd.N_mono (Kd.N_far (p := ⟨gb710, 4, none⟩) (Kd.N_far (p := ⟨gb710, 3, none⟩) (Kd.N_far (p := ⟨gb710, 2, none⟩) (Kd.N_far (p := ⟨gb710, 1, none⟩) (Kd.N_far (p := ⟨gb710, 0, none⟩) (Kd.N_mono HO_720004.out (fun k_ hk => (⟨hk, hk.2.1⟩ : _ ∧ k_ ≠ gb710))) (fun _ hk => hk.2) (.int .i64 x720000_1)) (fun _ hk => hk.2) (.int .i64 x720001_1)) (fun _ hk => hk.2) (.int .i64 x720002_1)) (fun _ hk => hk.2) (.int .i64 x720003_1)) (fun _ hk => hk.2) (.slice Ao79 x720004_1.length co79)) (fun _ hk => hk.1.1), mI132_1 HI0.out, mB132HI0 HB.out, mKp HK.out⟩
     ·rw [if_neg c59] at H
      have c59b0 : (t720 == 4) = false := beq_eq_false_iff_ne.mpr c59
      have c59b1 : (t720 != 4) = true := bne_iff_ne.mpr c59
      simp only [Option.some.injEq, Prod.mk.injEq] at H
      obtain ⟨rfl, rfl, rfl, rfl, rfl, rfl⟩ := H
      have hnb80 := NB719_710.out
      have hnc80 := NB710_719.out
      have hnb81 := NB719_0.out
      have hnc81 := NB0_719.out
      obtain ⟨hcz82_0, hcz82_1, hcz82_2, hcz82_3, hcz82_4, hfz82_0, hfz82_1, hfz82_2, hfz82_3, hfz82_4⟩ := cel5 BK719.out
      have hnb83 := NB710_0.out
      have hnc83 := NB0_710.out
      obtain ⟨hcz84_0, hcz84_1, hcz84_2, hcz84_3, hcz84_4, hfz84_0, hfz84_1, hfz84_2, hfz84_3, hfz84_4⟩ := cel5 BK710.out
      go_wp2
      refine bodyPost_ret (results_cell_row rfl _ _ gb710 32 #[.int .i64 t711, .int .i64 t712, .int .i64 t713, .int .i64 t714, .slice Ao11 t715.length co11] (0, 0) _ rfl (pF BK710.out) Try.underlying32 rfl (by kernel_rfl)) rfl ?_
      exact ⟨_, rfx, by (with_reducible repeat (first | apply Kd.N_alloc | apply Kd.N_drewN | apply Kd.N_drew)); exact Kd.N_mono (Kd.N_far (p := ⟨gb710, 4, none⟩) (Kd.N_far (p := ⟨gb710, 3, none⟩) (Kd.N_far (p := ⟨gb710, 2, none⟩) (Kd.N_far (p := ⟨gb710, 1, none⟩) (Kd.N_far (p := ⟨gb710, 0, none⟩) (Kd.N_mono HO717.out (fun k_ hk => (⟨hk, hk.1.2.1⟩ : _ ∧ k_ ≠ gb710))) (fun _ hk => hk.2) (.int .i64 t711)) (fun _ hk => hk.2) (.int .i64 t712)) (fun _ hk => hk.2) (.int .i64 t713)) (fun _ hk => hk.2) (.int .i64 t714)) (fun _ hk => hk.2) (.slice Ao11 t715.length co11)) (fun _ hk => hk.1.1.1), mI132_1 HI0.out, mB132HI0 HB.out, mKp HK.out⟩

theorem ownLen_ {x n m c : Nat} {A : Option Addr} (h : some x ≠ (Value.slice A n c).ownBlock) : some x ≠ (Value.slice A m c).ownBlock := by cases A <;> exact h
/-! ### spec_l2MemBent: function 77 -/
def spec_l2MemBent.f (k : Nat) (s0_0 : List Int) (s0_1 : Int) : Option (List Int × List Int × List Int × Int) := (spec_l2Mem.f k s0_0 s0_1).bind fun bt788 => ((spec_l12Rd_pick.f k s0_0 bt788.2.2.2 30).bind fun bt799 => (if bt799.1 = 0 then (if 2 ≤ (bt788.1.length : Int) then (some ((bt788.1.take (2 : Int).toNat), bt788.2.1, bt788.2.2.1, bt799.2)) else (none)) else (if bt799.1 = 1 then (if 0 < (bt788.2.2.1.length : Int) then (some (bt788.1, bt788.2.1, (bt788.2.2.1.set (0 : Int).toNat 1000001), bt799.2)) else (none)) else (if bt799.1 = 2 then (if bt788.2.1.length < 17592186044416 then (some (bt788.1, (bt788.2.1 ++ [0]), bt788.2.2.1, bt799.2)) else (none)) else (some (bt788.1, bt788.2.1, bt788.2.2.1, bt799.2))))))
set_option maxHeartbeats 8000000 in
set_option maxRecDepth 100000 in
theorem spec_l2MemBent.calls (k : Nat) (g : Nat) (s0_0 : List Int) (s0_1 : Int) (r1 : List Int) (r2 : List Int) (r3 : List Int) (r4 : Int) (w0 w : World) (hI : IsS132 w0 w g s0_0 s0_1) (hB : Below w0.heap.size w0 w) (h : spec_l2MemBent.f k s0_0 s0_1 = some (r1, r2, r3, r4)) :
  Calls Try.prog 77 #[.pointer (some ⟨g, 0, none⟩)] w fun e w' => ∃ v0_ v1_ v2_ : Value, e = .returned (.agg #[v0_, v1_, v2_]) ∧ Kd.R (Kd.int .i64) 3 w' w.heap.size (fun k_ => nB k_ v1_ ∧ nB k_ v2_) v0_ r1 ∧ Kd.R (Kd.int .i64) 3 w' w.heap.size (fun k_ => nB k_ v0_ ∧ nB k_ v2_) v1_ r2 ∧ Kd.R (Kd.int .i64) 3 w' w.heap.size (fun k_ => nB k_ v0_ ∧ nB k_ v1_) v2_ r3 ∧ IsS132 w0 w' g s0_0 r4 ∧ Below w0.heap.size w0 w' ∧ KeepBut w w' g none := by
 have hu44 := Try.underlying44
 have HI0 := z0 hI
 have HK := z0 (KeepBut.refl w g none)
 have HL := z0 hB.size
 clear hI
 have HW0 := z0 hB.size
 have HB := z0 hB
 clear hB
 have H : ((spec_l2Mem.f k s0_0 s0_1).bind fun bt788 => ((spec_l12Rd_pick.f k s0_0 bt788.2.2.2 30).bind fun bt799 => (if bt799.1 = 0 then (if 2 ≤ (bt788.1.length : Int) then (some ((bt788.1.take (2 : Int).toNat), bt788.2.1, bt788.2.2.1, bt799.2)) else (none)) else (if bt799.1 = 1 then (if 0 < (bt788.2.2.1.length : Int) then (some (bt788.1, bt788.2.1, (bt788.2.2.1.set (0 : Int).toNat 1000001), bt799.2)) else (none)) else (if bt799.1 = 2 then (if bt788.2.1.length < 17592186044416 then (some (bt788.1, (bt788.2.1 ++ [0]), bt788.2.2.1, bt799.2)) else (none)) else (some (bt788.1, bt788.2.1, bt788.2.2.1, bt799.2))))))) = some (r1, r2, r3, r4) := h
 clear h
 replace H := Option.bind_eq_some_iff.mp H
 obtain ⟨⟨t788, t791, t794, t797⟩, A20, H⟩ := H
 try dsimp only at H
 have A2 := z0 A20
 clear A20
 replace H := Option.bind_eq_some_iff.mp H
 obtain ⟨⟨t799, t800⟩, A30, H⟩ := H
 try dsimp only at H
 have A3 := z0 A30
 clear A30
 have HF4 := z0 H
 clear H
 go_enter Try.func77, Try.ntmps77
 go_upto_if 8 with (first | ((with_reducible refine gate_dst (N := 2) rfl ?_); refine box_event ?hg (N := 2) ?hd (cs := #[.slice none 0 0, .slice none 0 0, .slice none 0 0]) (t := 44) ?hr ?_; (case hd => rfl); (case hg => rfl); (case hr => first | (go_simp; done) | (go_simp; rfl)); intro gb787 hg w5 hbox hb; have n_ := az (IsS132.below (mI132_1 HI0.out) hb) <| az (KeepBut.trans (mKp HK.out) (KeepBut.of_below hb g none) (.inl rfl)) <| az (below_step (mB132HI0 HB.out) hb) <| az (hbox) <| az ((gW hg HK.out)) <| az ((Nat.le_trans HW0.out (gW hg HK.out) : w0.heap.size ≤ gb787)) <| az ((by rw [hg]; exact Nat.ne_of_lt (IsS132.lt (show IsS132 w0 _ g s0_0 s0_1 from mI132_1 HI0.out)) : g ≠ gb787)) <| z0 ((by rw [hg]; exact Nat.ne_of_gt (IsS132.lt (show IsS132 w0 _ g s0_0 s0_1 from mI132_1 HI0.out)) : gb787 ≠ g)); clear HI0 HK HB; obtain ⟨HI0, HK, HB, BK787, GW787, GE787, NB0_787, NB787_0⟩ := n_; clear hb hbox hg) | ((with_reducible refine gate_callee (f := 108) rfl ?_); refine goesL_ (some 5) rfl rfl Try.func108 (by kernel_rfl) rfl #[.pointer (some ⟨g, 0, none⟩)] rfl argx ?_; (with_reducible refine (spec_l2Mem.calls k g s0_0 s0_1 t788 t791 t794 t797 w0 _ ?side1 ?side2 A2.out).mono ?_); (case side1 => exact mI132_1 HI0.out); (case side2 => exact mB132HI0 HB.out); rintro e w6 ⟨v789, v792, v795, rfl, ho0, ho1, ho2, hi, hb, hk⟩; refine ⟨_, rfl, ?_⟩; have n_ := az (kB hk BK787.out NB787_0.out) <| az (Kd.R_lower ho0 (kS HK.out)) <| az (Kd.R_lower ho1 (kS HK.out)) <| az (Kd.R_lower ho2 (kS HK.out)) <| az (KeepBut.trans (mKp HK.out) hk (.inl rfl)) <| az (hb) <| z0 (hi); clear BK787 HK HB HI0; obtain ⟨BK787, HO790, HO793, HO796, HK, HB, HI0⟩ := n_; clear hb hk hi ho0; (try clear ho1); (try clear ho2)) | ((with_reducible refine gate_dst (N := 3) rfl ?_); refine box_event ?hg (N := 3) ?hd (cs := #[.slice none 0 0, .slice none 0 0, .slice none 0 0]) (t := 44) ?hr ?_; (case hd => rfl); (case hg => rfl); (case hr => first | (go_simp; done) | (go_simp; rfl)); intro gb798 hg w7 hbox hb; have n_ := az (Kd.R_below (mR HO790.out) hb) <| az (Kd.R_below (mR HO793.out) hb) <| az (Kd.R_below (mR HO796.out) hb) <| az (IsS132.below (mI132_1 HI0.out) hb) <| az (bB BK787.out hb) <| az (KeepBut.trans (mKp HK.out) (KeepBut.of_below hb g none) (.inl rfl)) <| az (below_step (mB132HI0 HB.out) hb) <| az (hbox) <| az ((gW hg HK.out)) <| az ((Nat.le_trans HW0.out (gW hg HK.out) : w0.heap.size ≤ gb798)) <| az ((nL hg BK787.out)) <| az ((nG hg BK787.out)) <| az ((by rw [hg]; exact Nat.ne_of_lt (IsS132.lt (show IsS132 w0 _ g s0_0 t797 from mI132_1 HI0.out)) : g ≠ gb798)) <| z0 ((by rw [hg]; exact Nat.ne_of_gt (IsS132.lt (show IsS132 w0 _ g s0_0 t797 from mI132_1 HI0.out)) : gb798 ≠ g)); clear HO790 HO793 HO796 HI0 BK787 HK HB; obtain ⟨HO790, HO793, HO796, HI0, BK787, HK, HB, BK798, GW798, GE798, NB787_798, NB798_787, NB0_798, NB798_0⟩ := n_; clear hb hbox hg; obtain ⟨Ao8, co8, eo8⟩ := Kd.R_slice HO790.out; subst eo8; have hnb9 := NB798_787.out; have hnc9 := NB787_798.out; have hnb10 := NB798_0.out; have hnc10 := NB0_798.out; obtain ⟨hcz11_0, hcz11_1, hcz11_2, hfz11_0, hfz11_1, hfz11_2⟩ := cel3 BK798.out; obtain ⟨Ao12, co12, eo12⟩ := Kd.R_slice HO793.out; subst eo12; obtain ⟨Ao13, co13, eo13⟩ := Kd.R_slice HO796.out; subst eo13) | ((with_reducible refine gate_callee (f := 105) rfl ?_); refine goesL_ (some 7) rfl rfl Try.func105 (by kernel_rfl) rfl #[.pointer (some ⟨g, 0, none⟩), .int .i64 30] rfl argx ?_; (with_reducible refine (spec_l12Rd_pick.calls k g s0_0 t797 30 t799 t800 w0 _ ?side1 ?side2 A3.out).mono ?_); (case side1 => exact mI132_1 HI0.out); (case side2 => exact mB132HI0 HB.out); rintro e w14 ⟨rfl, hi, hb, hk⟩; refine ⟨_, rfl, ?_⟩; have n_ := az (KeepBut.blk hk (g' := gb787) (o := .cells #[.slice none 0 0, .slice none 0 0, .slice none 0 0] 44 (0, 0)) (mF BK787.out) NB787_0.out (by simp)) <| az (Kd.R_mono (Kd.R_keep (IsS132.apart (show IsS132 w0 _ g s0_0 t797 from mI132_1 HI0.out) (by (with_reducible repeat (first | apply Kd.R_alloc | apply Kd.R_drewN | apply Kd.R_drew)); exact (Kd.R_mono (Kd.R_far (p := ⟨gb798, 2, none⟩) (Kd.R_far (p := ⟨gb798, 1, none⟩) (Kd.R_far (p := ⟨gb798, 0, none⟩) (Kd.R_types HO790.out BK798.out (by decide)) (fun _ hk => hk.2) (.slice Ao8 t788.length co8)) (fun _ hk => hk.2) (.slice Ao12 t791.length co12)) (fun _ hk => hk.2) (.slice Ao13 t794.length co13)) (fun _ h_ => h_.1))) (by decide)) hk (fun _ h => h.2)) (fun _ h => h.1)) <| az (Kd.R_mono (Kd.R_keep (IsS132.apart (show IsS132 w0 _ g s0_0 t797 from mI132_1 HI0.out) (by (with_reducible repeat (first | apply Kd.R_alloc | apply Kd.R_drewN | apply Kd.R_drew)); exact (Kd.R_mono (Kd.R_far (p := ⟨gb798, 2, none⟩) (Kd.R_far (p := ⟨gb798, 1, none⟩) (Kd.R_far (p := ⟨gb798, 0, none⟩) (Kd.R_types HO793.out BK798.out (by decide)) (fun _ hk => hk.2) (.slice Ao8 t788.length co8)) (fun _ hk => hk.2) (.slice Ao12 t791.length co12)) (fun _ hk => hk.2) (.slice Ao13 t794.length co13)) (fun _ h_ => h_.1))) (by decide)) hk (fun _ h => h.2)) (fun _ h => h.1)) <| az (Kd.R_mono (Kd.R_keep (IsS132.apart (show IsS132 w0 _ g s0_0 t797 from mI132_1 HI0.out) (by (with_reducible repeat (first | apply Kd.R_alloc | apply Kd.R_drewN | apply Kd.R_drew)); exact (Kd.R_mono (Kd.R_far (p := ⟨gb798, 2, none⟩) (Kd.R_far (p := ⟨gb798, 1, none⟩) (Kd.R_far (p := ⟨gb798, 0, none⟩) (Kd.R_types HO796.out BK798.out (by decide)) (fun _ hk => hk.2) (.slice Ao8 t788.length co8)) (fun _ hk => hk.2) (.slice Ao12 t791.length co12)) (fun _ hk => hk.2) (.slice Ao13 t794.length co13)) (fun _ h_ => h_.1))) (by decide)) hk (fun _ h => h.2)) (fun _ h => h.1)) <| az (KeepBut.blk hk (g' := gb798) (o := .cells #[.slice Ao8 t788.length co8, .slice Ao12 t791.length co12, .slice Ao13 t794.length co13] 44 (0, 0)) (by (with_reducible repeat (first | refine blk_drewN ?_ _ | refine blk_drew ?_ | refine blk_alloc ?_ _)); refine blk_put (cs := #[.slice Ao8 t788.length co8, .slice Ao12 t791.length co12, .slice none 0 0]) ?_ 2 _ rfl; (with_reducible repeat (first | refine blk_drewN ?_ _ | refine blk_drew ?_ | refine blk_alloc ?_ _)); refine blk_put (cs := #[.slice Ao8 t788.length co8, .slice none 0 0, .slice none 0 0]) ?_ 1 _ rfl; (with_reducible repeat (first | refine blk_drewN ?_ _ | refine blk_drew ?_ | refine blk_alloc ?_ _)); refine blk_put (cs := #[.slice none 0 0, .slice none 0 0, .slice none 0 0]) ?_ 0 _ rfl; (with_reducible repeat (first | refine blk_drewN ?_ _ | refine blk_drew ?_ | refine blk_alloc ?_ _)); exact BK798.out) NB798_0.out (by simp)) <| az (KeepBut.trans (mKp HK.out) hk (.inl rfl)) <| az (hb) <| z0 (hi); clear BK787 HO790 HO793 HO796 BK798 HK HB HI0; obtain ⟨BK787, HO790, HO793, HO796, BK798, HK, HB, HI0⟩ := n_; clear hb hk hi))
 (try simp only [Act.put, List.setIfInBounds_toArray, List.set_cons_zero, List.set_cons_succ])
 have H := HF4.out
 clear HF4
 (try clear hcz11_0); (try clear hcz11_1); (try clear hcz11_2); (try clear hfz11_0); (try clear hfz11_1); (try clear hfz11_2)
 by_cases c15 : t799 = 0
 ·rw [if_pos c15] at H
  have c15b0 : (t799 == 0) = true := beq_iff_eq.mpr c15
  have c15b1 : (t799 != 0) = false := bne_eq_false_iff_eq.mpr c15
  clear c15
  (first | rw [c15b0] | (simp only [i64_w, i32_w]; rw [c15b0]) | skip)
  by_cases c16 : 2 ≤ (t788.length : Int)
  ·rw [if_pos c16] at H
   have c16b0 := eq_true c16
   have c16b1 : decide (2 ≤ (t788.length : Int)) = true := decide_eq_true c16
   clear c16
   obtain ⟨y801, hy801⟩ : ∃ y_ : List Int, y_ = (t788.take (2 : Int).toNat) := ⟨_, rfl⟩
   replace H : (some (y801, t791, t794, t800)) = some (r1, r2, r3, r4) := by first | (rw [hy801]; with_reducible exact H) | (have H2_ := (Option.bind_some _ _).symm.trans H; rw [hy801]; with_reducible exact H2_) | (have H2_ := (Option.bind_some _ _).symm.trans H; with_reducible exact H2_) | with_reducible exact H | (rw [hy801]; exact H) | exact H
   have Ny801 := z0 hy801
   clear hy801
   simp only [Option.some.injEq, Prod.mk.injEq] at H
   obtain ⟨rfl, rfl, rfl, rfl⟩ := H
   have hnb17 := NB798_787.out
   have hnc17 := NB787_798.out
   have hnb18 := NB798_0.out
   have hnc18 := NB0_798.out
   obtain ⟨hcz19_0, hcz19_1, hcz19_2, hfz19_0, hfz19_1, hfz19_2⟩ := cel3 BK798.out
   have q20 : (2 : Int) ≤ ((t788.length : Int) : Int) := of_decide_eq_true (by first | (with_reducible assumption) | assumption)
   obtain ⟨i020, hi020, _, hsz20, _⟩ := info_parts info3
   have hcut20 := cut_to (P := Try.prog) 39 3 .i64 Try.underlying39 hi020 Ao8 t788.length co8 2 (by omega) q20 (Kd.R_reads' HO790.out).2.1
   have hr20 := Kd.R_take (m := (2 : Int).toNat) HO790.out (by omega)
   have hy20 : y801.length = (2 : Int).toNat := (by rw [Ny801.out, List.length_take]; omega)
   rw [← Ny801.out] at hr20
   rw [← hy20] at hr20 hcut20
   clear hy20 hi020 hsz20 HO790
   have HO803 := z0 hr20
   clear hr20
   replace q20 := eq_true q20
   have hnb21 := NB787_0.out
   have hnc21 := NB0_787.out
   obtain ⟨hcz22_0, hcz22_1, hcz22_2, hfz22_0, hfz22_1, hfz22_2⟩ := cel3 BK787.out
   go_wp2
   refine bodyPost_ret (results_cell_row rfl _ _ gb787 44 #[.slice Ao8 y801.length co8, .slice Ao12 t791.length co12, .slice Ao13 t794.length co13] (0, 0) _ rfl (by (with_reducible repeat (first | refine blk_drewN ?_ _ | refine blk_drew ?_ | refine blk_alloc ?_ _)); refine blk_put (cs := #[.slice Ao8 y801.length co8, .slice Ao12 t791.length co12, .slice none 0 0]) ?_ 2 _ rfl; (with_reducible repeat (first | refine blk_drewN ?_ _ | refine blk_drew ?_ | refine blk_alloc ?_ _)); refine blk_put (cs := #[.slice Ao8 y801.length co8, .slice none 0 0, .slice none 0 0]) ?_ 1 _ rfl; (with_reducible repeat (first | refine blk_drewN ?_ _ | refine blk_drew ?_ | refine blk_alloc ?_ _)); refine blk_put (cs := #[.slice none 0 0, .slice none 0 0, .slice none 0 0]) ?_ 0 _ rfl; (with_reducible repeat (first | refine blk_drewN ?_ _ | refine blk_drew ?_ | refine blk_alloc ?_ _)); refine blk_far ?_ NB787_798.out _; (with_reducible repeat (first | refine blk_drewN ?_ _ | refine blk_drew ?_ | refine blk_alloc ?_ _)); exact BK787.out) Try.underlying44 rfl (by kernel_rfl)) rfl ?_
   exact ⟨_, _, _, rfx, by (with_reducible repeat (first | apply Kd.R_alloc | apply Kd.R_drewN | apply Kd.R_drew)); exact Kd.R_mono (Kd.R_far (p := ⟨gb787, 2, none⟩) (Kd.R_far (p := ⟨gb787, 1, none⟩) (Kd.R_far (p := ⟨gb787, 0, none⟩) (Kd.R_far (p := ⟨gb798, 0, none⟩) (Kd.R_types (Kd.R_types HO803.out BK798.out (by decide)) BK787.out (by decide)) (fun _ hk => hk.1.2) (.slice Ao8 y801.length co8)) (fun _ hk => hk.2) (.slice Ao8 y801.length co8)) (fun _ hk => hk.2) (.slice Ao12 t791.length co12)) (fun _ hk => hk.2) (.slice Ao13 t794.length co13)) (fun _ hk => by first | exact ⟨hk.1.1.1, hk.1.1.2⟩ | exact ⟨ownLen_ hk.1.1.1, hk.1.1.2⟩), by (with_reducible repeat (first | apply Kd.R_alloc | apply Kd.R_drewN | apply Kd.R_drew)); exact Kd.R_mono (Kd.R_far (p := ⟨gb787, 2, none⟩) (Kd.R_far (p := ⟨gb787, 1, none⟩) (Kd.R_far (p := ⟨gb787, 0, none⟩) (Kd.R_far (p := ⟨gb798, 0, none⟩) (Kd.R_types (Kd.R_types HO793.out BK798.out (by decide)) BK787.out (by decide)) (fun _ hk => hk.1.2) (.slice Ao8 y801.length co8)) (fun _ hk => hk.2) (.slice Ao8 y801.length co8)) (fun _ hk => hk.2) (.slice Ao12 t791.length co12)) (fun _ hk => hk.2) (.slice Ao13 t794.length co13)) (fun _ hk => by first | exact ⟨hk.1.1.1, hk.1.1.2⟩ | exact ⟨ownLen_ hk.1.1.1, hk.1.1.2⟩), by (with_reducible repeat (first | apply Kd.R_alloc | apply Kd.R_drewN | apply Kd.R_drew)); exact Kd.R_mono (Kd.R_far (p := ⟨gb787, 2, none⟩) (Kd.R_far (p := ⟨gb787, 1, none⟩) (Kd.R_far (p := ⟨gb787, 0, none⟩) (Kd.R_far (p := ⟨gb798, 0, none⟩) (Kd.R_types (Kd.R_types HO796.out BK798.out (by decide)) BK787.out (by decide)) (fun _ hk => hk.1.2) (.slice Ao8 y801.length co8)) (fun _ hk => hk.2) (.slice Ao8 y801.length co8)) (fun _ hk => hk.2) (.slice Ao12 t791.length co12)) (fun _ hk => hk.2) (.slice Ao13 t794.length co13)) (fun _ hk => by first | exact ⟨hk.1.1.1, hk.1.1.2⟩ | exact ⟨ownLen_ hk.1.1.1, hk.1.1.2⟩), mI132_1 HI0.out, mB132HI0 HB.out, mKp HK.out⟩
  ·rw [if_neg c16] at H
   exact absurd H (by simp)
 ·rw [if_neg c15] at H
  have c15b0 : (t799 == 0) = false := beq_eq_false_iff_ne.mpr c15
  have c15b1 : (t799 != 0) = true := bne_iff_ne.mpr c15
  (first | rw [c15b0] | (simp only [i64_w, i32_w]; rw [c15b0]) | skip)
  by_cases c23 : t799 = 1
  ·rw [if_pos c23] at H
   have c23b0 : (t799 == 1) = true := beq_iff_eq.mpr c23
   have c23b1 : (t799 != 1) = false := bne_eq_false_iff_eq.mpr c23
   clear c23
   by_cases c24 : 0 < (t794.length : Int)
   ·rw [if_pos c24] at H
    have c24b0 : decide (0 < (t794.length : Int)) = true := decide_eq_true c24
    have c24b1 : decide (0 < t794.length) = true := decide_eq_true (by omega)
    clear c24
    obtain ⟨y804, hy804⟩ : ∃ y_ : List Int, y_ = (t794.set (0 : Int).toNat 1000001) := ⟨_, rfl⟩
    replace H : (some (t788, t791, y804, t800)) = some (r1, r2, r3, r4) := by first | (rw [hy804]; with_reducible exact H) | (have H2_ := (Option.bind_some _ _).symm.trans H; rw [hy804]; with_reducible exact H2_) | (have H2_ := (Option.bind_some _ _).symm.trans H; with_reducible exact H2_) | with_reducible exact H | (rw [hy804]; exact H) | exact H
    have Ny804 := z0 hy804
    clear hy804
    simp only [Option.some.injEq, Prod.mk.injEq] at H
    obtain ⟨rfl, rfl, rfl, rfl⟩ := H
    have hnb26 := NB798_787.out
    have hnc26 := NB787_798.out
    have hnb27 := NB798_0.out
    have hnc27 := NB0_798.out
    obtain ⟨hcz28_0, hcz28_1, hcz28_2, hfz28_0, hfz28_1, hfz28_2⟩ := cel3 BK798.out
    have p25 : 0 ≤ (0 : Int) := (by omega)
    have q25 : (0 : Int) < ((t794.length : Int) : Int) := of_decide_eq_true (by first | (with_reducible assumption) | assumption)
    have qi25 : (0 < t794.length) = True := eq_true (by omega)
    obtain ⟨go25, co25, eo25, gb25, gl25, cl25, HG25⟩ := Kd.R_form HO796.out (by omega)
    (first | cases eo25 | (injection eo25 with ea_ en_ ec_; (first | subst ea_ | (injection ea_ with ea_; subst ea_)); subst ec_; clear en_))
    have GB25 := z0 gb25
    have GG25 := z0 HG25
    clear gb25 gl25 HG25
    obtain ⟨hx25_0, hf25_0⟩ := Kd.R_celln 0 HO796.out (0 : Int) p25 q25
    (try rw [show ((0 : Int)).toNat = 0 from rfl] at hx25_0)
    (try simp only [Nat.reduceMul, Nat.zero_mul, Nat.zero_add, Nat.reduceAdd] at hx25_0)
    (try rw [show ((0 : Int)).toNat = 0 from rfl] at hf25_0)
    (try simp only [Nat.reduceMul, Nat.zero_mul, Nat.zero_add, Nat.reduceAdd] at hf25_0)
    replace p25 := eq_true p25
    replace q25 := eq_true q25
    have HP29 := Kd.R_putg HO796.out (0 : Int) 1000001
    go_wp2_with (first | ((with_reducible refine gate_store (t := 3) (p := 18) rfl ?_); refine store_event (t := 3) (p := 18) (v := ?vo_w30) (w1 := (w14.setCell ⟨go25, (0 : Int).toNat, none⟩ (.int .i64 1000001))) ?hg ?ho ?hn ?hr ?_; (case ho => rfl); (case hg => rfl); (case hn => rfl); (case hr => first | (go_simp; done) | (go_simp; rfl)); intro w30 hw; have hg : w14.grownBy w30 (some go25) := (by rw [hw]; exact HP29.2); have hp_ : Kd.R (Kd.int .i64) 3 w30 w.heap.size (fun k_ => nB k_ (.slice Ao8 t788.length co8) ∧ nB k_ (.slice Ao12 t791.length co12)) (.slice (some ⟨go25, 0, none⟩) t794.length co13) y804 := (by rw [hw, Ny804.out]; exact HP29.1); clear HP29; have n_ := az (IsS132.grown (mI132_1 HI0.out) hg (IsS132.own_ne HI0.out HO796.out (by decide))) <| az (blk_grown (g := gb787) (o := .cells #[.slice none 0 0, .slice none 0 0, .slice none 0 0] 44 (0, 0)) (mK BK787.out) hg (Kd.R_ne HO796.out BK787.out (by decide))) <| az (Kd.R_after (v := (.slice (some ⟨go25, 0, none⟩) t794.length co13)) (v1 := (.slice (some ⟨go25, 0, none⟩) t794.length co13)) (ok := (fun k_ => nB k_ (.slice Ao12 t791.length co12))) (mR HO790.out) hg (.inl rfl)) <| az (Kd.R_after (v := (.slice (some ⟨go25, 0, none⟩) t794.length co13)) (v1 := (.slice (some ⟨go25, 0, none⟩) t794.length co13)) (ok := (fun k_ => nB k_ (.slice Ao8 t788.length co8))) (mR HO793.out) hg (.inl rfl)) <| az (hp_) <| az (blk_grown (g := gb798) (o := .cells #[.slice Ao8 t788.length co8, .slice Ao12 t791.length co12, .slice (some ⟨go25, 0, none⟩) t794.length co13] 44 (0, 0)) (mK BK798.out) hg (Kd.R_ne HO796.out BK798.out (by decide))) <| az ((by rw [hw]; exact below_set (HB.out) (Nat.le_trans HL.out GB25.out) : Below w0.heap.size w0 w30)) <| z0 (KeepBut.trans (mKp HK.out) (KeepBut.of_grown hg g) (Kd.R_base2 HO796.out)); clear HI0 BK787 HO790 HO793 HO796 BK798 HB HK; obtain ⟨HI0, BK787, HO790, HO793, HO796, BK798, HB, HK⟩ := n_; clear hg hw hp_; obtain ⟨hcz31_0, hcz31_1, hcz31_2, hfz31_0, hfz31_1, hfz31_2⟩ := cel3 BK798.out; have hnb32 := NB787_0.out; have hnc32 := NB0_787.out; obtain ⟨hcz33_0, hcz33_1, hcz33_2, hfz33_0, hfz33_1, hfz33_2⟩ := cel3 BK787.out))
    refine bodyPost_ret (results_cell_row rfl _ _ gb787 44 #[.slice Ao8 t788.length co8, .slice Ao12 t791.length co12, .slice (some ⟨go25, 0, none⟩) t794.length co13] (0, 0) _ rfl (pF BK787.out) Try.underlying44 rfl (by kernel_rfl)) rfl ?_
    exact ⟨_, _, _, rfx, by (with_reducible repeat (first | apply Kd.R_alloc | apply Kd.R_drewN | apply Kd.R_drew)); exact Kd.R_mono (Kd.R_far (p := ⟨gb787, 2, none⟩) (Kd.R_far (p := ⟨gb787, 1, none⟩) (Kd.R_far (p := ⟨gb787, 0, none⟩) (Kd.R_types HO790.out BK787.out (by decide)) (fun _ hk => hk.2) (.slice Ao8 t788.length co8)) (fun _ hk => hk.2) (.slice Ao12 t791.length co12)) (fun _ hk => hk.2) (.slice (some ⟨go25, 0, none⟩) t794.length co13)) (fun _ hk => ⟨hk.1.1, hk.1.2⟩), by (with_reducible repeat (first | apply Kd.R_alloc | apply Kd.R_drewN | apply Kd.R_drew)); exact Kd.R_mono (Kd.R_far (p := ⟨gb787, 2, none⟩) (Kd.R_far (p := ⟨gb787, 1, none⟩) (Kd.R_far (p := ⟨gb787, 0, none⟩) (Kd.R_types HO793.out BK787.out (by decide)) (fun _ hk => hk.2) (.slice Ao8 t788.length co8)) (fun _ hk => hk.2) (.slice Ao12 t791.length co12)) (fun _ hk => hk.2) (.slice (some ⟨go25, 0, none⟩) t794.length co13)) (fun _ hk => ⟨hk.1.1, hk.1.2⟩), by (with_reducible repeat (first | apply Kd.R_alloc | apply Kd.R_drewN | apply Kd.R_drew)); exact Kd.R_mono (Kd.R_far (p := ⟨gb787, 2, none⟩) (Kd.R_far (p := ⟨gb787, 1, none⟩) (Kd.R_far (p := ⟨gb787, 0, none⟩) (Kd.R_types HO796.out BK787.out (by decide)) (fun _ hk => hk.2) (.slice Ao8 t788.length co8)) (fun _ hk => hk.2) (.slice Ao12 t791.length co12)) (fun _ hk => hk.2) (.slice (some ⟨go25, 0, none⟩) t794.length co13)) (fun _ hk => ⟨hk.1.1, hk.1.2⟩), mI132_1 HI0.out, mB132HI0 HB.out, mKp HK.out⟩
   ·rw [if_neg c24] at H
    exact absurd H (by simp)
  ·rw [if_neg c23] at H
   have c23b0 : (t799 == 1) = false := beq_eq_false_iff_ne.mpr c23
   have c23b1 : (t799 != 1) = true := bne_iff_ne.mpr c23
   by_cases c34 : t799 = 2
   ·rw [if_pos c34] at H
    have c34b0 : (t799 == 2) = true := beq_iff_eq.mpr c34
    have c34b1 : (t799 != 2) = false := bne_eq_false_iff_eq.mpr c34
    clear c34
    by_cases c35 : t791.length < 17592186044416
    ·rw [if_pos c35] at H
     have LMc35 := z0 c35
     clear c35
     obtain ⟨y805, hy805⟩ : ∃ y_ : List Int, y_ = (t791 ++ [0]) := ⟨_, rfl⟩
     replace H : (some (t788, y805, t794, t800)) = some (r1, r2, r3, r4) := by first | (rw [hy805]; with_reducible exact H) | (have H2_ := (Option.bind_some _ _).symm.trans H; rw [hy805]; with_reducible exact H2_) | (have H2_ := (Option.bind_some _ _).symm.trans H; with_reducible exact H2_) | with_reducible exact H | (rw [hy805]; exact H) | exact H
     have Ny805 := z0 hy805
     clear hy805
     simp only [Option.some.injEq, Prod.mk.injEq] at H
     obtain ⟨rfl, rfl, rfl, rfl⟩ := H
     have hnb36 := NB798_787.out
     have hnc36 := NB787_798.out
     have hnb37 := NB798_0.out
     have hnc37 := NB0_798.out
     obtain ⟨hcz38_0, hcz38_1, hcz38_2, hfz38_0, hfz38_1, hfz38_2⟩ := cel3 BK798.out
     go_wp2_with (first | ((with_reducible refine gate_builtin (b := .append) (xs := #[.tmp 22, .tmp 23]) rfl ?_); at_builtin; refine Kd.R_append (Kd.int .i64) w.heap.size rfl (.tmp 22) (.tmp 23) 39 3 (.int .i64 0) 8 rfl Try.underlying39 info3 rfl (by decide) (by omega) (.slice Ao12 t791.length co12) t791 0 [.int .i64 0] (fun k_ => nB k_ (.slice Ao8 t788.length co8) ∧ nB k_ (.slice Ao13 t794.length co13)) (fun _ => False) rfl rfl ?aP (fun _ hk => hk.elim) ?aF ?aO (Below.refl _ _) ?aS ?aL ?_; (case aP => exact rfl); (case aF => exact (fun k_ hk => ⟨Kd.fresh' (Kd.R_lt (mR HO790.out)) k_ hk, Kd.fresh' (Kd.R_lt (mR HO796.out)) k_ hk⟩)); (case aO => exact (mR HO793.out)); (case aS => exact (kS HK.out)); (case aL => have := LMc35.out; omega); intro v806 w39 ho hb hg hat; rw [← Ny805.out] at ho; have n_ := az (IsS132.grown (mI132_1 HI0.out) hg (IsS132.own_ne HI0.out HO793.out (by decide))) <| az (blk_grown (g := gb787) (o := .cells #[.slice none 0 0, .slice none 0 0, .slice none 0 0] 44 (0, 0)) (mK BK787.out) hg (Kd.R_ne HO793.out BK787.out (by decide))) <| az (Kd.R_after (ok := (fun k_ => nB k_ (.slice Ao13 t794.length co13))) (by (with_reducible repeat (first | apply Kd.R_alloc | apply Kd.R_drewN | apply Kd.R_drew)); exact Kd.R_mono HO790.out (fun _ hk => ⟨hk.2, hk.1⟩)) hg hat) <| az (Kd.R_after (ok := (fun k_ => nB k_ (.slice Ao8 t788.length co8))) (mR HO796.out) hg hat) <| az (blk_grown (g := gb798) (o := .cells #[.slice Ao8 t788.length co8, .slice Ao12 t791.length co12, .slice Ao13 t794.length co13] 44 (0, 0)) (mK BK798.out) hg (Kd.R_ne HO793.out BK798.out (by decide))) <| az (below_weaken (mB132HI0 HB.out) HL.out hb) <| az (KeepBut.trans (mKp HK.out) (KeepBut.of_grown hg g) (Kd.R_base2 HO793.out)) <| z0 (ho); clear HI0 BK787 HO790 HO796 BK798 HB HK HO793; obtain ⟨HI0, BK787, HO790, HO796, BK798, HB, HK, HO807⟩ := n_; clear ho hb hg hat; obtain ⟨Ao40, co40, eo40⟩ := Kd.R_slice HO807.out; subst eo40; obtain ⟨hcz41_0, hcz41_1, hcz41_2, hfz41_0, hfz41_1, hfz41_2⟩ := cel3 BK798.out; have hnb42 := NB787_0.out; have hnc42 := NB0_787.out; obtain ⟨hcz43_0, hcz43_1, hcz43_2, hfz43_0, hfz43_1, hfz43_2⟩ := cel3 BK787.out))
     refine bodyPost_ret (results_cell_row rfl _ _ gb787 44 #[.slice Ao8 t788.length co8, .slice Ao40 y805.length co40, .slice Ao13 t794.length co13] (0, 0) _ rfl (by (with_reducible repeat (first | refine blk_drewN ?_ _ | refine blk_drew ?_ | refine blk_alloc ?_ _)); refine blk_put (cs := #[.slice Ao8 t788.length co8, .slice Ao40 y805.length co40, .slice none 0 0]) ?_ 2 _ rfl; (with_reducible repeat (first | refine blk_drewN ?_ _ | refine blk_drew ?_ | refine blk_alloc ?_ _)); refine blk_put (cs := #[.slice Ao8 t788.length co8, .slice none 0 0, .slice none 0 0]) ?_ 1 _ rfl; (with_reducible repeat (first | refine blk_drewN ?_ _ | refine blk_drew ?_ | refine blk_alloc ?_ _)); refine blk_put (cs := #[.slice none 0 0, .slice none 0 0, .slice none 0 0]) ?_ 0 _ rfl; (with_reducible repeat (first | refine blk_drewN ?_ _ | refine blk_drew ?_ | refine blk_alloc ?_ _)); refine blk_far ?_ NB787_798.out _; (with_reducible repeat (first | refine blk_drewN ?_ _ | refine blk_drew ?_ | refine blk_alloc ?_ _)); exact BK787.out) Try.underlying44 rfl (by kernel_rfl)) rfl ?_
     exact ⟨_, _, _, rfx, by (with_reducible repeat (first | apply Kd.R_alloc | apply Kd.R_drewN | apply Kd.R_drew)); exact Kd.R_mono (Kd.R_far (p := ⟨gb787, 2, none⟩) (Kd.R_far (p := ⟨gb787, 1, none⟩) (Kd.R_far (p := ⟨gb787, 0, none⟩) (Kd.R_far (p := ⟨gb798, 1, none⟩) (Kd.R_types (Kd.R_types HO790.out BK798.out (by decide)) BK787.out (by decide)) (fun _ hk => hk.1.2) (.slice Ao40 y805.length co40)) (fun _ hk => hk.2) (.slice Ao8 t788.length co8)) (fun _ hk => hk.2) (.slice Ao40 y805.length co40)) (fun _ hk => hk.2) (.slice Ao13 t794.length co13)) (fun _ hk => ⟨hk.1.1.2, hk.1.1.1⟩), by (with_reducible repeat (first | apply Kd.R_alloc | apply Kd.R_drewN | apply Kd.R_drew)); exact Kd.R_mono (Kd.R_far (p := ⟨gb787, 2, none⟩) (Kd.R_far (p := ⟨gb787, 1, none⟩) (Kd.R_far (p := ⟨gb787, 0, none⟩) (Kd.R_far (p := ⟨gb798, 1, none⟩) (Kd.R_types (Kd.R_types HO807.out BK798.out (by decide)) BK787.out (by decide)) (fun _ hk => hk.1.2) (.slice Ao40 y805.length co40)) (fun _ hk => hk.2) (.slice Ao8 t788.length co8)) (fun _ hk => hk.2) (.slice Ao40 y805.length co40)) (fun _ hk => hk.2) (.slice Ao13 t794.length co13)) (fun _ hk => by first | exact ⟨hk.1.1.1, hk.1.1.2⟩ | exact ⟨ownLen_ hk.1.1.1, hk.1.1.2⟩), by (with_reducible repeat (first | apply Kd.R_alloc | apply Kd.R_drewN | apply Kd.R_drew)); exact Kd.R_mono (Kd.R_far (p := ⟨gb787, 2, none⟩) (Kd.R_far (p := ⟨gb787, 1, none⟩) (Kd.R_far (p := ⟨gb787, 0, none⟩) (Kd.R_far (p := ⟨gb798, 1, none⟩) (Kd.R_types (Kd.R_types HO796.out BK798.out (by decide)) BK787.out (by decide)) (fun _ hk => hk.1.2) (.slice Ao40 y805.length co40)) (fun _ hk => hk.2) (.slice Ao8 t788.length co8)) (fun _ hk => hk.2) (.slice Ao40 y805.length co40)) (fun _ hk => hk.2) (.slice Ao13 t794.length co13)) (fun _ hk => by first | exact ⟨hk.1.1.1, hk.1.1.2⟩ | exact ⟨ownLen_ hk.1.1.1, hk.1.1.2⟩), mI132_1 HI0.out, mB132HI0 HB.out, mKp HK.out⟩
    ·rw [if_neg c35] at H
     exact absurd H (by simp)
   ·rw [if_neg c34] at H
    have c34b0 : (t799 == 2) = false := beq_eq_false_iff_ne.mpr c34
    have c34b1 : (t799 != 2) = true := bne_iff_ne.mpr c34
    simp only [Option.some.injEq, Prod.mk.injEq] at H
    obtain ⟨rfl, rfl, rfl, rfl⟩ := H
    have hnb44 := NB798_787.out
    have hnc44 := NB787_798.out
    have hnb45 := NB798_0.out
    have hnc45 := NB0_798.out
    obtain ⟨hcz46_0, hcz46_1, hcz46_2, hfz46_0, hfz46_1, hfz46_2⟩ := cel3 BK798.out
    have hnb47 := NB787_0.out
    have hnc47 := NB0_787.out
    obtain ⟨hcz48_0, hcz48_1, hcz48_2, hfz48_0, hfz48_1, hfz48_2⟩ := cel3 BK787.out
    go_wp2
    refine bodyPost_ret (results_cell_row rfl _ _ gb787 44 #[.slice Ao8 t788.length co8, .slice Ao12 t791.length co12, .slice Ao13 t794.length co13] (0, 0) _ rfl (pF BK787.out) Try.underlying44 rfl (by kernel_rfl)) rfl ?_
    exact ⟨_, _, _, rfx, by (with_reducible repeat (first | apply Kd.R_alloc | apply Kd.R_drewN | apply Kd.R_drew)); exact Kd.R_mono (Kd.R_far (p := ⟨gb787, 2, none⟩) (Kd.R_far (p := ⟨gb787, 1, none⟩) (Kd.R_far (p := ⟨gb787, 0, none⟩) (Kd.R_types HO790.out BK787.out (by decide)) (fun _ hk => hk.2) (.slice Ao8 t788.length co8)) (fun _ hk => hk.2) (.slice Ao12 t791.length co12)) (fun _ hk => hk.2) (.slice Ao13 t794.length co13)) (fun _ hk => ⟨hk.1.1, hk.1.2⟩), by (with_reducible repeat (first | apply Kd.R_alloc | apply Kd.R_drewN | apply Kd.R_drew)); exact Kd.R_mono (Kd.R_far (p := ⟨gb787, 2, none⟩) (Kd.R_far (p := ⟨gb787, 1, none⟩) (Kd.R_far (p := ⟨gb787, 0, none⟩) (Kd.R_types HO793.out BK787.out (by decide)) (fun _ hk => hk.2) (.slice Ao8 t788.length co8)) (fun _ hk => hk.2) (.slice Ao12 t791.length co12)) (fun _ hk => hk.2) (.slice Ao13 t794.length co13)) (fun _ hk => ⟨hk.1.1, hk.1.2⟩), by (with_reducible repeat (first | apply Kd.R_alloc | apply Kd.R_drewN | apply Kd.R_drew)); exact Kd.R_mono (Kd.R_far (p := ⟨gb787, 2, none⟩) (Kd.R_far (p := ⟨gb787, 1, none⟩) (Kd.R_far (p := ⟨gb787, 0, none⟩) (Kd.R_types HO796.out BK787.out (by decide)) (fun _ hk => hk.2) (.slice Ao8 t788.length co8)) (fun _ hk => hk.2) (.slice Ao12 t791.length co12)) (fun _ hk => hk.2) (.slice Ao13 t794.length co13)) (fun _ hk => ⟨hk.1.1, hk.1.2⟩), mI132_1 HI0.out, mB132HI0 HB.out, mKp HK.out⟩

/-! ### spec_DrawExprOf: function 36 -/
def spec_DrawExprOf.f (k : Nat) (l0 : List Int) : Option (Int × Int × Int × Int × (List (S32)) × List Int × List Int × List Int) := (spec_l12Open.f l0).bind fun bt810 => ((spec_l3Bent.f k bt810.1 bt810.2).bind fun bt813 => ((spec_l2MemBent.f k bt810.1 bt813.2.2.2.2.2).bind fun bt822 => (some (bt813.1, bt813.2.1, bt813.2.2.1, bt813.2.2.2.1, bt813.2.2.2.2.1, bt822.1, bt822.2.1, bt822.2.2.1))))
set_option maxHeartbeats 8000000 in
set_option maxRecDepth 100000 in
theorem spec_DrawExprOf.calls (k : Nat) (A0 : Option Addr) (c0 : Nat) (l0 : List Int) (r1 : Int) (r2 : Int) (r3 : Int) (r4 : Int) (r5 : List (S32)) (r6 : List Int) (r7 : List Int) (r8 : List Int) (w : World) (hr0 : Kd.C (Kd.int .u8) w A0 l0.length l0) (hc0 : l0.length ≤ c0) (h : spec_DrawExprOf.f k l0 = some (r1, r2, r3, r4, r5, r6, r7, r8)) :
  Calls Try.prog 36 #[.slice A0 l0.length c0] w fun e w' => ∃ v4_ v5_ v6_ v7_ : Value, e = .returned (.tuple #[.agg #[.int .i64 r1, .int .i64 r2, .int .i64 r3, .int .i64 r4, v4_], .agg #[v5_, v6_, v7_]]) ∧ Kd.N k32 32 w' w.heap.size (fun k_ => (w.heap.size ≤ k_) ∧ nB k_ v5_ ∧ nB k_ v6_ ∧ nB k_ v7_) v4_ r5 ∧ Kd.R (Kd.int .i64) 3 w' w.heap.size (fun k_ => (w.heap.size ≤ k_) ∧ nB k_ v6_ ∧ nB k_ v7_) v5_ r6 ∧ Kd.R (Kd.int .i64) 3 w' w.heap.size (fun k_ => (w.heap.size ≤ k_) ∧ nB k_ v5_ ∧ nB k_ v7_) v6_ r7 ∧ Kd.R (Kd.int .i64) 3 w' w.heap.size (fun k_ => (w.heap.size ≤ k_) ∧ nB k_ v5_ ∧ nB k_ v6_) v7_ r8 ∧ Below w.heap.size w w' := by
 have hu32 := Try.underlying32
 have hu44 := Try.underlying44
 have HR0 := z0 hr0
 have HC0 := z0 hc0
 clear hr0 hc0
 have HB := z0 (Below.refl w.heap.size w)
 have H : ((spec_l12Open.f l0).bind fun bt810 => ((spec_l3Bent.f k bt810.1 bt810.2).bind fun bt813 => ((spec_l2MemBent.f k bt810.1 bt813.2.2.2.2.2).bind fun bt822 => (some (bt813.1, bt813.2.1, bt813.2.2.1, bt813.2.2.2.1, bt813.2.2.2.2.1, bt822.1, bt822.2.1, bt822.2.2.1))))) = some (r1, r2, r3, r4, r5, r6, r7, r8) := h
 clear h
 replace H := Option.bind_eq_some_iff.mp H
 obtain ⟨⟨t810, t811⟩, A20, H⟩ := H
 try dsimp only at H
 have A2 := z0 A20
 clear A20
 replace H := Option.bind_eq_some_iff.mp H
 obtain ⟨⟨t813, t814, t815, t816, t817, t820⟩, A30, H⟩ := H
 try dsimp only at H
 have A3 := z0 A30
 clear A30
 replace H := Option.bind_eq_some_iff.mp H
 obtain ⟨⟨t822, t825, t828, t831⟩, A40, H⟩ := H
 try dsimp only at H
 have A4 := z0 A40
 clear A40
 simp only [Option.some.injEq, Prod.mk.injEq] at H
 obtain ⟨rfl, rfl, rfl, rfl, rfl, rfl, rfl, rfl⟩ := H
 go_enter Try.func36, Try.ntmps36
 try go_wp2_with (first | ((with_reducible refine gate_dst (N := 2) rfl ?_); refine box_event ?hg (N := 2) ?hd (cs := #[.int .i64 0, .int .i64 0, .int .i64 0, .int .i64 0, .slice none 0 0]) (t := 32) ?hr ?_; (case hd => rfl); (case hg => rfl); (case hr => first | (go_simp; done) | (go_simp; rfl)); intro gb808 hg w5 hbox hb; have n_ := az (below_step (mB HB.out) hb) <| az (hbox) <| az ((by rw [hg]; exact (below_size (mB HB.out)) : w.heap.size ≤ gb808)) <| z0 ((by rw [hg]; exact (below_size (mB HB.out)) : w.heap.size ≤ gb808)); clear HB; obtain ⟨HB, BK808, GW808, GE808⟩ := n_; clear hb hbox hg) | ((with_reducible refine gate_dst (N := 3) rfl ?_); refine box_event ?hg (N := 3) ?hd (cs := #[.slice none 0 0, .slice none 0 0, .slice none 0 0]) (t := 44) ?hr ?_; (case hd => rfl); (case hg => rfl); (case hr => first | (go_simp; done) | (go_simp; rfl)); intro gb809 hg w6 hbox hb; have n_ := az (bB BK808.out hb) <| az (below_step (mB HB.out) hb) <| az (hbox) <| az ((by rw [hg]; exact (below_size (mB HB.out)) : w.heap.size ≤ gb809)) <| az ((by rw [hg]; exact (below_size (mB HB.out)) : w.heap.size ≤ gb809)) <| az ((nL hg BK808.out)) <| z0 ((nG hg BK808.out)); clear BK808 HB; obtain ⟨BK808, HB, BK809, GW809, GE809, NB808_809, NB809_808⟩ := n_; clear hb hbox hg) | ((with_reducible refine gate_callee (f := 75) rfl ?_); refine goesL_ (some 7) rfl rfl Try.func75 (by kernel_rfl) rfl #[.slice A0 l0.length c0] rfl argx ?_; (with_reducible refine (spec_l12Open.calls _ _ l0 t810 t811 w _ ?side1 ?side2 ?side3 A2.out).mono ?_); (case side1 => exact mB HB.out); (case side2 => exact HR0.out); (case side3 => exact HC0.out); rintro e w7 ⟨g812, rfl, hi, hb, hb2⟩; refine ⟨_, rfl, ?_⟩; have n_ := az (bB BK808.out hb2) <| az (bB BK809.out hb2) <| az (hb) <| az (hi) <| az (IsS132.ne_blk hi (bB BK808.out hb2) (by decide)) <| az (Ne.symm (IsS132.ne_blk hi (bB BK808.out hb2) (by decide))) <| az (IsS132.ne_blk hi (bB BK809.out hb2) (by decide)) <| z0 (Ne.symm (IsS132.ne_blk hi (bB BK809.out hb2) (by decide))); clear BK808 BK809 HB; obtain ⟨BK808, BK809, HB, HI812, NB812_808, NB808_812, NB812_809, NB809_812⟩ := n_; clear hb hb2 hi) | ((with_reducible refine gate_callee (f := 76) rfl ?_); refine goesL_ (some 9) rfl rfl Try.func76 (by kernel_rfl) rfl #[.pointer (some ⟨g812, 0, none⟩)] rfl argx ?_; (with_reducible refine (spec_l3Bent.calls k g812 t810 t811 t813 t814 t815 t816 t817 t820 w _ ?side1 ?side2 A3.out).mono ?_); (case side1 => exact mI132_1 HI812.out); (case side2 => exact mB132HI812 HB.out); rintro e w8 ⟨v818, rfl, ho0, hi, hb, hk⟩; refine ⟨_, rfl, ?_⟩; have n_ := az (kB hk BK808.out NB808_812.out) <| az (kB hk BK809.out NB809_812.out) <| az (Kd.N_lower (Kd.N_mono (ok' := fun k_ => (w.heap.size ≤ k_) ∧ k_ ≠ gb808 ∧ k_ ≠ gb809 ∧ k_ ≠ g812) ho0 (fun k_ hk_ => ⟨(Nat.le_trans (below_size (mB132HI812 HB.out)) hk_), (fB BK808.out hk_), (fB BK809.out hk_), (IsS132.fresh (mI132_1 HI812.out) k_ hk_)⟩)) (below_size (mB132HI812 HB.out))) <| az (hb) <| z0 (hi); clear BK808 BK809 HB HI812; obtain ⟨BK808, BK809, HO819, HB, HI812⟩ := n_; clear hb hk hi ho0) | ((with_reducible refine gate_dst (N := 5) rfl ?_); refine box_event ?hg (N := 5) ?hd (cs := #[.int .i64 0, .int .i64 0, .int .i64 0, .int .i64 0, .slice none 0 0]) (t := 32) ?hr ?_; (case hd => rfl); (case hg => rfl); (case hr => first | (go_simp; done) | (go_simp; rfl)); intro gb821 hg w9 hbox hb; have n_ := az (Kd.N_below (Kd.N_elderB (mN HO819.out) gb821 (Nat.le_of_eq hg.symm)) hb) <| az (bB BK808.out hb) <| az (bB BK809.out hb) <| az (IsS132.below (mI132_1 HI812.out) hb) <| az (below_step (mB132HI812 HB.out) hb) <| az (hbox) <| az ((by rw [hg]; exact (below_size (mB132HI812 HB.out)) : w.heap.size ≤ gb821)) <| az ((by rw [hg]; exact (below_size (mB132HI812 HB.out)) : w.heap.size ≤ gb821)) <| az ((nL hg BK808.out)) <| az ((nG hg BK808.out)) <| az ((nL hg BK809.out)) <| az ((nG hg BK809.out)) <| az ((by rw [hg]; exact Nat.ne_of_lt (IsS132.lt (show IsS132 w _ g812 t810 t820 from mI132_1 HI812.out)) : g812 ≠ gb821)) <| z0 ((by rw [hg]; exact Nat.ne_of_gt (IsS132.lt (show IsS132 w _ g812 t810 t820 from mI132_1 HI812.out)) : gb821 ≠ g812)); clear HO819 BK808 BK809 HI812 HB; obtain ⟨HO819, BK808, BK809, HI812, HB, BK821, GW821, GE821, NB808_821, NB821_808, NB809_821, NB821_809, NB812_821, NB821_812⟩ := n_; clear hb hbox hg; have hnb10 := NB821_808.out; have hnc10 := NB808_821.out; have hnb11 := NB821_809.out; have hnc11 := NB809_821.out; have hnb12 := NB821_812.out; have hnc12 := NB812_821.out; obtain ⟨hcz13_0, hcz13_1, hcz13_2, hcz13_3, hcz13_4, hfz13_0, hfz13_1, hfz13_2, hfz13_3, hfz13_4⟩ := cel5 BK821.out; obtain ⟨Ao14, co14, eo14⟩ := Kd.N_slice HO819.out; subst eo14))
 have n0_ : Aside0 (Kd.N k32 32 (((((w9.setCell ⟨gb821, 0, none⟩ (.int .i64 t813)).setCell ⟨gb821, 1, none⟩ (.int .i64 t814)).setCell ⟨gb821, 2, none⟩ (.int .i64 t815)).setCell ⟨gb821, 3, none⟩ (.int .i64 t816)).setCell ⟨gb821, 4, none⟩ (.slice Ao14 t817.length co14)) w.heap.size (fun k_ => (w.heap.size ≤ k_) ∧ k_ ≠ gb808 ∧ k_ ≠ gb809 ∧ k_ ≠ g812 ∧ k_ ≠ gb821) (.slice Ao14 t817.length co14) t817) := ⟨by (with_reducible repeat (first | apply Kd.N_alloc | apply Kd.N_drewN | apply Kd.N_drew)); exact Kd.N_mono (Kd.N_far (p := ⟨gb821, 4, none⟩) (Kd.N_far (p := ⟨gb821, 3, none⟩) (Kd.N_far (p := ⟨gb821, 2, none⟩) (Kd.N_far (p := ⟨gb821, 1, none⟩) (Kd.N_far (p := ⟨gb821, 0, none⟩) (Kd.N_mono HO819.out (fun k_ hk => (⟨hk, hk.2⟩ : _ ∧ k_ ≠ gb821))) (fun _ hk => hk.2) (.int .i64 t813)) (fun _ hk => hk.2) (.int .i64 t814)) (fun _ hk => hk.2) (.int .i64 t815)) (fun _ hk => hk.2) (.int .i64 t816)) (fun _ hk => hk.2) (.slice Ao14 t817.length co14)) (fun _ hk => ⟨hk.1.1.1, ⟨hk.1.1.2.1, ⟨hk.1.1.2.2.1, ⟨hk.1.1.2.2.2, hk.1.2⟩⟩⟩⟩)⟩
 have n1_ : Aside0 ((((((w9.setCell ⟨gb821, 0, none⟩ (.int .i64 t813)).setCell ⟨gb821, 1, none⟩ (.int .i64 t814)).setCell ⟨gb821, 2, none⟩ (.int .i64 t815)).setCell ⟨gb821, 3, none⟩ (.int .i64 t816)).setCell ⟨gb821, 4, none⟩ (.slice Ao14 t817.length co14)).heap[gb808]? = some (.cells #[.int .i64 0, .int .i64 0, .int .i64 0, .int .i64 0, .slice none 0 0] 32 (0, 0))) := ⟨mF BK808.out⟩
 have n2_ : Aside0 ((((((w9.setCell ⟨gb821, 0, none⟩ (.int .i64 t813)).setCell ⟨gb821, 1, none⟩ (.int .i64 t814)).setCell ⟨gb821, 2, none⟩ (.int .i64 t815)).setCell ⟨gb821, 3, none⟩ (.int .i64 t816)).setCell ⟨gb821, 4, none⟩ (.slice Ao14 t817.length co14)).heap[gb809]? = some (.cells #[.slice none 0 0, .slice none 0 0, .slice none 0 0] 44 (0, 0))) := ⟨mF BK809.out⟩
 have n3_ : Aside0 ((((((w9.setCell ⟨gb821, 0, none⟩ (.int .i64 t813)).setCell ⟨gb821, 1, none⟩ (.int .i64 t814)).setCell ⟨gb821, 2, none⟩ (.int .i64 t815)).setCell ⟨gb821, 3, none⟩ (.int .i64 t816)).setCell ⟨gb821, 4, none⟩ (.slice Ao14 t817.length co14)).heap[gb821]? = some (.cells #[.int .i64 t813, .int .i64 t814, .int .i64 t815, .int .i64 t816, .slice Ao14 t817.length co14] 32 (0, 0))) := ⟨pF BK821.out⟩
 have n4_ : Aside0 (IsS132 w (((((w9.setCell ⟨gb821, 0, none⟩ (.int .i64 t813)).setCell ⟨gb821, 1, none⟩ (.int .i64 t814)).setCell ⟨gb821, 2, none⟩ (.int .i64 t815)).setCell ⟨gb821, 3, none⟩ (.int .i64 t816)).setCell ⟨gb821, 4, none⟩ (.slice Ao14 t817.length co14)) g812 t810 t820) := ⟨mI132_1 HI812.out⟩
 have n5_ : Aside0 (Below w.heap.size w (((((w9.setCell ⟨gb821, 0, none⟩ (.int .i64 t813)).setCell ⟨gb821, 1, none⟩ (.int .i64 t814)).setCell ⟨gb821, 2, none⟩ (.int .i64 t815)).setCell ⟨gb821, 3, none⟩ (.int .i64 t816)).setCell ⟨gb821, 4, none⟩ (.slice Ao14 t817.length co14))) := ⟨mB132HI812 HB.out⟩
 (try clear HO819)
 (try clear BK808)
 (try clear BK809)
 (try clear BK821)
 (try clear HI812)
 (try clear HB)
 generalize (((((w9.setCell ⟨gb821, 0, none⟩ (.int .i64 t813)).setCell ⟨gb821, 1, none⟩ (.int .i64 t814)).setCell ⟨gb821, 2, none⟩ (.int .i64 t815)).setCell ⟨gb821, 3, none⟩ (.int .i64 t816)).setCell ⟨gb821, 4, none⟩ (.slice Ao14 t817.length co14)) = w15 at n0_ n1_ n2_ n3_ n4_ n5_ ⊢
 have HO819 := n0_
 have BK808 := n1_
 have BK809 := n2_
 have BK821 := n3_
 have HI812 := n4_
 have HB := n5_
 clear n0_ n1_ n2_ n3_ n4_ n5_
 have n_ := az (Kd.N_drew HO819.out) <| az (blk_drew BK808.out) <| az (blk_drew BK809.out) <| az (blk_drew BK821.out) <| az (IsS132.drew HI812.out) <| z0 (below_drew1 HB.out)
 clear HO819 BK808 BK809 BK821 HI812 HB
 obtain ⟨HO819, BK808, BK809, BK821, HI812, HB⟩ := n_
 refine start_ (n := 5) (S := fun w' => w'.cell? ⟨gb821, 0, none⟩ = some (.int .i64 t813) ∧ w'.cell? ⟨gb821, 1, none⟩ = some (.int .i64 t814) ∧ w'.cell? ⟨gb821, 2, none⟩ = some (.int .i64 t815) ∧ w'.cell? ⟨gb821, 3, none⟩ = some (.int .i64 t816) ∧ w'.cell? ⟨gb821, 4, none⟩ = some (.slice Ao14 t817.length co14)) (ds := []) #[false, false, false, false, false] (by kernel_rfl) rfl rfl ⟨(blk_cell BK821.out 0).trans rfl, (blk_cell BK821.out 1).trans rfl, (blk_cell BK821.out 2).trans rfl, (blk_cell BK821.out 3).trans rfl, (blk_cell BK821.out 4).trans rfl⟩ (fun hHeld => ?_)
 generalize w15.drew = w16 at HO819 BK808 BK809 BK821 HI812 HB hHeld ⊢
 refine pure_ (i := 1) (N := some 11) (v := ?_) (a' := ?_) #[false, true, false, false, false] rfl rfl (by kernel_rfl) (fun _ _ _ h => h) (Or.inl ⟨by rfl, ?_⟩) ?_ ?_
 rotate_left
 ·intro w'
  go_simp
  with_reducible rfl
 rotate_left
 ·simp only [Act.put, List.setIfInBounds_toArray, List.set_cons_zero, List.set_cons_succ, i64_w, i32_w]
  rfl
 refine take_ (i := 0) (N := some 10) (v := ?_) (a' := ?_) #[true, true, false, false, false] rfl rfl (by kernel_rfl) (fun _ _ _ h => h) (Or.inl ⟨by rfl, ?_⟩) hHeld ?_ ?_
 rotate_left
 ·rintro w' ⟨s0, s1, s2, s3, s4⟩
  go_simp
  with_reducible rfl
 rotate_left
 ·simp only [Act.put, List.setIfInBounds_toArray, List.set_cons_zero, List.set_cons_succ, i64_w, i32_w]
  rfl
 refine one_ (i := 2) (N := some 12) #[true, true, true, false, false] rfl rfl (by kernel_rfl) (by decide) (fun K hK => ?_)
 refine goes_ Try.func77 (by kernel_rfl) rfl #[.pointer (some ⟨g812, 0, none⟩)] (by rfl) rfl rfl argx ?_
 with_reducible refine (spec_l2MemBent.calls k g812 t810 t820 t822 t825 t828 t831 w _ ?side1 ?side2 A4.out).mono ?_
 (case side1 => exact mI132_1 HI812.out)
 (case side2 => exact mB132HI812 HB.out)
 rintro e w17 ⟨v823, v826, v829, rfl, ho0, ho1, ho2, hi, hb, hk⟩
 refine ⟨_, rfl, ?_⟩
 have n_ := az (kB hk BK808.out NB808_812.out) <| az (kB hk BK809.out NB809_812.out) <| And.intro (z0 (Kd.N_mono (Kd.N_told (Kd.N_told (Kd.N_told (Kd.N_oldK (Kd.N_mono (ok := fun k_ => (((w.heap.size ≤ k_)) ∧ (k_ ≠ gb808 ∧ (k_ ≠ gb809 ∧ (k_ ≠ g812 ∧ k_ ≠ gb821))))) (mN HO819.out) (fun k_ hk_ => (⟨hk_, hk_.2.2.2.1⟩ : _ ∧ k_ ≠ g812))) hk) (by first | exact Kd.R_base ho0 | exact Kd.R_base ho0)) (by first | exact Kd.R_base ho1 | exact Kd.R_base ho1)) (by first | exact Kd.R_base ho2 | exact Kd.R_base ho2)) (fun _ h_ => h_.1))) <| az (kB hk BK821.out NB821_812.out) <| And.intro (z0 (Kd.R_lower (Kd.R_newM (M := fun k_ => (w.heap.size ≤ k_)) ho0 (below_size (mB132HI812 HB.out)) (fun k_ h_ => h_)) (below_size (mB132HI812 HB.out)))) <| And.intro (z0 (Kd.R_lower (Kd.R_newM (M := fun k_ => (w.heap.size ≤ k_)) ho1 (below_size (mB132HI812 HB.out)) (fun k_ h_ => h_)) (below_size (mB132HI812 HB.out)))) <| And.intro (z0 (Kd.R_lower (Kd.R_newM (M := fun k_ => (w.heap.size ≤ k_)) ho2 (below_size (mB132HI812 HB.out)) (fun k_ h_ => h_)) (below_size (mB132HI812 HB.out)))) <| az (hb) <| z0 (hi)
 clear BK808 BK809 HO819 BK821 HB HI812
 obtain ⟨BK808, BK809, HO819, BK821, HO824, HO827, HO830, HB, HI812⟩ := n_
 (try clear hb)
 (try clear hb2)
 (try clear hk)
 (try clear hi)
 (try clear ho0)
 (try clear ho1)
 (try clear ho2)
 obtain ⟨Ao23, co23, eo23⟩ := Kd.R_slice HO824.out
 (first | subst eo23 | (injection eo23 with f1_ f2_ f3_; have f4_ := f1_.symm; have f5_ := f3_.symm; clear f1_ f2_ f3_; subst f4_; subst f5_))
 obtain ⟨Ao25, co25, eo25⟩ := Kd.R_slice HO827.out
 (first | subst eo25 | (injection eo25 with f1_ f2_ f3_; have f4_ := f1_.symm; have f5_ := f3_.symm; clear f1_ f2_ f3_; subst f4_; subst f5_))
 obtain ⟨Ao27, co27, eo27⟩ := Kd.R_slice HO830.out
 (first | subst eo27 | (injection eo27 with f1_ f2_ f3_; have f4_ := f1_.symm; have f5_ := f3_.symm; clear f1_ f2_ f3_; subst f4_; subst f5_))
 refine hK.out _ _ ⟨(blk_cell BK821.out 0).trans rfl, (blk_cell BK821.out 1).trans rfl, (blk_cell BK821.out 2).trans rfl, (blk_cell BK821.out 3).trans rfl, (blk_cell BK821.out 4).trans rfl⟩ (fun hHeld => ?_)
 clear hK K
 refine norm_ (a' := ?_) ?_ ?_
 rotate_left
 ·show Act.put _ (some 12) _ = _
  simp only [Act.put, List.setIfInBounds_toArray, List.set_cons_zero, List.set_cons_succ, i64_w, i32_w]
  rfl
 refine one_ (i := 3) (N := none) #[true, true, true, true, false] rfl rfl (by kernel_rfl) (by decide) (fun K hK => ?_)
 have hs18 : w17.cell? ⟨gb808, 0, none⟩ = some (.int .i64 0) := (blk_cell BK808.out 0).trans rfl
 have hfs18 := blk_frozen BK808.out 0
 have hns18_1 := NB809_808.out
 have hns18_2 := NB821_808.out
 have hms18_1 := NB808_809.out
 have hms18_2 := NB808_821.out
 have hs19 : w17.cell? ⟨gb808, 1, none⟩ = some (.int .i64 0) := (blk_cell BK808.out 1).trans rfl
 have hfs19 := blk_frozen BK808.out 1
 have hns19_1 := NB809_808.out
 have hns19_2 := NB821_808.out
 have hms19_1 := NB808_809.out
 have hms19_2 := NB808_821.out
 have hs20 : w17.cell? ⟨gb808, 2, none⟩ = some (.int .i64 0) := (blk_cell BK808.out 2).trans rfl
 have hfs20 := blk_frozen BK808.out 2
 have hns20_1 := NB809_808.out
 have hns20_2 := NB821_808.out
 have hms20_1 := NB808_809.out
 have hms20_2 := NB808_821.out
 have hs21 : w17.cell? ⟨gb808, 3, none⟩ = some (.int .i64 0) := (blk_cell BK808.out 3).trans rfl
 have hfs21 := blk_frozen BK808.out 3
 have hns21_1 := NB809_808.out
 have hns21_2 := NB821_808.out
 have hms21_1 := NB808_809.out
 have hms21_2 := NB808_821.out
 have hs22 : w17.cell? ⟨gb808, 4, none⟩ = some (.slice none 0 0) := (blk_cell BK808.out 4).trans rfl
 have hfs22 := blk_frozen BK808.out 4
 have hns22_1 := NB809_808.out
 have hns22_2 := NB821_808.out
 have hms22_1 := NB808_809.out
 have hms22_2 := NB808_821.out
 refine skip_ (w1 := ?_) (by rfl) rfl ?_ ?_
 rotate_left
 ·go_simp
  rfl
 refine hK.out _ _ ⟨((cell_far (p := ⟨gb808, _, none⟩) NB821_808.out _).trans (((cell_far (p := ⟨gb808, _, none⟩) NB821_808.out _).trans (((cell_far (p := ⟨gb808, _, none⟩) NB821_808.out _).trans (((cell_far (p := ⟨gb808, _, none⟩) NB821_808.out _).trans (((cell_far (p := ⟨gb808, _, none⟩) NB821_808.out _).trans (hHeld.1)))))))))), ((cell_far (p := ⟨gb808, _, none⟩) NB821_808.out _).trans (((cell_far (p := ⟨gb808, _, none⟩) NB821_808.out _).trans (((cell_far (p := ⟨gb808, _, none⟩) NB821_808.out _).trans (((cell_far (p := ⟨gb808, _, none⟩) NB821_808.out _).trans (((cell_far (p := ⟨gb808, _, none⟩) NB821_808.out _).trans (hHeld.2.1)))))))))), ((cell_far (p := ⟨gb808, _, none⟩) NB821_808.out _).trans (((cell_far (p := ⟨gb808, _, none⟩) NB821_808.out _).trans (((cell_far (p := ⟨gb808, _, none⟩) NB821_808.out _).trans (((cell_far (p := ⟨gb808, _, none⟩) NB821_808.out _).trans (((cell_far (p := ⟨gb808, _, none⟩) NB821_808.out _).trans (hHeld.2.2.1)))))))))), ((cell_far (p := ⟨gb808, _, none⟩) NB821_808.out _).trans (((cell_far (p := ⟨gb808, _, none⟩) NB821_808.out _).trans (((cell_far (p := ⟨gb808, _, none⟩) NB821_808.out _).trans (((cell_far (p := ⟨gb808, _, none⟩) NB821_808.out _).trans (((cell_far (p := ⟨gb808, _, none⟩) NB821_808.out _).trans (hHeld.2.2.2.1)))))))))), ((cell_far (p := ⟨gb808, _, none⟩) NB821_808.out _).trans (((cell_far (p := ⟨gb808, _, none⟩) NB821_808.out _).trans (((cell_far (p := ⟨gb808, _, none⟩) NB821_808.out _).trans (((cell_far (p := ⟨gb808, _, none⟩) NB821_808.out _).trans (((cell_far (p := ⟨gb808, _, none⟩) NB821_808.out _).trans (hHeld.2.2.2.2))))))))))⟩ (fun hHeld => ?_)
 clear hK K
 refine one_ (i := 4) (N := none) #[true, true, true, true, true] rfl rfl (by kernel_rfl) (by decide) (fun K hK => ?_)
 have hs24 : w17.cell? ⟨gb809, 0, none⟩ = some (.slice none 0 0) := (blk_cell BK809.out 0).trans rfl
 have hfs24 := blk_frozen BK809.out 0
 have hns24_0 := NB808_809.out
 have hns24_2 := NB821_809.out
 have hms24_0 := NB809_808.out
 have hms24_2 := NB809_821.out
 have hs26 : w17.cell? ⟨gb809, 1, none⟩ = some (.slice none 0 0) := (blk_cell BK809.out 1).trans rfl
 have hfs26 := blk_frozen BK809.out 1
 have hns26_0 := NB808_809.out
 have hns26_2 := NB821_809.out
 have hms26_0 := NB809_808.out
 have hms26_2 := NB809_821.out
 have hs28 : w17.cell? ⟨gb809, 2, none⟩ = some (.slice none 0 0) := (blk_cell BK809.out 2).trans rfl
 have hfs28 := blk_frozen BK809.out 2
 have hns28_0 := NB808_809.out
 have hns28_2 := NB821_809.out
 have hms28_0 := NB809_808.out
 have hms28_2 := NB809_821.out
 refine skip_ (w1 := ?_) (by rfl) rfl ?_ ?_
 rotate_left
 ·go_simp
  rfl
 refine hK.out _ _ ⟨((cell_far (p := ⟨gb809, _, none⟩) NB821_809.out _).trans (((cell_far (p := ⟨gb809, _, none⟩) NB821_809.out _).trans (((cell_far (p := ⟨gb809, _, none⟩) NB821_809.out _).trans (hHeld.1)))))), ((cell_far (p := ⟨gb809, _, none⟩) NB821_809.out _).trans (((cell_far (p := ⟨gb809, _, none⟩) NB821_809.out _).trans (((cell_far (p := ⟨gb809, _, none⟩) NB821_809.out _).trans (hHeld.2.1)))))), ((cell_far (p := ⟨gb809, _, none⟩) NB821_809.out _).trans (((cell_far (p := ⟨gb809, _, none⟩) NB821_809.out _).trans (((cell_far (p := ⟨gb809, _, none⟩) NB821_809.out _).trans (hHeld.2.2.1)))))), ((cell_far (p := ⟨gb809, _, none⟩) NB821_809.out _).trans (((cell_far (p := ⟨gb809, _, none⟩) NB821_809.out _).trans (((cell_far (p := ⟨gb809, _, none⟩) NB821_809.out _).trans (hHeld.2.2.2.1)))))), ((cell_far (p := ⟨gb809, _, none⟩) NB821_809.out _).trans (((cell_far (p := ⟨gb809, _, none⟩) NB821_809.out _).trans (((cell_far (p := ⟨gb809, _, none⟩) NB821_809.out _).trans (hHeld.2.2.2.2))))))⟩ (fun hHeld => ?_)
 clear hK K
 refine done_ (by kernel_rfl) ?_
 try go_wp2
 refine bodyPost_ret (results_cc rfl _ _ gb808 gb809 32 44 #[.int .i64 t813, .int .i64 t814, .int .i64 t815, .int .i64 t816, .slice Ao14 t817.length co14] #[.slice Ao23 t822.length co23, .slice Ao25 t825.length co25, .slice Ao27 t828.length co27] (0, 0) (0, 0) _ _ rfl (by (with_reducible repeat (first | refine blk_drewN ?_ _ | refine blk_drew ?_ | refine blk_alloc ?_ _)); refine blk_far ?_ NB808_809.out _; (with_reducible repeat (first | refine blk_drewN ?_ _ | refine blk_drew ?_ | refine blk_alloc ?_ _)); refine blk_far ?_ NB808_809.out _; (with_reducible repeat (first | refine blk_drewN ?_ _ | refine blk_drew ?_ | refine blk_alloc ?_ _)); refine blk_far ?_ NB808_809.out _; (with_reducible repeat (first | refine blk_drewN ?_ _ | refine blk_drew ?_ | refine blk_alloc ?_ _)); refine blk_put (cs := #[.int .i64 t813, .int .i64 t814, .int .i64 t815, .int .i64 t816, .slice none 0 0]) ?_ 4 _ rfl; (with_reducible repeat (first | refine blk_drewN ?_ _ | refine blk_drew ?_ | refine blk_alloc ?_ _)); refine blk_put (cs := #[.int .i64 t813, .int .i64 t814, .int .i64 t815, .int .i64 0, .slice none 0 0]) ?_ 3 _ rfl; (with_reducible repeat (first | refine blk_drewN ?_ _ | refine blk_drew ?_ | refine blk_alloc ?_ _)); refine blk_put (cs := #[.int .i64 t813, .int .i64 t814, .int .i64 0, .int .i64 0, .slice none 0 0]) ?_ 2 _ rfl; (with_reducible repeat (first | refine blk_drewN ?_ _ | refine blk_drew ?_ | refine blk_alloc ?_ _)); refine blk_put (cs := #[.int .i64 t813, .int .i64 0, .int .i64 0, .int .i64 0, .slice none 0 0]) ?_ 1 _ rfl; (with_reducible repeat (first | refine blk_drewN ?_ _ | refine blk_drew ?_ | refine blk_alloc ?_ _)); refine blk_put (cs := #[.int .i64 0, .int .i64 0, .int .i64 0, .int .i64 0, .slice none 0 0]) ?_ 0 _ rfl; (with_reducible repeat (first | refine blk_drewN ?_ _ | refine blk_drew ?_ | refine blk_alloc ?_ _)); exact BK808.out) Try.underlying32 rfl (by kernel_rfl) rfl (by (with_reducible repeat (first | refine blk_drewN ?_ _ | refine blk_drew ?_ | refine blk_alloc ?_ _)); refine blk_put (cs := #[.slice Ao23 t822.length co23, .slice Ao25 t825.length co25, .slice none 0 0]) ?_ 2 _ rfl; (with_reducible repeat (first | refine blk_drewN ?_ _ | refine blk_drew ?_ | refine blk_alloc ?_ _)); refine blk_put (cs := #[.slice Ao23 t822.length co23, .slice none 0 0, .slice none 0 0]) ?_ 1 _ rfl; (with_reducible repeat (first | refine blk_drewN ?_ _ | refine blk_drew ?_ | refine blk_alloc ?_ _)); refine blk_put (cs := #[.slice none 0 0, .slice none 0 0, .slice none 0 0]) ?_ 0 _ rfl; (with_reducible repeat (first | refine blk_drewN ?_ _ | refine blk_drew ?_ | refine blk_alloc ?_ _)); refine blk_far ?_ NB809_808.out _; (with_reducible repeat (first | refine blk_drewN ?_ _ | refine blk_drew ?_ | refine blk_alloc ?_ _)); refine blk_far ?_ NB809_808.out _; (with_reducible repeat (first | refine blk_drewN ?_ _ | refine blk_drew ?_ | refine blk_alloc ?_ _)); refine blk_far ?_ NB809_808.out _; (with_reducible repeat (first | refine blk_drewN ?_ _ | refine blk_drew ?_ | refine blk_alloc ?_ _)); refine blk_far ?_ NB809_808.out _; (with_reducible repeat (first | refine blk_drewN ?_ _ | refine blk_drew ?_ | refine blk_alloc ?_ _)); refine blk_far ?_ NB809_808.out _; (with_reducible repeat (first | refine blk_drewN ?_ _ | refine blk_drew ?_ | refine blk_alloc ?_ _)); exact BK809.out) Try.underlying44 rfl (by kernel_rfl)) rfl ?_
 exact ⟨_, _, _, _, rfx, by (with_reducible repeat (first | apply Kd.N_alloc | apply Kd.N_drewN | apply Kd.N_drew)); exact Kd.N_mono (Kd.N_far (p := ⟨gb809, 2, none⟩) (Kd.N_far (p := ⟨gb809, 1, none⟩) (Kd.N_far (p := ⟨gb809, 0, none⟩) (Kd.N_far (p := ⟨gb808, 4, none⟩) (Kd.N_far (p := ⟨gb808, 3, none⟩) (Kd.N_far (p := ⟨gb808, 2, none⟩) (Kd.N_far (p := ⟨gb808, 1, none⟩) (Kd.N_far (p := ⟨gb808, 0, none⟩) (Kd.N_mono (Kd.N_mono HO819.out (fun k_ hk => (⟨hk, hk.1.1.1.2.1⟩ : _ ∧ k_ ≠ gb808))) (fun k_ hk => (⟨hk, hk.1.1.1.1.2.2.1⟩ : _ ∧ k_ ≠ gb809))) (fun _ hk => hk.1.2) (.int .i64 t813)) (fun _ hk => hk.1.2) (.int .i64 t814)) (fun _ hk => hk.1.2) (.int .i64 t815)) (fun _ hk => hk.1.2) (.int .i64 t816)) (fun _ hk => hk.1.2) (.slice Ao14 t817.length co14)) (fun _ hk => hk.2) (.slice Ao23 t822.length co23)) (fun _ hk => hk.2) (.slice Ao25 t825.length co25)) (fun _ hk => hk.2) (.slice Ao27 t828.length co27)) (fun _ hk => ⟨hk.1.1.1.1.1.1, ⟨hk.1.1.1.1.2, ⟨hk.1.1.1.2, hk.1.1.2⟩⟩⟩), by (with_reducible repeat (first | apply Kd.R_alloc | apply Kd.R_drewN | apply Kd.R_drew)); exact Kd.R_mono (Kd.R_far (p := ⟨gb809, 2, none⟩) (Kd.R_far (p := ⟨gb809, 1, none⟩) (Kd.R_far (p := ⟨gb809, 0, none⟩) (Kd.R_far (p := ⟨gb808, 4, none⟩) (Kd.R_far (p := ⟨gb808, 3, none⟩) (Kd.R_far (p := ⟨gb808, 2, none⟩) (Kd.R_far (p := ⟨gb808, 1, none⟩) (Kd.R_far (p := ⟨gb808, 0, none⟩) (Kd.R_types (Kd.R_types HO824.out BK808.out (by decide)) BK809.out (by decide)) (fun _ hk => hk.1.2) (.int .i64 t813)) (fun _ hk => hk.1.2) (.int .i64 t814)) (fun _ hk => hk.1.2) (.int .i64 t815)) (fun _ hk => hk.1.2) (.int .i64 t816)) (fun _ hk => hk.1.2) (.slice Ao14 t817.length co14)) (fun _ hk => hk.2) (.slice Ao23 t822.length co23)) (fun _ hk => hk.2) (.slice Ao25 t825.length co25)) (fun _ hk => hk.2) (.slice Ao27 t828.length co27)) (fun _ hk => ⟨hk.1.1.1, ⟨hk.1.1.2.1, hk.1.1.2.2⟩⟩), by (with_reducible repeat (first | apply Kd.R_alloc | apply Kd.R_drewN | apply Kd.R_drew)); exact Kd.R_mono (Kd.R_far (p := ⟨gb809, 2, none⟩) (Kd.R_far (p := ⟨gb809, 1, none⟩) (Kd.R_far (p := ⟨gb809, 0, none⟩) (Kd.R_far (p := ⟨gb808, 4, none⟩) (Kd.R_far (p := ⟨gb808, 3, none⟩) (Kd.R_far (p := ⟨gb808, 2, none⟩) (Kd.R_far (p := ⟨gb808, 1, none⟩) (Kd.R_far (p := ⟨gb808, 0, none⟩) (Kd.R_types (Kd.R_types HO827.out BK808.out (by decide)) BK809.out (by decide)) (fun _ hk => hk.1.2) (.int .i64 t813)) (fun _ hk => hk.1.2) (.int .i64 t814)) (fun _ hk => hk.1.2) (.int .i64 t815)) (fun _ hk => hk.1.2) (.int .i64 t816)) (fun _ hk => hk.1.2) (.slice Ao14 t817.length co14)) (fun _ hk => hk.2) (.slice Ao23 t822.length co23)) (fun _ hk => hk.2) (.slice Ao25 t825.length co25)) (fun _ hk => hk.2) (.slice Ao27 t828.length co27)) (fun _ hk => ⟨hk.1.1.1, ⟨hk.1.1.2.1, hk.1.1.2.2⟩⟩), by (with_reducible repeat (first | apply Kd.R_alloc | apply Kd.R_drewN | apply Kd.R_drew)); exact Kd.R_mono (Kd.R_far (p := ⟨gb809, 2, none⟩) (Kd.R_far (p := ⟨gb809, 1, none⟩) (Kd.R_far (p := ⟨gb809, 0, none⟩) (Kd.R_far (p := ⟨gb808, 4, none⟩) (Kd.R_far (p := ⟨gb808, 3, none⟩) (Kd.R_far (p := ⟨gb808, 2, none⟩) (Kd.R_far (p := ⟨gb808, 1, none⟩) (Kd.R_far (p := ⟨gb808, 0, none⟩) (Kd.R_types (Kd.R_types HO830.out BK808.out (by decide)) BK809.out (by decide)) (fun _ hk => hk.1.2) (.int .i64 t813)) (fun _ hk => hk.1.2) (.int .i64 t814)) (fun _ hk => hk.1.2) (.int .i64 t815)) (fun _ hk => hk.1.2) (.int .i64 t816)) (fun _ hk => hk.1.2) (.slice Ao14 t817.length co14)) (fun _ hk => hk.2) (.slice Ao23 t822.length co23)) (fun _ hk => hk.2) (.slice Ao25 t825.length co25)) (fun _ hk => hk.2) (.slice Ao27 t828.length co27)) (fun _ hk => ⟨hk.1.1.1, ⟨hk.1.1.2.1, hk.1.1.2.2⟩⟩), mB132HI812 HB.out⟩

/-! ### impl_NumIs: function 40 -/
def impl_NumIs.f (a0 : Bool) : Option (Int) := if a0 = true then (some 1) else (some 0)
set_option maxHeartbeats 8000000 in
set_option maxRecDepth 100000 in
theorem impl_NumIs.calls (a0 : Bool) (r : Int) (w : World) (h : impl_NumIs.f a0 = some r) :
  Calls Try.prog 40 #[.bool a0] w fun e w' => e = .returned (.int .i64 r) ∧ Drawn0 w w' := by
 have H : (if a0 = true then (some 1) else (some 0)) = some r := h
 clear h
 by_cases c2 : a0 = true
 ·subst c2
  have H1 : (some 1) = some r := by rw [if_pos rfl] at H; exact H
  clear H
  have H := H1
  clear H1
  obtain rfl := Option.some.inj H
  go_enter Try.func40, Try.ntmps40
  go_wp2
  go_ret
  exact ⟨by first | rfl | (simp; done) | (simp [*]; done), by repeat (first | exact Drawn0.refl _ | apply Drawn0.step)⟩
 ·replace c2 := Bool.eq_false_iff.mpr c2
  subst c2
  have H1 : (some 0) = some r := by rw [if_neg (show ¬ (false = true) by decide)] at H; exact H
  clear H
  have H := H1
  clear H1
  obtain rfl := Option.some.inj H
  go_enter Try.func40, Try.ntmps40
  go_wp2
  go_ret
  exact ⟨by first | rfl | (simp; done) | (simp [*]; done), by repeat (first | exact Drawn0.refl _ | apply Drawn0.step)⟩

/-! ### impl_NumOn: function 41 -/
def impl_NumOn.f (a0 : Int) : Option (Bool) := some (a0 != 0)
set_option maxHeartbeats 8000000 in
set_option maxRecDepth 100000 in
theorem impl_NumOn.calls (a0 : Int) (r : Bool) (w : World) (h : impl_NumOn.f a0 = some r) :
  Calls Try.prog 41 #[.int .i64 a0] w fun e w' => e = .returned (.bool r) ∧ Drawn0 w w' := by
 have H : (some (a0 != 0)) = some r := h
 clear h
 obtain rfl := Option.some.inj H
 go_enter Try.func41, Try.ntmps41
 go_wp2
 go_ret
 exact ⟨by first | rfl | (simp; done) | (simp [*]; done), by repeat (first | exact Drawn0.refl _ | apply Drawn0.step)⟩

/-! ### impl_NumCut: function 42 -/
def impl_NumCut.f (a0 : Int) : Option (Int) := some (mn (mx a0 (-1000000)) 1000000)
set_option maxHeartbeats 8000000 in
set_option maxRecDepth 100000 in
theorem impl_NumCut.calls (a0 : Int) (r : Int) (w : World) (h : impl_NumCut.f a0 = some r) :
  Calls Try.prog 42 #[.int .i64 a0] w fun e w' => e = .returned (.int .i64 r) ∧ Below w.heap.size w w' := by
 have HB := z0 (Below.refl w.heap.size w)
 have H : (some (mn (mx a0 (-1000000)) 1000000)) = some r := h
 clear h
 obtain ⟨ji2, hji2⟩ : ∃ j_ : Int, (mx a0 (-1000000)) = j_ := ⟨_, rfl⟩
 replace H : (some (mn (ji2) 1000000)) = some r := by first | (rw [hji2] at H; exact H) | (simp only [hji2] at H ⊢; exact H)
 have hji2_ : (if a0 < (-1000000) then (-1000000) else a0) = ji2 := hji2
 obtain ⟨ji3, hji3⟩ : ∃ j_ : Int, (mn (ji2) 1000000) = j_ := ⟨_, rfl⟩
 replace H : (some ji3) = some r := by first | (rw [hji3] at H; exact H) | (simp only [hji3] at H ⊢; exact H)
 have hji3_ : (if 1000000 < (ji2) then 1000000 else (ji2)) = ji3 := hji3
 obtain rfl := Option.some.inj H
 go_enter Try.func42, Try.ntmps42
 go_wp2
 go_ret
 exact ⟨by first | rfl | (simp [errW_none, errW_some] <;> rfl) | (simp only [← hji2, ← hji3]; first | rfl | (simp [errW_none, errW_some] <;> rfl)) | (simp [*, errW_none, errW_some] <;> rfl), mB HB.out⟩

/-! ### impl_maker_of: function 80 -/
def impl_maker_of.f (a0 : Int) (a1 : Int) (a2 : Int) : Option (Int) := (impl_NumCut.f a1).bind fun t1148 => ((impl_NumCut.f a2).bind fun t1149 => (if a0 = 0 then ((impl_NumCut.f (wrap64 (t1148 + t1149))).bind fun t1150 => (some t1150)) else (if a0 = 1 then ((impl_NumCut.f (wrap64 (t1148 - t1149))).bind fun t1151 => (some t1151)) else ((impl_NumCut.f (wrap64 (t1148 * t1149))).bind fun t1152 => (some t1152)))))
set_option maxHeartbeats 8000000 in
set_option maxRecDepth 100000 in
theorem impl_maker_of.calls (a0 : Int) (a1 : Int) (a2 : Int) (r : Int) (w : World) (h : impl_maker_of.f a0 a1 a2 = some r) :
  Calls Try.prog 80 #[.int .i64 a0, .int .i64 a1, .int .i64 a2] w fun e w' => e = .returned (.int .i64 r) ∧ Below w.heap.size w w' := by
 have HB := z0 (Below.refl w.heap.size w)
 have H : ((impl_NumCut.f a1).bind fun t1148 => ((impl_NumCut.f a2).bind fun t1149 => (if a0 = 0 then ((impl_NumCut.f (wrap64 (t1148 + t1149))).bind fun t1150 => (some t1150)) else (if a0 = 1 then ((impl_NumCut.f (wrap64 (t1148 - t1149))).bind fun t1151 => (some t1151)) else ((impl_NumCut.f (wrap64 (t1148 * t1149))).bind fun t1152 => (some t1152)))))) = some r := h
 clear h
 replace H := Option.bind_eq_some_iff.mp H
 obtain ⟨t1148, A40, H⟩ := H
 try dsimp only at H
 have A4 := z0 A40
 clear A40
 replace H := Option.bind_eq_some_iff.mp H
 obtain ⟨t1149, A50, H⟩ := H
 try dsimp only at H
 have A5 := z0 A50
 clear A50
 have HF6 := z0 H
 clear H
 go_enter Try.func80, Try.ntmps80
 go_upto_if 12 with (first | ((with_reducible refine gate_callee (f := 42) rfl ?_); refine goesL_ (some 8) rfl rfl Try.func42 (by kernel_rfl) rfl #[.int .i64 a1] rfl argx ?_; (with_reducible refine (impl_NumCut.calls a1 t1148 _ A4.out).mono ?_); rintro e w7 ⟨rfl, hb⟩; refine ⟨_, rfl, ?_⟩; have n0_ := z0 (below_step (mB HB.out) hb); clear HB; have HB := n0_; clear n0_; (try clear hb); (try clear hb2); (try clear hk); (try clear hi)) | ((with_reducible refine gate_callee (f := 42) rfl ?_); refine goesL_ (some 10) rfl rfl Try.func42 (by kernel_rfl) rfl #[.int .i64 a2] rfl argx ?_; (with_reducible refine (impl_NumCut.calls a2 t1149 _ A5.out).mono ?_); rintro e w8 ⟨rfl, hb⟩; refine ⟨_, rfl, ?_⟩; have n0_ := z0 (below_step (mB HB.out) hb); clear HB; have HB := n0_; clear n0_; (try clear hb); (try clear hb2); (try clear hk); (try clear hi)))
 (try simp only [Act.put, List.setIfInBounds_toArray, List.set_cons_zero, List.set_cons_succ])
 have H := HF6.out
 clear HF6
 skip
 by_cases c9 : a0 = 0
 ·rw [if_pos c9] at H
  have c9b0 : (a0 == 0) = true := beq_iff_eq.mpr c9
  have c9b1 : (a0 != 0) = false := bne_eq_false_iff_eq.mpr c9
  clear c9
  (first | rw [c9b0] | (simp only [i64_w, i32_w]; rw [c9b0]) | skip)
  replace H := Option.bind_eq_some_iff.mp H
  obtain ⟨t1150, A100, H⟩ := H
  try dsimp only at H
  have A10 := z0 A100
  clear A100
  obtain rfl := Option.some.inj H
  go_wp2_with (first | ((with_reducible refine gate_callee (f := 42) rfl ?_); refine goesL_ (some 17) rfl rfl Try.func42 (by kernel_rfl) rfl #[.int .i64 (wrap64 (t1148 + t1149))] rfl argx ?_; (with_reducible refine (impl_NumCut.calls (wrap64 (t1148 + t1149)) t1150 _ A10.out).mono ?_); rintro e w11 ⟨rfl, hb⟩; refine ⟨_, rfl, ?_⟩; have n0_ := z0 (below_step (mB HB.out) hb); clear HB; have HB := n0_; clear n0_; (try clear hb); (try clear hb2); (try clear hk); (try clear hi)))
  go_ret
  exact ⟨rfx, mB HB.out⟩
 ·rw [if_neg c9] at H
  have c9b0 : (a0 == 0) = false := beq_eq_false_iff_ne.mpr c9
  have c9b1 : (a0 != 0) = true := bne_iff_ne.mpr c9
  (first | rw [c9b0] | (simp only [i64_w, i32_w]; rw [c9b0]) | skip)
  by_cases c12 : a0 = 1
  ·rw [if_pos c12] at H
   have c12b0 : (a0 == 1) = true := beq_iff_eq.mpr c12
   have c12b1 : (a0 != 1) = false := bne_eq_false_iff_eq.mpr c12
   clear c12
   replace H := Option.bind_eq_some_iff.mp H
   obtain ⟨t1151, A130, H⟩ := H
   try dsimp only at H
   have A13 := z0 A130
   clear A130
   obtain rfl := Option.some.inj H
   go_wp2_with (first | ((with_reducible refine gate_callee (f := 42) rfl ?_); refine goesL_ (some 23) rfl rfl Try.func42 (by kernel_rfl) rfl #[.int .i64 (wrap64 (t1148 - t1149))] rfl argx ?_; (with_reducible refine (impl_NumCut.calls (wrap64 (t1148 - t1149)) t1151 _ A13.out).mono ?_); rintro e w14 ⟨rfl, hb⟩; refine ⟨_, rfl, ?_⟩; have n0_ := z0 (below_step (mB HB.out) hb); clear HB; have HB := n0_; clear n0_; (try clear hb); (try clear hb2); (try clear hk); (try clear hi)))
   go_ret
   exact ⟨rfx, mB HB.out⟩
  ·rw [if_neg c12] at H
   have c12b0 : (a0 == 1) = false := beq_eq_false_iff_ne.mpr c12
   have c12b1 : (a0 != 1) = true := bne_iff_ne.mpr c12
   replace H := Option.bind_eq_some_iff.mp H
   obtain ⟨t1152, A150, H⟩ := H
   try dsimp only at H
   have A15 := z0 A150
   clear A150
   obtain rfl := Option.some.inj H
   go_wp2_with (first | ((with_reducible refine gate_callee (f := 42) rfl ?_); refine goesL_ (some 27) rfl rfl Try.func42 (by kernel_rfl) rfl #[.int .i64 (wrap64 (t1148 * t1149))] rfl argx ?_; (with_reducible refine (impl_NumCut.calls (wrap64 (t1148 * t1149)) t1152 _ A15.out).mono ?_); rintro e w16 ⟨rfl, hb⟩; refine ⟨_, rfl, ?_⟩; have n0_ := z0 (below_step (mB HB.out) hb); clear HB; have HB := n0_; clear n0_; (try clear hb); (try clear hb2); (try clear hk); (try clear hi)))
   go_ret
   exact ⟨rfx, mB HB.out⟩

/-! ### impl_NumAdd: function 44 -/
def impl_NumAdd.f (a0 : Int) (a1 : Int) : Option (Int) := (impl_maker_of.f 0 a0 a1).bind fun t1153 => (some t1153)
set_option maxHeartbeats 8000000 in
set_option maxRecDepth 100000 in
theorem impl_NumAdd.calls (a0 : Int) (a1 : Int) (r : Int) (w : World) (h : impl_NumAdd.f a0 a1 = some r) :
  Calls Try.prog 44 #[.int .i64 a0, .int .i64 a1] w fun e w' => e = .returned (.int .i64 r) ∧ Below w.heap.size w w' := by
 have HB := z0 (Below.refl w.heap.size w)
 have H : ((impl_maker_of.f 0 a0 a1).bind fun t1153 => (some t1153)) = some r := h
 clear h
 replace H := Option.bind_eq_some_iff.mp H
 obtain ⟨t1153, A30, H⟩ := H
 try dsimp only at H
 have A3 := z0 A30
 clear A30
 obtain rfl := Option.some.inj H
 go_enter Try.func44, Try.ntmps44
 go_wp2_with (first | ((with_reducible refine gate_callee (f := 80) rfl ?_); refine goesL_ (some 7) rfl rfl Try.func80 (by kernel_rfl) rfl #[.int .i64 0, .int .i64 a0, .int .i64 a1] rfl argx ?_; (with_reducible refine (impl_maker_of.calls 0 a0 a1 t1153 _ A3.out).mono ?_); rintro e w4 ⟨rfl, hb⟩; refine ⟨_, rfl, ?_⟩; have n0_ := z0 (below_step (mB HB.out) hb); clear HB; have HB := n0_; clear n0_; (try clear hb); (try clear hb2); (try clear hk); (try clear hi)))
 go_ret
 exact ⟨rfx, mB HB.out⟩

/-! ### impl_NumSub: function 45 -/
def impl_NumSub.f (a0 : Int) (a1 : Int) : Option (Int) := (impl_maker_of.f 1 a0 a1).bind fun t1154 => (some t1154)
set_option maxHeartbeats 8000000 in
set_option maxRecDepth 100000 in
theorem impl_NumSub.calls (a0 : Int) (a1 : Int) (r : Int) (w : World) (h : impl_NumSub.f a0 a1 = some r) :
  Calls Try.prog 45 #[.int .i64 a0, .int .i64 a1] w fun e w' => e = .returned (.int .i64 r) ∧ Below w.heap.size w w' := by
 have HB := z0 (Below.refl w.heap.size w)
 have H : ((impl_maker_of.f 1 a0 a1).bind fun t1154 => (some t1154)) = some r := h
 clear h
 replace H := Option.bind_eq_some_iff.mp H
 obtain ⟨t1154, A30, H⟩ := H
 try dsimp only at H
 have A3 := z0 A30
 clear A30
 obtain rfl := Option.some.inj H
 go_enter Try.func45, Try.ntmps45
 go_wp2_with (first | ((with_reducible refine gate_callee (f := 80) rfl ?_); refine goesL_ (some 7) rfl rfl Try.func80 (by kernel_rfl) rfl #[.int .i64 1, .int .i64 a0, .int .i64 a1] rfl argx ?_; (with_reducible refine (impl_maker_of.calls 1 a0 a1 t1154 _ A3.out).mono ?_); rintro e w4 ⟨rfl, hb⟩; refine ⟨_, rfl, ?_⟩; have n0_ := z0 (below_step (mB HB.out) hb); clear HB; have HB := n0_; clear n0_; (try clear hb); (try clear hb2); (try clear hk); (try clear hi)))
 go_ret
 exact ⟨rfx, mB HB.out⟩

/-! ### impl_NumMul: function 46 -/
def impl_NumMul.f (a0 : Int) (a1 : Int) : Option (Int) := (impl_maker_of.f 2 a0 a1).bind fun t1155 => (some t1155)
set_option maxHeartbeats 8000000 in
set_option maxRecDepth 100000 in
theorem impl_NumMul.calls (a0 : Int) (a1 : Int) (r : Int) (w : World) (h : impl_NumMul.f a0 a1 = some r) :
  Calls Try.prog 46 #[.int .i64 a0, .int .i64 a1] w fun e w' => e = .returned (.int .i64 r) ∧ Below w.heap.size w w' := by
 have HB := z0 (Below.refl w.heap.size w)
 have H : ((impl_maker_of.f 2 a0 a1).bind fun t1155 => (some t1155)) = some r := h
 clear h
 replace H := Option.bind_eq_some_iff.mp H
 obtain ⟨t1155, A30, H⟩ := H
 try dsimp only at H
 have A3 := z0 A30
 clear A30
 obtain rfl := Option.some.inj H
 go_enter Try.func46, Try.ntmps46
 go_wp2_with (first | ((with_reducible refine gate_callee (f := 80) rfl ?_); refine goesL_ (some 7) rfl rfl Try.func80 (by kernel_rfl) rfl #[.int .i64 2, .int .i64 a0, .int .i64 a1] rfl argx ?_; (with_reducible refine (impl_maker_of.calls 2 a0 a1 t1155 _ A3.out).mono ?_); rintro e w4 ⟨rfl, hb⟩; refine ⟨_, rfl, ?_⟩; have n0_ := z0 (below_step (mB HB.out) hb); clear HB; have HB := n0_; clear n0_; (try clear hb); (try clear hb2); (try clear hk); (try clear hi)))
 go_ret
 exact ⟨rfx, mB HB.out⟩

end Go.Proofs.Ytiofkhfmdophpaa.B
