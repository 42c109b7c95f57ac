/- Printed functions of this seat, in one text. -/
import Derived.Test.YtacbbpbopmdpeaaB0
import Derived.Test.YtacbbpbopmdpeaaSq
import Derived.Test.YtacbbpbopmdpeaaPkA
namespace Go.Proofs.Ytacbbpbopmdpeaa.B
open Go.RowKit Go.Proofs.YtacbbpbopmdpeaaW.PrintWords Go.Proofs.YtacbbpbopmdpeaaW.PrintLast Go.Proofs.YtacbbpbopmdpeaaW.PrintMore
attribute [local go_sem] max2_int min2_int max_two min_two max_three min_three max_four min_four   -- for this text's walks alone
set_option linter.unusedVariables false
set_option linter.unusedSimpArgs false

/-! ### spec_MemOpen: function 50 -/
def spec_MemOpen.f  : Option (List Int × List Int × List Int) := if 6 ≤ 35184372088832 then (some ((List.replicate 6 0), (List.replicate 6 0), (List.replicate 6 0))) else (none)
theorem q50_1 {p : Prop} (h : p := by first | (simp only [putAll, Act.put, List.setIfInBounds_toArray, List.set_cons_zero, List.set_cons_succ]; done) | (simp only [putAll, Act.put, List.setIfInBounds_toArray, List.set_cons_zero, List.set_cons_succ]; rfl)) : p := h
theorem q50_2 {p : Prop} (h : p := by (with_reducible repeat (first | apply Kd.R_alloc | apply Kd.R_drewN | apply Kd.R_drew)); exact Kd.R_mono HO254.out (fun _ hk => hk.2)) : p := h
theorem q50_3 {p : Prop} (h : p := by (with_reducible repeat (first | apply Kd.R_alloc | apply Kd.R_drewN | apply Kd.R_drew)); exact Kd.R_mono HO260.out (fun _ hk => hk.2)) : p := h
theorem q50_4 {p : Prop} (h : p := by (with_reducible repeat (first | apply Kd.R_alloc | apply Kd.R_drewN | apply Kd.R_drew)); exact Kd.R_mono HO257.out (fun _ hk => hk.2)) : p := h
set_option maxHeartbeats 8000000 in
set_option maxRecDepth 100000 in
theorem spec_MemOpen.calls  (r1 : List Int) (r2 : List Int) (r3 : List Int) (w : World) (h : spec_MemOpen.f  = some (r1, r2, r3)) :
  Calls Try.prog 50 #[] w fun e w' => ∃ v0_ v1_ v2_ : Value, e = .returned (.agg #[v0_, v1_, v2_]) ∧ Kd.R (Kd.int .i64) 3 w' w.heap.size (fun k_ => nB k_ v1_ ∧ nB k_ v2_) v0_ r1 ∧ Kd.R (Kd.int .i64) 3 w' w.heap.size (fun k_ => nB k_ v0_ ∧ nB k_ v2_) v1_ r2 ∧ Kd.R (Kd.int .i64) 3 w' w.heap.size (fun k_ => nB k_ v0_ ∧ nB k_ v1_) v2_ r3 ∧ Below w.heap.size w w' := by
 have hu30 := Try.underlying30
 have HB := z0 (Below.refl w.heap.size w)
 have H : (if 6 ≤ 35184372088832 then (some ((List.replicate 6 0), (List.replicate 6 0), (List.replicate 6 0))) else (none)) = some (r1, r2, r3) := h
 clear h
 by_cases c1 : 6 ≤ 35184372088832
 ·rw [if_pos c1] at H
  have c1b0 := eq_true c1
  have c1b1 : decide (6 ≤ 35184372088832) = true := decide_eq_true c1
  clear c1
  obtain ⟨y252, hy252⟩ : ∃ y_ : List Int, y_ = (List.replicate 6 0) := ⟨_, rfl⟩
  replace H : (some (y252, (List.replicate 6 0), (List.replicate 6 0))) = some (r1, r2, r3) := by first | (rw [hy252]; with_reducible exact H) | (have H2_ := (Option.bind_some _ _).symm.trans H; rw [hy252]; with_reducible exact H2_) | (have H2_ := (Option.bind_some _ _).symm.trans H; with_reducible exact H2_) | with_reducible exact H | (rw [hy252]; exact H) | exact H
  have Ny252 := z0 hy252
  clear hy252
  obtain ⟨y255, hy255⟩ : ∃ y_ : List Int, y_ = (List.replicate 6 0) := ⟨_, rfl⟩
  replace H : (some (y252, y255, (List.replicate 6 0))) = some (r1, r2, r3) := by first | (rw [hy255]; with_reducible exact H) | (have H2_ := (Option.bind_some _ _).symm.trans H; rw [hy255]; with_reducible exact H2_) | (have H2_ := (Option.bind_some _ _).symm.trans H; with_reducible exact H2_) | with_reducible exact H | (rw [hy255]; exact H) | exact H
  have Ny255 := z0 hy255
  clear hy255
  obtain ⟨y258, hy258⟩ : ∃ y_ : List Int, y_ = (List.replicate 6 0) := ⟨_, rfl⟩
  replace H : (some (y252, y255, y258)) = some (r1, r2, r3) := by first | (rw [hy258]; with_reducible exact H) | (have H2_ := (Option.bind_some _ _).symm.trans H; rw [hy258]; with_reducible exact H2_) | (have H2_ := (Option.bind_some _ _).symm.trans H; with_reducible exact H2_) | with_reducible exact H | (rw [hy258]; exact H) | exact H
  have Ny258 := z0 hy258
  clear hy258
  simp only [Option.some.injEq, Prod.mk.injEq] at H
  obtain ⟨rfl, rfl, rfl⟩ := H
  go_enter Try.func50, Try.ntmps50
  try go_wp2_with (first | ((with_reducible refine gate_dst (N := 0) rfl ?_); refine box_event ?hg (N := 0) ?hd (cs := #[.slice none 0 0, .slice none 0 0, .slice none 0 0]) (t := 30) ?hr ?_; (case hd => rfl); (case hg => rfl); (case hr => first | (go_simp; done) | (go_simp; rfl)); intro gb251 hg w2 hbox hb; have n_ := az (below_step (mB HB.out) hb) <| az (hbox) <| az ((by rw [hg]; exact (below_size (mB HB.out)) : w.heap.size ≤ gb251)) <| z0 ((by rw [hg]; exact (below_size (mB HB.out)) : w.heap.size ≤ gb251)); clear HB; obtain ⟨HB, BK251, GW251, GE251⟩ := n_; clear hb hbox hg))
  have n_ := az (blk_drew BK251.out) <| z0 (below_drew1 HB.out)
  clear BK251 HB
  obtain ⟨BK251, HB⟩ := n_
  refine start_ (n := 5) (S := fun w' => True) (ds := []) #[false, false, false, false, false] (by kernel_rfl) rfl rfl trivial (fun hHeld => ?_)
  generalize w2.drew = w3 at BK251 HB hHeld ⊢
  refine join_ (σ := Value × Value × Value) 2 #[true, true, true, false, false] (fun s_ => [(1, s_.1), (2, s_.2.1), (3, s_.2.2)]) (fun s_ w' => (Kd.R (Kd.int .i64) 3 w' w.heap.size (fun k_ => some k_ ≠ (s_.2.1 : Value).ownBlock ∧ some k_ ≠ (s_.2.2 : Value).ownBlock) s_.1 y252) ∧ (Kd.R (Kd.int .i64) 3 w' w.heap.size (fun k_ => some k_ ≠ (s_.1 : Value).ownBlock ∧ some k_ ≠ (s_.2.2 : Value).ownBlock) s_.2.1 y255) ∧ (Kd.R (Kd.int .i64) 3 w' w.heap.size (fun k_ => some k_ ≠ (s_.1 : Value).ownBlock ∧ some k_ ≠ (s_.2.1 : Value).ownBlock) s_.2.2 y258) ∧ (w'.heap[gb251]? = some (.cells #[.slice none 0 0, .slice none 0 0, .slice none 0 0] 30 (0, 0))) ∧ (Below w.heap.size w w')) ?_ ?_
  rotate_left
  ·intro hJ0_1_2
   refine join_ (σ := Value × Value) 3 #[true, true, false, false, false] (fun s_ => [(1, s_.1), (2, s_.2)]) (fun s_ w' => (Kd.R (Kd.int .i64) 3 w' w.heap.size (fun k_ => some k_ ≠ (s_.2 : Value).ownBlock) s_.1 y252) ∧ (Kd.R (Kd.int .i64) 3 w' w.heap.size (fun k_ => some k_ ≠ (s_.1 : Value).ownBlock) s_.2 y255) ∧ (w'.heap[gb251]? = some (.cells #[.slice none 0 0, .slice none 0 0, .slice none 0 0] 30 (0, 0))) ∧ (Below w.heap.size w w')) ?_ ?_
   rotate_left
   ·intro hJ0_1
    refine join_ (σ := Value × Value) 3 #[true, false, true, false, false] (fun s_ => [(1, s_.1), (3, s_.2)]) (fun s_ w' => (Kd.R (Kd.int .i64) 3 w' w.heap.size (fun k_ => some k_ ≠ (s_.2 : Value).ownBlock) s_.1 y252) ∧ (Kd.R (Kd.int .i64) 3 w' w.heap.size (fun k_ => some k_ ≠ (s_.1 : Value).ownBlock) s_.2 y258) ∧ (w'.heap[gb251]? = some (.cells #[.slice none 0 0, .slice none 0 0, .slice none 0 0] 30 (0, 0))) ∧ (Below w.heap.size w w')) ?_ ?_
    rotate_left
    ·intro hJ0_2
     refine join_ (σ := Value × Value) 3 #[false, true, true, false, false] (fun s_ => [(2, s_.1), (3, s_.2)]) (fun s_ w' => (Kd.R (Kd.int .i64) 3 w' w.heap.size (fun k_ => some k_ ≠ (s_.2 : Value).ownBlock) s_.1 y255) ∧ (Kd.R (Kd.int .i64) 3 w' w.heap.size (fun k_ => some k_ ≠ (s_.1 : Value).ownBlock) s_.2 y258) ∧ (w'.heap[gb251]? = some (.cells #[.slice none 0 0, .slice none 0 0, .slice none 0 0] 30 (0, 0))) ∧ (Below w.heap.size w w')) ?_ ?_
     rotate_left
     ·intro hJ1_2
      refine join_ (σ := Value) 4 #[true, false, false, false, false] (fun s_ => [(1, s_)]) (fun s_ w' => (Kd.R (Kd.int .i64) 3 w' w.heap.size (fun _ => True) s_ y252) ∧ (w'.heap[gb251]? = some (.cells #[.slice none 0 0, .slice none 0 0, .slice none 0 0] 30 (0, 0))) ∧ (Below w.heap.size w w')) ?_ ?_
      rotate_left
      ·intro hJ0
       refine join_ (σ := Value) 4 #[false, true, false, false, false] (fun s_ => [(2, s_)]) (fun s_ w' => (Kd.R (Kd.int .i64) 3 w' w.heap.size (fun _ => True) s_ y255) ∧ (w'.heap[gb251]? = some (.cells #[.slice none 0 0, .slice none 0 0, .slice none 0 0] 30 (0, 0))) ∧ (Below w.heap.size w w')) ?_ ?_
       rotate_left
       ·intro hJ1
        refine join_ (σ := Value) 4 #[false, false, true, false, false] (fun s_ => [(3, s_)]) (fun s_ w' => (Kd.R (Kd.int .i64) 3 w' w.heap.size (fun _ => True) s_ y258) ∧ (w'.heap[gb251]? = some (.cells #[.slice none 0 0, .slice none 0 0, .slice none 0 0] 30 (0, 0))) ∧ (Below w.heap.size w w')) ?_ ?_
        rotate_left
        ·intro hJ2
         refine three_ (i := 0) (j := 1) (k := 2) (Ni := some 1) (Nj := some 2) (Nk := some 3) #[true, false, false, false, false] #[false, true, false, false, false] #[false, false, true, false, false] rfl rfl rfl rfl rfl rfl (by kernel_rfl) (by decide) (by decide) (by decide) (fun K hK => ?_) (fun K hK => ?_) (fun K hK => ?_)
         ·skip
          refine Kd.R_make_step (Kd.int .i64) _ 3 (by rfl) (N := 1) rfl 28 _ _ rfl 6 rfl rfl Try.underlying28 (.int .i64 0) 8 info3 rfl (by decide) (by omega) 0 (ok := fun _ => True) (okp := fun _ => True) rfl (fun _ hk => hk) trivial (by omega) (by omega) (Below.refl _ _) (Nat.le_refl _) ?_
          intro v253 w4 ho5 hb hg_ hnew_
          clear hg_ hnew_
          (first | rw [← Ny252.out] at ho5 | (simp only [Int.reduceToNat] at ho5; rw [← Ny252.out] at ho5))
          have n_ := az (Kd.R_lower ho5 (below_size (mB HB.out))) <| az (bB BK251.out hb) <| z0 (below_step (mB HB.out) hb)
          clear BK251 HB
          obtain ⟨HO254, BK251, HB⟩ := n_
          clear hb ho5
          refine hK.out _ _ trivial (fun hHeld => ?_)
          clear hK K
          refine norm_ (a' := ?_) ?_ ?_
          rotate_left
          ·show Act.put _ (some 1) _ = _
           simp only [Act.put, List.setIfInBounds_toArray, List.set_cons_zero, List.set_cons_succ, i64_w, i32_w]
           rfl
          exact norm_ q50_1 (hJ0 (v253) _ ⟨(mR HO254.out), (mK BK251.out), (mB HB.out)⟩)
         ·skip
          refine Kd.R_make_step (Kd.int .i64) _ 3 (by rfl) (N := 2) rfl 28 _ _ rfl 6 rfl rfl Try.underlying28 (.int .i64 0) 8 info3 rfl (by decide) (by omega) 0 (ok := fun _ => True) (okp := fun _ => True) rfl (fun _ hk => hk) trivial (by omega) (by omega) (Below.refl _ _) (Nat.le_refl _) ?_
          intro v256 w4 ho5 hb hg_ hnew_
          clear hg_ hnew_
          (first | rw [← Ny255.out] at ho5 | (simp only [Int.reduceToNat] at ho5; rw [← Ny255.out] at ho5))
          have n_ := az (Kd.R_lower ho5 (below_size (mB HB.out))) <| az (bB BK251.out hb) <| z0 (below_step (mB HB.out) hb)
          clear BK251 HB
          obtain ⟨HO257, BK251, HB⟩ := n_
          clear hb ho5
          refine hK.out _ _ trivial (fun hHeld => ?_)
          clear hK K
          refine norm_ (a' := ?_) ?_ ?_
          rotate_left
          ·show Act.put _ (some 2) _ = _
           simp only [Act.put, List.setIfInBounds_toArray, List.set_cons_zero, List.set_cons_succ, i64_w, i32_w]
           rfl
          exact norm_ q50_1 (hJ1 (v256) _ ⟨(mR HO257.out), (mK BK251.out), (mB HB.out)⟩)
         ·skip
          refine Kd.R_make_step (Kd.int .i64) _ 3 (by rfl) (N := 3) rfl 28 _ _ rfl 6 rfl rfl Try.underlying28 (.int .i64 0) 8 info3 rfl (by decide) (by omega) 0 (ok := fun _ => True) (okp := fun _ => True) rfl (fun _ hk => hk) trivial (by omega) (by omega) (Below.refl _ _) (Nat.le_refl _) ?_
          intro v259 w4 ho5 hb hg_ hnew_
          clear hg_ hnew_
          (first | rw [← Ny258.out] at ho5 | (simp only [Int.reduceToNat] at ho5; rw [← Ny258.out] at ho5))
          have n_ := az (Kd.R_lower ho5 (below_size (mB HB.out))) <| az (bB BK251.out hb) <| z0 (below_step (mB HB.out) hb)
          clear BK251 HB
          obtain ⟨HO260, BK251, HB⟩ := n_
          clear hb ho5
          refine hK.out _ _ trivial (fun hHeld => ?_)
          clear hK K
          refine norm_ (a' := ?_) ?_ ?_
          rotate_left
          ·show Act.put _ (some 3) _ = _
           simp only [Act.put, List.setIfInBounds_toArray, List.set_cons_zero, List.set_cons_succ, i64_w, i32_w]
           rfl
          exact norm_ q50_1 (hJ2 (v259) _ ⟨(mR HO260.out), (mK BK251.out), (mB HB.out)⟩)
        ·skip
         rintro v259 w6 ⟨h0_, h1_, h2_⟩
         have n0_ : Aside0 (Kd.R (Kd.int .i64) 3 w6 w.heap.size (fun _ => True) v259 y258) := ⟨h0_⟩
         have n1_ : Aside0 (w6.heap[gb251]? = some (.cells #[.slice none 0 0, .slice none 0 0, .slice none 0 0] 30 (0, 0))) := ⟨h1_⟩
         have n2_ : Aside0 (Below w.heap.size w w6) := ⟨h2_⟩
         clear BK251 HB h0_ h1_ h2_
         have HO260 := n0_
         have BK251 := n1_
         have HB := n2_
         clear n0_ n1_ n2_
         have hHeld := trivial
         refine norm_ (a' := ?_) ?_ ?_
         rotate_left
         ·simp only [putAll, Act.put, List.setIfInBounds_toArray, List.set_cons_zero, List.set_cons_succ]
          rfl
         refine two_ (i := 0) (j := 1) (Ni := some 1) (Nj := some 2) #[true, false, true, false, false] #[false, true, true, false, false] rfl rfl rfl rfl (by kernel_rfl) (by decide) (by decide) (fun K hK => ?_) (fun K hK => ?_)
         ·skip
          refine Kd.R_make_step (Kd.int .i64) _ 3 (by rfl) (N := 1) rfl 28 _ _ rfl 6 rfl rfl Try.underlying28 (.int .i64 0) 8 info3 rfl (by decide) (by omega) 0 (ok := fun _ => True) (okp := fun _ => True) rfl (fun _ hk => hk) trivial (by omega) (by omega) (Below.refl _ _) (Nat.le_refl _) ?_
          intro v253 w7 ho8 hb hg_ hnew_
          clear hg_ hnew_
          (first | rw [← Ny252.out] at ho8 | (simp only [Int.reduceToNat] at ho8; rw [← Ny252.out] at ho8))
          have n_ := az (Kd.R_elder' (mR HO260.out) (by first | exact Kd.R_base ho8 | exact Kd.R_base ho8) hb) <| And.intro (z0 (Kd.R_lower (Kd.R_new' ho8 (Kd.R_lt (mR HO260.out))) (below_size (mB HB.out)))) <| az (bB BK251.out hb) <| z0 (below_step (mB HB.out) hb)
          clear HO260 BK251 HB
          obtain ⟨HO260, HO254, BK251, HB⟩ := n_
          clear hb ho8
          refine hK.out _ _ trivial (fun hHeld => ?_)
          clear hK K
          refine norm_ (a' := ?_) ?_ ?_
          rotate_left
          ·show Act.put _ (some 1) _ = _
           simp only [Act.put, List.setIfInBounds_toArray, List.set_cons_zero, List.set_cons_succ, i64_w, i32_w]
           rfl
          exact norm_ q50_1 (hJ0_2 (v253, v259) _ ⟨q50_2, q50_3, (mK BK251.out), (mB HB.out)⟩)
         ·skip
          refine Kd.R_make_step (Kd.int .i64) _ 3 (by rfl) (N := 2) rfl 28 _ _ rfl 6 rfl rfl Try.underlying28 (.int .i64 0) 8 info3 rfl (by decide) (by omega) 0 (ok := fun _ => True) (okp := fun _ => True) rfl (fun _ hk => hk) trivial (by omega) (by omega) (Below.refl _ _) (Nat.le_refl _) ?_
          intro v256 w7 ho8 hb hg_ hnew_
          clear hg_ hnew_
          (first | rw [← Ny255.out] at ho8 | (simp only [Int.reduceToNat] at ho8; rw [← Ny255.out] at ho8))
          have n_ := az (Kd.R_elder' (mR HO260.out) (by first | exact Kd.R_base ho8 | exact Kd.R_base ho8) hb) <| And.intro (z0 (Kd.R_lower (Kd.R_new' ho8 (Kd.R_lt (mR HO260.out))) (below_size (mB HB.out)))) <| az (bB BK251.out hb) <| z0 (below_step (mB HB.out) hb)
          clear HO260 BK251 HB
          obtain ⟨HO260, HO257, BK251, HB⟩ := n_
          clear hb ho8
          refine hK.out _ _ trivial (fun hHeld => ?_)
          clear hK K
          refine norm_ (a' := ?_) ?_ ?_
          rotate_left
          ·show Act.put _ (some 2) _ = _
           simp only [Act.put, List.setIfInBounds_toArray, List.set_cons_zero, List.set_cons_succ, i64_w, i32_w]
           rfl
          exact norm_ q50_1 (hJ1_2 (v256, v259) _ ⟨q50_4, q50_3, (mK BK251.out), (mB HB.out)⟩)
       ·skip
        rintro v256 w6 ⟨h0_, h1_, h2_⟩
        have n0_ : Aside0 (Kd.R (Kd.int .i64) 3 w6 w.heap.size (fun _ => True) v256 y255) := ⟨h0_⟩
        have n1_ : Aside0 (w6.heap[gb251]? = some (.cells #[.slice none 0 0, .slice none 0 0, .slice none 0 0] 30 (0, 0))) := ⟨h1_⟩
        have n2_ : Aside0 (Below w.heap.size w w6) := ⟨h2_⟩
        clear BK251 HB h0_ h1_ h2_
        have HO257 := n0_
        have BK251 := n1_
        have HB := n2_
        clear n0_ n1_ n2_
        have hHeld := trivial
        refine norm_ (a' := ?_) ?_ ?_
        rotate_left
        ·simp only [putAll, Act.put, List.setIfInBounds_toArray, List.set_cons_zero, List.set_cons_succ]
         rfl
        refine two_ (i := 0) (j := 2) (Ni := some 1) (Nj := some 3) #[true, true, false, false, false] #[false, true, true, false, false] rfl rfl rfl rfl (by kernel_rfl) (by decide) (by decide) (fun K hK => ?_) (fun K hK => ?_)
        ·skip
         refine Kd.R_make_step (Kd.int .i64) _ 3 (by rfl) (N := 1) rfl 28 _ _ rfl 6 rfl rfl Try.underlying28 (.int .i64 0) 8 info3 rfl (by decide) (by omega) 0 (ok := fun _ => True) (okp := fun _ => True) rfl (fun _ hk => hk) trivial (by omega) (by omega) (Below.refl _ _) (Nat.le_refl _) ?_
         intro v253 w7 ho8 hb hg_ hnew_
         clear hg_ hnew_
         (first | rw [← Ny252.out] at ho8 | (simp only [Int.reduceToNat] at ho8; rw [← Ny252.out] at ho8))
         have n_ := az (Kd.R_elder' (mR HO257.out) (by first | exact Kd.R_base ho8 | exact Kd.R_base ho8) hb) <| And.intro (z0 (Kd.R_lower (Kd.R_new' ho8 (Kd.R_lt (mR HO257.out))) (below_size (mB HB.out)))) <| az (bB BK251.out hb) <| z0 (below_step (mB HB.out) hb)
         clear HO257 BK251 HB
         obtain ⟨HO257, HO254, BK251, HB⟩ := n_
         clear hb ho8
         refine hK.out _ _ trivial (fun hHeld => ?_)
         clear hK K
         refine norm_ (a' := ?_) ?_ ?_
         rotate_left
         ·show Act.put _ (some 1) _ = _
          simp only [Act.put, List.setIfInBounds_toArray, List.set_cons_zero, List.set_cons_succ, i64_w, i32_w]
          rfl
         exact norm_ q50_1 (hJ0_1 (v253, v256) _ ⟨q50_2, q50_4, (mK BK251.out), (mB HB.out)⟩)
        ·skip
         refine Kd.R_make_step (Kd.int .i64) _ 3 (by rfl) (N := 3) rfl 28 _ _ rfl 6 rfl rfl Try.underlying28 (.int .i64 0) 8 info3 rfl (by decide) (by omega) 0 (ok := fun _ => True) (okp := fun _ => True) rfl (fun _ hk => hk) trivial (by omega) (by omega) (Below.refl _ _) (Nat.le_refl _) ?_
         intro v259 w7 ho8 hb hg_ hnew_
         clear hg_ hnew_
         (first | rw [← Ny258.out] at ho8 | (simp only [Int.reduceToNat] at ho8; rw [← Ny258.out] at ho8))
         have n_ := az (Kd.R_elder' (mR HO257.out) (by first | exact Kd.R_base ho8 | exact Kd.R_base ho8) hb) <| And.intro (z0 (Kd.R_lower (Kd.R_new' ho8 (Kd.R_lt (mR HO257.out))) (below_size (mB HB.out)))) <| az (bB BK251.out hb) <| z0 (below_step (mB HB.out) hb)
         clear HO257 BK251 HB
         obtain ⟨HO257, HO260, BK251, HB⟩ := n_
         clear hb ho8
         refine hK.out _ _ trivial (fun hHeld => ?_)
         clear hK K
         refine norm_ (a' := ?_) ?_ ?_
         rotate_left
         ·show Act.put _ (some 3) _ = _
          simp only [Act.put, List.setIfInBounds_toArray, List.set_cons_zero, List.set_cons_succ, i64_w, i32_w]
          rfl
         exact norm_ q50_1 (hJ1_2 (v256, v259) _ ⟨q50_4, q50_3, (mK BK251.out), (mB HB.out)⟩)
      ·skip
       rintro v253 w6 ⟨h0_, h1_, h2_⟩
       have n0_ : Aside0 (Kd.R (Kd.int .i64) 3 w6 w.heap.size (fun _ => True) v253 y252) := ⟨h0_⟩
       have n1_ : Aside0 (w6.heap[gb251]? = some (.cells #[.slice none 0 0, .slice none 0 0, .slice none 0 0] 30 (0, 0))) := ⟨h1_⟩
       have n2_ : Aside0 (Below w.heap.size w w6) := ⟨h2_⟩
       clear BK251 HB h0_ h1_ h2_
       have HO254 := n0_
       have BK251 := n1_
       have HB := n2_
       clear n0_ n1_ n2_
       have hHeld := trivial
       refine norm_ (a' := ?_) ?_ ?_
       rotate_left
       ·simp only [putAll, Act.put, List.setIfInBounds_toArray, List.set_cons_zero, List.set_cons_succ]
        rfl
       refine two_ (i := 1) (j := 2) (Ni := some 2) (Nj := some 3) #[true, true, false, false, false] #[true, false, true, false, false] rfl rfl rfl rfl (by kernel_rfl) (by decide) (by decide) (fun K hK => ?_) (fun K hK => ?_)
       ·skip
        refine Kd.R_make_step (Kd.int .i64) _ 3 (by rfl) (N := 2) rfl 28 _ _ rfl 6 rfl rfl Try.underlying28 (.int .i64 0) 8 info3 rfl (by decide) (by omega) 0 (ok := fun _ => True) (okp := fun _ => True) rfl (fun _ hk => hk) trivial (by omega) (by omega) (Below.refl _ _) (Nat.le_refl _) ?_
        intro v256 w7 ho8 hb hg_ hnew_
        clear hg_ hnew_
        (first | rw [← Ny255.out] at ho8 | (simp only [Int.reduceToNat] at ho8; rw [← Ny255.out] at ho8))
        have n_ := az (Kd.R_elder' (mR HO254.out) (by first | exact Kd.R_base ho8 | exact Kd.R_base ho8) hb) <| And.intro (z0 (Kd.R_lower (Kd.R_new' ho8 (Kd.R_lt (mR HO254.out))) (below_size (mB HB.out)))) <| az (bB BK251.out hb) <| z0 (below_step (mB HB.out) hb)
        clear HO254 BK251 HB
        obtain ⟨HO254, HO257, BK251, HB⟩ := n_
        clear hb ho8
        refine hK.out _ _ trivial (fun hHeld => ?_)
        clear hK K
        refine norm_ (a' := ?_) ?_ ?_
        rotate_left
        ·show Act.put _ (some 2) _ = _
         simp only [Act.put, List.setIfInBounds_toArray, List.set_cons_zero, List.set_cons_succ, i64_w, i32_w]
         rfl
        exact norm_ q50_1 (hJ0_1 (v253, v256) _ ⟨q50_2, q50_4, (mK BK251.out), (mB HB.out)⟩)
       ·skip
        refine Kd.R_make_step (Kd.int .i64) _ 3 (by rfl) (N := 3) rfl 28 _ _ rfl 6 rfl rfl Try.underlying28 (.int .i64 0) 8 info3 rfl (by decide) (by omega) 0 (ok := fun _ => True) (okp := fun _ => True) rfl (fun _ hk => hk) trivial (by omega) (by omega) (Below.refl _ _) (Nat.le_refl _) ?_
        intro v259 w7 ho8 hb hg_ hnew_
        clear hg_ hnew_
        (first | rw [← Ny258.out] at ho8 | (simp only [Int.reduceToNat] at ho8; rw [← Ny258.out] at ho8))
        have n_ := az (Kd.R_elder' (mR HO254.out) (by first | exact Kd.R_base ho8 | exact Kd.R_base ho8) hb) <| And.intro (z0 (Kd.R_lower (Kd.R_new' ho8 (Kd.R_lt (mR HO254.out))) (below_size (mB HB.out)))) <| az (bB BK251.out hb) <| z0 (below_step (mB HB.out) hb)
        clear HO254 BK251 HB
        obtain ⟨HO254, HO260, BK251, HB⟩ := n_
        clear hb ho8
        refine hK.out _ _ trivial (fun hHeld => ?_)
        clear hK K
        refine norm_ (a' := ?_) ?_ ?_
        rotate_left
        ·show Act.put _ (some 3) _ = _
         simp only [Act.put, List.setIfInBounds_toArray, List.set_cons_zero, List.set_cons_succ, i64_w, i32_w]
         rfl
        exact norm_ q50_1 (hJ0_2 (v253, v259) _ ⟨q50_2, q50_3, (mK BK251.out), (mB HB.out)⟩)
     ·skip
      rintro ⟨v256, v259⟩ w8 ⟨h0_, h1_, h2_, h3_⟩
      have n0_ : Aside0 (Kd.R (Kd.int .i64) 3 w8 w.heap.size (fun k_ => nB k_ v259) v256 y255) := ⟨h0_⟩
      have n1_ : Aside0 (Kd.R (Kd.int .i64) 3 w8 w.heap.size (fun k_ => nB k_ v256) v259 y258) := ⟨h1_⟩
      have n2_ : Aside0 (w8.heap[gb251]? = some (.cells #[.slice none 0 0, .slice none 0 0, .slice none 0 0] 30 (0, 0))) := ⟨h2_⟩
      have n3_ : Aside0 (Below w.heap.size w w8) := ⟨h3_⟩
      clear BK251 HB h0_ h1_ h2_ h3_
      have HO257 := n0_
      have HO260 := n1_
      have BK251 := n2_
      have HB := n3_
      clear n0_ n1_ n2_ n3_
      have hHeld := trivial
      refine norm_ (a' := ?_) ?_ ?_
      rotate_left
      ·simp only [putAll, Act.put, List.setIfInBounds_toArray, List.set_cons_zero, List.set_cons_succ]
       rfl
      refine one_ (i := 0) (N := some 1) #[true, true, true, false, false] rfl rfl (by kernel_rfl) (by decide) (fun K hK => ?_)
      refine Kd.R_make_step (Kd.int .i64) _ 3 (by rfl) (N := 1) rfl 28 _ _ rfl 6 rfl rfl Try.underlying28 (.int .i64 0) 8 info3 rfl (by decide) (by omega) 0 (ok := fun _ => True) (okp := fun _ => True) rfl (fun _ hk => hk) trivial (by omega) (by omega) (Below.refl _ _) (Nat.le_refl _) ?_
      intro v253 w9 ho10 hb hg_ hnew_
      clear hg_ hnew_
      (first | rw [← Ny252.out] at ho10 | (simp only [Int.reduceToNat] at ho10; rw [← Ny252.out] at ho10))
      have n_ := az (Kd.R_elder' (mR HO257.out) (by first | exact Kd.R_base ho10 | exact Kd.R_base ho10) hb) <| az (Kd.R_elder' (mR HO260.out) (by first | exact Kd.R_base ho10 | exact Kd.R_base ho10) hb) <| And.intro (z0 (Kd.R_lower (Kd.R_new' (Kd.R_new' ho10 (Kd.R_lt (mR HO257.out))) (Kd.R_lt (mR HO260.out))) (below_size (mB HB.out)))) <| az (bB BK251.out hb) <| z0 (below_step (mB HB.out) hb)
      clear HO257 HO260 BK251 HB
      obtain ⟨HO257, HO260, HO254, BK251, HB⟩ := n_
      clear hb ho10
      obtain ⟨Ao11, co11, eo11⟩ := Kd.R_slice HO260.out
      (first | subst eo11 | (injection eo11 with f1_ f2_ f3_; have f4_ := f1_.symm; have f5_ := f3_.symm; clear f1_ f2_ f3_; subst f4_; subst f5_))
      obtain ⟨Ao12, co12, eo12⟩ := Kd.R_slice HO257.out
      (first | subst eo12 | (injection eo12 with f1_ f2_ f3_; have f4_ := f1_.symm; have f5_ := f3_.symm; clear f1_ f2_ f3_; subst f4_; subst f5_))
      obtain ⟨Ao13, co13, eo13⟩ := Kd.R_slice HO254.out
      (first | subst eo13 | (injection eo13 with f1_ f2_ f3_; have f4_ := f1_.symm; have f5_ := f3_.symm; clear f1_ f2_ f3_; subst f4_; subst f5_))
      refine hK.out _ _ trivial (fun hHeld => ?_)
      clear hK K
      refine norm_ (a' := ?_) ?_ ?_
      rotate_left
      ·show Act.put _ (some 1) _ = _
       simp only [Act.put, List.setIfInBounds_toArray, List.set_cons_zero, List.set_cons_succ, i64_w, i32_w]
       rfl
      exact norm_ q50_1 (hJ0_1_2 (.slice Ao13 y252.length co13, .slice Ao12 y255.length co12, .slice Ao11 y258.length co11) _ ⟨(by (with_reducible repeat (first | apply Kd.R_alloc | apply Kd.R_drewN | apply Kd.R_drew)); exact Kd.R_mono HO254.out (fun _ hk => ⟨hk.1.2, hk.2⟩)), (by (with_reducible repeat (first | apply Kd.R_alloc | apply Kd.R_drewN | apply Kd.R_drew)); exact Kd.R_mono HO257.out (fun _ hk => ⟨hk.2, hk.1⟩)), (by (with_reducible repeat (first | apply Kd.R_alloc | apply Kd.R_drewN | apply Kd.R_drew)); exact Kd.R_mono HO260.out (fun _ hk => ⟨hk.2, hk.1⟩)), (mK BK251.out), (mB HB.out)⟩)
    ·skip
     rintro ⟨v253, v259⟩ w8 ⟨h0_, h1_, h2_, h3_⟩
     have n0_ : Aside0 (Kd.R (Kd.int .i64) 3 w8 w.heap.size (fun k_ => nB k_ v259) v253 y252) := ⟨h0_⟩
     have n1_ : Aside0 (Kd.R (Kd.int .i64) 3 w8 w.heap.size (fun k_ => nB k_ v253) v259 y258) := ⟨h1_⟩
     have n2_ : Aside0 (w8.heap[gb251]? = some (.cells #[.slice none 0 0, .slice none 0 0, .slice none 0 0] 30 (0, 0))) := ⟨h2_⟩
     have n3_ : Aside0 (Below w.heap.size w w8) := ⟨h3_⟩
     clear BK251 HB h0_ h1_ h2_ h3_
     have HO254 := n0_
     have HO260 := n1_
     have BK251 := n2_
     have HB := n3_
     clear n0_ n1_ n2_ n3_
     have hHeld := trivial
     refine norm_ (a' := ?_) ?_ ?_
     rotate_left
     ·simp only [putAll, Act.put, List.setIfInBounds_toArray, List.set_cons_zero, List.set_cons_succ]
      rfl
     refine one_ (i := 1) (N := some 2) #[true, true, true, false, false] rfl rfl (by kernel_rfl) (by decide) (fun K hK => ?_)
     refine Kd.R_make_step (Kd.int .i64) _ 3 (by rfl) (N := 2) rfl 28 _ _ rfl 6 rfl rfl Try.underlying28 (.int .i64 0) 8 info3 rfl (by decide) (by omega) 0 (ok := fun _ => True) (okp := fun _ => True) rfl (fun _ hk => hk) trivial (by omega) (by omega) (Below.refl _ _) (Nat.le_refl _) ?_
     intro v256 w9 ho10 hb hg_ hnew_
     clear hg_ hnew_
     (first | rw [← Ny255.out] at ho10 | (simp only [Int.reduceToNat] at ho10; rw [← Ny255.out] at ho10))
     have n_ := az (Kd.R_elder' (mR HO254.out) (by first | exact Kd.R_base ho10 | exact Kd.R_base ho10) hb) <| az (Kd.R_elder' (mR HO260.out) (by first | exact Kd.R_base ho10 | exact Kd.R_base ho10) hb) <| And.intro (z0 (Kd.R_lower (Kd.R_new' (Kd.R_new' ho10 (Kd.R_lt (mR HO254.out))) (Kd.R_lt (mR HO260.out))) (below_size (mB HB.out)))) <| az (bB BK251.out hb) <| z0 (below_step (mB HB.out) hb)
     clear HO254 HO260 BK251 HB
     obtain ⟨HO254, HO260, HO257, BK251, HB⟩ := n_
     clear hb ho10
     obtain ⟨Ao11, co11, eo11⟩ := Kd.R_slice HO260.out
     (first | subst eo11 | (injection eo11 with f1_ f2_ f3_; have f4_ := f1_.symm; have f5_ := f3_.symm; clear f1_ f2_ f3_; subst f4_; subst f5_))
     obtain ⟨Ao12, co12, eo12⟩ := Kd.R_slice HO257.out
     (first | subst eo12 | (injection eo12 with f1_ f2_ f3_; have f4_ := f1_.symm; have f5_ := f3_.symm; clear f1_ f2_ f3_; subst f4_; subst f5_))
     obtain ⟨Ao13, co13, eo13⟩ := Kd.R_slice HO254.out
     (first | subst eo13 | (injection eo13 with f1_ f2_ f3_; have f4_ := f1_.symm; have f5_ := f3_.symm; clear f1_ f2_ f3_; subst f4_; subst f5_))
     refine hK.out _ _ trivial (fun hHeld => ?_)
     clear hK K
     refine norm_ (a' := ?_) ?_ ?_
     rotate_left
     ·show Act.put _ (some 2) _ = _
      simp only [Act.put, List.setIfInBounds_toArray, List.set_cons_zero, List.set_cons_succ, i64_w, i32_w]
      rfl
     exact norm_ q50_1 (hJ0_1_2 (.slice Ao13 y252.length co13, .slice Ao12 y255.length co12, .slice Ao11 y258.length co11) _ ⟨(by (with_reducible repeat (first | apply Kd.R_alloc | apply Kd.R_drewN | apply Kd.R_drew)); exact Kd.R_mono HO254.out (fun _ hk => ⟨hk.2, hk.1⟩)), (by (with_reducible repeat (first | apply Kd.R_alloc | apply Kd.R_drewN | apply Kd.R_drew)); exact Kd.R_mono HO257.out (fun _ hk => ⟨hk.1.2, hk.2⟩)), (mR HO260.out), (mK BK251.out), (mB HB.out)⟩)
   ·skip
    rintro ⟨v253, v256⟩ w8 ⟨h0_, h1_, h2_, h3_⟩
    have n0_ : Aside0 (Kd.R (Kd.int .i64) 3 w8 w.heap.size (fun k_ => nB k_ v256) v253 y252) := ⟨h0_⟩
    have n1_ : Aside0 (Kd.R (Kd.int .i64) 3 w8 w.heap.size (fun k_ => nB k_ v253) v256 y255) := ⟨h1_⟩
    have n2_ : Aside0 (w8.heap[gb251]? = some (.cells #[.slice none 0 0, .slice none 0 0, .slice none 0 0] 30 (0, 0))) := ⟨h2_⟩
    have n3_ : Aside0 (Below w.heap.size w w8) := ⟨h3_⟩
    clear BK251 HB h0_ h1_ h2_ h3_
    have HO254 := n0_
    have HO257 := n1_
    have BK251 := n2_
    have HB := n3_
    clear n0_ n1_ n2_ n3_
    have hHeld := trivial
    refine norm_ (a' := ?_) ?_ ?_
    rotate_left
    ·simp only [putAll, Act.put, List.setIfInBounds_toArray, List.set_cons_zero, List.set_cons_succ]
     rfl
    refine one_ (i := 2) (N := some 3) #[true, true, true, false, false] rfl rfl (by kernel_rfl) (by decide) (fun K hK => ?_)
    refine Kd.R_make_step (Kd.int .i64) _ 3 (by rfl) (N := 3) rfl 28 _ _ rfl 6 rfl rfl Try.underlying28 (.int .i64 0) 8 info3 rfl (by decide) (by omega) 0 (ok := fun _ => True) (okp := fun _ => True) rfl (fun _ hk => hk) trivial (by omega) (by omega) (Below.refl _ _) (Nat.le_refl _) ?_
    intro v259 w9 ho10 hb hg_ hnew_
    clear hg_ hnew_
    (first | rw [← Ny258.out] at ho10 | (simp only [Int.reduceToNat] at ho10; rw [← Ny258.out] at ho10))
    have n_ := az (Kd.R_elder' (mR HO254.out) (by first | exact Kd.R_base ho10 | exact Kd.R_base ho10) hb) <| az (Kd.R_elder' (mR HO257.out) (by first | exact Kd.R_base ho10 | exact Kd.R_base ho10) hb) <| And.intro (z0 (Kd.R_lower (Kd.R_new' (Kd.R_new' ho10 (Kd.R_lt (mR HO254.out))) (Kd.R_lt (mR HO257.out))) (below_size (mB HB.out)))) <| az (bB BK251.out hb) <| z0 (below_step (mB HB.out) hb)
    clear HO254 HO257 BK251 HB
    obtain ⟨HO254, HO257, HO260, BK251, HB⟩ := n_
    clear hb ho10
    obtain ⟨Ao11, co11, eo11⟩ := Kd.R_slice HO260.out
    (first | subst eo11 | (injection eo11 with f1_ f2_ f3_; have f4_ := f1_.symm; have f5_ := f3_.symm; clear f1_ f2_ f3_; subst f4_; subst f5_))
    obtain ⟨Ao12, co12, eo12⟩ := Kd.R_slice HO257.out
    (first | subst eo12 | (injection eo12 with f1_ f2_ f3_; have f4_ := f1_.symm; have f5_ := f3_.symm; clear f1_ f2_ f3_; subst f4_; subst f5_))
    obtain ⟨Ao13, co13, eo13⟩ := Kd.R_slice HO254.out
    (first | subst eo13 | (injection eo13 with f1_ f2_ f3_; have f4_ := f1_.symm; have f5_ := f3_.symm; clear f1_ f2_ f3_; subst f4_; subst f5_))
    refine hK.out _ _ trivial (fun hHeld => ?_)
    clear hK K
    refine norm_ (a' := ?_) ?_ ?_
    rotate_left
    ·show Act.put _ (some 3) _ = _
     simp only [Act.put, List.setIfInBounds_toArray, List.set_cons_zero, List.set_cons_succ, i64_w, i32_w]
     rfl
    exact norm_ q50_1 (hJ0_1_2 (.slice Ao13 y252.length co13, .slice Ao12 y255.length co12, .slice Ao11 y258.length co11) _ ⟨(mR HO254.out), (mR HO257.out), (by (with_reducible repeat (first | apply Kd.R_alloc | apply Kd.R_drewN | apply Kd.R_drew)); exact Kd.R_mono HO260.out (fun _ hk => ⟨hk.1.2, hk.2⟩)), (mK BK251.out), (mB HB.out)⟩)
  rintro ⟨v253, v256, v259⟩ w13 ⟨h0_, h1_, h2_, h3_, h4_⟩
  have n0_ : Aside0 (Kd.R (Kd.int .i64) 3 w13 w.heap.size (fun k_ => nB k_ v256 ∧ nB k_ v259) v253 y252) := ⟨h0_⟩
  have n1_ : Aside0 (Kd.R (Kd.int .i64) 3 w13 w.heap.size (fun k_ => nB k_ v253 ∧ nB k_ v259) v256 y255) := ⟨h1_⟩
  have n2_ : Aside0 (Kd.R (Kd.int .i64) 3 w13 w.heap.size (fun k_ => nB k_ v253 ∧ nB k_ v256) v259 y258) := ⟨h2_⟩
  have n3_ : Aside0 (w13.heap[gb251]? = some (.cells #[.slice none 0 0, .slice none 0 0, .slice none 0 0] 30 (0, 0))) := ⟨h3_⟩
  have n4_ : Aside0 (Below w.heap.size w w13) := ⟨h4_⟩
  clear BK251 HB h0_ h1_ h2_ h3_ h4_
  have HO254 := n0_
  have HO257 := n1_
  have HO260 := n2_
  have BK251 := n3_
  have HB := n4_
  clear n0_ n1_ n2_ n3_ n4_
  have hHeld := trivial
  obtain ⟨Ao14, co14, eo14⟩ := Kd.R_slice HO260.out
  (first | subst eo14 | (injection eo14 with f1_ f2_ f3_; have f4_ := f1_.symm; have f5_ := f3_.symm; clear f1_ f2_ f3_; subst f4_; subst f5_))
  obtain ⟨Ao15, co15, eo15⟩ := Kd.R_slice HO257.out
  (first | subst eo15 | (injection eo15 with f1_ f2_ f3_; have f4_ := f1_.symm; have f5_ := f3_.symm; clear f1_ f2_ f3_; subst f4_; subst f5_))
  obtain ⟨Ao16, co16, eo16⟩ := Kd.R_slice HO254.out
  (first | subst eo16 | (injection eo16 with f1_ f2_ f3_; have f4_ := f1_.symm; have f5_ := f3_.symm; clear f1_ f2_ f3_; subst f4_; subst f5_))
  refine norm_ (a' := ?_) ?_ ?_
  rotate_left
  ·simp only [putAll, Act.put, List.setIfInBounds_toArray, List.set_cons_zero, List.set_cons_succ]
   rfl
  refine pure_ (i := 3) (N := some 4) (v := ?_) (a' := ?_) #[true, true, true, true, false] rfl rfl (by kernel_rfl) (fun _ _ _ h => h) (Or.inl ⟨by rfl, ?_⟩) ?_ ?_
  rotate_left
  ·intro w'
   go_simp
   with_reducible rfl
  rotate_left
  ·simp only [Act.put, List.setIfInBounds_toArray, List.set_cons_zero, List.set_cons_succ, i64_w, i32_w]
   rfl
  refine one_ (i := 4) (N := none) #[true, true, true, true, true] rfl rfl (by kernel_rfl) (by decide) (fun K hK => ?_)
  have hs17 : w13.cell? ⟨gb251, 0, none⟩ = some (.slice none 0 0) := (blk_cell BK251.out 0).trans rfl
  have hfs17 := blk_frozen BK251.out 0
  have hs18 : w13.cell? ⟨gb251, 1, none⟩ = some (.slice none 0 0) := (blk_cell BK251.out 1).trans rfl
  have hfs18 := blk_frozen BK251.out 1
  have hs19 : w13.cell? ⟨gb251, 2, none⟩ = some (.slice none 0 0) := (blk_cell BK251.out 2).trans rfl
  have hfs19 := blk_frozen BK251.out 2
  refine skip_ (w1 := ?_) (by rfl) rfl ?_ ?_
  rotate_left
  ·go_simp
   rfl
  refine hK.out _ _ trivial (fun hHeld => ?_)
  clear hK K
  refine done_ (by kernel_rfl) ?_
  try go_wp2
  refine bodyPost_ret (results_cell_row rfl _ _ gb251 30 #[.slice Ao16 y252.length co16, .slice Ao15 y255.length co15, .slice Ao14 y258.length co14] (0, 0) _ rfl (pF BK251.out) Try.underlying30 rfl (by kernel_rfl)) rfl ?_
  exact ⟨_, _, _, rfx, by (with_reducible repeat (first | apply Kd.R_alloc | apply Kd.R_drewN | apply Kd.R_drew)); exact Kd.R_mono (Kd.R_far (p := ⟨gb251, 2, none⟩) (Kd.R_far (p := ⟨gb251, 1, none⟩) (Kd.R_far (p := ⟨gb251, 0, none⟩) (Kd.R_types HO254.out BK251.out (by decide)) (fun _ hk => hk.2) (.slice Ao16 y252.length co16)) (fun _ hk => hk.2) (.slice Ao15 y255.length co15)) (fun _ hk => hk.2) (.slice Ao14 y258.length co14)) (fun _ hk => ⟨hk.1.1, hk.1.2⟩), by (with_reducible repeat (first | apply Kd.R_alloc | apply Kd.R_drewN | apply Kd.R_drew)); exact Kd.R_mono (Kd.R_far (p := ⟨gb251, 2, none⟩) (Kd.R_far (p := ⟨gb251, 1, none⟩) (Kd.R_far (p := ⟨gb251, 0, none⟩) (Kd.R_types HO257.out BK251.out (by decide)) (fun _ hk => hk.2) (.slice Ao16 y252.length co16)) (fun _ hk => hk.2) (.slice Ao15 y255.length co15)) (fun _ hk => hk.2) (.slice Ao14 y258.length co14)) (fun _ hk => ⟨hk.1.1, hk.1.2⟩), by (with_reducible repeat (first | apply Kd.R_alloc | apply Kd.R_drewN | apply Kd.R_drew)); exact Kd.R_mono (Kd.R_far (p := ⟨gb251, 2, none⟩) (Kd.R_far (p := ⟨gb251, 1, none⟩) (Kd.R_far (p := ⟨gb251, 0, none⟩) (Kd.R_types HO260.out BK251.out (by decide)) (fun _ hk => hk.2) (.slice Ao16 y252.length co16)) (fun _ hk => hk.2) (.slice Ao15 y255.length co15)) (fun _ hk => hk.2) (.slice Ao14 y258.length co14)) (fun _ hk => ⟨hk.1.1, hk.1.2⟩), mB HB.out⟩
 ·rw [if_neg c1] at H
  exact absurd H (by simp)

/-! ### spec_l2Mem: function 33 -/
def spec_l2Mem.l0 : Nat → Int → List Int → Int → List Int → List Int → List Int → Option (List Int × List Int × List Int × Int)
 | 0, _, _, _, _, _, _ => none
 | k + 1, x4, x1000, x1001, x272000, x272001, x272002 => if x4 < 4 then ((spec_l12Rd_num.f k x1000 x1001 (([0, 0, 1, 1, 2, 5, (-1)] : List Int))).bind fun bt275 => (if 0 ≤ x4 then (if x4 < (x272000.length : Int) then ((spec_l12Rd_num.f k x1000 bt275.2 (([0, 0, 1, 3] : List Int))).bind fun bt281 => (if x4 < (x272001.length : Int) then ((spec_l12Rd_num.f k x1000 bt281.2 (([0, 0, 1, 2, 7, 1000000] : List Int))).bind fun bt287 => (if x4 < (x272002.length : Int) then (spec_l2Mem.l0 k (wrap64 (x4 + 1)) x1000 bt287.2 (x272000.set (x4 : Int).toNat bt275.1) (x272001.set (x4 : Int).toNat bt281.1) (x272002.set (x4 : Int).toNat bt287.1)) else (none))) else (none))) else (none)) else (none))) else (some (x272000, x272001, x272002, x1001))
def spec_l2Mem.f (k : Nat) (s0_0 : List Int) (s0_1 : Int) : Option (List Int × List Int × List Int × Int) := (spec_MemOpen.f).bind fun bt262 => (spec_l2Mem.l0 k 0 s0_0 s0_1 bt262.1 bt262.2.1 bt262.2.2)
def spec_l2Mem.T5 : Bool × List (List Nat × List Nat) := (true, [([], []), ([0], [0]), ([], []), ([], []), ([], []), ([3, 4], [3, 4]), ([1, 2, 0, 1, 2, 3, 4, 5], [1, 2]), ([6, 5, 5, 0, 1, 2, 3, 4, 5], [5, 6])])
def spec_l2Mem.B5 : List Nat := [0, 1, 0, 0, 0, 24, 63, 127]
theorem spec_l2Mem.tab5 : rtab .any (opsOf Try.f33 5) = spec_l2Mem.T5 := by kernel_rfl
theorem spec_l2Mem.bits5 : waitsOk spec_l2Mem.T5.2 spec_l2Mem.B5 = true := by kernel_rfl
def spec_l2Mem.T6 : Bool × List (List Nat × List Nat) := (true, [([], []), ([0], [0]), ([], []), ([], []), ([], []), ([3, 4], [3, 4]), ([1, 2, 0, 1, 2, 3, 4, 5], [1, 2]), ([6, 5, 5, 0, 1, 2, 3, 4, 5], [5, 6])])
def spec_l2Mem.B6 : List Nat := [0, 1, 0, 0, 0, 24, 63, 127]
theorem spec_l2Mem.tab6 : rtab .any (opsOf Try.f33 6) = spec_l2Mem.T6 := by kernel_rfl
theorem spec_l2Mem.bits6 : waitsOk spec_l2Mem.T6.2 spec_l2Mem.B6 = true := by kernel_rfl
def spec_l2Mem.T7 : Bool × List (List Nat × List Nat) := (true, [([], []), ([0], [0]), ([], []), ([], []), ([], []), ([3, 4], [3, 4]), ([1, 2, 0, 1, 2, 3, 4, 5], [1, 2]), ([6, 5, 5, 0, 1, 2, 3, 4, 5], [5, 6])])
def spec_l2Mem.B7 : List Nat := [0, 1, 0, 0, 0, 24, 63, 127]
theorem spec_l2Mem.tab7 : rtab .any (opsOf Try.f33 7) = spec_l2Mem.T7 := by kernel_rfl
theorem spec_l2Mem.bits7 : waitsOk spec_l2Mem.T7.2 spec_l2Mem.B7 = true := by kernel_rfl
theorem q33_1 {p : Prop} (h : p := by exact ⟨(blk_cell BK271.out 0).trans rfl, (blk_cell BK271.out 1).trans rfl, (blk_cell BK271.out 2).trans rfl⟩) : p := h
set_option maxHeartbeats 8000000 in
set_option maxRecDepth 100000 in
theorem spec_l2Mem.calls (k : Nat) (g : Nat) (s0_0 : List Int) (s0_1 : Int) (r1 : List Int) (r2 : List Int) (r3 : List Int) (r4 : Int) (w0 w : World) (hI : IsS66 w0 w g s0_0 s0_1) (hB : Below w0.heap.size w0 w) (h : spec_l2Mem.f k s0_0 s0_1 = some (r1, r2, r3, r4)) :
  Calls Try.prog 33 #[.pointer (some ⟨g, 0, none⟩)] w fun e w' => ∃ v0_ v1_ v2_ : Value, e = .returned (.agg #[v0_, v1_, v2_]) ∧ Kd.R (Kd.int .i64) 3 w' w.heap.size (fun k_ => nB k_ v1_ ∧ nB k_ v2_) v0_ r1 ∧ Kd.R (Kd.int .i64) 3 w' w.heap.size (fun k_ => nB k_ v0_ ∧ nB k_ v2_) v1_ r2 ∧ Kd.R (Kd.int .i64) 3 w' w.heap.size (fun k_ => nB k_ v0_ ∧ nB k_ v1_) v2_ r3 ∧ IsS66 w0 w' g s0_0 r4 ∧ Below w0.heap.size w0 w' ∧ KeepBut w w' g none := by
 have hu30 := Try.underlying30
 have HI0 := z0 hI
 have HK := z0 (KeepBut.refl w g none)
 have HL := z0 hB.size
 clear hI
 have HW0 := z0 hB.size
 have HB := z0 hB
 clear hB
 have H : ((spec_MemOpen.f).bind fun bt262 => (spec_l2Mem.l0 k 0 s0_0 s0_1 bt262.1 bt262.2.1 bt262.2.2)) = some (r1, r2, r3, r4) := h
 clear h
 replace H := Option.bind_eq_some_iff.mp H
 obtain ⟨⟨t262, t265, t268⟩, A20, H⟩ := H
 try dsimp only at H
 have A2 := z0 A20
 clear A20
 have H' := z0 H
 clear H
 go_enter Try.func33, Try.ntmps33
 go_wp2_with (first | ((with_reducible refine gate_dst (N := 2) rfl ?_); refine box_event ?hg (N := 2) ?hd (cs := #[.slice none 0 0, .slice none 0 0, .slice none 0 0]) (t := 30) ?hr ?_; (case hd => rfl); (case hg => rfl); (case hr => first | (go_simp; done) | (go_simp; rfl)); intro gb261 hg w3 hbox hb; have n_ := az (IsS66.below (mI66_1 HI0.out) hb) <| az (KeepBut.trans (mKp HK.out) (KeepBut.of_below hb g none) (.inl rfl)) <| az (below_step (mB66HI0 HB.out) hb) <| az (hbox) <| az ((gW hg HK.out)) <| az ((Nat.le_trans HW0.out (gW hg HK.out) : w0.heap.size ≤ gb261)) <| az ((by rw [hg]; exact Nat.ne_of_lt (IsS66.lt (show IsS66 w0 _ g s0_0 s0_1 from mI66_1 HI0.out)) : g ≠ gb261)) <| z0 ((by rw [hg]; exact Nat.ne_of_gt (IsS66.lt (show IsS66 w0 _ g s0_0 s0_1 from mI66_1 HI0.out)) : gb261 ≠ g)); clear HI0 HK HB; obtain ⟨HI0, HK, HB, BK261, GW261, GE261, NB0_261, NB261_0⟩ := n_; clear hb hbox hg) | ((with_reducible refine gate_callee (f := 50) rfl ?_); refine goesL_ (some 5) rfl rfl Try.func50 (by kernel_rfl) rfl #[] rfl argx ?_; (with_reducible refine (spec_MemOpen.calls  t262 t265 t268 _ A2.out).mono ?_); rintro e w4 ⟨v263, v266, v269, rfl, ho0, ho1, ho2, hb⟩; refine ⟨_, rfl, ?_⟩; have n_ := az (Kd.R_lower ho0 (kS HK.out)) <| az (Kd.R_lower ho1 (kS HK.out)) <| az (Kd.R_lower ho2 (kS HK.out)) <| az (IsS66.below (mI66_1 HI0.out) hb) <| az (bB BK261.out hb) <| az (KeepBut.trans (mKp HK.out) (KeepBut.of_below hb g none) (.inl rfl)) <| z0 (below_step (mB66HI0 HB.out) hb); clear HI0 BK261 HK HB; obtain ⟨HO264, HO267, HO270, HI0, BK261, HK, HB⟩ := n_; clear hb ho0; (try clear ho1); (try clear ho2)) | ((with_reducible refine gate_dst (N := 3) rfl ?_); refine box_event ?hg (N := 3) ?hd (cs := #[.slice none 0 0, .slice none 0 0, .slice none 0 0]) (t := 30) ?hr ?_; (case hd => rfl); (case hg => rfl); (case hr => first | (go_simp; done) | (go_simp; rfl)); intro gb271 hg w5 hbox hb; have n_ := az (Kd.R_below (mR HO264.out) hb) <| az (Kd.R_below (mR HO267.out) hb) <| az (Kd.R_below (mR HO270.out) hb) <| az (IsS66.below (mI66_1 HI0.out) hb) <| az (bB BK261.out hb) <| az (KeepBut.trans (mKp HK.out) (KeepBut.of_below hb g none) (.inl rfl)) <| az (below_step (mB66HI0 HB.out) hb) <| az (hbox) <| az ((gW hg HK.out)) <| az ((Nat.le_trans HW0.out (gW hg HK.out) : w0.heap.size ≤ gb271)) <| az ((nL hg BK261.out)) <| az ((nG hg BK261.out)) <| az ((by rw [hg]; exact Nat.ne_of_lt (IsS66.lt (show IsS66 w0 _ g s0_0 s0_1 from mI66_1 HI0.out)) : g ≠ gb271)) <| z0 ((by rw [hg]; exact Nat.ne_of_gt (IsS66.lt (show IsS66 w0 _ g s0_0 s0_1 from mI66_1 HI0.out)) : gb271 ≠ g)); clear HO264 HO267 HO270 HI0 BK261 HK HB; obtain ⟨HO264, HO267, HO270, HI0, BK261, HK, HB, BK271, GW271, GE271, NB261_271, NB271_261, NB0_271, NB271_0⟩ := n_; clear hb hbox hg; obtain ⟨Ao6, co6, eo6⟩ := Kd.R_slice HO264.out; subst eo6; have hnb7 := NB271_261.out; have hnc7 := NB261_271.out; have hnb8 := NB271_0.out; have hnc8 := NB0_271.out; obtain ⟨hcz9_0, hcz9_1, hcz9_2, hfz9_0, hfz9_1, hfz9_2⟩ := cel3 BK271.out; obtain ⟨Ao10, co10, eo10⟩ := Kd.R_slice HO267.out; subst eo10; obtain ⟨Ao11, co11, eo11⟩ := Kd.R_slice HO270.out; subst eo11))
 go_loopg [4] k (fun kq v4 w' => ∃ (x4_1 : Int) (x1001_1 : Int) (x272000_1 : List Int) (x272001_1 : List Int) (x272002_1 : List Int) (u272000 : Value) (u272001 : Value) (u272002 : Value), v4 = .int .i64 x4_1 ∧ Aside0 (spec_l2Mem.l0 kq x4_1 s0_0 x1001_1 x272000_1 x272001_1 x272002_1 = some (r1, r2, r3, r4)) ∧ Aside0 (kq ≤ k) ∧ Aside0 (Kd.R (Kd.int .i64) 3 w' w.heap.size (fun k_ => nB k_ u272001 ∧ nB k_ u272002) u272000 x272000_1) ∧ Aside0 (Kd.R (Kd.int .i64) 3 w' w.heap.size (fun k_ => nB k_ u272000 ∧ nB k_ u272002) u272001 x272001_1) ∧ Aside0 (Kd.R (Kd.int .i64) 3 w' w.heap.size (fun k_ => nB k_ u272000 ∧ nB k_ u272001) u272002 x272002_1) ∧ Aside0 (w'.heap[gb261]? = some (.cells #[(.slice none 0 0), (.slice none 0 0), (.slice none 0 0)] 30 (0, 0))) ∧ Aside0 (w'.heap[gb271]? = some (.cells #[u272000, u272001, u272002] 30 (0, 0))) ∧ Aside0 (IsS66 w0 w' g s0_0 x1001_1) ∧ Aside0 (KeepBut w w' g none) ∧ Aside0 (Below w0.heap.size w0 w'))
 case atStart => exact ⟨(0), (s0_1), (t262), (t265), (t268), (.slice Ao6 t262.length co6), (.slice Ao10 t265.length co10), (.slice Ao11 t268.length co11), rfy, H', ⟨Nat.le_refl _⟩, ⟨by (with_reducible repeat (first | apply Kd.R_alloc | apply Kd.R_drewN | apply Kd.R_drew)); exact Kd.R_mono (Kd.R_far (p := ⟨gb271, 2, none⟩) (Kd.R_far (p := ⟨gb271, 1, none⟩) (Kd.R_far (p := ⟨gb271, 0, none⟩) (Kd.R_types HO264.out BK271.out (by decide)) (fun _ hk => hk.2) (.slice Ao6 t262.length co6)) (fun _ hk => hk.2) (.slice Ao10 t265.length co10)) (fun _ hk => hk.2) (.slice Ao11 t268.length co11)) (fun _ hk => ⟨hk.1.1, hk.1.2⟩)⟩, ⟨by (with_reducible repeat (first | apply Kd.R_alloc | apply Kd.R_drewN | apply Kd.R_drew)); exact Kd.R_mono (Kd.R_far (p := ⟨gb271, 2, none⟩) (Kd.R_far (p := ⟨gb271, 1, none⟩) (Kd.R_far (p := ⟨gb271, 0, none⟩) (Kd.R_types HO267.out BK271.out (by decide)) (fun _ hk => hk.2) (.slice Ao6 t262.length co6)) (fun _ hk => hk.2) (.slice Ao10 t265.length co10)) (fun _ hk => hk.2) (.slice Ao11 t268.length co11)) (fun _ hk => ⟨hk.1.1, hk.1.2⟩)⟩, ⟨by (with_reducible repeat (first | apply Kd.R_alloc | apply Kd.R_drewN | apply Kd.R_drew)); exact Kd.R_mono (Kd.R_far (p := ⟨gb271, 2, none⟩) (Kd.R_far (p := ⟨gb271, 1, none⟩) (Kd.R_far (p := ⟨gb271, 0, none⟩) (Kd.R_types HO270.out BK271.out (by decide)) (fun _ hk => hk.2) (.slice Ao6 t262.length co6)) (fun _ hk => hk.2) (.slice Ao10 t265.length co10)) (fun _ hk => hk.2) (.slice Ao11 t268.length co11)) (fun _ hk => ⟨hk.1.1, hk.1.2⟩)⟩, ⟨mF BK261.out⟩, ⟨by (with_reducible repeat (first | refine blk_drewN ?_ _ | refine blk_drew ?_ | refine blk_alloc ?_ _)); refine blk_put (cs := #[.slice Ao6 t262.length co6, .slice Ao10 t265.length co10, .slice none 0 0]) ?_ 2 _ rfl; (with_reducible repeat (first | refine blk_drewN ?_ _ | refine blk_drew ?_ | refine blk_alloc ?_ _)); refine blk_put (cs := #[.slice Ao6 t262.length co6, .slice none 0 0, .slice none 0 0]) ?_ 1 _ rfl; (with_reducible repeat (first | refine blk_drewN ?_ _ | refine blk_drew ?_ | refine blk_alloc ?_ _)); refine blk_put (cs := #[.slice none 0 0, .slice none 0 0, .slice none 0 0]) ?_ 0 _ rfl; (with_reducible repeat (first | refine blk_drewN ?_ _ | refine blk_drew ?_ | refine blk_alloc ?_ _)); exact BK271.out⟩, ⟨mI66_1 HI0.out⟩, ⟨mKp HK.out⟩, ⟨mB66HI0 HB.out⟩⟩
 case round =>
  clear H'
  (try clear hcz9_0); (try clear hcz9_1); (try clear hcz9_2); (try clear hfz9_0); (try clear hfz9_1); (try clear hfz9_2)
  obtain ⟨x4_1, x1001_1, x272000_1, x272001_1, x272002_1, u272000, u272001, u272002, rfl, HA, HK1, HO_272000, HO_272001, HO_272002, BK261, BK271, HI0, HK, HB⟩ := hrel
  cases gk with
  | zero => exact absurd HA.out (by simp [spec_l2Mem.l0])
  | succ k1 =>
   have H := HA.out
   clear HA
   simp only [spec_l2Mem.l0] at H
   by_cases c12 : x4_1 < 4
   ·rw [if_pos c12] at H
    have c12b0 : decide (x4_1 < 4) = true := decide_eq_true c12
    clear c12
    obtain ⟨y272, hy272⟩ : ∃ y_ : List Int, y_ = (([0, 0, 1, 1, 2, 5, (-1)] : List Int)) := ⟨_, rfl⟩
    replace H : ((spec_l12Rd_num.f k1 s0_0 x1001_1 y272).bind fun bt275 => (if 0 ≤ x4_1 then (if x4_1 < (x272000_1.length : Int) then ((spec_l12Rd_num.f k1 s0_0 bt275.2 (([0, 0, 1, 3] : List Int))).bind fun bt281 => (if x4_1 < (x272001_1.length : Int) then ((spec_l12Rd_num.f k1 s0_0 bt281.2 (([0, 0, 1, 2, 7, 1000000] : List Int))).bind fun bt287 => (if x4_1 < (x272002_1.length : Int) then (spec_l2Mem.l0 k1 (wrap64 (x4_1 + 1)) s0_0 bt287.2 (x272000_1.set (x4_1 : Int).toNat bt275.1) (x272001_1.set (x4_1 : Int).toNat bt281.1) (x272002_1.set (x4_1 : Int).toNat bt287.1)) else (none))) else (none))) else (none)) else (none))) = some (r1, r2, r3, r4) := by first | (rw [hy272]; with_reducible exact H) | (have H2_ := (Option.bind_some _ _).symm.trans H; rw [hy272]; with_reducible exact H2_) | (have H2_ := (Option.bind_some _ _).symm.trans H; with_reducible exact H2_) | with_reducible exact H | (rw [hy272]; exact H) | exact H
    have Ny272 := z0 hy272
    clear hy272
    replace H := Option.bind_eq_some_iff.mp H
    obtain ⟨⟨t275, t276⟩, A130, H⟩ := H
    try dsimp only at H
    have A13 := z0 A130
    clear A130
    by_cases c14 : 0 ≤ x4_1
    ·rw [if_pos c14] at H
     have c14b0 : decide (0 ≤ x4_1) = true := decide_eq_true c14
     clear c14
     by_cases c15 : x4_1 < (x272000_1.length : Int)
     ·rw [if_pos c15] at H
      have c15b0 : decide (x4_1 < (x272000_1.length : Int)) = true := decide_eq_true c15
      clear c15
      obtain ⟨y277, hy277⟩ : ∃ y_ : List Int, y_ = (x272000_1.set (x4_1 : Int).toNat t275) := ⟨_, rfl⟩
      replace H : ((spec_l12Rd_num.f k1 s0_0 t276 (([0, 0, 1, 3] : List Int))).bind fun bt281 => (if x4_1 < (x272001_1.length : Int) then ((spec_l12Rd_num.f k1 s0_0 bt281.2 (([0, 0, 1, 2, 7, 1000000] : List Int))).bind fun bt287 => (if x4_1 < (x272002_1.length : Int) then (spec_l2Mem.l0 k1 (wrap64 (x4_1 + 1)) s0_0 bt287.2 y277 (x272001_1.set (x4_1 : Int).toNat bt281.1) (x272002_1.set (x4_1 : Int).toNat bt287.1)) else (none))) else (none))) = some (r1, r2, r3, r4) := by first | (rw [hy277]; with_reducible exact H) | (have H2_ := (Option.bind_some _ _).symm.trans H; rw [hy277]; with_reducible exact H2_) | (have H2_ := (Option.bind_some _ _).symm.trans H; with_reducible exact H2_) | with_reducible exact H | (rw [hy277]; exact H) | exact H
      have Ny277 := z0 hy277
      clear hy277
      obtain ⟨y278, hy278⟩ : ∃ y_ : List Int, y_ = (([0, 0, 1, 3] : List Int)) := ⟨_, rfl⟩
      replace H : ((spec_l12Rd_num.f k1 s0_0 t276 y278).bind fun bt281 => (if x4_1 < (x272001_1.length : Int) then ((spec_l12Rd_num.f k1 s0_0 bt281.2 (([0, 0, 1, 2, 7, 1000000] : List Int))).bind fun bt287 => (if x4_1 < (x272002_1.length : Int) then (spec_l2Mem.l0 k1 (wrap64 (x4_1 + 1)) s0_0 bt287.2 y277 (x272001_1.set (x4_1 : Int).toNat bt281.1) (x272002_1.set (x4_1 : Int).toNat bt287.1)) else (none))) else (none))) = some (r1, r2, r3, r4) := by first | (rw [hy278]; with_reducible exact H) | (have H2_ := (Option.bind_some _ _).symm.trans H; rw [hy278]; with_reducible exact H2_) | (have H2_ := (Option.bind_some _ _).symm.trans H; with_reducible exact H2_) | with_reducible exact H | (rw [hy278]; exact H) | exact H
      have Ny278 := z0 hy278
      clear hy278
      replace H := Option.bind_eq_some_iff.mp H
      obtain ⟨⟨t281, t282⟩, A170, H⟩ := H
      try dsimp only at H
      have A17 := z0 A170
      clear A170
      by_cases c18 : x4_1 < (x272001_1.length : Int)
      ·rw [if_pos c18] at H
       have c18b0 : decide (x4_1 < (x272001_1.length : Int)) = true := decide_eq_true c18
       clear c18
       obtain ⟨y283, hy283⟩ : ∃ y_ : List Int, y_ = (x272001_1.set (x4_1 : Int).toNat t281) := ⟨_, rfl⟩
       replace H : ((spec_l12Rd_num.f k1 s0_0 t282 (([0, 0, 1, 2, 7, 1000000] : List Int))).bind fun bt287 => (if x4_1 < (x272002_1.length : Int) then (spec_l2Mem.l0 k1 (wrap64 (x4_1 + 1)) s0_0 bt287.2 y277 y283 (x272002_1.set (x4_1 : Int).toNat bt287.1)) else (none))) = some (r1, r2, r3, r4) := by first | (rw [hy283]; with_reducible exact H) | (have H2_ := (Option.bind_some _ _).symm.trans H; rw [hy283]; with_reducible exact H2_) | (have H2_ := (Option.bind_some _ _).symm.trans H; with_reducible exact H2_) | with_reducible exact H | (rw [hy283]; exact H) | exact H
       have Ny283 := z0 hy283
       clear hy283
       obtain ⟨y284, hy284⟩ : ∃ y_ : List Int, y_ = (([0, 0, 1, 2, 7, 1000000] : List Int)) := ⟨_, rfl⟩
       replace H : ((spec_l12Rd_num.f k1 s0_0 t282 y284).bind fun bt287 => (if x4_1 < (x272002_1.length : Int) then (spec_l2Mem.l0 k1 (wrap64 (x4_1 + 1)) s0_0 bt287.2 y277 y283 (x272002_1.set (x4_1 : Int).toNat bt287.1)) else (none))) = some (r1, r2, r3, r4) := by first | (rw [hy284]; with_reducible exact H) | (have H2_ := (Option.bind_some _ _).symm.trans H; rw [hy284]; with_reducible exact H2_) | (have H2_ := (Option.bind_some _ _).symm.trans H; with_reducible exact H2_) | with_reducible exact H | (rw [hy284]; exact H) | exact H
       have Ny284 := z0 hy284
       clear hy284
       replace H := Option.bind_eq_some_iff.mp H
       obtain ⟨⟨t287, t288⟩, A200, H⟩ := H
       try dsimp only at H
       have A20 := z0 A200
       clear A200
       by_cases c21 : x4_1 < (x272002_1.length : Int)
       ·rw [if_pos c21] at H
        have c21b0 : decide (x4_1 < (x272002_1.length : Int)) = true := decide_eq_true c21
        clear c21
        obtain ⟨y289, hy289⟩ : ∃ y_ : List Int, y_ = (x272002_1.set (x4_1 : Int).toNat t287) := ⟨_, rfl⟩
        replace H : (spec_l2Mem.l0 k1 (wrap64 (x4_1 + 1)) s0_0 t288 y277 y283 y289) = some (r1, r2, r3, r4) := by first | (rw [hy289]; with_reducible exact H) | (have H2_ := (Option.bind_some _ _).symm.trans H; rw [hy289]; with_reducible exact H2_) | (have H2_ := (Option.bind_some _ _).symm.trans H; with_reducible exact H2_) | with_reducible exact H | (rw [hy289]; exact H) | exact H
        have Ny289 := z0 hy289
        clear hy289
        have H' := z0 H
        clear H
        try go_wp2
        have n_ := az (Kd.R_drew HO_272000.out) <| az (Kd.R_drew HO_272001.out) <| az (Kd.R_drew HO_272002.out) <| az (blk_drew BK261.out) <| az (blk_drew BK271.out) <| az (IsS66.drew HI0.out) <| az (keep_drew HK.out) <| z0 (below_drew1 HB.out)
        clear HO_272000 HO_272001 HO_272002 BK261 BK271 HI0 HK HB
        obtain ⟨HO_272000, HO_272001, HO_272002, BK261, BK271, HI0, HK, HB⟩ := n_
        refine start_ (n := 8) (S := fun w' => w'.cell? ⟨gb271, 0, none⟩ = some (u272000) ∧ w'.cell? ⟨gb271, 1, none⟩ = some (u272001) ∧ w'.cell? ⟨gb271, 2, none⟩ = some (u272002)) (ds := [7]) #[false, false, false, false, false, false, false, false] (by kernel_rfl) rfl rfl q33_1 (fun hHeld => ?_); refine with_tabW spec_l2Mem.tab5 spec_l2Mem.bits5 (fun HT_ HW_ => ?_)
        generalize wr.drew = w23 at HO_272000 HO_272001 HO_272002 BK261 BK271 HI0 HK HB hHeld ⊢
        refine pure_ (i := 0) (N := some 10) (v := ?_) (a' := ?_) #[true, false, false, false, false, false, false, false] rfl rfl (any_of HT_.out (by kernel_rfl)) (fun _ _ _ h => h) (Or.inl ⟨by rfl, ?_⟩) ?_ ?_
        rotate_left
        ·intro w'
         go_simp
         with_reducible rfl
        rotate_left
        ·simp only [Act.put, List.setIfInBounds_toArray, List.set_cons_zero, List.set_cons_succ, i64_w, i32_w]
         rfl
        refine pure_ (i := 2) (N := some 12) (v := ?_) (a' := ?_) #[true, false, true, false, false, false, false, false] rfl rfl (any_of HT_.out (by kernel_rfl)) (fun _ _ _ h => h) (Or.inl ⟨by rfl, ?_⟩) ?_ ?_
        rotate_left
        ·intro w'
         go_simp
         with_reducible rfl
        rotate_left
        ·simp only [Act.put, List.setIfInBounds_toArray, List.set_cons_zero, List.set_cons_succ, i64_w, i32_w]
         rfl
        refine pure_ (i := 3) (N := some 13) (v := ?_) (a' := ?_) #[true, false, true, true, false, false, false, false] rfl rfl (any_of HT_.out (by kernel_rfl)) (fun _ _ _ h => h) (Or.inl ⟨by rfl, ?_⟩) ?_ ?_
        rotate_left
        ·intro w'
         go_simp
         with_reducible rfl
        rotate_left
        ·simp only [Act.put, List.setIfInBounds_toArray, List.set_cons_zero, List.set_cons_succ, i64_w, i32_w]
         rfl
        refine take_ (i := 1) (N := some 11) (v := ?_) (a' := ?_) #[true, true, true, true, false, false, false, false] rfl rfl (take_ofW HT_.out HW_.out (by kernel_rfl)) (fun _ _ _ h => h) (Or.inl ⟨by rfl, ?_⟩) hHeld ?_ ?_
        rotate_left
        ·rintro w' ⟨s0, s1, s2⟩
         go_simp
         with_reducible rfl
        rotate_left
        ·simp only [Act.put, List.setIfInBounds_toArray, List.set_cons_zero, List.set_cons_succ, i64_w, i32_w]
         rfl
        refine one_ (i := 4) (N := some 14) #[true, true, true, true, true, false, false, false] rfl rfl (one_of HT_.out (by kernel_rfl)) (by decide) (fun K hK => ?_)
        refine Kd.R_lit_step (Kd.int .i64) _ 3 ?hg (N := 14) ?hd (xs := ([0, 0, 1, 1, 2, 5, (-1)] : List Int)) (inner := [.int .i64 0, .int .i64 0, .int .i64 1, .int .i64 1, .int .i64 2, .int .i64 5, .int .i64 (-1)]) (ok := fun _ => True) (okp := fun _ => True) ?hr ?hp (fun _ hk => hk) trivial (Below.refl _ _) (Nat.le_refl _) (by simp) ?_; (case hd => rfl); (case hg => rfl); (case hr => first | (go_simp; done) | (go_simp; rfl)); (case hp => exact (Reps.one (show Kd.M (Kd.int .i64) _ _ _ 0 [.int .i64 0] from rfl) (Reps.one (show Kd.M (Kd.int .i64) _ _ _ 0 [.int .i64 0] from rfl) (Reps.one (show Kd.M (Kd.int .i64) _ _ _ 1 [.int .i64 1] from rfl) (Reps.one (show Kd.M (Kd.int .i64) _ _ _ 1 [.int .i64 1] from rfl) (Reps.one (show Kd.M (Kd.int .i64) _ _ _ 2 [.int .i64 2] from rfl) (Reps.one (show Kd.M (Kd.int .i64) _ _ _ 5 [.int .i64 5] from rfl) (Reps.one (show Kd.M (Kd.int .i64) _ _ _ (-1) [.int .i64 (-1)] from rfl) (Reps.none _ _)))))))))
        intro v273 w24 ho25 hb hg_ hnew_
        clear hg_ hnew_
        (first | rw [← Ny272.out] at ho25 | (simp only [Int.reduceToNat] at ho25; rw [← Ny272.out] at ho25))
        have n_ := az (Kd.R_elder' (mR HO_272000.out) (by first | exact Kd.R_base ho25 | exact Kd.R_base ho25) hb) <| az (Kd.R_elder' (mR HO_272001.out) (by first | exact Kd.R_base ho25 | exact Kd.R_base ho25) hb) <| az (Kd.R_elder' (mR HO_272002.out) (by first | exact Kd.R_base ho25 | exact Kd.R_base ho25) hb) <| And.intro (z0 (Kd.R_lower (Kd.R_new' (Kd.R_new' (Kd.R_new' ho25 (Kd.R_lt (mR HO_272000.out))) (Kd.R_lt (mR HO_272001.out))) (Kd.R_lt (mR HO_272002.out))) (kS HK.out))) <| az (bB BK261.out hb) <| az (bB BK271.out hb) <| az (IsS66.below (mI66_1 HI0.out) hb) <| az (KeepBut.trans (mKp HK.out) (KeepBut.of_below hb g none) (.inl rfl)) <| z0 (below_step (mB66HI0 HB.out) hb)
        clear HO_272000 HO_272001 HO_272002 BK261 BK271 HI0 HK HB
        obtain ⟨HO_272000, HO_272001, HO_272002, HO274, BK261, BK271, HI0, HK, HB⟩ := n_
        clear hb ho25
        obtain ⟨Ao26, co26, eo26⟩ := Kd.R_slice HO274.out
        (first | subst eo26 | (injection eo26 with f1_ f2_ f3_; have f4_ := f1_.symm; have f5_ := f3_.symm; clear f1_ f2_ f3_; subst f4_; subst f5_))
        refine hK.out _ _ q33_1 (fun hHeld => ?_)
        clear hK K
        refine norm_ (a' := ?_) ?_ ?_
        rotate_left
        ·show Act.put _ (some 14) _ = _
         simp only [Act.put, List.setIfInBounds_toArray, List.set_cons_zero, List.set_cons_succ, i64_w, i32_w]
         rfl
        refine one_ (i := 5) (N := some 15) #[true, true, true, true, true, true, false, false] rfl rfl (one_of HT_.out (by kernel_rfl)) (by decide) (fun K hK => ?_)
        refine goes_ Try.func31 (by kernel_rfl) rfl #[.pointer (some ⟨g, 0, none⟩), .slice Ao26 y272.length co26] (by rfl) rfl rfl argx ?_
        with_reducible refine (spec_l12Rd_num.calls k1 g s0_0 x1001_1 _ _ y272 t275 t276 w0 _ ?side1 ?side2 ?side3 ?side4 ?side5 A13.out).mono ?_
        (case side1 => exact mI66_1 HI0.out)
        (case side2 => exact mB66HI0 HB.out)
        (case side3 => exact mC (Kd.R_reads' HO274.out).2.2)
        (case side4 => exact (Kd.R_reads' HO274.out).2.1)
        (case side5 => exact far_slice (IsS66.own_ne HI0.out HO274.out (by decide)))
        rintro e w27 ⟨rfl, hi, hb, hk⟩
        refine ⟨_, rfl, ?_⟩
        have n_ := And.intro (z0 (Kd.R_mono (Kd.R_keep (IsS66.apart (show IsS66 w0 _ g s0_0 x1001_1 from mI66_1 HI0.out) (mR HO_272000.out) (by decide)) hk (fun _ h => h.2)) (fun _ h => h.1))) <| And.intro (z0 (Kd.R_mono (Kd.R_keep (IsS66.apart (show IsS66 w0 _ g s0_0 x1001_1 from mI66_1 HI0.out) (mR HO_272001.out) (by decide)) hk (fun _ h => h.2)) (fun _ h => h.1))) <| And.intro (z0 (Kd.R_mono (Kd.R_keep (IsS66.apart (show IsS66 w0 _ g s0_0 x1001_1 from mI66_1 HI0.out) (mR HO_272002.out) (by decide)) hk (fun _ h => h.2)) (fun _ h => h.1))) <| az (kB hk BK261.out NB261_0.out) <| az (kB hk BK271.out NB271_0.out) <| And.intro (z0 (Kd.R_mono (Kd.R_keep (IsS66.apart (show IsS66 w0 _ g s0_0 x1001_1 from mI66_1 HI0.out) (mR HO274.out) (by decide)) hk (fun _ h => h.2)) (fun _ h => h.1))) <| az (KeepBut.trans (mKp HK.out) hk (.inl rfl)) <| az (hb) <| z0 (hi)
        clear HO_272000 HO_272001 HO_272002 BK261 BK271 HO274 HK HB HI0
        obtain ⟨HO_272000, HO_272001, HO_272002, BK261, BK271, HO274, HK, HB, HI0⟩ := n_
        (try clear hb)
        (try clear hb2)
        (try clear hk)
        (try clear hi)
        have p16 : 0 ≤ (x4_1 : Int) := of_decide_eq_true (by first | (with_reducible assumption) | assumption)
        have q16 : (x4_1 : Int) < ((x272000_1.length : Int) : Int) := of_decide_eq_true (by first | (with_reducible assumption) | assumption)
        obtain ⟨go16, co16, eo16, gb16, gl16, cl16, HG16⟩ := Kd.R_form HO_272000.out (by omega)
        (first | cases eo16 | (injection eo16 with ea_ en_ ec_; (first | subst ea_ | (injection ea_ with ea_; subst ea_)); subst ec_; clear en_))
        have GB16 := z0 gb16
        have GG16 := z0 HG16
        clear gb16 gl16 HG16
        obtain ⟨hx16_0, hf16_0⟩ := Kd.R_celln 0 HO_272000.out (x4_1 : Int) p16 q16
        replace p16 := eq_true p16
        replace q16 := eq_true q16
        have HN0_go16 := z0 (show g ≠ go16 from by have h_ := IsS66.own_ne HI0.out HO_272000.out (by decide); intro e_; exact h_ (by rw [e_]; rfl))
        have HP28 := Kd.R_putn HO_272000.out (x4_1 : Int) t275
        rw [← Ny277.out] at HP28
        have HQ28 := z0 HP28
        clear HP28
        refine hK.out _ _ q33_1 (fun hHeld => ?_)
        clear hK K
        refine norm_ (a' := ?_) ?_ ?_
        rotate_left
        ·show Act.put _ (some 15) _ = _
         simp only [Act.put, List.setIfInBounds_toArray, List.set_cons_zero, List.set_cons_succ, i64_w, i32_w]
         rfl
        refine pure_ (i := 6) (N := some 16) (v := ?_) (a' := ?_) #[true, true, true, true, true, true, true, false] rfl rfl (any_of HT_.out (by kernel_rfl)) (fun _ _ _ h => h) (Or.inl ⟨by rfl, ?_⟩) ?_ ?_
        rotate_left
        ·intro w'
         go_simp
         with_reducible rfl
        rotate_left
        ·simp only [Act.put, List.setIfInBounds_toArray, List.set_cons_zero, List.set_cons_succ, i64_w, i32_w]
         rfl
        refine last_ (i := 7) (N := none) #[true, true, true, true, true, true, true, true] rfl rfl (one_of HT_.out (by kernel_rfl)) (by decide) (fun K hK => ?_)
        refine skip_ (w1 := ?_) (by rfl) rfl ?_ ?_
        rotate_left
        ·go_simp
         rfl
        refine hK.out _ _ ?_
        clear hK K
        refine done_ (done_of HT_.out (by kernel_rfl)) ?_
        try go_wp2
        have n0_ : Aside0 (Kd.R (Kd.int .i64) 3 (w27.setCell ⟨go16, (x4_1 : Int).toNat, none⟩ (.int .i64 t275)) w.heap.size (fun k_ => nB k_ u272001 ∧ nB k_ u272002 ∧ nB k_ (.slice Ao26 y272.length co26)) (.slice (some ⟨go16, 0, none⟩) x272000_1.length co16) y277) := ⟨by (with_reducible repeat (first | apply Kd.R_alloc | apply Kd.R_drewN | apply Kd.R_drew)); exact Kd.R_mono HQ28.out (fun _ hk => ⟨hk.1.1, ⟨hk.1.2, hk.2⟩⟩)⟩
        have n1_ : Aside0 (Kd.R (Kd.int .i64) 3 (w27.setCell ⟨go16, (x4_1 : Int).toNat, none⟩ (.int .i64 t275)) w.heap.size (fun k_ => some k_ ≠ (.slice (some ⟨go16, 0, none⟩) x272000_1.length co16 : Value).ownBlock ∧ nB k_ u272002 ∧ nB k_ (.slice Ao26 y272.length co26)) u272001 x272001_1) := ⟨by (with_reducible repeat (first | apply Kd.R_alloc | apply Kd.R_drewN | apply Kd.R_drew)); exact Kd.R_mono (Kd.R_far (p := ⟨go16, (x4_1 : Int).toNat, none⟩) (Kd.R_mono HO_272001.out (fun k_ hk => (⟨hk, fun e_ => hk.1.1 (by rw [e_]; rfl)⟩ : _ ∧ k_ ≠ go16))) (fun _ hk => hk.2) (.int .i64 t275)) (fun _ hk => ⟨hk.1.1.1, ⟨hk.1.1.2, hk.1.2⟩⟩)⟩
        have n2_ : Aside0 (Kd.R (Kd.int .i64) 3 (w27.setCell ⟨go16, (x4_1 : Int).toNat, none⟩ (.int .i64 t275)) w.heap.size (fun k_ => some k_ ≠ (.slice (some ⟨go16, 0, none⟩) x272000_1.length co16 : Value).ownBlock ∧ nB k_ u272001 ∧ nB k_ (.slice Ao26 y272.length co26)) u272002 x272002_1) := ⟨by (with_reducible repeat (first | apply Kd.R_alloc | apply Kd.R_drewN | apply Kd.R_drew)); exact Kd.R_mono (Kd.R_far (p := ⟨go16, (x4_1 : Int).toNat, none⟩) (Kd.R_mono HO_272002.out (fun k_ hk => (⟨hk, fun e_ => hk.1.1 (by rw [e_]; rfl)⟩ : _ ∧ k_ ≠ go16))) (fun _ hk => hk.2) (.int .i64 t275)) (fun _ hk => ⟨hk.1.1.1, ⟨hk.1.1.2, hk.1.2⟩⟩)⟩
        have n3_ : Aside0 (Kd.R (Kd.int .i64) 3 (w27.setCell ⟨go16, (x4_1 : Int).toNat, none⟩ (.int .i64 t275)) w.heap.size (fun k_ => some k_ ≠ (.slice (some ⟨go16, 0, none⟩) x272000_1.length co16 : Value).ownBlock ∧ nB k_ u272001 ∧ nB k_ u272002) (.slice Ao26 y272.length co26) y272) := ⟨by (with_reducible repeat (first | apply Kd.R_alloc | apply Kd.R_drewN | apply Kd.R_drew)); exact Kd.R_mono (Kd.R_far (p := ⟨go16, (x4_1 : Int).toNat, none⟩) (Kd.R_mono HO274.out (fun k_ hk => (⟨hk, fun e_ => hk.1.1.2 (by rw [e_]; rfl)⟩ : _ ∧ k_ ≠ go16))) (fun _ hk => hk.2) (.int .i64 t275)) (fun _ hk => ⟨hk.1.1.1.2, ⟨hk.1.1.2, hk.1.2⟩⟩)⟩
        have n4_ : Aside0 ((w27.setCell ⟨go16, (x4_1 : Int).toNat, none⟩ (.int .i64 t275)).heap[gb261]? = some (.cells #[.slice none 0 0, .slice none 0 0, .slice none 0 0] 30 (0, 0))) := ⟨by (with_reducible repeat (first | refine blk_drewN ?_ _ | refine blk_drew ?_ | refine blk_alloc ?_ _)); refine blk_far ?_ (by have h_ := Kd.R_ne HO_272000.out BK261.out (by decide); intro e_; exact h_ (by rw [e_]; rfl)) _; (with_reducible repeat (first | refine blk_drewN ?_ _ | refine blk_drew ?_ | refine blk_alloc ?_ _)); exact BK261.out⟩
        have n5_ : Aside0 ((w27.setCell ⟨go16, (x4_1 : Int).toNat, none⟩ (.int .i64 t275)).heap[gb271]? = some (.cells #[.slice (some ⟨go16, 0, none⟩) x272000_1.length co16, u272001, u272002] 30 (0, 0))) := ⟨by (with_reducible repeat (first | refine blk_drewN ?_ _ | refine blk_drew ?_ | refine blk_alloc ?_ _)); refine blk_far ?_ (by have h_ := Kd.R_ne HO_272000.out BK271.out (by decide); intro e_; exact h_ (by rw [e_]; rfl)) _; (with_reducible repeat (first | refine blk_drewN ?_ _ | refine blk_drew ?_ | refine blk_alloc ?_ _)); exact BK271.out⟩
        have n6_ : Aside0 (IsS66 w0 (w27.setCell ⟨go16, (x4_1 : Int).toNat, none⟩ (.int .i64 t275)) g s0_0 t276) := ⟨mI66_1 HI0.out⟩
        have n7_ : Aside0 (KeepBut w (w27.setCell ⟨go16, (x4_1 : Int).toNat, none⟩ (.int .i64 t275)) g none) := ⟨mKp HK.out⟩
        have n8_ : Aside0 (Below w0.heap.size w0 (w27.setCell ⟨go16, (x4_1 : Int).toNat, none⟩ (.int .i64 t275))) := ⟨by repeat (first | (with_reducible first | exact HB.out | apply below_alloc | apply pw_below_drewN | apply below_drew1 | refine below_set ?_ (Nat.le_trans HL.out GB16.out) | refine below_set ?_ (IsS66.ge HI0.out) | refine below_set ?_ GE261.out | refine below_set ?_ GE271.out) | exact HB.out)⟩
        (try clear HO_272000)
        (try clear HO_272001)
        (try clear HO_272002)
        (try clear HO274)
        (try clear BK261)
        (try clear BK271)
        (try clear HI0)
        (try clear HK)
        (try clear HB)
        generalize (w27.setCell ⟨go16, (x4_1 : Int).toNat, none⟩ (.int .i64 t275)) = w29 at n0_ n1_ n2_ n3_ n4_ n5_ n6_ n7_ n8_ ⊢
        have HO_272000 := n0_
        have HO_272001 := n1_
        have HO_272002 := n2_
        have HO274 := n3_
        have BK261 := n4_
        have BK271 := n5_
        have HI0 := n6_
        have HK := n7_
        have HB := n8_
        clear n0_ n1_ n2_ n3_ n4_ n5_ n6_ n7_ n8_
        have n_ := az (Kd.R_drew HO_272000.out) <| az (Kd.R_drew HO_272001.out) <| az (Kd.R_drew HO_272002.out) <| az (Kd.R_drew HO274.out) <| az (blk_drew BK261.out) <| az (blk_drew BK271.out) <| az (IsS66.drew HI0.out) <| az (keep_drew HK.out) <| z0 (below_drew1 HB.out)
        clear HO_272000 HO_272001 HO_272002 HO274 BK261 BK271 HI0 HK HB
        obtain ⟨HO_272000, HO_272001, HO_272002, HO274, BK261, BK271, HI0, HK, HB⟩ := n_
        refine start_ (n := 8) (S := fun w' => w'.cell? ⟨gb271, 0, none⟩ = some (.slice (some ⟨go16, 0, none⟩) x272000_1.length co16) ∧ w'.cell? ⟨gb271, 1, none⟩ = some (u272001) ∧ w'.cell? ⟨gb271, 2, none⟩ = some (u272002)) (ds := [7]) #[false, false, false, false, false, false, false, false] (by kernel_rfl) rfl rfl q33_1 (fun hHeld => ?_); refine with_tabW spec_l2Mem.tab6 spec_l2Mem.bits6 (fun HT_ HW_ => ?_)
        generalize w29.drew = w30 at HO_272000 HO_272001 HO_272002 HO274 BK261 BK271 HI0 HK HB HQ28 hHeld ⊢
        refine pure_ (i := 0) (N := some 17) (v := ?_) (a' := ?_) #[true, false, false, false, false, false, false, false] rfl rfl (any_of HT_.out (by kernel_rfl)) (fun _ _ _ h => h) (Or.inl ⟨by rfl, ?_⟩) ?_ ?_
        rotate_left
        ·intro w'
         go_simp
         with_reducible rfl
        rotate_left
        ·simp only [Act.put, List.setIfInBounds_toArray, List.set_cons_zero, List.set_cons_succ, i64_w, i32_w]
         rfl
        refine pure_ (i := 2) (N := some 19) (v := ?_) (a' := ?_) #[true, false, true, false, false, false, false, false] rfl rfl (any_of HT_.out (by kernel_rfl)) (fun _ _ _ h => h) (Or.inl ⟨by rfl, ?_⟩) ?_ ?_
        rotate_left
        ·intro w'
         go_simp
         with_reducible rfl
        rotate_left
        ·simp only [Act.put, List.setIfInBounds_toArray, List.set_cons_zero, List.set_cons_succ, i64_w, i32_w]
         rfl
        refine pure_ (i := 3) (N := some 20) (v := ?_) (a' := ?_) #[true, false, true, true, false, false, false, false] rfl rfl (any_of HT_.out (by kernel_rfl)) (fun _ _ _ h => h) (Or.inl ⟨by rfl, ?_⟩) ?_ ?_
        rotate_left
        ·intro w'
         go_simp
         with_reducible rfl
        rotate_left
        ·simp only [Act.put, List.setIfInBounds_toArray, List.set_cons_zero, List.set_cons_succ, i64_w, i32_w]
         rfl
        refine take_ (i := 1) (N := some 18) (v := ?_) (a' := ?_) #[true, true, true, true, false, false, false, false] rfl rfl (take_ofW HT_.out HW_.out (by kernel_rfl)) (fun _ _ _ h => h) (Or.inl ⟨by rfl, ?_⟩) hHeld ?_ ?_
        rotate_left
        ·rintro w' ⟨s0, s1, s2⟩
         go_simp
         with_reducible rfl
        rotate_left
        ·simp only [Act.put, List.setIfInBounds_toArray, List.set_cons_zero, List.set_cons_succ, i64_w, i32_w]
         rfl
        refine one_ (i := 4) (N := some 21) #[true, true, true, true, true, false, false, false] rfl rfl (one_of HT_.out (by kernel_rfl)) (by decide) (fun K hK => ?_)
        refine Kd.R_lit_step (Kd.int .i64) _ 3 ?hg (N := 21) ?hd (xs := ([0, 0, 1, 3] : List Int)) (inner := [.int .i64 0, .int .i64 0, .int .i64 1, .int .i64 3]) (ok := fun _ => True) (okp := fun _ => True) ?hr ?hp (fun _ hk => hk) trivial (Below.refl _ _) (Nat.le_refl _) (by simp) ?_; (case hd => rfl); (case hg => rfl); (case hr => first | (go_simp; done) | (go_simp; rfl)); (case hp => exact (Reps.one (show Kd.M (Kd.int .i64) _ _ _ 0 [.int .i64 0] from rfl) (Reps.one (show Kd.M (Kd.int .i64) _ _ _ 0 [.int .i64 0] from rfl) (Reps.one (show Kd.M (Kd.int .i64) _ _ _ 1 [.int .i64 1] from rfl) (Reps.one (show Kd.M (Kd.int .i64) _ _ _ 3 [.int .i64 3] from rfl) (Reps.none _ _))))))
        intro v279 w31 ho32 hb hg_ hnew_
        clear hg_ hnew_
        (first | rw [← Ny278.out] at ho32 | (simp only [Int.reduceToNat] at ho32; rw [← Ny278.out] at ho32))
        have n_ := az (Kd.R_elder' (mR HO_272000.out) (by first | exact Kd.R_base ho32 | exact Kd.R_base ho32) hb) <| az (Kd.R_elder' (mR HO_272001.out) (by first | exact Kd.R_base ho32 | exact Kd.R_base ho32) hb) <| az (Kd.R_elder' (mR HO_272002.out) (by first | exact Kd.R_base ho32 | exact Kd.R_base ho32) hb) <| az (Kd.R_elder' (mR HO274.out) (by first | exact Kd.R_base ho32 | exact Kd.R_base ho32) hb) <| And.intro (z0 (Kd.R_lower (Kd.R_new' (Kd.R_new' (Kd.R_new' (Kd.R_new' ho32 (Kd.R_lt (mR HO_272000.out))) (Kd.R_lt (mR HO_272001.out))) (Kd.R_lt (mR HO_272002.out))) (Kd.R_lt (mR HO274.out))) (kS HK.out))) <| az (bB BK261.out hb) <| az (bB BK271.out hb) <| az (IsS66.below (mI66_1 HI0.out) hb) <| az (KeepBut.trans (mKp HK.out) (KeepBut.of_below hb g none) (.inl rfl)) <| z0 (below_step (mB66HI0 HB.out) hb)
        clear HO_272000 HO_272001 HO_272002 HO274 BK261 BK271 HI0 HK HB
        obtain ⟨HO_272000, HO_272001, HO_272002, HO274, HO280, BK261, BK271, HI0, HK, HB⟩ := n_
        clear hb ho32
        obtain ⟨Ao33, co33, eo33⟩ := Kd.R_slice HO280.out
        (first | subst eo33 | (injection eo33 with f1_ f2_ f3_; have f4_ := f1_.symm; have f5_ := f3_.symm; clear f1_ f2_ f3_; subst f4_; subst f5_))
        refine hK.out _ _ q33_1 (fun hHeld => ?_)
        clear hK K
        refine norm_ (a' := ?_) ?_ ?_
        rotate_left
        ·show Act.put _ (some 21) _ = _
         simp only [Act.put, List.setIfInBounds_toArray, List.set_cons_zero, List.set_cons_succ, i64_w, i32_w]
         rfl
        refine one_ (i := 5) (N := some 22) #[true, true, true, true, true, true, false, false] rfl rfl (one_of HT_.out (by kernel_rfl)) (by decide) (fun K hK => ?_)
        refine goes_ Try.func31 (by kernel_rfl) rfl #[.pointer (some ⟨g, 0, none⟩), .slice Ao33 y278.length co33] (by rfl) rfl rfl argx ?_
        with_reducible refine (spec_l12Rd_num.calls k1 g s0_0 t276 _ _ y278 t281 t282 w0 _ ?side1 ?side2 ?side3 ?side4 ?side5 A17.out).mono ?_
        (case side1 => exact mI66_1 HI0.out)
        (case side2 => exact mB66HI0 HB.out)
        (case side3 => exact mC (Kd.R_reads' HO280.out).2.2)
        (case side4 => exact (Kd.R_reads' HO280.out).2.1)
        (case side5 => exact far_slice (IsS66.own_ne HI0.out HO280.out (by decide)))
        rintro e w34 ⟨rfl, hi, hb, hk⟩
        refine ⟨_, rfl, ?_⟩
        have n_ := And.intro (z0 (Kd.R_mono (Kd.R_keep (IsS66.apart (show IsS66 w0 _ g s0_0 t276 from mI66_1 HI0.out) (mR HO_272000.out) (by decide)) hk (fun _ h => h.2)) (fun _ h => h.1))) <| And.intro (z0 (Kd.R_mono (Kd.R_keep (IsS66.apart (show IsS66 w0 _ g s0_0 t276 from mI66_1 HI0.out) (mR HO_272001.out) (by decide)) hk (fun _ h => h.2)) (fun _ h => h.1))) <| And.intro (z0 (Kd.R_mono (Kd.R_keep (IsS66.apart (show IsS66 w0 _ g s0_0 t276 from mI66_1 HI0.out) (mR HO_272002.out) (by decide)) hk (fun _ h => h.2)) (fun _ h => h.1))) <| az (kB hk BK261.out NB261_0.out) <| az (kB hk BK271.out NB271_0.out) <| And.intro (z0 (Kd.R_mono (Kd.R_keep (IsS66.apart (show IsS66 w0 _ g s0_0 t276 from mI66_1 HI0.out) (mR HO274.out) (by decide)) hk (fun _ h => h.2)) (fun _ h => h.1))) <| And.intro (z0 (Kd.R_mono (Kd.R_keep (IsS66.apart (show IsS66 w0 _ g s0_0 t276 from mI66_1 HI0.out) (mR HO280.out) (by decide)) hk (fun _ h => h.2)) (fun _ h => h.1))) <| az (KeepBut.trans (mKp HK.out) hk (.inl rfl)) <| az (hb) <| z0 (hi)
        clear HO_272000 HO_272001 HO_272002 BK261 BK271 HO274 HO280 HK HB HI0
        obtain ⟨HO_272000, HO_272001, HO_272002, BK261, BK271, HO274, HO280, HK, HB, HI0⟩ := n_
        (try clear hb)
        (try clear hb2)
        (try clear hk)
        (try clear hi)
        have p19 : 0 ≤ (x4_1 : Int) := of_decide_eq_true (by first | (with_reducible assumption) | assumption)
        have q19 : (x4_1 : Int) < ((x272001_1.length : Int) : Int) := of_decide_eq_true (by first | (with_reducible assumption) | assumption)
        obtain ⟨go19, co19, eo19, gb19, gl19, cl19, HG19⟩ := Kd.R_form HO_272001.out (by omega)
        (first | cases eo19 | (injection eo19 with ea_ en_ ec_; (first | subst ea_ | (injection ea_ with ea_; subst ea_)); subst ec_; clear en_))
        have GB19 := z0 gb19
        have GG19 := z0 HG19
        clear gb19 gl19 HG19
        obtain ⟨hx19_0, hf19_0⟩ := Kd.R_celln 0 HO_272001.out (x4_1 : Int) p19 q19
        replace p19 := eq_true p19
        replace q19 := eq_true q19
        have HN0_go19 := z0 (show g ≠ go19 from by have h_ := IsS66.own_ne HI0.out HO_272001.out (by decide); intro e_; exact h_ (by rw [e_]; rfl))
        have HP35 := Kd.R_putn HO_272001.out (x4_1 : Int) t281
        rw [← Ny283.out] at HP35
        have HQ35 := z0 HP35
        clear HP35
        refine hK.out _ _ q33_1 (fun hHeld => ?_)
        clear hK K
        refine norm_ (a' := ?_) ?_ ?_
        rotate_left
        ·show Act.put _ (some 22) _ = _
         simp only [Act.put, List.setIfInBounds_toArray, List.set_cons_zero, List.set_cons_succ, i64_w, i32_w]
         rfl
        refine pure_ (i := 6) (N := some 23) (v := ?_) (a' := ?_) #[true, true, true, true, true, true, true, false] rfl rfl (any_of HT_.out (by kernel_rfl)) (fun _ _ _ h => h) (Or.inl ⟨by rfl, ?_⟩) ?_ ?_
        rotate_left
        ·intro w'
         go_simp
         with_reducible rfl
        rotate_left
        ·simp only [Act.put, List.setIfInBounds_toArray, List.set_cons_zero, List.set_cons_succ, i64_w, i32_w]
         rfl
        refine last_ (i := 7) (N := none) #[true, true, true, true, true, true, true, true] rfl rfl (one_of HT_.out (by kernel_rfl)) (by decide) (fun K hK => ?_)
        refine skip_ (w1 := ?_) (by rfl) rfl ?_ ?_
        rotate_left
        ·go_simp
         rfl
        refine hK.out _ _ ?_
        clear hK K
        refine done_ (done_of HT_.out (by kernel_rfl)) ?_
        try go_wp2
        have n0_ : Aside0 (Kd.R (Kd.int .i64) 3 (w34.setCell ⟨go19, (x4_1 : Int).toNat, none⟩ (.int .i64 t281)) w.heap.size (fun k_ => some k_ ≠ (.slice (some ⟨go19, 0, none⟩) x272001_1.length co19 : Value).ownBlock ∧ nB k_ u272002 ∧ nB k_ (.slice Ao26 y272.length co26) ∧ nB k_ (.slice Ao33 y278.length co33)) (.slice (some ⟨go16, 0, none⟩) x272000_1.length co16) y277) := ⟨by (with_reducible repeat (first | apply Kd.R_alloc | apply Kd.R_drewN | apply Kd.R_drew)); exact Kd.R_mono (Kd.R_far (p := ⟨go19, (x4_1 : Int).toNat, none⟩) (Kd.R_mono HO_272000.out (fun k_ hk => (⟨hk, fun e_ => hk.1.1 (by rw [e_]; rfl)⟩ : _ ∧ k_ ≠ go19))) (fun _ hk => hk.2) (.int .i64 t281)) (fun _ hk => ⟨hk.1.1.1, ⟨hk.1.1.2.1, ⟨hk.1.1.2.2, hk.1.2⟩⟩⟩)⟩
        have n1_ : Aside0 (Kd.R (Kd.int .i64) 3 (w34.setCell ⟨go19, (x4_1 : Int).toNat, none⟩ (.int .i64 t281)) w.heap.size (fun k_ => some k_ ≠ (.slice (some ⟨go16, 0, none⟩) x272000_1.length co16 : Value).ownBlock ∧ nB k_ u272002 ∧ nB k_ (.slice Ao26 y272.length co26) ∧ nB k_ (.slice Ao33 y278.length co33)) (.slice (some ⟨go19, 0, none⟩) x272001_1.length co19) y283) := ⟨by (with_reducible repeat (first | apply Kd.R_alloc | apply Kd.R_drewN | apply Kd.R_drew)); exact Kd.R_mono HQ35.out (fun _ hk => ⟨hk.1.1, ⟨hk.1.2.1, ⟨hk.1.2.2, hk.2⟩⟩⟩)⟩
        have n2_ : Aside0 (Kd.R (Kd.int .i64) 3 (w34.setCell ⟨go19, (x4_1 : Int).toNat, none⟩ (.int .i64 t281)) w.heap.size (fun k_ => some k_ ≠ (.slice (some ⟨go16, 0, none⟩) x272000_1.length co16 : Value).ownBlock ∧ some k_ ≠ (.slice (some ⟨go19, 0, none⟩) x272001_1.length co19 : Value).ownBlock ∧ nB k_ (.slice Ao26 y272.length co26) ∧ nB k_ (.slice Ao33 y278.length co33)) u272002 x272002_1) := ⟨by (with_reducible repeat (first | apply Kd.R_alloc | apply Kd.R_drewN | apply Kd.R_drew)); exact Kd.R_mono (Kd.R_far (p := ⟨go19, (x4_1 : Int).toNat, none⟩) (Kd.R_mono HO_272002.out (fun k_ hk => (⟨hk, fun e_ => hk.1.2.1 (by rw [e_]; rfl)⟩ : _ ∧ k_ ≠ go19))) (fun _ hk => hk.2) (.int .i64 t281)) (fun _ hk => ⟨hk.1.1.1, ⟨hk.1.1.2.1, ⟨hk.1.1.2.2, hk.1.2⟩⟩⟩)⟩
        have n3_ : Aside0 (Kd.R (Kd.int .i64) 3 (w34.setCell ⟨go19, (x4_1 : Int).toNat, none⟩ (.int .i64 t281)) w.heap.size (fun k_ => some k_ ≠ (.slice (some ⟨go16, 0, none⟩) x272000_1.length co16 : Value).ownBlock ∧ some k_ ≠ (.slice (some ⟨go19, 0, none⟩) x272001_1.length co19 : Value).ownBlock ∧ nB k_ u272002 ∧ nB k_ (.slice Ao33 y278.length co33)) (.slice Ao26 y272.length co26) y272) := ⟨by (with_reducible repeat (first | apply Kd.R_alloc | apply Kd.R_drewN | apply Kd.R_drew)); exact Kd.R_mono (Kd.R_far (p := ⟨go19, (x4_1 : Int).toNat, none⟩) (Kd.R_mono HO274.out (fun k_ hk => (⟨hk, fun e_ => hk.1.2.1 (by rw [e_]; rfl)⟩ : _ ∧ k_ ≠ go19))) (fun _ hk => hk.2) (.int .i64 t281)) (fun _ hk => ⟨hk.1.1.1, ⟨hk.1.1.2.1, ⟨hk.1.1.2.2, hk.1.2⟩⟩⟩)⟩
        have n4_ : Aside0 (Kd.R (Kd.int .i64) 3 (w34.setCell ⟨go19, (x4_1 : Int).toNat, none⟩ (.int .i64 t281)) w.heap.size (fun k_ => some k_ ≠ (.slice (some ⟨go16, 0, none⟩) x272000_1.length co16 : Value).ownBlock ∧ some k_ ≠ (.slice (some ⟨go19, 0, none⟩) x272001_1.length co19 : Value).ownBlock ∧ nB k_ u272002 ∧ nB k_ (.slice Ao26 y272.length co26)) (.slice Ao33 y278.length co33) y278) := ⟨by (with_reducible repeat (first | apply Kd.R_alloc | apply Kd.R_drewN | apply Kd.R_drew)); exact Kd.R_mono (Kd.R_far (p := ⟨go19, (x4_1 : Int).toNat, none⟩) (Kd.R_mono HO280.out (fun k_ hk => (⟨hk, fun e_ => hk.1.1.2 (by rw [e_]; rfl)⟩ : _ ∧ k_ ≠ go19))) (fun _ hk => hk.2) (.int .i64 t281)) (fun _ hk => ⟨hk.1.1.1.1.2, ⟨hk.1.1.1.2, ⟨hk.1.1.2, hk.1.2⟩⟩⟩)⟩
        have n5_ : Aside0 ((w34.setCell ⟨go19, (x4_1 : Int).toNat, none⟩ (.int .i64 t281)).heap[gb261]? = some (.cells #[.slice none 0 0, .slice none 0 0, .slice none 0 0] 30 (0, 0))) := ⟨by (with_reducible repeat (first | refine blk_drewN ?_ _ | refine blk_drew ?_ | refine blk_alloc ?_ _)); refine blk_far ?_ (by have h_ := Kd.R_ne HO_272001.out BK261.out (by decide); intro e_; exact h_ (by rw [e_]; rfl)) _; (with_reducible repeat (first | refine blk_drewN ?_ _ | refine blk_drew ?_ | refine blk_alloc ?_ _)); exact BK261.out⟩
        have n6_ : Aside0 ((w34.setCell ⟨go19, (x4_1 : Int).toNat, none⟩ (.int .i64 t281)).heap[gb271]? = some (.cells #[.slice (some ⟨go16, 0, none⟩) x272000_1.length co16, .slice (some ⟨go19, 0, none⟩) x272001_1.length co19, u272002] 30 (0, 0))) := ⟨by (with_reducible repeat (first | refine blk_drewN ?_ _ | refine blk_drew ?_ | refine blk_alloc ?_ _)); refine blk_far ?_ (by have h_ := Kd.R_ne HO_272001.out BK271.out (by decide); intro e_; exact h_ (by rw [e_]; rfl)) _; (with_reducible repeat (first | refine blk_drewN ?_ _ | refine blk_drew ?_ | refine blk_alloc ?_ _)); exact BK271.out⟩
        have n7_ : Aside0 (IsS66 w0 (w34.setCell ⟨go19, (x4_1 : Int).toNat, none⟩ (.int .i64 t281)) g s0_0 t282) := ⟨mI66_1 HI0.out⟩
        have n8_ : Aside0 (KeepBut w (w34.setCell ⟨go19, (x4_1 : Int).toNat, none⟩ (.int .i64 t281)) g none) := ⟨mKp HK.out⟩
        have n9_ : Aside0 (Below w0.heap.size w0 (w34.setCell ⟨go19, (x4_1 : Int).toNat, none⟩ (.int .i64 t281))) := ⟨by repeat (first | (with_reducible first | exact HB.out | apply below_alloc | apply pw_below_drewN | apply below_drew1 | refine below_set ?_ (Nat.le_trans HL.out GB19.out) | refine below_set ?_ (IsS66.ge HI0.out) | refine below_set ?_ GE261.out | refine below_set ?_ GE271.out) | exact HB.out)⟩
        (try clear HO_272000)
        (try clear HO_272001)
        (try clear HO_272002)
        (try clear HO274)
        (try clear HO280)
        (try clear BK261)
        (try clear BK271)
        (try clear HI0)
        (try clear HK)
        (try clear HB)
        generalize (w34.setCell ⟨go19, (x4_1 : Int).toNat, none⟩ (.int .i64 t281)) = w36 at n0_ n1_ n2_ n3_ n4_ n5_ n6_ n7_ n8_ n9_ ⊢
        have HO_272000 := n0_
        have HO_272001 := n1_
        have HO_272002 := n2_
        have HO274 := n3_
        have HO280 := n4_
        have BK261 := n5_
        have BK271 := n6_
        have HI0 := n7_
        have HK := n8_
        have HB := n9_
        clear n0_ n1_ n2_ n3_ n4_ n5_ n6_ n7_ n8_ n9_
        have n_ := az (Kd.R_drew HO_272000.out) <| az (Kd.R_drew HO_272001.out) <| az (Kd.R_drew HO_272002.out) <| az (Kd.R_drew HO274.out) <| az (Kd.R_drew HO280.out) <| az (blk_drew BK261.out) <| az (blk_drew BK271.out) <| az (IsS66.drew HI0.out) <| az (keep_drew HK.out) <| z0 (below_drew1 HB.out)
        clear HO_272000 HO_272001 HO_272002 HO274 HO280 BK261 BK271 HI0 HK HB
        obtain ⟨HO_272000, HO_272001, HO_272002, HO274, HO280, BK261, BK271, HI0, HK, HB⟩ := n_
        refine start_ (n := 8) (S := fun w' => w'.cell? ⟨gb271, 0, none⟩ = some (.slice (some ⟨go16, 0, none⟩) x272000_1.length co16) ∧ w'.cell? ⟨gb271, 1, none⟩ = some (.slice (some ⟨go19, 0, none⟩) x272001_1.length co19) ∧ w'.cell? ⟨gb271, 2, none⟩ = some (u272002)) (ds := [7]) #[false, false, false, false, false, false, false, false] (by kernel_rfl) rfl rfl q33_1 (fun hHeld => ?_); refine with_tabW spec_l2Mem.tab7 spec_l2Mem.bits7 (fun HT_ HW_ => ?_)
        generalize w36.drew = w37 at HO_272000 HO_272001 HO_272002 HO274 HO280 BK261 BK271 HI0 HK HB HQ35 hHeld ⊢
        refine pure_ (i := 0) (N := some 24) (v := ?_) (a' := ?_) #[true, false, false, false, false, false, false, false] rfl rfl (any_of HT_.out (by kernel_rfl)) (fun _ _ _ h => h) (Or.inl ⟨by rfl, ?_⟩) ?_ ?_
        rotate_left
        ·intro w'
         go_simp
         with_reducible rfl
        rotate_left
        ·simp only [Act.put, List.setIfInBounds_toArray, List.set_cons_zero, List.set_cons_succ, i64_w, i32_w]
         rfl
        refine pure_ (i := 2) (N := some 26) (v := ?_) (a' := ?_) #[true, false, true, false, false, false, false, false] rfl rfl (any_of HT_.out (by kernel_rfl)) (fun _ _ _ h => h) (Or.inl ⟨by rfl, ?_⟩) ?_ ?_
        rotate_left
        ·intro w'
         go_simp
         with_reducible rfl
        rotate_left
        ·simp only [Act.put, List.setIfInBounds_toArray, List.set_cons_zero, List.set_cons_succ, i64_w, i32_w]
         rfl
        refine pure_ (i := 3) (N := some 27) (v := ?_) (a' := ?_) #[true, false, true, true, false, false, false, false] rfl rfl (any_of HT_.out (by kernel_rfl)) (fun _ _ _ h => h) (Or.inl ⟨by rfl, ?_⟩) ?_ ?_
        rotate_left
        ·intro w'
         go_simp
         with_reducible rfl
        rotate_left
        ·simp only [Act.put, List.setIfInBounds_toArray, List.set_cons_zero, List.set_cons_succ, i64_w, i32_w]
         rfl
        refine take_ (i := 1) (N := some 25) (v := ?_) (a' := ?_) #[true, true, true, true, false, false, false, false] rfl rfl (take_ofW HT_.out HW_.out (by kernel_rfl)) (fun _ _ _ h => h) (Or.inl ⟨by rfl, ?_⟩) hHeld ?_ ?_
        rotate_left
        ·rintro w' ⟨s0, s1, s2⟩
         go_simp
         with_reducible rfl
        rotate_left
        ·simp only [Act.put, List.setIfInBounds_toArray, List.set_cons_zero, List.set_cons_succ, i64_w, i32_w]
         rfl
        refine one_ (i := 4) (N := some 28) #[true, true, true, true, true, false, false, false] rfl rfl (one_of HT_.out (by kernel_rfl)) (by decide) (fun K hK => ?_)
        refine Kd.R_lit_step (Kd.int .i64) _ 3 ?hg (N := 28) ?hd (xs := ([0, 0, 1, 2, 7, 1000000] : List Int)) (inner := [.int .i64 0, .int .i64 0, .int .i64 1, .int .i64 2, .int .i64 7, .int .i64 1000000]) (ok := fun _ => True) (okp := fun _ => True) ?hr ?hp (fun _ hk => hk) trivial (Below.refl _ _) (Nat.le_refl _) (by simp) ?_; (case hd => rfl); (case hg => rfl); (case hr => first | (go_simp; done) | (go_simp; rfl)); (case hp => exact (Reps.one (show Kd.M (Kd.int .i64) _ _ _ 0 [.int .i64 0] from rfl) (Reps.one (show Kd.M (Kd.int .i64) _ _ _ 0 [.int .i64 0] from rfl) (Reps.one (show Kd.M (Kd.int .i64) _ _ _ 1 [.int .i64 1] from rfl) (Reps.one (show Kd.M (Kd.int .i64) _ _ _ 2 [.int .i64 2] from rfl) (Reps.one (show Kd.M (Kd.int .i64) _ _ _ 7 [.int .i64 7] from rfl) (Reps.one (show Kd.M (Kd.int .i64) _ _ _ 1000000 [.int .i64 1000000] from rfl) (Reps.none _ _))))))))
        intro v285 w38 ho39 hb hg_ hnew_
        clear hg_ hnew_
        (first | rw [← Ny284.out] at ho39 | (simp only [Int.reduceToNat] at ho39; rw [← Ny284.out] at ho39))
        have n_ := az (Kd.R_elder' (mR HO_272000.out) (by first | exact Kd.R_base ho39 | exact Kd.R_base ho39) hb) <| az (Kd.R_elder' (mR HO_272001.out) (by first | exact Kd.R_base ho39 | exact Kd.R_base ho39) hb) <| az (Kd.R_elder' (mR HO_272002.out) (by first | exact Kd.R_base ho39 | exact Kd.R_base ho39) hb) <| az (Kd.R_elder' (mR HO274.out) (by first | exact Kd.R_base ho39 | exact Kd.R_base ho39) hb) <| az (Kd.R_elder' (mR HO280.out) (by first | exact Kd.R_base ho39 | exact Kd.R_base ho39) hb) <| And.intro (z0 (Kd.R_lower (Kd.R_new' (Kd.R_new' (Kd.R_new' (Kd.R_new' (Kd.R_new' ho39 (Kd.R_lt (mR HO_272000.out))) (Kd.R_lt (mR HO_272001.out))) (Kd.R_lt (mR HO_272002.out))) (Kd.R_lt (mR HO274.out))) (Kd.R_lt (mR HO280.out))) (kS HK.out))) <| az (bB BK261.out hb) <| az (bB BK271.out hb) <| az (IsS66.below (mI66_1 HI0.out) hb) <| az (KeepBut.trans (mKp HK.out) (KeepBut.of_below hb g none) (.inl rfl)) <| z0 (below_step (mB66HI0 HB.out) hb)
        clear HO_272000 HO_272001 HO_272002 HO274 HO280 BK261 BK271 HI0 HK HB
        obtain ⟨HO_272000, HO_272001, HO_272002, HO274, HO280, HO286, BK261, BK271, HI0, HK, HB⟩ := n_
        clear hb ho39
        obtain ⟨Ao40, co40, eo40⟩ := Kd.R_slice HO286.out
        (first | subst eo40 | (injection eo40 with f1_ f2_ f3_; have f4_ := f1_.symm; have f5_ := f3_.symm; clear f1_ f2_ f3_; subst f4_; subst f5_))
        refine hK.out _ _ q33_1 (fun hHeld => ?_)
        clear hK K
        refine norm_ (a' := ?_) ?_ ?_
        rotate_left
        ·show Act.put _ (some 28) _ = _
         simp only [Act.put, List.setIfInBounds_toArray, List.set_cons_zero, List.set_cons_succ, i64_w, i32_w]
         rfl
        refine one_ (i := 5) (N := some 29) #[true, true, true, true, true, true, false, false] rfl rfl (one_of HT_.out (by kernel_rfl)) (by decide) (fun K hK => ?_)
        refine goes_ Try.func31 (by kernel_rfl) rfl #[.pointer (some ⟨g, 0, none⟩), .slice Ao40 y284.length co40] (by rfl) rfl rfl argx ?_
        with_reducible refine (spec_l12Rd_num.calls k1 g s0_0 t282 _ _ y284 t287 t288 w0 _ ?side1 ?side2 ?side3 ?side4 ?side5 A20.out).mono ?_
        (case side1 => exact mI66_1 HI0.out)
        (case side2 => exact mB66HI0 HB.out)
        (case side3 => exact mC (Kd.R_reads' HO286.out).2.2)
        (case side4 => exact (Kd.R_reads' HO286.out).2.1)
        (case side5 => exact far_slice (IsS66.own_ne HI0.out HO286.out (by decide)))
        rintro e w41 ⟨rfl, hi, hb, hk⟩
        refine ⟨_, rfl, ?_⟩
        have n_ := And.intro (z0 (Kd.R_mono (Kd.R_keep (IsS66.apart (show IsS66 w0 _ g s0_0 t282 from mI66_1 HI0.out) (mR HO_272000.out) (by decide)) hk (fun _ h => h.2)) (fun _ h => h.1))) <| And.intro (z0 (Kd.R_mono (Kd.R_keep (IsS66.apart (show IsS66 w0 _ g s0_0 t282 from mI66_1 HI0.out) (mR HO_272001.out) (by decide)) hk (fun _ h => h.2)) (fun _ h => h.1))) <| And.intro (z0 (Kd.R_mono (Kd.R_keep (IsS66.apart (show IsS66 w0 _ g s0_0 t282 from mI66_1 HI0.out) (mR HO_272002.out) (by decide)) hk (fun _ h => h.2)) (fun _ h => h.1))) <| az (kB hk BK261.out NB261_0.out) <| az (kB hk BK271.out NB271_0.out) <| And.intro (z0 (Kd.R_mono (Kd.R_keep (IsS66.apart (show IsS66 w0 _ g s0_0 t282 from mI66_1 HI0.out) (mR HO274.out) (by decide)) hk (fun _ h => h.2)) (fun _ h => h.1))) <| And.intro (z0 (Kd.R_mono (Kd.R_keep (IsS66.apart (show IsS66 w0 _ g s0_0 t282 from mI66_1 HI0.out) (mR HO280.out) (by decide)) hk (fun _ h => h.2)) (fun _ h => h.1))) <| And.intro (z0 (Kd.R_mono (Kd.R_keep (IsS66.apart (show IsS66 w0 _ g s0_0 t282 from mI66_1 HI0.out) (mR HO286.out) (by decide)) hk (fun _ h => h.2)) (fun _ h => h.1))) <| az (KeepBut.trans (mKp HK.out) hk (.inl rfl)) <| az (hb) <| z0 (hi)
        clear HO_272000 HO_272001 HO_272002 BK261 BK271 HO274 HO280 HO286 HK HB HI0
        obtain ⟨HO_272000, HO_272001, HO_272002, BK261, BK271, HO274, HO280, HO286, HK, HB, HI0⟩ := n_
        (try clear hb)
        (try clear hb2)
        (try clear hk)
        (try clear hi)
        have p22 : 0 ≤ (x4_1 : Int) := of_decide_eq_true (by first | (with_reducible assumption) | assumption)
        have q22 : (x4_1 : Int) < ((x272002_1.length : Int) : Int) := of_decide_eq_true (by first | (with_reducible assumption) | assumption)
        obtain ⟨go22, co22, eo22, gb22, gl22, cl22, HG22⟩ := Kd.R_form HO_272002.out (by omega)
        (first | cases eo22 | (injection eo22 with ea_ en_ ec_; (first | subst ea_ | (injection ea_ with ea_; subst ea_)); subst ec_; clear en_))
        have GB22 := z0 gb22
        have GG22 := z0 HG22
        clear gb22 gl22 HG22
        obtain ⟨hx22_0, hf22_0⟩ := Kd.R_celln 0 HO_272002.out (x4_1 : Int) p22 q22
        replace p22 := eq_true p22
        replace q22 := eq_true q22
        have HN0_go22 := z0 (show g ≠ go22 from by have h_ := IsS66.own_ne HI0.out HO_272002.out (by decide); intro e_; exact h_ (by rw [e_]; rfl))
        have HP42 := Kd.R_putn HO_272002.out (x4_1 : Int) t287
        rw [← Ny289.out] at HP42
        have HQ42 := z0 HP42
        clear HP42
        refine hK.out _ _ q33_1 (fun hHeld => ?_)
        clear hK K
        refine norm_ (a' := ?_) ?_ ?_
        rotate_left
        ·show Act.put _ (some 29) _ = _
         simp only [Act.put, List.setIfInBounds_toArray, List.set_cons_zero, List.set_cons_succ, i64_w, i32_w]
         rfl
        refine pure_ (i := 6) (N := some 30) (v := ?_) (a' := ?_) #[true, true, true, true, true, true, true, false] rfl rfl (any_of HT_.out (by kernel_rfl)) (fun _ _ _ h => h) (Or.inl ⟨by rfl, ?_⟩) ?_ ?_
        rotate_left
        ·intro w'
         go_simp
         with_reducible rfl
        rotate_left
        ·simp only [Act.put, List.setIfInBounds_toArray, List.set_cons_zero, List.set_cons_succ, i64_w, i32_w]
         rfl
        refine last_ (i := 7) (N := none) #[true, true, true, true, true, true, true, true] rfl rfl (one_of HT_.out (by kernel_rfl)) (by decide) (fun K hK => ?_)
        refine skip_ (w1 := ?_) (by rfl) rfl ?_ ?_
        rotate_left
        ·go_simp
         rfl
        refine hK.out _ _ ?_
        clear hK K
        refine done_ (done_of HT_.out (by kernel_rfl)) ?_
        try go_wp2
        go_roundg k1
        case measure => have := HK1.out; omega
        case rel => exact ⟨(wrap64 (x4_1 + 1)), (t288), (y277), (y283), (y289), (.slice (some ⟨go16, 0, none⟩) x272000_1.length co16), (.slice (some ⟨go19, 0, none⟩) x272001_1.length co19), (.slice (some ⟨go22, 0, none⟩) x272002_1.length co22), rfy, H', ⟨by have := HK1.out; omega⟩, ⟨by (with_reducible repeat (first | apply Kd.R_alloc | apply Kd.R_drewN | apply Kd.R_drew)); exact Kd.R_mono (Kd.R_far (p := ⟨go22, (x4_1 : Int).toNat, none⟩) (Kd.R_mono HO_272000.out (fun k_ hk => (⟨hk, fun e_ => hk.1.2.1 (by rw [e_]; rfl)⟩ : _ ∧ k_ ≠ go22))) (fun _ hk => hk.2) (.int .i64 t287)) (fun _ hk => ⟨hk.1.1.1, hk.1.1.2.1⟩)⟩, ⟨by (with_reducible repeat (first | apply Kd.R_alloc | apply Kd.R_drewN | apply Kd.R_drew)); exact Kd.R_mono (Kd.R_far (p := ⟨go22, (x4_1 : Int).toNat, none⟩) (Kd.R_mono HO_272001.out (fun k_ hk => (⟨hk, fun e_ => hk.1.2.1 (by rw [e_]; rfl)⟩ : _ ∧ k_ ≠ go22))) (fun _ hk => hk.2) (.int .i64 t287)) (fun _ hk => ⟨hk.1.1.1, hk.1.1.2.1⟩)⟩, ⟨by (with_reducible repeat (first | apply Kd.R_alloc | apply Kd.R_drewN | apply Kd.R_drew)); exact Kd.R_mono HQ42.out (fun _ hk => ⟨hk.1.1, hk.1.2.1⟩)⟩, ⟨by (with_reducible repeat (first | refine blk_drewN ?_ _ | refine blk_drew ?_ | refine blk_alloc ?_ _)); refine blk_far ?_ (by have h_ := Kd.R_ne HO_272002.out BK261.out (by decide); intro e_; exact h_ (by rw [e_]; rfl)) _; (with_reducible repeat (first | refine blk_drewN ?_ _ | refine blk_drew ?_ | refine blk_alloc ?_ _)); exact BK261.out⟩, ⟨by (with_reducible repeat (first | refine blk_drewN ?_ _ | refine blk_drew ?_ | refine blk_alloc ?_ _)); refine blk_far ?_ (by have h_ := Kd.R_ne HO_272002.out BK271.out (by decide); intro e_; exact h_ (by rw [e_]; rfl)) _; (with_reducible repeat (first | refine blk_drewN ?_ _ | refine blk_drew ?_ | refine blk_alloc ?_ _)); exact BK271.out⟩, ⟨mI66_1 HI0.out⟩, ⟨mKp HK.out⟩, ⟨by repeat (first | (with_reducible first | exact HB.out | apply below_alloc | apply pw_below_drewN | apply below_drew1 | refine below_set ?_ (Nat.le_trans HL.out GB22.out) | refine below_set ?_ (IsS66.ge HI0.out) | refine below_set ?_ GE261.out | refine below_set ?_ GE271.out) | exact HB.out)⟩⟩
       ·rw [if_neg c21] at H
        exact absurd H (by simp)
      ·rw [if_neg c18] at H
       exact absurd H (by simp)
     ·rw [if_neg c15] at H
      exact absurd H (by simp)
    ·rw [if_neg c14] at H
     exact absurd H (by simp)
   ·rw [if_neg c12] at H
    have c12b0 : decide (x4_1 < 4) = false := decide_eq_false c12
    clear c12
    simp only [Option.some.injEq, Prod.mk.injEq] at H
    obtain ⟨rfl, rfl, rfl, rfl⟩ := H
    have hnb43 := NB271_261.out
    have hnc43 := NB261_271.out
    have hnb44 := NB271_0.out
    have hnc44 := NB0_271.out
    obtain ⟨hcz45_0, hcz45_1, hcz45_2, hfz45_0, hfz45_1, hfz45_2⟩ := cel3 BK271.out
    obtain ⟨Ao46, co46, eo46⟩ := Kd.R_slice HO_272000.out
    subst eo46
    have hnb47 := NB261_0.out
    have hnc47 := NB0_261.out
    obtain ⟨hcz48_0, hcz48_1, hcz48_2, hfz48_0, hfz48_1, hfz48_2⟩ := cel3 BK261.out
    obtain ⟨Ao49, co49, eo49⟩ := Kd.R_slice HO_272001.out
    subst eo49
    obtain ⟨Ao50, co50, eo50⟩ := Kd.R_slice HO_272002.out
    subst eo50
    go_wp2
    refine bodyPost_ret (results_cell_row rfl _ _ gb261 30 #[.slice Ao46 x272000_1.length co46, .slice Ao49 x272001_1.length co49, .slice Ao50 x272002_1.length co50] (0, 0) _ rfl (pF BK261.out) Try.underlying30 rfl (by kernel_rfl)) rfl ?_
    exact ⟨_, _, _, rfx, by (with_reducible repeat (first | apply Kd.R_alloc | apply Kd.R_drewN | apply Kd.R_drew)); exact Kd.R_mono (Kd.R_far (p := ⟨gb261, 2, none⟩) (Kd.R_far (p := ⟨gb261, 1, none⟩) (Kd.R_far (p := ⟨gb261, 0, none⟩) (Kd.R_types HO_272000.out BK261.out (by decide)) (fun _ hk => hk.2) (.slice Ao46 x272000_1.length co46)) (fun _ hk => hk.2) (.slice Ao49 x272001_1.length co49)) (fun _ hk => hk.2) (.slice Ao50 x272002_1.length co50)) (fun _ hk => ⟨hk.1.1, hk.1.2⟩), by (with_reducible repeat (first | apply Kd.R_alloc | apply Kd.R_drewN | apply Kd.R_drew)); exact Kd.R_mono (Kd.R_far (p := ⟨gb261, 2, none⟩) (Kd.R_far (p := ⟨gb261, 1, none⟩) (Kd.R_far (p := ⟨gb261, 0, none⟩) (Kd.R_types HO_272001.out BK261.out (by decide)) (fun _ hk => hk.2) (.slice Ao46 x272000_1.length co46)) (fun _ hk => hk.2) (.slice Ao49 x272001_1.length co49)) (fun _ hk => hk.2) (.slice Ao50 x272002_1.length co50)) (fun _ hk => ⟨hk.1.1, hk.1.2⟩), by (with_reducible repeat (first | apply Kd.R_alloc | apply Kd.R_drewN | apply Kd.R_drew)); exact Kd.R_mono (Kd.R_far (p := ⟨gb261, 2, none⟩) (Kd.R_far (p := ⟨gb261, 1, none⟩) (Kd.R_far (p := ⟨gb261, 0, none⟩) (Kd.R_types HO_272002.out BK261.out (by decide)) (fun _ hk => hk.2) (.slice Ao46 x272000_1.length co46)) (fun _ hk => hk.2) (.slice Ao49 x272001_1.length co49)) (fun _ hk => hk.2) (.slice Ao50 x272002_1.length co50)) (fun _ hk => ⟨hk.1.1, hk.1.2⟩), mI66_1 HI0.out, mB66HI0 HB.out, mKp HK.out⟩

/-! ### spec_l3Bent: function 16 -/
mutual
def spec_l3Bent.l0 : Nat → Int → List Int → Int → Int → Int → Int → Int → List (S27) → Option (Int × Int × Int × Int × (List (S27)) × Int)
 | 0, _, _, _, _, _, _, _, _ => none
 | k + 1, x4, x1000, x1001, x223000, x223001, x223002, x223003, x223004 => if x4 < 6 then (spec_l3Bent.l0 k (wrap64 (x4 + 1)) x1000 x1001 10 0 0 0 (([(⟨x223000, x223001, (⟨x223002, x223003⟩ : S24), x223004⟩ : S27)] : List (S27)))) else (some (x223000, x223001, x223002, x223003, x223004, x1001))
def spec_l3Bent.l1 : Nat → Int → List Int → Int → Int → Int → Int → Int → List (S27) → Option (Int × Int × Int × Int × (List (S27)) × Int)
 | 0, _, _, _, _, _, _, _, _ => none
 | k + 1, x5, x1000, x1001, x223000, x223001, x223002, x223003, x223004 => if x5 < 4 then ((spec_l3Copy.f k x223000 x223001 x223002 x223003 x223004).bind fun bt241 => (spec_l3Bent.l1 k (wrap64 (x5 + 1)) x1000 x1001 3 0 0 0 (([(⟨x223000, x223001, (⟨x223002, x223003⟩ : S24), x223004⟩ : S27), (⟨bt241.1, bt241.2.1, (⟨bt241.2.2.1, bt241.2.2.2.1⟩ : S24), bt241.2.2.2.2⟩ : S27)] : List (S27))))) else (some (x223000, x223001, x223002, x223003, x223004, x1001))
end
def spec_l3Bent.f (k : Nat) (s0_0 : List Int) (s0_1 : Int) : Option (Int × Int × Int × Int × (List (S27)) × Int) := (spec_l3Some.f k s0_0 s0_1).bind fun bt214 => ((spec_l12Rd_pick.f k s0_0 bt214.2.2.2.2.2 60).bind fun bt223 => (if bt223.1 = 0 then ((spec_l12Rd_num.f k s0_0 bt223.2 (([0, 11, 3, 10] : List Int))).bind fun bt228 => (some (bt228.1, bt214.2.1, bt214.2.2.1, bt214.2.2.2.1, bt214.2.2.2.2.1, bt228.2))) else (if bt223.1 = 1 then ((spec_l12Rd_num.f k s0_0 bt223.2 (([1, 1000001] : List Int))).bind fun bt233 => (some (bt214.1, bt233.1, bt214.2.2.1, bt214.2.2.2.1, bt214.2.2.2.2.1, bt233.2))) else (if bt223.1 = 2 then ((spec_l2AddrBent.f k s0_0 bt223.2).bind fun bt235 => (some (bt214.1, bt214.2.1, bt235.1, bt235.2.1, bt214.2.2.2.2.1, bt235.2.2))) else (if bt223.1 = 3 then (spec_l3Bent.l0 k 0 s0_0 bt223.2 bt214.1 bt214.2.1 bt214.2.2.1 bt214.2.2.2.1 bt214.2.2.2.2.1) else (if bt223.1 = 4 then (spec_l3Bent.l1 k 0 s0_0 bt223.2 bt214.1 bt214.2.1 bt214.2.2.1 bt214.2.2.2.1 bt214.2.2.2.2.1) else (some (bt214.1, bt214.2.1, bt214.2.2.1, bt214.2.2.2.1, bt214.2.2.2.2.1, bt223.2))))))))
set_option maxHeartbeats 8000000 in
set_option maxRecDepth 100000 in
theorem spec_l3Bent.calls (k : Nat) (g : Nat) (s0_0 : List Int) (s0_1 : Int) (r1 : Int) (r2 : Int) (r3 : Int) (r4 : Int) (r5 : List (S27)) (r6 : Int) (w0 w : World) (hI : IsS66 w0 w g s0_0 s0_1) (hB : Below w0.heap.size w0 w) (h : spec_l3Bent.f k s0_0 s0_1 = some (r1, r2, r3, r4, r5, r6)) :
  Calls Try.prog 16 #[.pointer (some ⟨g, 0, none⟩)] w fun e w' => ∃ v4_ : Value, e = .returned (.agg #[.int .i64 r1, .int .i64 r2, .int .i64 r3, .int .i64 r4, v4_]) ∧ Kd.N k27 27 w' w.heap.size (fun k_ => (w.heap.size ≤ k_)) v4_ r5 ∧ IsS66 w0 w' g s0_0 r6 ∧ Below w0.heap.size w0 w' ∧ KeepBut w w' g none := by
 have hu27 := Try.underlying27
 have hu24 := Try.underlying24
 have HI0 := z0 hI
 have HK := z0 (KeepBut.refl w g none)
 have HL := z0 hB.size
 clear hI
 have HW0 := z0 hB.size
 have HB := z0 hB
 clear hB
 have H : ((spec_l3Some.f k s0_0 s0_1).bind fun bt214 => ((spec_l12Rd_pick.f k s0_0 bt214.2.2.2.2.2 60).bind fun bt223 => (if bt223.1 = 0 then ((spec_l12Rd_num.f k s0_0 bt223.2 (([0, 11, 3, 10] : List Int))).bind fun bt228 => (some (bt228.1, bt214.2.1, bt214.2.2.1, bt214.2.2.2.1, bt214.2.2.2.2.1, bt228.2))) else (if bt223.1 = 1 then ((spec_l12Rd_num.f k s0_0 bt223.2 (([1, 1000001] : List Int))).bind fun bt233 => (some (bt214.1, bt233.1, bt214.2.2.1, bt214.2.2.2.1, bt214.2.2.2.2.1, bt233.2))) else (if bt223.1 = 2 then ((spec_l2AddrBent.f k s0_0 bt223.2).bind fun bt235 => (some (bt214.1, bt214.2.1, bt235.1, bt235.2.1, bt214.2.2.2.2.1, bt235.2.2))) else (if bt223.1 = 3 then (spec_l3Bent.l0 k 0 s0_0 bt223.2 bt214.1 bt214.2.1 bt214.2.2.1 bt214.2.2.2.1 bt214.2.2.2.2.1) else (if bt223.1 = 4 then (spec_l3Bent.l1 k 0 s0_0 bt223.2 bt214.1 bt214.2.1 bt214.2.2.1 bt214.2.2.2.1 bt214.2.2.2.2.1) else (some (bt214.1, bt214.2.1, bt214.2.2.1, bt214.2.2.2.1, bt214.2.2.2.2.1, bt223.2))))))))) = some (r1, r2, r3, r4, r5, r6) := h
 clear h
 replace H := Option.bind_eq_some_iff.mp H
 obtain ⟨⟨t214, t215, t216, t217, t218, t221⟩, A20, H⟩ := H
 try dsimp only at H
 have A2 := z0 A20
 clear A20
 replace H := Option.bind_eq_some_iff.mp H
 obtain ⟨⟨t223, t224⟩, A30, H⟩ := H
 try dsimp only at H
 have A3 := z0 A30
 clear A30
 have HF4 := z0 H
 clear H
 go_enter Try.func16, Try.ntmps16
 go_upto_if 10 with (first | ((with_reducible refine gate_dst (N := 2) rfl ?_); refine box_event ?hg (N := 2) ?hd (cs := #[.int .i64 0, .int .i64 0, .int .i64 0, .int .i64 0, .slice none 0 0]) (t := 27) ?hr ?_; (case hd => rfl); (case hg => rfl); (case hr => first | (go_simp; done) | (go_simp; rfl)); intro gb213 hg w5 hbox hb; have n_ := az (IsS66.below (mI66_1 HI0.out) hb) <| az (KeepBut.trans (mKp HK.out) (KeepBut.of_below hb g none) (.inl rfl)) <| az (below_step (mB66HI0 HB.out) hb) <| az (hbox) <| az ((gW hg HK.out)) <| az ((Nat.le_trans HW0.out (gW hg HK.out) : w0.heap.size ≤ gb213)) <| az ((by rw [hg]; exact Nat.ne_of_lt (IsS66.lt (show IsS66 w0 _ g s0_0 s0_1 from mI66_1 HI0.out)) : g ≠ gb213)) <| z0 ((by rw [hg]; exact Nat.ne_of_gt (IsS66.lt (show IsS66 w0 _ g s0_0 s0_1 from mI66_1 HI0.out)) : gb213 ≠ g)); clear HI0 HK HB; obtain ⟨HI0, HK, HB, BK213, GW213, GE213, NB0_213, NB213_0⟩ := n_; clear hb hbox hg) | ((with_reducible refine gate_callee (f := 29) rfl ?_); refine goesL_ (some 7) rfl rfl Try.func29 (by kernel_rfl) rfl #[.pointer (some ⟨g, 0, none⟩)] rfl argx ?_; (with_reducible refine (spec_l3Some.calls k g s0_0 s0_1 t214 t215 t216 t217 t218 t221 w0 _ ?side1 ?side2 A2.out).mono ?_); (case side1 => exact mI66_1 HI0.out); (case side2 => exact mB66HI0 HB.out); rintro e w6 ⟨v219, rfl, ho0, hi, hb, hk⟩; refine ⟨_, rfl, ?_⟩; have n_ := az (kB hk BK213.out NB213_0.out) <| az (Kd.N_lower (Kd.N_mono (ok' := fun k_ => (w.heap.size ≤ k_) ∧ k_ ≠ gb213 ∧ k_ ≠ g) (Kd.R_N (Kd.R_bound ho0)) (fun k_ hk_ => ⟨(Nat.le_trans (kS HK.out) hk_.2.1), (fB BK213.out hk_.2.1), (IsS66.fresh (mI66_1 HI0.out) k_ hk_.2.1)⟩)) (kS HK.out)) <| az (KeepBut.trans (mKp HK.out) hk (.inl rfl)) <| az (hb) <| z0 (hi); clear BK213 HK HB HI0; obtain ⟨BK213, HO220, HK, HB, HI0⟩ := n_; clear hb hk hi ho0) | ((with_reducible refine gate_dst (N := 3) rfl ?_); refine box_event ?hg (N := 3) ?hd (cs := #[.int .i64 0, .int .i64 0, .int .i64 0, .int .i64 0, .slice none 0 0]) (t := 27) ?hr ?_; (case hd => rfl); (case hg => rfl); (case hr => first | (go_simp; done) | (go_simp; rfl)); intro gb222 hg w7 hbox hb; have n_ := az (Kd.N_below (Kd.N_elderB (mN HO220.out) gb222 (Nat.le_of_eq hg.symm)) hb) <| az (IsS66.below (mI66_1 HI0.out) hb) <| az (bB BK213.out hb) <| az (KeepBut.trans (mKp HK.out) (KeepBut.of_below hb g none) (.inl rfl)) <| az (below_step (mB66HI0 HB.out) hb) <| az (hbox) <| az ((gW hg HK.out)) <| az ((Nat.le_trans HW0.out (gW hg HK.out) : w0.heap.size ≤ gb222)) <| az ((nL hg BK213.out)) <| az ((nG hg BK213.out)) <| az ((by rw [hg]; exact Nat.ne_of_lt (IsS66.lt (show IsS66 w0 _ g s0_0 t221 from mI66_1 HI0.out)) : g ≠ gb222)) <| z0 ((by rw [hg]; exact Nat.ne_of_gt (IsS66.lt (show IsS66 w0 _ g s0_0 t221 from mI66_1 HI0.out)) : gb222 ≠ g)); clear HO220 HI0 BK213 HK HB; obtain ⟨HO220, HI0, BK213, HK, HB, BK222, GW222, GE222, NB213_222, NB222_213, NB0_222, NB222_0⟩ := n_; clear hb hbox hg; have hnb8 := NB222_213.out; have hnc8 := NB213_222.out; have hnb9 := NB222_0.out; have hnc9 := NB0_222.out; obtain ⟨hcz10_0, hcz10_1, hcz10_2, hcz10_3, hcz10_4, hfz10_0, hfz10_1, hfz10_2, hfz10_3, hfz10_4⟩ := cel5 BK222.out; obtain ⟨Ao11, co11, eo11⟩ := Kd.N_slice HO220.out; subst eo11) | ((with_reducible refine gate_callee (f := 30) rfl ?_); refine goesL_ (some 9) rfl rfl Try.func30 (by kernel_rfl) rfl #[.pointer (some ⟨g, 0, none⟩), .int .i64 60] rfl argx ?_; (with_reducible refine (spec_l12Rd_pick.calls k g s0_0 t221 60 t223 t224 w0 _ ?side1 ?side2 A3.out).mono ?_); (case side1 => exact mI66_1 HI0.out); (case side2 => exact mB66HI0 HB.out); rintro e w12 ⟨rfl, hi, hb, hk⟩; refine ⟨_, rfl, ?_⟩; have n_ := az (KeepBut.blk hk (g' := gb213) (o := .cells #[.int .i64 0, .int .i64 0, .int .i64 0, .int .i64 0, .slice none 0 0] 27 (0, 0)) (mF BK213.out) NB213_0.out (by simp)) <| az (Kd.N_mono (Kd.N_keep (Kd.N_mono (ok := fun k_ => ((((w.heap.size ≤ k_)) ∧ (k_ ≠ gb213 ∧ k_ ≠ g)) ∧ k_ ≠ gb222)) (by (with_reducible repeat (first | apply Kd.N_alloc | apply Kd.N_drewN | apply Kd.N_drew)); exact (Kd.N_mono (Kd.N_far (p := ⟨gb222, 4, none⟩) (Kd.N_far (p := ⟨gb222, 3, none⟩) (Kd.N_far (p := ⟨gb222, 2, none⟩) (Kd.N_far (p := ⟨gb222, 1, none⟩) (Kd.N_far (p := ⟨gb222, 0, none⟩) (Kd.N_mono HO220.out (fun k_ hk => (⟨hk, hk.2⟩ : _ ∧ k_ ≠ gb222))) (fun _ hk => hk.2) (.int .i64 t214)) (fun _ hk => hk.2) (.int .i64 t215)) (fun _ hk => hk.2) (.int .i64 t216)) (fun _ hk => hk.2) (.int .i64 t217)) (fun _ hk => hk.2) (.slice Ao11 t218.length co11)) (fun _ h_ => h_.1))) (fun k_ hk_ => (⟨hk_, hk_.1.2.2⟩ : _ ∧ k_ ≠ g))) hk (fun _ h => h.2)) (fun _ h => h.1)) <| az (KeepBut.blk hk (g' := gb222) (o := .cells #[.int .i64 t214, .int .i64 t215, .int .i64 t216, .int .i64 t217, .slice Ao11 t218.length co11] 27 (0, 0)) (by (with_reducible repeat (first | refine blk_drewN ?_ _ | refine blk_drew ?_ | refine blk_alloc ?_ _)); refine blk_put (cs := #[.int .i64 t214, .int .i64 t215, .int .i64 t216, .int .i64 t217, .slice none 0 0]) ?_ 4 _ rfl; (with_reducible repeat (first | refine blk_drewN ?_ _ | refine blk_drew ?_ | refine blk_alloc ?_ _)); refine blk_put (cs := #[.int .i64 t214, .int .i64 t215, .int .i64 t216, .int .i64 0, .slice none 0 0]) ?_ 3 _ rfl; (with_reducible repeat (first | refine blk_drewN ?_ _ | refine blk_drew ?_ | refine blk_alloc ?_ _)); refine blk_put (cs := #[.int .i64 t214, .int .i64 t215, .int .i64 0, .int .i64 0, .slice none 0 0]) ?_ 2 _ rfl; (with_reducible repeat (first | refine blk_drewN ?_ _ | refine blk_drew ?_ | refine blk_alloc ?_ _)); refine blk_put (cs := #[.int .i64 t214, .int .i64 0, .int .i64 0, .int .i64 0, .slice none 0 0]) ?_ 1 _ rfl; (with_reducible repeat (first | refine blk_drewN ?_ _ | refine blk_drew ?_ | refine blk_alloc ?_ _)); refine blk_put (cs := #[.int .i64 0, .int .i64 0, .int .i64 0, .int .i64 0, .slice none 0 0]) ?_ 0 _ rfl; (with_reducible repeat (first | refine blk_drewN ?_ _ | refine blk_drew ?_ | refine blk_alloc ?_ _)); exact BK222.out) NB222_0.out (by simp)) <| az (KeepBut.trans (mKp HK.out) hk (.inl rfl)) <| az (hb) <| z0 (hi); clear BK213 HO220 BK222 HK HB HI0; obtain ⟨BK213, HO220, BK222, HK, HB, HI0⟩ := n_; clear hb hk hi))
 (try simp only [Act.put, List.setIfInBounds_toArray, List.set_cons_zero, List.set_cons_succ])
 have H := HF4.out
 clear HF4
 (try clear hcz10_0); (try clear hcz10_1); (try clear hcz10_2); (try clear hcz10_3); (try clear hcz10_4); (try clear hfz10_0); (try clear hfz10_1); (try clear hfz10_2); (try clear hfz10_3); (try clear hfz10_4)
 by_cases c13 : t223 = 0
 ·rw [if_pos c13] at H
  have c13b0 : (t223 == 0) = true := beq_iff_eq.mpr c13
  have c13b1 : (t223 != 0) = false := bne_eq_false_iff_eq.mpr c13
  clear c13
  (first | rw [c13b0] | (simp only [i64_w, i32_w]; rw [c13b0]) | skip)
  obtain ⟨y225, hy225⟩ : ∃ y_ : List Int, y_ = (([0, 11, 3, 10] : List Int)) := ⟨_, rfl⟩
  replace H : ((spec_l12Rd_num.f k s0_0 t224 y225).bind fun bt228 => (some (bt228.1, t215, t216, t217, t218, bt228.2))) = some (r1, r2, r3, r4, r5, r6) := by first | (rw [hy225]; with_reducible exact H) | (have H2_ := (Option.bind_some _ _).symm.trans H; rw [hy225]; with_reducible exact H2_) | (have H2_ := (Option.bind_some _ _).symm.trans H; with_reducible exact H2_) | with_reducible exact H | (rw [hy225]; exact H) | exact H
  have Ny225 := z0 hy225
  clear hy225
  replace H := Option.bind_eq_some_iff.mp H
  obtain ⟨⟨t228, t229⟩, A140, H⟩ := H
  try dsimp only at H
  have A14 := z0 A140
  clear A140
  simp only [Option.some.injEq, Prod.mk.injEq] at H
  obtain ⟨rfl, rfl, rfl, rfl, rfl, rfl⟩ := H
  go_wp2_with (first | ((with_reducible refine gate_dst (N := 13) rfl ?_); refine Kd.R_lit (Kd.int .i64) _ 3 ?hg (N := 13) ?hd (xs := ([0, 11, 3, 10] : List Int)) (inner := [.int .i64 0, .int .i64 11, .int .i64 3, .int .i64 10]) (ok := fun _ => True) (okp := fun _ => True) ?hr ?hp (fun _ hk => hk) trivial (Below.refl _ _) (Nat.le_refl _) (by simp) ?_; (case hd => rfl); (case hg => rfl); (case hr => first | (go_simp; done) | (go_simp; rfl)); (case hp => exact (Reps.one (show Kd.M (Kd.int .i64) _ _ _ 0 [.int .i64 0] from rfl) (Reps.one (show Kd.M (Kd.int .i64) _ _ _ 11 [.int .i64 11] from rfl) (Reps.one (show Kd.M (Kd.int .i64) _ _ _ 3 [.int .i64 3] from rfl) (Reps.one (show Kd.M (Kd.int .i64) _ _ _ 10 [.int .i64 10] from rfl) (Reps.none _ _)))))); intro v226 w15 ho16 hb hg_ hnew_; clear hg_ hnew_; (first | rw [← Ny225.out] at ho16 | (simp only [Int.reduceToNat] at ho16; rw [← Ny225.out] at ho16)); have n_ := az (Kd.N_elder' (mN HO220.out) (by first | exact Kd.R_base ho16 | exact Kd.R_base ho16) hb) <| az (Kd.R_lower (Kd.R_newM (M := fun k_ => (w.heap.size ≤ k_)) ho16 (kS HK.out) (fun k_ h_ => h_)) (kS HK.out)) <| az (IsS66.below (mI66_1 HI0.out) hb) <| az (bB BK213.out hb) <| az (bB BK222.out hb) <| az (KeepBut.trans (mKp HK.out) (KeepBut.of_below hb g none) (.inl rfl)) <| z0 (below_step (mB66HI0 HB.out) hb); clear HO220 HI0 BK213 BK222 HK HB; obtain ⟨HO220, HO227, HI0, BK213, BK222, HK, HB⟩ := n_; clear hb ho16; obtain ⟨Ao17, co17, eo17⟩ := Kd.R_slice HO227.out; subst eo17) | ((with_reducible refine gate_callee (f := 31) rfl ?_); refine goesL_ (some 14) rfl rfl Try.func31 (by kernel_rfl) rfl #[.pointer (some ⟨g, 0, none⟩), .slice Ao17 y225.length co17] rfl argx ?_; (with_reducible refine (spec_l12Rd_num.calls k g s0_0 t224 _ _ y225 t228 t229 w0 _ ?side1 ?side2 ?side3 ?side4 ?side5 A14.out).mono ?_); (case side1 => exact mI66_1 HI0.out); (case side2 => exact mB66HI0 HB.out); (case side3 => exact mC (Kd.R_reads' HO227.out).2.2); (case side4 => exact (Kd.R_reads' HO227.out).2.1); (case side5 => exact far_slice (IsS66.own_ne HI0.out HO227.out (by decide))); rintro e w18 ⟨rfl, hi, hb, hk⟩; refine ⟨_, rfl, ?_⟩; have n_ := az (kB hk BK213.out NB213_0.out) <| az (Kd.N_mono (Kd.N_keep (Kd.N_mono (ok := fun k_ => (((((w.heap.size ≤ k_)) ∧ (k_ ≠ gb213 ∧ k_ ≠ g)) ∧ k_ ≠ gb222) ∧ nB k_ (.slice Ao17 y225.length co17))) (mN HO220.out) (fun k_ hk_ => (⟨hk_, hk_.1.1.2.2⟩ : _ ∧ k_ ≠ g))) hk (fun _ h => h.2)) (fun _ h => h.1)) <| az (kB hk BK222.out NB222_0.out) <| az (Kd.R_mono (Kd.R_keep (IsS66.apart (show IsS66 w0 _ g s0_0 t224 from mI66_1 HI0.out) (mR HO227.out) (by decide)) hk (fun _ h => h.2)) (fun _ h => h.1)) <| az (KeepBut.trans (mKp HK.out) hk (.inl rfl)) <| az (hb) <| z0 (hi); clear BK213 HO220 BK222 HO227 HK HB HI0; obtain ⟨BK213, HO220, BK222, HO227, HK, HB, HI0⟩ := n_; clear hb hk hi; have hnb19 := NB222_213.out; have hnc19 := NB213_222.out; have hnb20 := NB222_0.out; have hnc20 := NB0_222.out; obtain ⟨hcz21_0, hcz21_1, hcz21_2, hcz21_3, hcz21_4, hfz21_0, hfz21_1, hfz21_2, hfz21_3, hfz21_4⟩ := cel5 BK222.out; have hnb22 := NB213_0.out; have hnc22 := NB0_213.out; obtain ⟨hcz23_0, hcz23_1, hcz23_2, hcz23_3, hcz23_4, hfz23_0, hfz23_1, hfz23_2, hfz23_3, hfz23_4⟩ := cel5 BK213.out))
  refine bodyPost_ret (results_cell_row rfl _ _ gb213 27 #[.int .i64 t228, .int .i64 t215, .int .i64 t216, .int .i64 t217, .slice Ao11 t218.length co11] (0, 0) _ rfl (by (with_reducible repeat (first | refine blk_drewN ?_ _ | refine blk_drew ?_ | refine blk_alloc ?_ _)); refine blk_put (cs := #[.int .i64 t228, .int .i64 t215, .int .i64 t216, .int .i64 t217, .slice none 0 0]) ?_ 4 _ rfl; (with_reducible repeat (first | refine blk_drewN ?_ _ | refine blk_drew ?_ | refine blk_alloc ?_ _)); refine blk_put (cs := #[.int .i64 t228, .int .i64 t215, .int .i64 t216, .int .i64 0, .slice none 0 0]) ?_ 3 _ rfl; (with_reducible repeat (first | refine blk_drewN ?_ _ | refine blk_drew ?_ | refine blk_alloc ?_ _)); refine blk_put (cs := #[.int .i64 t228, .int .i64 t215, .int .i64 0, .int .i64 0, .slice none 0 0]) ?_ 2 _ rfl; (with_reducible repeat (first | refine blk_drewN ?_ _ | refine blk_drew ?_ | refine blk_alloc ?_ _)); refine blk_put (cs := #[.int .i64 t228, .int .i64 0, .int .i64 0, .int .i64 0, .slice none 0 0]) ?_ 1 _ rfl; (with_reducible repeat (first | refine blk_drewN ?_ _ | refine blk_drew ?_ | refine blk_alloc ?_ _)); refine blk_put (cs := #[.int .i64 0, .int .i64 0, .int .i64 0, .int .i64 0, .slice none 0 0]) ?_ 0 _ rfl; (with_reducible repeat (first | refine blk_drewN ?_ _ | refine blk_drew ?_ | refine blk_alloc ?_ _)); refine blk_far ?_ NB213_222.out _; (with_reducible repeat (first | refine blk_drewN ?_ _ | refine blk_drew ?_ | refine blk_alloc ?_ _)); exact BK213.out) Try.underlying27 rfl (by kernel_rfl)) rfl ?_
  exact ⟨_, rfx, by (with_reducible repeat (first | apply Kd.N_alloc | apply Kd.N_drewN | apply Kd.N_drew)); exact Kd.N_mono (Kd.N_far (p := ⟨gb213, 4, none⟩) (Kd.N_far (p := ⟨gb213, 3, none⟩) (Kd.N_far (p := ⟨gb213, 2, none⟩) (Kd.N_far (p := ⟨gb213, 1, none⟩) (Kd.N_far (p := ⟨gb213, 0, none⟩) (Kd.N_far (p := ⟨gb222, 0, none⟩) (Kd.N_mono (Kd.N_mono HO220.out (fun k_ hk => (⟨hk, hk.1.2⟩ : _ ∧ k_ ≠ gb222))) (fun k_ hk => (⟨hk, hk.1.1.1.2.1⟩ : _ ∧ k_ ≠ gb213))) (fun _ hk => hk.1.2) (.int .i64 t228)) (fun _ hk => hk.2) (.int .i64 t228)) (fun _ hk => hk.2) (.int .i64 t215)) (fun _ hk => hk.2) (.int .i64 t216)) (fun _ hk => hk.2) (.int .i64 t217)) (fun _ hk => hk.2) (.slice Ao11 t218.length co11)) (fun _ hk => hk.1.1.1.1.1), mI66_1 HI0.out, mB66HI0 HB.out, mKp HK.out⟩
 ·rw [if_neg c13] at H
  have c13b0 : (t223 == 0) = false := beq_eq_false_iff_ne.mpr c13
  have c13b1 : (t223 != 0) = true := bne_iff_ne.mpr c13
  (first | rw [c13b0] | (simp only [i64_w, i32_w]; rw [c13b0]) | skip)
  by_cases c24 : t223 = 1
  ·rw [if_pos c24] at H
   have c24b0 : (t223 == 1) = true := beq_iff_eq.mpr c24
   have c24b1 : (t223 != 1) = false := bne_eq_false_iff_eq.mpr c24
   clear c24
   obtain ⟨y230, hy230⟩ : ∃ y_ : List Int, y_ = (([1, 1000001] : List Int)) := ⟨_, rfl⟩
   replace H : ((spec_l12Rd_num.f k s0_0 t224 y230).bind fun bt233 => (some (t214, bt233.1, t216, t217, t218, bt233.2))) = some (r1, r2, r3, r4, r5, r6) := by first | (rw [hy230]; with_reducible exact H) | (have H2_ := (Option.bind_some _ _).symm.trans H; rw [hy230]; with_reducible exact H2_) | (have H2_ := (Option.bind_some _ _).symm.trans H; with_reducible exact H2_) | with_reducible exact H | (rw [hy230]; exact H) | exact H
   have Ny230 := z0 hy230
   clear hy230
   replace H := Option.bind_eq_some_iff.mp H
   obtain ⟨⟨t233, t234⟩, A250, H⟩ := H
   try dsimp only at H
   have A25 := z0 A250
   clear A250
   simp only [Option.some.injEq, Prod.mk.injEq] at H
   obtain ⟨rfl, rfl, rfl, rfl, rfl, rfl⟩ := H
   go_wp2_with (first | ((with_reducible refine gate_dst (N := 19) rfl ?_); refine Kd.R_lit (Kd.int .i64) _ 3 ?hg (N := 19) ?hd (xs := ([1, 1000001] : List Int)) (inner := [.int .i64 1, .int .i64 1000001]) (ok := fun _ => True) (okp := fun _ => True) ?hr ?hp (fun _ hk => hk) trivial (Below.refl _ _) (Nat.le_refl _) (by simp) ?_; (case hd => rfl); (case hg => rfl); (case hr => first | (go_simp; done) | (go_simp; rfl)); (case hp => exact (Reps.one (show Kd.M (Kd.int .i64) _ _ _ 1 [.int .i64 1] from rfl) (Reps.one (show Kd.M (Kd.int .i64) _ _ _ 1000001 [.int .i64 1000001] from rfl) (Reps.none _ _)))); intro v231 w26 ho27 hb hg_ hnew_; clear hg_ hnew_; (first | rw [← Ny230.out] at ho27 | (simp only [Int.reduceToNat] at ho27; rw [← Ny230.out] at ho27)); have n_ := az (Kd.N_elder' (mN HO220.out) (by first | exact Kd.R_base ho27 | exact Kd.R_base ho27) hb) <| az (Kd.R_lower (Kd.R_newM (M := fun k_ => (w.heap.size ≤ k_)) ho27 (kS HK.out) (fun k_ h_ => h_)) (kS HK.out)) <| az (IsS66.below (mI66_1 HI0.out) hb) <| az (bB BK213.out hb) <| az (bB BK222.out hb) <| az (KeepBut.trans (mKp HK.out) (KeepBut.of_below hb g none) (.inl rfl)) <| z0 (below_step (mB66HI0 HB.out) hb); clear HO220 HI0 BK213 BK222 HK HB; obtain ⟨HO220, HO232, HI0, BK213, BK222, HK, HB⟩ := n_; clear hb ho27; obtain ⟨Ao28, co28, eo28⟩ := Kd.R_slice HO232.out; subst eo28) | ((with_reducible refine gate_callee (f := 31) rfl ?_); refine goesL_ (some 20) rfl rfl Try.func31 (by kernel_rfl) rfl #[.pointer (some ⟨g, 0, none⟩), .slice Ao28 y230.length co28] rfl argx ?_; (with_reducible refine (spec_l12Rd_num.calls k g s0_0 t224 _ _ y230 t233 t234 w0 _ ?side1 ?side2 ?side3 ?side4 ?side5 A25.out).mono ?_); (case side1 => exact mI66_1 HI0.out); (case side2 => exact mB66HI0 HB.out); (case side3 => exact mC (Kd.R_reads' HO232.out).2.2); (case side4 => exact (Kd.R_reads' HO232.out).2.1); (case side5 => exact far_slice (IsS66.own_ne HI0.out HO232.out (by decide))); rintro e w29 ⟨rfl, hi, hb, hk⟩; refine ⟨_, rfl, ?_⟩; have n_ := az (kB hk BK213.out NB213_0.out) <| az (Kd.N_mono (Kd.N_keep (Kd.N_mono (ok := fun k_ => (((((w.heap.size ≤ k_)) ∧ (k_ ≠ gb213 ∧ k_ ≠ g)) ∧ k_ ≠ gb222) ∧ nB k_ (.slice Ao28 y230.length co28))) (mN HO220.out) (fun k_ hk_ => (⟨hk_, hk_.1.1.2.2⟩ : _ ∧ k_ ≠ g))) hk (fun _ h => h.2)) (fun _ h => h.1)) <| az (kB hk BK222.out NB222_0.out) <| az (Kd.R_mono (Kd.R_keep (IsS66.apart (show IsS66 w0 _ g s0_0 t224 from mI66_1 HI0.out) (mR HO232.out) (by decide)) hk (fun _ h => h.2)) (fun _ h => h.1)) <| az (KeepBut.trans (mKp HK.out) hk (.inl rfl)) <| az (hb) <| z0 (hi); clear BK213 HO220 BK222 HO232 HK HB HI0; obtain ⟨BK213, HO220, BK222, HO232, HK, HB, HI0⟩ := n_; clear hb hk hi; have hnb30 := NB222_213.out; have hnc30 := NB213_222.out; have hnb31 := NB222_0.out; have hnc31 := NB0_222.out; obtain ⟨hcz32_0, hcz32_1, hcz32_2, hcz32_3, hcz32_4, hfz32_0, hfz32_1, hfz32_2, hfz32_3, hfz32_4⟩ := cel5 BK222.out; have hnb33 := NB213_0.out; have hnc33 := NB0_213.out; obtain ⟨hcz34_0, hcz34_1, hcz34_2, hcz34_3, hcz34_4, hfz34_0, hfz34_1, hfz34_2, hfz34_3, hfz34_4⟩ := cel5 BK213.out))
   refine bodyPost_ret (results_cell_row rfl _ _ gb213 27 #[.int .i64 t214, .int .i64 t233, .int .i64 t216, .int .i64 t217, .slice Ao11 t218.length co11] (0, 0) _ rfl (by (with_reducible repeat (first | refine blk_drewN ?_ _ | refine blk_drew ?_ | refine blk_alloc ?_ _)); refine blk_put (cs := #[.int .i64 t214, .int .i64 t233, .int .i64 t216, .int .i64 t217, .slice none 0 0]) ?_ 4 _ rfl; (with_reducible repeat (first | refine blk_drewN ?_ _ | refine blk_drew ?_ | refine blk_alloc ?_ _)); refine blk_put (cs := #[.int .i64 t214, .int .i64 t233, .int .i64 t216, .int .i64 0, .slice none 0 0]) ?_ 3 _ rfl; (with_reducible repeat (first | refine blk_drewN ?_ _ | refine blk_drew ?_ | refine blk_alloc ?_ _)); refine blk_put (cs := #[.int .i64 t214, .int .i64 t233, .int .i64 0, .int .i64 0, .slice none 0 0]) ?_ 2 _ rfl; (with_reducible repeat (first | refine blk_drewN ?_ _ | refine blk_drew ?_ | refine blk_alloc ?_ _)); refine blk_put (cs := #[.int .i64 t214, .int .i64 0, .int .i64 0, .int .i64 0, .slice none 0 0]) ?_ 1 _ rfl; (with_reducible repeat (first | refine blk_drewN ?_ _ | refine blk_drew ?_ | refine blk_alloc ?_ _)); refine blk_put (cs := #[.int .i64 0, .int .i64 0, .int .i64 0, .int .i64 0, .slice none 0 0]) ?_ 0 _ rfl; (with_reducible repeat (first | refine blk_drewN ?_ _ | refine blk_drew ?_ | refine blk_alloc ?_ _)); refine blk_far ?_ NB213_222.out _; (with_reducible repeat (first | refine blk_drewN ?_ _ | refine blk_drew ?_ | refine blk_alloc ?_ _)); exact BK213.out) Try.underlying27 rfl (by kernel_rfl)) rfl ?_
   exact ⟨_, rfx, by (with_reducible repeat (first | apply Kd.N_alloc | apply Kd.N_drewN | apply Kd.N_drew)); exact Kd.N_mono (Kd.N_far (p := ⟨gb213, 4, none⟩) (Kd.N_far (p := ⟨gb213, 3, none⟩) (Kd.N_far (p := ⟨gb213, 2, none⟩) (Kd.N_far (p := ⟨gb213, 1, none⟩) (Kd.N_far (p := ⟨gb213, 0, none⟩) (Kd.N_far (p := ⟨gb222, 1, none⟩) (Kd.N_mono (Kd.N_mono HO220.out (fun k_ hk => (⟨hk, hk.1.2⟩ : _ ∧ k_ ≠ gb222))) (fun k_ hk => (⟨hk, hk.1.1.1.2.1⟩ : _ ∧ k_ ≠ gb213))) (fun _ hk => hk.1.2) (.int .i64 t233)) (fun _ hk => hk.2) (.int .i64 t214)) (fun _ hk => hk.2) (.int .i64 t233)) (fun _ hk => hk.2) (.int .i64 t216)) (fun _ hk => hk.2) (.int .i64 t217)) (fun _ hk => hk.2) (.slice Ao11 t218.length co11)) (fun _ hk => hk.1.1.1.1.1), mI66_1 HI0.out, mB66HI0 HB.out, mKp HK.out⟩
  ·rw [if_neg c24] at H
   have c24b0 : (t223 == 1) = false := beq_eq_false_iff_ne.mpr c24
   have c24b1 : (t223 != 1) = true := bne_iff_ne.mpr c24
   by_cases c35 : t223 = 2
   ·rw [if_pos c35] at H
    have c35b0 : (t223 == 2) = true := beq_iff_eq.mpr c35
    have c35b1 : (t223 != 2) = false := bne_eq_false_iff_eq.mpr c35
    clear c35
    replace H := Option.bind_eq_some_iff.mp H
    obtain ⟨⟨t235, t236, t237⟩, A360, H⟩ := H
    try dsimp only at H
    have A36 := z0 A360
    clear A360
    simp only [Option.some.injEq, Prod.mk.injEq] at H
    obtain ⟨rfl, rfl, rfl, rfl, rfl, rfl⟩ := H
    go_wp2_with (first | ((with_reducible refine gate_callee (f := 18) rfl ?_); refine goesL_ (some 25) rfl rfl Try.func18 (by kernel_rfl) rfl #[.pointer (some ⟨g, 0, none⟩)] rfl argx ?_; (with_reducible refine (spec_l2AddrBent.calls k g s0_0 t224 t235 t236 t237 w0 _ ?side1 ?side2 A36.out).mono ?_); (case side1 => exact mI66_1 HI0.out); (case side2 => exact mB66HI0 HB.out); rintro e w37 ⟨rfl, hi, hb, hk⟩; refine ⟨_, rfl, ?_⟩; have n_ := az (kB hk BK213.out NB213_0.out) <| az (Kd.N_mono (Kd.N_keep (Kd.N_mono (ok := fun k_ => ((((w.heap.size ≤ k_)) ∧ (k_ ≠ gb213 ∧ k_ ≠ g)) ∧ k_ ≠ gb222)) (mN HO220.out) (fun k_ hk_ => (⟨hk_, hk_.1.2.2⟩ : _ ∧ k_ ≠ g))) hk (fun _ h => h.2)) (fun _ h => h.1)) <| az (kB hk BK222.out NB222_0.out) <| az (KeepBut.trans (mKp HK.out) hk (.inl rfl)) <| az (hb) <| z0 (hi); clear BK213 HO220 BK222 HK HB HI0; obtain ⟨BK213, HO220, BK222, HK, HB, HI0⟩ := n_; clear hb hk hi; have hnb38 := NB222_213.out; have hnc38 := NB213_222.out; have hnb39 := NB222_0.out; have hnc39 := NB0_222.out; obtain ⟨hcz40_0, hcz40_1, hcz40_2, hcz40_3, hcz40_4, hfz40_0, hfz40_1, hfz40_2, hfz40_3, hfz40_4⟩ := cel5 BK222.out; have hnb41 := NB213_0.out; have hnc41 := NB0_213.out; obtain ⟨hcz42_0, hcz42_1, hcz42_2, hcz42_3, hcz42_4, hfz42_0, hfz42_1, hfz42_2, hfz42_3, hfz42_4⟩ := cel5 BK213.out))
    refine bodyPost_ret (results_cell_row rfl _ _ gb213 27 #[.int .i64 t214, .int .i64 t215, .int .i64 t235, .int .i64 t236, .slice Ao11 t218.length co11] (0, 0) _ rfl (by (with_reducible repeat (first | refine blk_drewN ?_ _ | refine blk_drew ?_ | refine blk_alloc ?_ _)); refine blk_put (cs := #[.int .i64 t214, .int .i64 t215, .int .i64 t235, .int .i64 t236, .slice none 0 0]) ?_ 4 _ rfl; (with_reducible repeat (first | refine blk_drewN ?_ _ | refine blk_drew ?_ | refine blk_alloc ?_ _)); refine blk_put (cs := #[.int .i64 t214, .int .i64 t215, .int .i64 t235, .int .i64 0, .slice none 0 0]) ?_ 3 _ rfl; (with_reducible repeat (first | refine blk_drewN ?_ _ | refine blk_drew ?_ | refine blk_alloc ?_ _)); refine blk_put (cs := #[.int .i64 t214, .int .i64 t215, .int .i64 0, .int .i64 0, .slice none 0 0]) ?_ 2 _ rfl; (with_reducible repeat (first | refine blk_drewN ?_ _ | refine blk_drew ?_ | refine blk_alloc ?_ _)); refine blk_put (cs := #[.int .i64 t214, .int .i64 0, .int .i64 0, .int .i64 0, .slice none 0 0]) ?_ 1 _ rfl; (with_reducible repeat (first | refine blk_drewN ?_ _ | refine blk_drew ?_ | refine blk_alloc ?_ _)); refine blk_put (cs := #[.int .i64 0, .int .i64 0, .int .i64 0, .int .i64 0, .slice none 0 0]) ?_ 0 _ rfl; (with_reducible repeat (first | refine blk_drewN ?_ _ | refine blk_drew ?_ | refine blk_alloc ?_ _)); refine blk_far ?_ NB213_222.out _; (with_reducible repeat (first | refine blk_drewN ?_ _ | refine blk_drew ?_ | refine blk_alloc ?_ _)); refine blk_far ?_ NB213_222.out _; (with_reducible repeat (first | refine blk_drewN ?_ _ | refine blk_drew ?_ | refine blk_alloc ?_ _)); exact BK213.out) Try.underlying27 rfl (by kernel_rfl)) rfl ?_
    exact ⟨_, rfx, by (with_reducible repeat (first | apply Kd.N_alloc | apply Kd.N_drewN | apply Kd.N_drew)); exact Kd.N_mono (Kd.N_far (p := ⟨gb213, 4, none⟩) (Kd.N_far (p := ⟨gb213, 3, none⟩) (Kd.N_far (p := ⟨gb213, 2, none⟩) (Kd.N_far (p := ⟨gb213, 1, none⟩) (Kd.N_far (p := ⟨gb213, 0, none⟩) (Kd.N_far (p := ⟨gb222, 3, none⟩) (Kd.N_far (p := ⟨gb222, 2, none⟩) (Kd.N_mono (Kd.N_mono HO220.out (fun k_ hk => (⟨hk, hk.2⟩ : _ ∧ k_ ≠ gb222))) (fun k_ hk => (⟨hk, hk.1.1.2.1⟩ : _ ∧ k_ ≠ gb213))) (fun _ hk => hk.1.2) (.int .i64 t235)) (fun _ hk => hk.1.2) (.int .i64 t236)) (fun _ hk => hk.2) (.int .i64 t214)) (fun _ hk => hk.2) (.int .i64 t215)) (fun _ hk => hk.2) (.int .i64 t235)) (fun _ hk => hk.2) (.int .i64 t236)) (fun _ hk => hk.2) (.slice Ao11 t218.length co11)) (fun _ hk => hk.1.1.1.1), mI66_1 HI0.out, mB66HI0 HB.out, mKp HK.out⟩
   ·rw [if_neg c35] at H
    have c35b0 : (t223 == 2) = false := beq_eq_false_iff_ne.mpr c35
    have c35b1 : (t223 != 2) = true := bne_iff_ne.mpr c35
    by_cases c43 : t223 = 3
    ·rw [if_pos c43] at H
     have c43b0 : (t223 == 3) = true := beq_iff_eq.mpr c43
     have c43b1 : (t223 != 3) = false := bne_eq_false_iff_eq.mpr c43
     clear c43
     have H' := z0 H
     clear H
     go_wp2
     go_loopg [4] k (fun kq v4 w' => ∃ (x4_1 : Int) (x223000_1 : Int) (x223001_1 : Int) (x223002_1 : Int) (x223003_1 : Int) (x223004_1 : List (S27)) (u223004 : Value), v4 = .int .i64 x4_1 ∧ Aside0 (spec_l3Bent.l0 kq x4_1 s0_0 t224 x223000_1 x223001_1 x223002_1 x223003_1 x223004_1 = some (r1, r2, r3, r4, r5, r6)) ∧ Aside0 (kq ≤ k) ∧ Aside0 (Kd.N k27 27 w' w.heap.size (fun k_ => (w.heap.size ≤ k_) ∧ k_ ≠ gb213 ∧ k_ ≠ gb222 ∧ k_ ≠ g) u223004 x223004_1) ∧ Aside0 (w'.heap[gb213]? = some (.cells #[.int .i64 0, .int .i64 0, .int .i64 0, .int .i64 0, (.slice none 0 0)] 27 (0, 0))) ∧ Aside0 (w'.heap[gb222]? = some (.cells #[.int .i64 x223000_1, .int .i64 x223001_1, .int .i64 x223002_1, .int .i64 x223003_1, u223004] 27 (0, 0))) ∧ Aside0 (IsS66 w0 w' g s0_0 t224) ∧ Aside0 (KeepBut w w' g none) ∧ Aside0 (Below w0.heap.size w0 w'))
     case atStart => exact ⟨(0), (t214), (t215), (t216), (t217), (t218), (.slice Ao11 t218.length co11), rfy, H', ⟨Nat.le_refl _⟩, ⟨by (with_reducible repeat (first | apply Kd.N_alloc | apply Kd.N_drewN | apply Kd.N_drew)); exact Kd.N_mono HO220.out (fun _ hk => ⟨hk.1.1, ⟨hk.1.2.1, ⟨hk.2, hk.1.2.2⟩⟩⟩)⟩, ⟨mK BK213.out⟩, ⟨mK BK222.out⟩, ⟨mI66_1 HI0.out⟩, ⟨mKp HK.out⟩, ⟨mB66HI0 HB.out⟩⟩
     case round =>
      clear H'
      (try clear c13); (try clear c13b0); (try clear c13b1); (try clear c24); (try clear c24b0); (try clear c24b1); (try clear c35); (try clear c35b0); (try clear c35b1); (try clear c43); (try clear c43b0); (try clear c43b1); (try clear hcz10_0); (try clear hcz10_1); (try clear hcz10_2); (try clear hcz10_3); (try clear hcz10_4); (try clear hcz21_0); (try clear hcz21_1); (try clear hcz21_2); (try clear hcz21_3); (try clear hcz21_4); (try clear hcz23_0); (try clear hcz23_1); (try clear hcz23_2); (try clear hcz23_3); (try clear hcz23_4); (try clear hcz32_0); (try clear hcz32_1); (try clear hcz32_2); (try clear hcz32_3); (try clear hcz32_4); (try clear hcz34_0); (try clear hcz34_1); (try clear hcz34_2); (try clear hcz34_3); (try clear hcz34_4); (try clear hcz40_0); (try clear hcz40_1); (try clear hcz40_2); (try clear hcz40_3); (try clear hcz40_4); (try clear hcz42_0); (try clear hcz42_1); (try clear hcz42_2); (try clear hcz42_3); (try clear hcz42_4); (try clear hfz10_0); (try clear hfz10_1); (try clear hfz10_2); (try clear hfz10_3); (try clear hfz10_4); (try clear hfz21_0); (try clear hfz21_1); (try clear hfz21_2); (try clear hfz21_3); (try clear hfz21_4); (try clear hfz23_0); (try clear hfz23_1); (try clear hfz23_2); (try clear hfz23_3); (try clear hfz23_4); (try clear hfz32_0); (try clear hfz32_1); (try clear hfz32_2); (try clear hfz32_3); (try clear hfz32_4); (try clear hfz34_0); (try clear hfz34_1); (try clear hfz34_2); (try clear hfz34_3); (try clear hfz34_4); (try clear hfz40_0); (try clear hfz40_1); (try clear hfz40_2); (try clear hfz40_3); (try clear hfz40_4); (try clear hfz42_0); (try clear hfz42_1); (try clear hfz42_2); (try clear hfz42_3); (try clear hfz42_4)
      obtain ⟨x4_1, x223000_1, x223001_1, x223002_1, x223003_1, x223004_1, u223004, rfl, HA, HK1, HO_223004, BK213, BK222, HI0, HK, HB⟩ := hrel
      cases gk with
      | zero => exact absurd HA.out (by simp [spec_l3Bent.l0])
      | succ k1 =>
       have H := HA.out
       clear HA
       simp only [spec_l3Bent.l0] at H
       by_cases c44 : x4_1 < 6
       ·rw [if_pos c44] at H
        have c44b0 : decide (x4_1 < 6) = true := decide_eq_true c44
        clear c44
        obtain ⟨y238, hy238⟩ : ∃ y_ : List (S27), y_ = (([(⟨x223000_1, x223001_1, (⟨x223002_1, x223003_1⟩ : S24), x223004_1⟩ : S27)] : List (S27))) := ⟨_, rfl⟩
        replace H : (spec_l3Bent.l0 k1 (wrap64 (x4_1 + 1)) s0_0 t224 10 0 0 0 y238) = some (r1, r2, r3, r4, r5, r6) := by first | (rw [hy238]; with_reducible exact H) | (have H2_ := (Option.bind_some _ _).symm.trans H; rw [hy238]; with_reducible exact H2_) | (have H2_ := (Option.bind_some _ _).symm.trans H; with_reducible exact H2_) | with_reducible exact H | (rw [hy238]; exact H) | exact H
        have Ny238 := z0 hy238
        clear hy238
        have H' := z0 H
        clear H
        have hnb45 := NB222_213.out
        have hnc45 := NB213_222.out
        have hnb46 := NB222_0.out
        have hnc46 := NB0_222.out
        obtain ⟨hcz47_0, hcz47_1, hcz47_2, hcz47_3, hcz47_4, hfz47_0, hfz47_1, hfz47_2, hfz47_3, hfz47_4⟩ := cel5 BK222.out
        obtain ⟨Ao48, co48, eo48⟩ := Kd.N_slice HO_223004.out
        subst eo48
        go_wp2_with (first | ((with_reducible refine gate_dst (N := 34) rfl ?_); refine Kd.N_lit k27 _ 27 ?hg (N' := 34) ?hd (xs := ([(⟨x223000_1, x223001_1, (⟨x223002_1, x223003_1⟩ : S24), x223004_1⟩ : S27)] : List (S27))) (inner := [.int .i64 x223000_1, .int .i64 x223001_1, .int .i64 x223002_1, .int .i64 x223003_1, .slice Ao48 x223004_1.length co48]) (ok := (fun k_ => (w.heap.size ≤ k_) ∧ k_ ≠ gb213 ∧ k_ ≠ gb222 ∧ k_ ≠ g)) (okp := (fun k_ => (w.heap.size ≤ k_) ∧ k_ ≠ gb213 ∧ k_ ≠ gb222 ∧ k_ ≠ g)) ?hr ?hp (fun _ hk => hk) ((show ∀ k_, wr.heap.size ≤ k_ → (fun k_ => (w.heap.size ≤ k_) ∧ k_ ≠ gb213 ∧ k_ ≠ gb222 ∧ k_ ≠ g) k_ from fun k_ hk => ⟨(Nat.le_trans (kS HK.out) hk), fB BK213.out hk, fB BK222.out hk, IsS66.fresh (mI66_1 HI0.out) k_ hk⟩) _ (Nat.le_refl _)) (Below.refl _ _) (Nat.le_refl _) (by simp) ?_; (case hd => rfl); (case hg => rfl); (case hr => first | (go_simp; done) | (go_simp; rfl)); (case hp => exact (Reps.c5 (show Kd.FK k27 _ _ (⟨x223000_1, x223001_1, (⟨x223002_1, x223003_1⟩ : S24), x223004_1⟩ : S27) [.int .i64 x223000_1, .int .i64 x223001_1, .int .i64 x223002_1, .int .i64 x223003_1, .slice Ao48 x223004_1.length co48] from (k27_mkF _ _ (⟨x223000_1, x223001_1, (⟨x223002_1, x223003_1⟩ : S24), x223004_1⟩ : S27) (Kd.N_reads' (Kd.N_mono (ok' := (fun k_ => (w.heap.size ≤ k_) ∧ k_ ≠ gb213 ∧ k_ ≠ gb222 ∧ k_ ≠ g)) (HO_223004.out) (fun k_ hk => ⟨hk.1, ⟨hk.2.1, ⟨hk.2.2.1, hk.2.2.2⟩⟩⟩))).2.1 (Kd.N_F (Kd.N_mono (ok' := (fun k_ => (w.heap.size ≤ k_) ∧ k_ ≠ gb213 ∧ k_ ≠ gb222 ∧ k_ ≠ g)) (HO_223004.out) (fun k_ hk => ⟨hk.1, ⟨hk.2.1, ⟨hk.2.2.1, hk.2.2.2⟩⟩⟩))))) (Reps.none _ _))); intro v239 w49 ho50 hb hg_ hnew_; clear hg_ hnew_; (first | rw [← Ny238.out] at ho50 | (simp only [Int.reduceToNat] at ho50; rw [← Ny238.out] at ho50)); have n_ := az (Kd.N_lower ho50 (kS HK.out)) <| az (bB BK213.out hb) <| az (bB BK222.out hb) <| az (IsS66.below (mI66_1 HI0.out) hb) <| az (KeepBut.trans (mKp HK.out) (KeepBut.of_below hb g none) (.inl rfl)) <| z0 (below_step (mB66HI0 HB.out) hb); clear BK213 BK222 HI0 HK HB HO_223004; obtain ⟨HO240, BK213, BK222, HI0, HK, HB⟩ := n_; clear hb ho50; obtain ⟨Ao51, co51, eo51⟩ := Kd.N_slice HO240.out; subst eo51; obtain ⟨hcz52_0, hcz52_1, hcz52_2, hcz52_3, hcz52_4, hfz52_0, hfz52_1, hfz52_2, hfz52_3, hfz52_4⟩ := cel5 BK222.out))
        go_roundg k1
        case measure => have := HK1.out; omega
        case rel => exact ⟨(wrap64 (x4_1 + 1)), (10), (0), (0), (0), (y238), (.slice Ao51 y238.length co51), rfy, H', ⟨by have := HK1.out; omega⟩, ⟨by (with_reducible repeat (first | apply Kd.N_alloc | apply Kd.N_drewN | apply Kd.N_drew)); exact Kd.N_mono (Kd.N_far (p := ⟨gb222, 4, none⟩) (Kd.N_far (p := ⟨gb222, 3, none⟩) (Kd.N_far (p := ⟨gb222, 2, none⟩) (Kd.N_far (p := ⟨gb222, 1, none⟩) (Kd.N_far (p := ⟨gb222, 0, none⟩) (Kd.N_mono HO240.out (fun k_ hk => (⟨hk, hk.2.2.1⟩ : _ ∧ k_ ≠ gb222))) (fun _ hk => hk.2) (.int .i64 10)) (fun _ hk => hk.2) (.int .i64 0)) (fun _ hk => hk.2) (.int .i64 0)) (fun _ hk => hk.2) (.int .i64 0)) (fun _ hk => hk.2) (.slice Ao51 y238.length co51)) (fun _ hk => ⟨hk.1.1, ⟨hk.1.2.1, ⟨hk.1.2.2.1, hk.1.2.2.2⟩⟩⟩)⟩, ⟨mF BK213.out⟩, ⟨by (with_reducible repeat (first | refine blk_drewN ?_ _ | refine blk_drew ?_ | refine blk_alloc ?_ _)); refine blk_put (cs := #[.int .i64 10, .int .i64 0, .int .i64 0, .int .i64 0, .slice Ao48 x223004_1.length co48]) ?_ 4 _ rfl; (with_reducible repeat (first | refine blk_drewN ?_ _ | refine blk_drew ?_ | refine blk_alloc ?_ _)); refine blk_put (cs := #[.int .i64 10, .int .i64 0, .int .i64 0, .int .i64 x223003_1, .slice Ao48 x223004_1.length co48]) ?_ 3 _ rfl; (with_reducible repeat (first | refine blk_drewN ?_ _ | refine blk_drew ?_ | refine blk_alloc ?_ _)); refine blk_put (cs := #[.int .i64 10, .int .i64 0, .int .i64 x223002_1, .int .i64 x223003_1, .slice Ao48 x223004_1.length co48]) ?_ 2 _ rfl; (with_reducible repeat (first | refine blk_drewN ?_ _ | refine blk_drew ?_ | refine blk_alloc ?_ _)); refine blk_put (cs := #[.int .i64 10, .int .i64 x223001_1, .int .i64 x223002_1, .int .i64 x223003_1, .slice Ao48 x223004_1.length co48]) ?_ 1 _ rfl; (with_reducible repeat (first | refine blk_drewN ?_ _ | refine blk_drew ?_ | refine blk_alloc ?_ _)); refine blk_put (cs := #[.int .i64 x223000_1, .int .i64 x223001_1, .int .i64 x223002_1, .int .i64 x223003_1, .slice Ao48 x223004_1.length co48]) ?_ 0 _ rfl; (with_reducible repeat (first | refine blk_drewN ?_ _ | refine blk_drew ?_ | refine blk_alloc ?_ _)); exact BK222.out⟩, ⟨mI66_1 HI0.out⟩, ⟨mKp HK.out⟩, ⟨mB66HI0 HB.out⟩⟩
       ·rw [if_neg c44] at H
        have c44b0 : decide (x4_1 < 6) = false := decide_eq_false c44
        clear c44
        simp only [Option.some.injEq, Prod.mk.injEq] at H
        obtain ⟨rfl, rfl, rfl, rfl, rfl, rfl⟩ := H
        have hnb53 := NB222_213.out
        have hnc53 := NB213_222.out
        have hnb54 := NB222_0.out
        have hnc54 := NB0_222.out
        obtain ⟨hcz55_0, hcz55_1, hcz55_2, hcz55_3, hcz55_4, hfz55_0, hfz55_1, hfz55_2, hfz55_3, hfz55_4⟩ := cel5 BK222.out
        have hnb56 := NB213_0.out
        have hnc56 := NB0_213.out
        obtain ⟨hcz57_0, hcz57_1, hcz57_2, hcz57_3, hcz57_4, hfz57_0, hfz57_1, hfz57_2, hfz57_3, hfz57_4⟩ := cel5 BK213.out
        obtain ⟨Ao58, co58, eo58⟩ := Kd.N_slice HO_223004.out
        subst eo58
        go_wp2
        refine bodyPost_ret (results_cell_row rfl _ _ gb213 27 #[.int .i64 x223000_1, .int .i64 x223001_1, .int .i64 x223002_1, .int .i64 x223003_1, .slice Ao58 x223004_1.length co58] (0, 0) _ rfl (pF BK213.out) Try.underlying27 rfl (by kernel_rfl)) rfl ?_
        exact ⟨_, rfx, by (with_reducible repeat (first | apply Kd.N_alloc | apply Kd.N_drewN | apply Kd.N_drew)); exact Kd.N_mono (Kd.N_far (p := ⟨gb213, 4, none⟩) (Kd.N_far (p := ⟨gb213, 3, none⟩) (Kd.N_far (p := ⟨gb213, 2, none⟩) (Kd.N_far (p := ⟨gb213, 1, none⟩) (Kd.N_far (p := ⟨gb213, 0, none⟩) (Kd.N_mono HO_223004.out (fun k_ hk => (⟨hk, hk.2.1⟩ : _ ∧ k_ ≠ gb213))) (fun _ hk => hk.2) (.int .i64 x223000_1)) (fun _ hk => hk.2) (.int .i64 x223001_1)) (fun _ hk => hk.2) (.int .i64 x223002_1)) (fun _ hk => hk.2) (.int .i64 x223003_1)) (fun _ hk => hk.2) (.slice Ao58 x223004_1.length co58)) (fun _ hk => hk.1.1), mI66_1 HI0.out, mB66HI0 HB.out, mKp HK.out⟩
    ·rw [if_neg c43] at H
     have c43b0 : (t223 == 3) = false := beq_eq_false_iff_ne.mpr c43
     have c43b1 : (t223 != 3) = true := bne_iff_ne.mpr c43
     by_cases c59 : t223 = 4
     ·rw [if_pos c59] at H
      have c59b0 : (t223 == 4) = true := beq_iff_eq.mpr c59
      have c59b1 : (t223 != 4) = false := bne_eq_false_iff_eq.mpr c59
      clear c59
      have H' := z0 H
      clear H
      go_wp2
      go_loopg [5] k (fun kq v5 w' => ∃ (x5_1 : Int) (x223000_1 : Int) (x223001_1 : Int) (x223002_1 : Int) (x223003_1 : Int) (x223004_1 : List (S27)) (u223004 : Value), v5 = .int .i64 x5_1 ∧ Aside0 (spec_l3Bent.l1 kq x5_1 s0_0 t224 x223000_1 x223001_1 x223002_1 x223003_1 x223004_1 = some (r1, r2, r3, r4, r5, r6)) ∧ Aside0 (kq ≤ k) ∧ Aside0 (Kd.N k27 27 w' w.heap.size (fun k_ => (w.heap.size ≤ k_) ∧ k_ ≠ gb213 ∧ k_ ≠ gb222 ∧ k_ ≠ g) u223004 x223004_1) ∧ Aside0 (w'.heap[gb213]? = some (.cells #[.int .i64 0, .int .i64 0, .int .i64 0, .int .i64 0, (.slice none 0 0)] 27 (0, 0))) ∧ Aside0 (w'.heap[gb222]? = some (.cells #[.int .i64 x223000_1, .int .i64 x223001_1, .int .i64 x223002_1, .int .i64 x223003_1, u223004] 27 (0, 0))) ∧ Aside0 (IsS66 w0 w' g s0_0 t224) ∧ Aside0 (KeepBut w w' g none) ∧ Aside0 (Below w0.heap.size w0 w'))
      case atStart => exact ⟨(0), (t214), (t215), (t216), (t217), (t218), (.slice Ao11 t218.length co11), rfy, H', ⟨Nat.le_refl _⟩, ⟨by (with_reducible repeat (first | apply Kd.N_alloc | apply Kd.N_drewN | apply Kd.N_drew)); exact Kd.N_mono HO220.out (fun _ hk => ⟨hk.1.1, ⟨hk.1.2.1, ⟨hk.2, hk.1.2.2⟩⟩⟩)⟩, ⟨mK BK213.out⟩, ⟨mK BK222.out⟩, ⟨mI66_1 HI0.out⟩, ⟨mKp HK.out⟩, ⟨mB66HI0 HB.out⟩⟩
      case round =>
       clear H'
       (try clear c13); (try clear c13b0); (try clear c13b1); (try clear c24); (try clear c24b0); (try clear c24b1); (try clear c35); (try clear c35b0); (try clear c35b1); (try clear c43); (try clear c43b0); (try clear c43b1); (try clear c59); (try clear c59b0); (try clear c59b1); (try clear hcz10_0); (try clear hcz10_1); (try clear hcz10_2); (try clear hcz10_3); (try clear hcz10_4); (try clear hcz21_0); (try clear hcz21_1); (try clear hcz21_2); (try clear hcz21_3); (try clear hcz21_4); (try clear hcz23_0); (try clear hcz23_1); (try clear hcz23_2); (try clear hcz23_3); (try clear hcz23_4); (try clear hcz32_0); (try clear hcz32_1); (try clear hcz32_2); (try clear hcz32_3); (try clear hcz32_4); (try clear hcz34_0); (try clear hcz34_1); (try clear hcz34_2); (try clear hcz34_3); (try clear hcz34_4); (try clear hcz40_0); (try clear hcz40_1); (try clear hcz40_2); (try clear hcz40_3); (try clear hcz40_4); (try clear hcz42_0); (try clear hcz42_1); (try clear hcz42_2); (try clear hcz42_3); (try clear hcz42_4); (try clear hfz10_0); (try clear hfz10_1); (try clear hfz10_2); (try clear hfz10_3); (try clear hfz10_4); (try clear hfz21_0); (try clear hfz21_1); (try clear hfz21_2); (try clear hfz21_3); (try clear hfz21_4); (try clear hfz23_0); (try clear hfz23_1); (try clear hfz23_2); (try clear hfz23_3); (try clear hfz23_4); (try clear hfz32_0); (try clear hfz32_1); (try clear hfz32_2); (try clear hfz32_3); (try clear hfz32_4); (try clear hfz34_0); (try clear hfz34_1); (try clear hfz34_2); (try clear hfz34_3); (try clear hfz34_4); (try clear hfz40_0); (try clear hfz40_1); (try clear hfz40_2); (try clear hfz40_3); (try clear hfz40_4); (try clear hfz42_0); (try clear hfz42_1); (try clear hfz42_2); (try clear hfz42_3); (try clear hfz42_4)
       obtain ⟨x5_1, x223000_1, x223001_1, x223002_1, x223003_1, x223004_1, u223004, rfl, HA, HK1, HO_223004, BK213, BK222, HI0, HK, HB⟩ := hrel
       cases gk with
       | zero => exact absurd HA.out (by simp [spec_l3Bent.l1])
       | succ k1 =>
        have H := HA.out
        clear HA
        simp only [spec_l3Bent.l1] at H
        by_cases c60 : x5_1 < 4
        ·rw [if_pos c60] at H
         have c60b0 : decide (x5_1 < 4) = true := decide_eq_true c60
         clear c60
         replace H := Option.bind_eq_some_iff.mp H
         obtain ⟨⟨t241, t242, t243, t244, t245⟩, A610, H⟩ := H
         try dsimp only at H
         have A61 := z0 A610
         clear A610
         obtain ⟨y248, hy248⟩ : ∃ y_ : List (S27), y_ = (([(⟨x223000_1, x223001_1, (⟨x223002_1, x223003_1⟩ : S24), x223004_1⟩ : S27), (⟨t241, t242, (⟨t243, t244⟩ : S24), t245⟩ : S27)] : List (S27))) := ⟨_, rfl⟩
         replace H : (spec_l3Bent.l1 k1 (wrap64 (x5_1 + 1)) s0_0 t224 3 0 0 0 y248) = some (r1, r2, r3, r4, r5, r6) := by first | (rw [hy248]; with_reducible exact H) | (have H2_ := (Option.bind_some _ _).symm.trans H; rw [hy248]; with_reducible exact H2_) | (have H2_ := (Option.bind_some _ _).symm.trans H; with_reducible exact H2_) | with_reducible exact H | (rw [hy248]; exact H) | exact H
         have Ny248 := z0 hy248
         clear hy248
         have H' := z0 H
         clear H
         try go_wp2
         have n_ := az (Kd.N_drew HO_223004.out) <| az (blk_drew BK213.out) <| az (blk_drew BK222.out) <| az (IsS66.drew HI0.out) <| az (keep_drew HK.out) <| z0 (below_drew1 HB.out)
         clear HO_223004 BK213 BK222 HI0 HK HB
         obtain ⟨HO_223004, BK213, BK222, HI0, HK, HB⟩ := n_
         obtain ⟨Ao63, co63, eo63⟩ := Kd.N_slice HO_223004.out
         (first | subst eo63 | (injection eo63 with f1_ f2_ f3_; have f4_ := f1_.symm; have f5_ := f3_.symm; clear f1_ f2_ f3_; subst f4_; subst f5_))
         refine start_ (n := 6) (S := fun w' => w'.cell? ⟨gb222, 0, none⟩ = some (.int .i64 x223000_1) ∧ w'.cell? ⟨gb222, 1, none⟩ = some (.int .i64 x223001_1) ∧ w'.cell? ⟨gb222, 2, none⟩ = some (.int .i64 x223002_1) ∧ w'.cell? ⟨gb222, 3, none⟩ = some (.int .i64 x223003_1) ∧ w'.cell? ⟨gb222, 4, none⟩ = some (.slice Ao63 x223004_1.length co63)) (ds := [5]) #[false, false, false, false, false, false] (by kernel_rfl) rfl rfl ⟨(blk_cell BK222.out 0).trans rfl, (blk_cell BK222.out 1).trans rfl, (blk_cell BK222.out 2).trans rfl, (blk_cell BK222.out 3).trans rfl, (blk_cell BK222.out 4).trans rfl⟩ (fun hHeld => ?_)
         generalize wr.drew = w62 at HO_223004 BK213 BK222 HI0 HK HB hHeld ⊢
         refine take_ (i := 0) (N := some 42) (v := ?_) (a' := ?_) #[true, false, false, false, false, false] rfl rfl (by kernel_rfl) (fun _ _ _ h => h) (Or.inl ⟨by rfl, ?_⟩) hHeld ?_ ?_
         rotate_left
         ·rintro w' ⟨s0, s1, s2, s3, s4⟩
          go_simp
          with_reducible rfl
         rotate_left
         ·simp only [Act.put, List.setIfInBounds_toArray, List.set_cons_zero, List.set_cons_succ, i64_w, i32_w]
          rfl
         refine take_ (i := 1) (N := some 43) (v := ?_) (a' := ?_) #[true, true, false, false, false, false] rfl rfl (by kernel_rfl) (fun _ _ _ h => h) (Or.inl ⟨by rfl, ?_⟩) hHeld ?_ ?_
         rotate_left
         ·rintro w' ⟨s0, s1, s2, s3, s4⟩
          go_simp
          with_reducible rfl
         rotate_left
         ·simp only [Act.put, List.setIfInBounds_toArray, List.set_cons_zero, List.set_cons_succ, i64_w, i32_w]
          rfl
         refine one_ (i := 2) (N := some 44) #[true, true, true, false, false, false] rfl rfl (by kernel_rfl) (by decide) (fun K hK => ?_)
         refine goes_ Try.func32 (by kernel_rfl) rfl #[.agg #[.int .i64 x223000_1, .int .i64 x223001_1, .int .i64 x223002_1, .int .i64 x223003_1, .slice Ao63 x223004_1.length co63]] (by rfl) rfl rfl argx ?_
         with_reducible refine (spec_l3Copy.calls k1 x223000_1 x223001_1 x223002_1 x223003_1 _ _ x223004_1 t241 t242 t243 t244 t245 _ ?side1 ?side2 A61.out).mono ?_
         (case side1 => exact mC (Kd.N_reads' HO_223004.out).2.2)
         (case side2 => exact (Kd.N_reads' HO_223004.out).2.1)
         rintro e w64 ⟨v246, rfl, ho0, hb⟩
         refine ⟨_, rfl, ?_⟩
         have n_ := az (Kd.N_elder' (mN HO_223004.out) (by first | exact Kd.N_base ho0 | exact Kd.R_base ho0) hb) <| And.intro (z0 (Kd.N_lower (Kd.N_mono (ok' := fun k_ => (w.heap.size ≤ k_) ∧ nB k_ (.slice Ao63 x223004_1.length co63) ∧ k_ ≠ gb213 ∧ k_ ≠ gb222 ∧ k_ ≠ g) (Kd.R_N (Kd.R_bound ho0)) (fun k_ hk_ => ⟨(Nat.le_trans (kS HK.out) hk_.2.1), (Kd.fresh' (Kd.N_lt (mN HO_223004.out)) k_ hk_.2.1), (fB BK213.out hk_.2.1), (fB BK222.out hk_.2.1), (IsS66.fresh (mI66_1 HI0.out) k_ hk_.2.1)⟩)) (kS HK.out))) <| az (bB BK213.out hb) <| az (bB BK222.out hb) <| az (IsS66.below (mI66_1 HI0.out) hb) <| az (KeepBut.trans (mKp HK.out) (KeepBut.of_below hb g none) (.inl rfl)) <| z0 (below_step (mB66HI0 HB.out) hb)
         clear HO_223004 BK213 BK222 HI0 HK HB
         obtain ⟨HO_223004, HO247, BK213, BK222, HI0, HK, HB⟩ := n_
         (try clear hb)
         (try clear hb2)
         (try clear hk)
         (try clear hi)
         (try clear ho0)
         obtain ⟨Ao65, co65, eo65⟩ := Kd.N_slice HO247.out
         (first | subst eo65 | (injection eo65 with f1_ f2_ f3_; have f4_ := f1_.symm; have f5_ := f3_.symm; clear f1_ f2_ f3_; subst f4_; subst f5_))
         refine hK.out _ _ ⟨(blk_cell BK222.out 0).trans rfl, (blk_cell BK222.out 1).trans rfl, (blk_cell BK222.out 2).trans rfl, (blk_cell BK222.out 3).trans rfl, (blk_cell BK222.out 4).trans rfl⟩ (fun hHeld => ?_)
         clear hK K
         refine norm_ (a' := ?_) ?_ ?_
         rotate_left
         ·show Act.put _ (some 44) _ = _
          simp only [Act.put, List.setIfInBounds_toArray, List.set_cons_zero, List.set_cons_succ, i64_w, i32_w]
          rfl
         refine one_ (i := 3) (N := some 45) #[true, true, true, true, false, false] rfl rfl (by kernel_rfl) (by decide) (fun K hK => ?_)
         refine Kd.N_lit_step k27 _ 27 ?hg (N' := 45) ?hd (xs := ([(⟨x223000_1, x223001_1, (⟨x223002_1, x223003_1⟩ : S24), x223004_1⟩ : S27), (⟨t241, t242, (⟨t243, t244⟩ : S24), t245⟩ : S27)] : List (S27))) (inner := [.int .i64 x223000_1, .int .i64 x223001_1, .int .i64 x223002_1, .int .i64 x223003_1, .slice Ao63 x223004_1.length co63, .int .i64 t241, .int .i64 t242, .int .i64 t243, .int .i64 t244, .slice Ao65 t245.length co65]) (ok := (fun k_ => (w.heap.size ≤ k_) ∧ k_ ≠ gb213 ∧ k_ ≠ gb222 ∧ k_ ≠ g)) (okp := (fun k_ => (w.heap.size ≤ k_) ∧ k_ ≠ gb213 ∧ k_ ≠ gb222 ∧ k_ ≠ g)) ?hr ?hp (fun _ hk => hk) ((show ∀ k_, w64.heap.size ≤ k_ → (fun k_ => (w.heap.size ≤ k_) ∧ k_ ≠ gb213 ∧ k_ ≠ gb222 ∧ k_ ≠ g) k_ from fun k_ hk => ⟨(Nat.le_trans (kS HK.out) hk), fB BK213.out hk, fB BK222.out hk, IsS66.fresh (mI66_1 HI0.out) k_ hk⟩) _ (Nat.le_refl _)) (Below.refl _ _) (Nat.le_refl _) (by simp) ?_; (case hd => rfl); (case hg => rfl); (case hr => first | (go_simp; done) | (go_simp; rfl)); (case hp => exact (Reps.c5 (show Kd.FK k27 _ _ (⟨x223000_1, x223001_1, (⟨x223002_1, x223003_1⟩ : S24), x223004_1⟩ : S27) [.int .i64 x223000_1, .int .i64 x223001_1, .int .i64 x223002_1, .int .i64 x223003_1, .slice Ao63 x223004_1.length co63] from (k27_mkF _ _ (⟨x223000_1, x223001_1, (⟨x223002_1, x223003_1⟩ : S24), x223004_1⟩ : S27) (Kd.N_reads' (Kd.N_mono (ok' := (fun k_ => (w.heap.size ≤ k_) ∧ k_ ≠ gb213 ∧ k_ ≠ gb222 ∧ k_ ≠ g)) (HO_223004.out) (fun k_ hk => ⟨hk.1.1, ⟨hk.1.2.1, ⟨hk.1.2.2.1, hk.1.2.2.2⟩⟩⟩))).2.1 (Kd.N_F (Kd.N_mono (ok' := (fun k_ => (w.heap.size ≤ k_) ∧ k_ ≠ gb213 ∧ k_ ≠ gb222 ∧ k_ ≠ g)) (HO_223004.out) (fun k_ hk => ⟨hk.1.1, ⟨hk.1.2.1, ⟨hk.1.2.2.1, hk.1.2.2.2⟩⟩⟩))))) (Reps.c5 (show Kd.FK k27 _ _ (⟨t241, t242, (⟨t243, t244⟩ : S24), t245⟩ : S27) [.int .i64 t241, .int .i64 t242, .int .i64 t243, .int .i64 t244, .slice Ao65 t245.length co65] from (k27_mkF _ _ (⟨t241, t242, (⟨t243, t244⟩ : S24), t245⟩ : S27) (Kd.N_reads' (Kd.N_mono (ok' := (fun k_ => (w.heap.size ≤ k_) ∧ k_ ≠ gb213 ∧ k_ ≠ gb222 ∧ k_ ≠ g)) (HO247.out) (fun k_ hk => ⟨hk.1, ⟨hk.2.2.1, ⟨hk.2.2.2.1, hk.2.2.2.2⟩⟩⟩))).2.1 (Kd.N_F (Kd.N_mono (ok' := (fun k_ => (w.heap.size ≤ k_) ∧ k_ ≠ gb213 ∧ k_ ≠ gb222 ∧ k_ ≠ g)) (HO247.out) (fun k_ hk => ⟨hk.1, ⟨hk.2.2.1, ⟨hk.2.2.2.1, hk.2.2.2.2⟩⟩⟩))))) (Reps.none _ _))))
         intro v249 w66 ho67 hb hg_ hnew_
         clear hg_ hnew_
         (first | rw [← Ny248.out] at ho67 | (simp only [Int.reduceToNat] at ho67; rw [← Ny248.out] at ho67))
         have n_ := az (Kd.N_lower ho67 (kS HK.out)) <| az (bB BK213.out hb) <| az (bB BK222.out hb) <| az (IsS66.below (mI66_1 HI0.out) hb) <| az (KeepBut.trans (mKp HK.out) (KeepBut.of_below hb g none) (.inl rfl)) <| z0 (below_step (mB66HI0 HB.out) hb)
         clear BK213 BK222 HI0 HK HB HO247 HO_223004
         obtain ⟨HO250, BK213, BK222, HI0, HK, HB⟩ := n_
         clear hb ho67
         obtain ⟨Ao68, co68, eo68⟩ := Kd.N_slice HO250.out
         (first | subst eo68 | (injection eo68 with f1_ f2_ f3_; have f4_ := f1_.symm; have f5_ := f3_.symm; clear f1_ f2_ f3_; subst f4_; subst f5_))
         refine hK.out _ _ ⟨(blk_cell BK222.out 0).trans rfl, (blk_cell BK222.out 1).trans rfl, (blk_cell BK222.out 2).trans rfl, (blk_cell BK222.out 3).trans rfl, (blk_cell BK222.out 4).trans rfl⟩ (fun hHeld => ?_)
         clear hK K
         refine norm_ (a' := ?_) ?_ ?_
         rotate_left
         ·show Act.put _ (some 45) _ = _
          simp only [Act.put, List.setIfInBounds_toArray, List.set_cons_zero, List.set_cons_succ, i64_w, i32_w]
          rfl
         refine pure_ (i := 4) (N := some 46) (v := ?_) (a' := ?_) #[true, true, true, true, true, false] rfl rfl (by kernel_rfl) (fun _ _ _ h => h) (Or.inl ⟨by rfl, ?_⟩) ?_ ?_
         rotate_left
         ·intro w'
          go_simp
          with_reducible rfl
         rotate_left
         ·simp only [Act.put, List.setIfInBounds_toArray, List.set_cons_zero, List.set_cons_succ, i64_w, i32_w]
          rfl
         refine last_ (i := 5) (N := none) #[true, true, true, true, true, true] rfl rfl (by kernel_rfl) (by decide) (fun K hK => ?_)
         have hs69 : w66.cell? ⟨gb222, 0, none⟩ = some (.int .i64 x223000_1) := (blk_cell BK222.out 0).trans rfl
         have hfs69 := blk_frozen BK222.out 0
         have hns69_0 := NB213_222.out
         have hms69_0 := NB222_213.out
         have hs70 : w66.cell? ⟨gb222, 1, none⟩ = some (.int .i64 x223001_1) := (blk_cell BK222.out 1).trans rfl
         have hfs70 := blk_frozen BK222.out 1
         have hns70_0 := NB213_222.out
         have hms70_0 := NB222_213.out
         have hs71 : w66.cell? ⟨gb222, 2, none⟩ = some (.int .i64 x223002_1) := (blk_cell BK222.out 2).trans rfl
         have hfs71 := blk_frozen BK222.out 2
         have hns71_0 := NB213_222.out
         have hms71_0 := NB222_213.out
         have hs72 : w66.cell? ⟨gb222, 3, none⟩ = some (.int .i64 x223003_1) := (blk_cell BK222.out 3).trans rfl
         have hfs72 := blk_frozen BK222.out 3
         have hns72_0 := NB213_222.out
         have hms72_0 := NB222_213.out
         have hs73 : w66.cell? ⟨gb222, 4, none⟩ = some (.slice Ao63 x223004_1.length co63) := (blk_cell BK222.out 4).trans rfl
         have hfs73 := blk_frozen BK222.out 4
         have hns73_0 := NB213_222.out
         have hms73_0 := NB222_213.out
         refine skip_ (w1 := ?_) (by rfl) rfl ?_ ?_
         rotate_left
         ·go_simp
          rfl
         refine hK.out _ _ ?_
         clear hK K
         refine done_ (by kernel_rfl) ?_
         try go_wp2
         go_roundg k1
         case measure => have := HK1.out; omega
         case rel => exact ⟨(wrap64 (x5_1 + 1)), (3), (0), (0), (0), (y248), (.slice Ao68 y248.length co68), rfy, H', ⟨by have := HK1.out; omega⟩, ⟨by (with_reducible repeat (first | apply Kd.N_alloc | apply Kd.N_drewN | apply Kd.N_drew)); exact Kd.N_mono (Kd.N_far (p := ⟨gb222, 4, none⟩) (Kd.N_far (p := ⟨gb222, 3, none⟩) (Kd.N_far (p := ⟨gb222, 2, none⟩) (Kd.N_far (p := ⟨gb222, 1, none⟩) (Kd.N_far (p := ⟨gb222, 0, none⟩) (Kd.N_mono HO250.out (fun k_ hk => (⟨hk, hk.2.2.1⟩ : _ ∧ k_ ≠ gb222))) (fun _ hk => hk.2) (.int .i64 3)) (fun _ hk => hk.2) (.int .i64 0)) (fun _ hk => hk.2) (.int .i64 0)) (fun _ hk => hk.2) (.int .i64 0)) (fun _ hk => hk.2) (.slice Ao68 y248.length co68)) (fun _ hk => ⟨hk.1.1, ⟨hk.1.2.1, ⟨hk.1.2.2.1, hk.1.2.2.2⟩⟩⟩)⟩, ⟨mF BK213.out⟩, ⟨by (with_reducible repeat (first | refine blk_drewN ?_ _ | refine blk_drew ?_ | refine blk_alloc ?_ _)); refine blk_put (cs := #[.int .i64 3, .int .i64 0, .int .i64 0, .int .i64 0, .slice Ao63 x223004_1.length co63]) ?_ 4 _ rfl; (with_reducible repeat (first | refine blk_drewN ?_ _ | refine blk_drew ?_ | refine blk_alloc ?_ _)); refine blk_put (cs := #[.int .i64 3, .int .i64 0, .int .i64 0, .int .i64 x223003_1, .slice Ao63 x223004_1.length co63]) ?_ 3 _ rfl; (with_reducible repeat (first | refine blk_drewN ?_ _ | refine blk_drew ?_ | refine blk_alloc ?_ _)); refine blk_put (cs := #[.int .i64 3, .int .i64 0, .int .i64 x223002_1, .int .i64 x223003_1, .slice Ao63 x223004_1.length co63]) ?_ 2 _ rfl; (with_reducible repeat (first | refine blk_drewN ?_ _ | refine blk_drew ?_ | refine blk_alloc ?_ _)); refine blk_put (cs := #[.int .i64 3, .int .i64 x223001_1, .int .i64 x223002_1, .int .i64 x223003_1, .slice Ao63 x223004_1.length co63]) ?_ 1 _ rfl; (with_reducible repeat (first | refine blk_drewN ?_ _ | refine blk_drew ?_ | refine blk_alloc ?_ _)); refine blk_put (cs := #[.int .i64 x223000_1, .int .i64 x223001_1, .int .i64 x223002_1, .int .i64 x223003_1, .slice Ao63 x223004_1.length co63]) ?_ 0 _ rfl; (with_reducible repeat (first | refine blk_drewN ?_ _ | refine blk_drew ?_ | refine blk_alloc ?_ _)); exact BK222.out⟩, ⟨mI66_1 HI0.out⟩, ⟨mKp HK.out⟩, ⟨mB66HI0 HB.out⟩⟩
        ·rw [if_neg c60] at H
         have c60b0 : decide (x5_1 < 4) = false := decide_eq_false c60
         clear c60
         simp only [Option.some.injEq, Prod.mk.injEq] at H
         obtain ⟨rfl, rfl, rfl, rfl, rfl, rfl⟩ := H
         have hnb74 := NB222_213.out
         have hnc74 := NB213_222.out
         have hnb75 := NB222_0.out
         have hnc75 := NB0_222.out
         obtain ⟨hcz76_0, hcz76_1, hcz76_2, hcz76_3, hcz76_4, hfz76_0, hfz76_1, hfz76_2, hfz76_3, hfz76_4⟩ := cel5 BK222.out
         have hnb77 := NB213_0.out
         have hnc77 := NB0_213.out
         obtain ⟨hcz78_0, hcz78_1, hcz78_2, hcz78_3, hcz78_4, hfz78_0, hfz78_1, hfz78_2, hfz78_3, hfz78_4⟩ := cel5 BK213.out
         obtain ⟨Ao79, co79, eo79⟩ := Kd.N_slice HO_223004.out
         subst eo79
         go_wp2
         refine bodyPost_ret (results_cell_row rfl _ _ gb213 27 #[.int .i64 x223000_1, .int .i64 x223001_1, .int .i64 x223002_1, .int .i64 x223003_1, .slice Ao79 x223004_1.length co79] (0, 0) _ rfl (pF BK213.out) Try.underlying27 rfl (by kernel_rfl)) rfl ?_
         exact ⟨_, rfx, by (with_reducible repeat (first | apply Kd.N_alloc | apply Kd.N_drewN | apply Kd.N_drew)); exact Kd.N_mono (Kd.N_far (p := ⟨gb213, 4, none⟩) (Kd.N_far (p := ⟨gb213, 3, none⟩) (Kd.N_far (p := ⟨gb213, 2, none⟩) (Kd.N_far (p := ⟨gb213, 1, none⟩) (Kd.N_far (p := ⟨gb213, 0, none⟩) (Kd.N_mono HO_223004.out (fun k_ hk => (⟨hk, hk.2.1⟩ : _ ∧ k_ ≠ gb213))) (fun _ hk => hk.2) (.int .i64 x223000_1)) (fun _ hk => hk.2) (.int .i64 x223001_1)) (fun _ hk => hk.2) (.int .i64 x223002_1)) (fun _ hk => hk.2) (.int .i64 x223003_1)) (fun _ hk => hk.2) (.slice Ao79 x223004_1.length co79)) (fun _ hk => hk.1.1), mI66_1 HI0.out, mB66HI0 HB.out, mKp HK.out⟩
     ·rw [if_neg c59] at H
      have c59b0 : (t223 == 4) = false := beq_eq_false_iff_ne.mpr c59
      have c59b1 : (t223 != 4) = true := bne_iff_ne.mpr c59
      simp only [Option.some.injEq, Prod.mk.injEq] at H
      obtain ⟨rfl, rfl, rfl, rfl, rfl, rfl⟩ := H
      have hnb80 := NB222_213.out
      have hnc80 := NB213_222.out
      have hnb81 := NB222_0.out
      have hnc81 := NB0_222.out
      obtain ⟨hcz82_0, hcz82_1, hcz82_2, hcz82_3, hcz82_4, hfz82_0, hfz82_1, hfz82_2, hfz82_3, hfz82_4⟩ := cel5 BK222.out
      have hnb83 := NB213_0.out
      have hnc83 := NB0_213.out
      obtain ⟨hcz84_0, hcz84_1, hcz84_2, hcz84_3, hcz84_4, hfz84_0, hfz84_1, hfz84_2, hfz84_3, hfz84_4⟩ := cel5 BK213.out
      go_wp2
      refine bodyPost_ret (results_cell_row rfl _ _ gb213 27 #[.int .i64 t214, .int .i64 t215, .int .i64 t216, .int .i64 t217, .slice Ao11 t218.length co11] (0, 0) _ rfl (pF BK213.out) Try.underlying27 rfl (by kernel_rfl)) rfl ?_
      exact ⟨_, rfx, by (with_reducible repeat (first | apply Kd.N_alloc | apply Kd.N_drewN | apply Kd.N_drew)); exact Kd.N_mono (Kd.N_far (p := ⟨gb213, 4, none⟩) (Kd.N_far (p := ⟨gb213, 3, none⟩) (Kd.N_far (p := ⟨gb213, 2, none⟩) (Kd.N_far (p := ⟨gb213, 1, none⟩) (Kd.N_far (p := ⟨gb213, 0, none⟩) (Kd.N_mono HO220.out (fun k_ hk => (⟨hk, hk.1.2.1⟩ : _ ∧ k_ ≠ gb213))) (fun _ hk => hk.2) (.int .i64 t214)) (fun _ hk => hk.2) (.int .i64 t215)) (fun _ hk => hk.2) (.int .i64 t216)) (fun _ hk => hk.2) (.int .i64 t217)) (fun _ hk => hk.2) (.slice Ao11 t218.length co11)) (fun _ hk => hk.1.1.1), mI66_1 HI0.out, mB66HI0 HB.out, mKp HK.out⟩

theorem ownLen_ {x n m c : Nat} {A : Option Addr} (h : some x ≠ (Value.slice A n c).ownBlock) : some x ≠ (Value.slice A m c).ownBlock := by cases A <;> exact h
/-! ### spec_l2MemBent: function 17 -/
def spec_l2MemBent.f (k : Nat) (s0_0 : List Int) (s0_1 : Int) : Option (List Int × List Int × List Int × Int) := (spec_l2Mem.f k s0_0 s0_1).bind fun bt291 => ((spec_l12Rd_pick.f k s0_0 bt291.2.2.2 30).bind fun bt302 => (if bt302.1 = 0 then (if 2 ≤ (bt291.1.length : Int) then (some ((bt291.1.take (2 : Int).toNat), bt291.2.1, bt291.2.2.1, bt302.2)) else (none)) else (if bt302.1 = 1 then (if 0 < (bt291.2.2.1.length : Int) then (some (bt291.1, bt291.2.1, (bt291.2.2.1.set (0 : Int).toNat 1000001), bt302.2)) else (none)) else (if bt302.1 = 2 then (if bt291.2.1.length < 17592186044416 then (some (bt291.1, (bt291.2.1 ++ [0]), bt291.2.2.1, bt302.2)) else (none)) else (some (bt291.1, bt291.2.1, bt291.2.2.1, bt302.2))))))
set_option maxHeartbeats 8000000 in
set_option maxRecDepth 100000 in
theorem spec_l2MemBent.calls (k : Nat) (g : Nat) (s0_0 : List Int) (s0_1 : Int) (r1 : List Int) (r2 : List Int) (r3 : List Int) (r4 : Int) (w0 w : World) (hI : IsS66 w0 w g s0_0 s0_1) (hB : Below w0.heap.size w0 w) (h : spec_l2MemBent.f k s0_0 s0_1 = some (r1, r2, r3, r4)) :
  Calls Try.prog 17 #[.pointer (some ⟨g, 0, none⟩)] w fun e w' => ∃ v0_ v1_ v2_ : Value, e = .returned (.agg #[v0_, v1_, v2_]) ∧ Kd.R (Kd.int .i64) 3 w' w.heap.size (fun k_ => nB k_ v1_ ∧ nB k_ v2_) v0_ r1 ∧ Kd.R (Kd.int .i64) 3 w' w.heap.size (fun k_ => nB k_ v0_ ∧ nB k_ v2_) v1_ r2 ∧ Kd.R (Kd.int .i64) 3 w' w.heap.size (fun k_ => nB k_ v0_ ∧ nB k_ v1_) v2_ r3 ∧ IsS66 w0 w' g s0_0 r4 ∧ Below w0.heap.size w0 w' ∧ KeepBut w w' g none := by
 have hu30 := Try.underlying30
 have HI0 := z0 hI
 have HK := z0 (KeepBut.refl w g none)
 have HL := z0 hB.size
 clear hI
 have HW0 := z0 hB.size
 have HB := z0 hB
 clear hB
 have H : ((spec_l2Mem.f k s0_0 s0_1).bind fun bt291 => ((spec_l12Rd_pick.f k s0_0 bt291.2.2.2 30).bind fun bt302 => (if bt302.1 = 0 then (if 2 ≤ (bt291.1.length : Int) then (some ((bt291.1.take (2 : Int).toNat), bt291.2.1, bt291.2.2.1, bt302.2)) else (none)) else (if bt302.1 = 1 then (if 0 < (bt291.2.2.1.length : Int) then (some (bt291.1, bt291.2.1, (bt291.2.2.1.set (0 : Int).toNat 1000001), bt302.2)) else (none)) else (if bt302.1 = 2 then (if bt291.2.1.length < 17592186044416 then (some (bt291.1, (bt291.2.1 ++ [0]), bt291.2.2.1, bt302.2)) else (none)) else (some (bt291.1, bt291.2.1, bt291.2.2.1, bt302.2))))))) = some (r1, r2, r3, r4) := h
 clear h
 replace H := Option.bind_eq_some_iff.mp H
 obtain ⟨⟨t291, t294, t297, t300⟩, A20, H⟩ := H
 try dsimp only at H
 have A2 := z0 A20
 clear A20
 replace H := Option.bind_eq_some_iff.mp H
 obtain ⟨⟨t302, t303⟩, A30, H⟩ := H
 try dsimp only at H
 have A3 := z0 A30
 clear A30
 have HF4 := z0 H
 clear H
 go_enter Try.func17, Try.ntmps17
 go_upto_if 8 with (first | ((with_reducible refine gate_dst (N := 2) rfl ?_); refine box_event ?hg (N := 2) ?hd (cs := #[.slice none 0 0, .slice none 0 0, .slice none 0 0]) (t := 30) ?hr ?_; (case hd => rfl); (case hg => rfl); (case hr => first | (go_simp; done) | (go_simp; rfl)); intro gb290 hg w5 hbox hb; have n_ := az (IsS66.below (mI66_1 HI0.out) hb) <| az (KeepBut.trans (mKp HK.out) (KeepBut.of_below hb g none) (.inl rfl)) <| az (below_step (mB66HI0 HB.out) hb) <| az (hbox) <| az ((gW hg HK.out)) <| az ((Nat.le_trans HW0.out (gW hg HK.out) : w0.heap.size ≤ gb290)) <| az ((by rw [hg]; exact Nat.ne_of_lt (IsS66.lt (show IsS66 w0 _ g s0_0 s0_1 from mI66_1 HI0.out)) : g ≠ gb290)) <| z0 ((by rw [hg]; exact Nat.ne_of_gt (IsS66.lt (show IsS66 w0 _ g s0_0 s0_1 from mI66_1 HI0.out)) : gb290 ≠ g)); clear HI0 HK HB; obtain ⟨HI0, HK, HB, BK290, GW290, GE290, NB0_290, NB290_0⟩ := n_; clear hb hbox hg) | ((with_reducible refine gate_callee (f := 33) rfl ?_); refine goesL_ (some 5) rfl rfl Try.func33 (by kernel_rfl) rfl #[.pointer (some ⟨g, 0, none⟩)] rfl argx ?_; (with_reducible refine (spec_l2Mem.calls k g s0_0 s0_1 t291 t294 t297 t300 w0 _ ?side1 ?side2 A2.out).mono ?_); (case side1 => exact mI66_1 HI0.out); (case side2 => exact mB66HI0 HB.out); rintro e w6 ⟨v292, v295, v298, rfl, ho0, ho1, ho2, hi, hb, hk⟩; refine ⟨_, rfl, ?_⟩; have n_ := az (kB hk BK290.out NB290_0.out) <| az (Kd.R_lower ho0 (kS HK.out)) <| az (Kd.R_lower ho1 (kS HK.out)) <| az (Kd.R_lower ho2 (kS HK.out)) <| az (KeepBut.trans (mKp HK.out) hk (.inl rfl)) <| az (hb) <| z0 (hi); clear BK290 HK HB HI0; obtain ⟨BK290, HO293, HO296, HO299, HK, HB, HI0⟩ := n_; clear hb hk hi ho0; (try clear ho1); (try clear ho2)) | ((with_reducible refine gate_dst (N := 3) rfl ?_); refine box_event ?hg (N := 3) ?hd (cs := #[.slice none 0 0, .slice none 0 0, .slice none 0 0]) (t := 30) ?hr ?_; (case hd => rfl); (case hg => rfl); (case hr => first | (go_simp; done) | (go_simp; rfl)); intro gb301 hg w7 hbox hb; have n_ := az (Kd.R_below (mR HO293.out) hb) <| az (Kd.R_below (mR HO296.out) hb) <| az (Kd.R_below (mR HO299.out) hb) <| az (IsS66.below (mI66_1 HI0.out) hb) <| az (bB BK290.out hb) <| az (KeepBut.trans (mKp HK.out) (KeepBut.of_below hb g none) (.inl rfl)) <| az (below_step (mB66HI0 HB.out) hb) <| az (hbox) <| az ((gW hg HK.out)) <| az ((Nat.le_trans HW0.out (gW hg HK.out) : w0.heap.size ≤ gb301)) <| az ((nL hg BK290.out)) <| az ((nG hg BK290.out)) <| az ((by rw [hg]; exact Nat.ne_of_lt (IsS66.lt (show IsS66 w0 _ g s0_0 t300 from mI66_1 HI0.out)) : g ≠ gb301)) <| z0 ((by rw [hg]; exact Nat.ne_of_gt (IsS66.lt (show IsS66 w0 _ g s0_0 t300 from mI66_1 HI0.out)) : gb301 ≠ g)); clear HO293 HO296 HO299 HI0 BK290 HK HB; obtain ⟨HO293, HO296, HO299, HI0, BK290, HK, HB, BK301, GW301, GE301, NB290_301, NB301_290, NB0_301, NB301_0⟩ := n_; clear hb hbox hg; obtain ⟨Ao8, co8, eo8⟩ := Kd.R_slice HO293.out; subst eo8; have hnb9 := NB301_290.out; have hnc9 := NB290_301.out; have hnb10 := NB301_0.out; have hnc10 := NB0_301.out; obtain ⟨hcz11_0, hcz11_1, hcz11_2, hfz11_0, hfz11_1, hfz11_2⟩ := cel3 BK301.out; obtain ⟨Ao12, co12, eo12⟩ := Kd.R_slice HO296.out; subst eo12; obtain ⟨Ao13, co13, eo13⟩ := Kd.R_slice HO299.out; subst eo13) | ((with_reducible refine gate_callee (f := 30) rfl ?_); refine goesL_ (some 7) rfl rfl Try.func30 (by kernel_rfl) rfl #[.pointer (some ⟨g, 0, none⟩), .int .i64 30] rfl argx ?_; (with_reducible refine (spec_l12Rd_pick.calls k g s0_0 t300 30 t302 t303 w0 _ ?side1 ?side2 A3.out).mono ?_); (case side1 => exact mI66_1 HI0.out); (case side2 => exact mB66HI0 HB.out); rintro e w14 ⟨rfl, hi, hb, hk⟩; refine ⟨_, rfl, ?_⟩; have n_ := az (KeepBut.blk hk (g' := gb290) (o := .cells #[.slice none 0 0, .slice none 0 0, .slice none 0 0] 30 (0, 0)) (mF BK290.out) NB290_0.out (by simp)) <| az (Kd.R_mono (Kd.R_keep (IsS66.apart (show IsS66 w0 _ g s0_0 t300 from mI66_1 HI0.out) (by (with_reducible repeat (first | apply Kd.R_alloc | apply Kd.R_drewN | apply Kd.R_drew)); exact (Kd.R_mono (Kd.R_far (p := ⟨gb301, 2, none⟩) (Kd.R_far (p := ⟨gb301, 1, none⟩) (Kd.R_far (p := ⟨gb301, 0, none⟩) (Kd.R_types HO293.out BK301.out (by decide)) (fun _ hk => hk.2) (.slice Ao8 t291.length co8)) (fun _ hk => hk.2) (.slice Ao12 t294.length co12)) (fun _ hk => hk.2) (.slice Ao13 t297.length co13)) (fun _ h_ => h_.1))) (by decide)) hk (fun _ h => h.2)) (fun _ h => h.1)) <| az (Kd.R_mono (Kd.R_keep (IsS66.apart (show IsS66 w0 _ g s0_0 t300 from mI66_1 HI0.out) (by (with_reducible repeat (first | apply Kd.R_alloc | apply Kd.R_drewN | apply Kd.R_drew)); exact (Kd.R_mono (Kd.R_far (p := ⟨gb301, 2, none⟩) (Kd.R_far (p := ⟨gb301, 1, none⟩) (Kd.R_far (p := ⟨gb301, 0, none⟩) (Kd.R_types HO296.out BK301.out (by decide)) (fun _ hk => hk.2) (.slice Ao8 t291.length co8)) (fun _ hk => hk.2) (.slice Ao12 t294.length co12)) (fun _ hk => hk.2) (.slice Ao13 t297.length co13)) (fun _ h_ => h_.1))) (by decide)) hk (fun _ h => h.2)) (fun _ h => h.1)) <| az (Kd.R_mono (Kd.R_keep (IsS66.apart (show IsS66 w0 _ g s0_0 t300 from mI66_1 HI0.out) (by (with_reducible repeat (first | apply Kd.R_alloc | apply Kd.R_drewN | apply Kd.R_drew)); exact (Kd.R_mono (Kd.R_far (p := ⟨gb301, 2, none⟩) (Kd.R_far (p := ⟨gb301, 1, none⟩) (Kd.R_far (p := ⟨gb301, 0, none⟩) (Kd.R_types HO299.out BK301.out (by decide)) (fun _ hk => hk.2) (.slice Ao8 t291.length co8)) (fun _ hk => hk.2) (.slice Ao12 t294.length co12)) (fun _ hk => hk.2) (.slice Ao13 t297.length co13)) (fun _ h_ => h_.1))) (by decide)) hk (fun _ h => h.2)) (fun _ h => h.1)) <| az (KeepBut.blk hk (g' := gb301) (o := .cells #[.slice Ao8 t291.length co8, .slice Ao12 t294.length co12, .slice Ao13 t297.length co13] 30 (0, 0)) (by (with_reducible repeat (first | refine blk_drewN ?_ _ | refine blk_drew ?_ | refine blk_alloc ?_ _)); refine blk_put (cs := #[.slice Ao8 t291.length co8, .slice Ao12 t294.length co12, .slice none 0 0]) ?_ 2 _ rfl; (with_reducible repeat (first | refine blk_drewN ?_ _ | refine blk_drew ?_ | refine blk_alloc ?_ _)); refine blk_put (cs := #[.slice Ao8 t291.length co8, .slice none 0 0, .slice none 0 0]) ?_ 1 _ rfl; (with_reducible repeat (first | refine blk_drewN ?_ _ | refine blk_drew ?_ | refine blk_alloc ?_ _)); refine blk_put (cs := #[.slice none 0 0, .slice none 0 0, .slice none 0 0]) ?_ 0 _ rfl; (with_reducible repeat (first | refine blk_drewN ?_ _ | refine blk_drew ?_ | refine blk_alloc ?_ _)); exact BK301.out) NB301_0.out (by simp)) <| az (KeepBut.trans (mKp HK.out) hk (.inl rfl)) <| az (hb) <| z0 (hi); clear BK290 HO293 HO296 HO299 BK301 HK HB HI0; obtain ⟨BK290, HO293, HO296, HO299, BK301, HK, HB, HI0⟩ := n_; clear hb hk hi))
 (try simp only [Act.put, List.setIfInBounds_toArray, List.set_cons_zero, List.set_cons_succ])
 have H := HF4.out
 clear HF4
 (try clear hcz11_0); (try clear hcz11_1); (try clear hcz11_2); (try clear hfz11_0); (try clear hfz11_1); (try clear hfz11_2)
 by_cases c15 : t302 = 0
 ·rw [if_pos c15] at H
  have c15b0 : (t302 == 0) = true := beq_iff_eq.mpr c15
  have c15b1 : (t302 != 0) = false := bne_eq_false_iff_eq.mpr c15
  clear c15
  (first | rw [c15b0] | (simp only [i64_w, i32_w]; rw [c15b0]) | skip)
  by_cases c16 : 2 ≤ (t291.length : Int)
  ·rw [if_pos c16] at H
   have c16b0 := eq_true c16
   have c16b1 : decide (2 ≤ (t291.length : Int)) = true := decide_eq_true c16
   clear c16
   obtain ⟨y304, hy304⟩ : ∃ y_ : List Int, y_ = (t291.take (2 : Int).toNat) := ⟨_, rfl⟩
   replace H : (some (y304, t294, t297, t303)) = some (r1, r2, r3, r4) := by first | (rw [hy304]; with_reducible exact H) | (have H2_ := (Option.bind_some _ _).symm.trans H; rw [hy304]; with_reducible exact H2_) | (have H2_ := (Option.bind_some _ _).symm.trans H; with_reducible exact H2_) | with_reducible exact H | (rw [hy304]; exact H) | exact H
   have Ny304 := z0 hy304
   clear hy304
   simp only [Option.some.injEq, Prod.mk.injEq] at H
   obtain ⟨rfl, rfl, rfl, rfl⟩ := H
   have hnb17 := NB301_290.out
   have hnc17 := NB290_301.out
   have hnb18 := NB301_0.out
   have hnc18 := NB0_301.out
   obtain ⟨hcz19_0, hcz19_1, hcz19_2, hfz19_0, hfz19_1, hfz19_2⟩ := cel3 BK301.out
   have q20 : (2 : Int) ≤ ((t291.length : Int) : Int) := of_decide_eq_true (by first | (with_reducible assumption) | assumption)
   obtain ⟨i020, hi020, _, hsz20, _⟩ := info_parts info3
   have hcut20 := cut_to (P := Try.prog) 28 3 .i64 Try.underlying28 hi020 Ao8 t291.length co8 2 (by omega) q20 (Kd.R_reads' HO293.out).2.1
   have hr20 := Kd.R_take (m := (2 : Int).toNat) HO293.out (by omega)
   have hy20 : y304.length = (2 : Int).toNat := (by rw [Ny304.out, List.length_take]; omega)
   rw [← Ny304.out] at hr20
   rw [← hy20] at hr20 hcut20
   clear hy20 hi020 hsz20 HO293
   have HO306 := z0 hr20
   clear hr20
   replace q20 := eq_true q20
   have hnb21 := NB290_0.out
   have hnc21 := NB0_290.out
   obtain ⟨hcz22_0, hcz22_1, hcz22_2, hfz22_0, hfz22_1, hfz22_2⟩ := cel3 BK290.out
   go_wp2
   refine bodyPost_ret (results_cell_row rfl _ _ gb290 30 #[.slice Ao8 y304.length co8, .slice Ao12 t294.length co12, .slice Ao13 t297.length co13] (0, 0) _ rfl (by (with_reducible repeat (first | refine blk_drewN ?_ _ | refine blk_drew ?_ | refine blk_alloc ?_ _)); refine blk_put (cs := #[.slice Ao8 y304.length co8, .slice Ao12 t294.length co12, .slice none 0 0]) ?_ 2 _ rfl; (with_reducible repeat (first | refine blk_drewN ?_ _ | refine blk_drew ?_ | refine blk_alloc ?_ _)); refine blk_put (cs := #[.slice Ao8 y304.length co8, .slice none 0 0, .slice none 0 0]) ?_ 1 _ rfl; (with_reducible repeat (first | refine blk_drewN ?_ _ | refine blk_drew ?_ | refine blk_alloc ?_ _)); refine blk_put (cs := #[.slice none 0 0, .slice none 0 0, .slice none 0 0]) ?_ 0 _ rfl; (with_reducible repeat (first | refine blk_drewN ?_ _ | refine blk_drew ?_ | refine blk_alloc ?_ _)); refine blk_far ?_ NB290_301.out _; (with_reducible repeat (first | refine blk_drewN ?_ _ | refine blk_drew ?_ | refine blk_alloc ?_ _)); exact BK290.out) Try.underlying30 rfl (by kernel_rfl)) rfl ?_
   exact ⟨_, _, _, rfx, by (with_reducible repeat (first | apply Kd.R_alloc | apply Kd.R_drewN | apply Kd.R_drew)); exact Kd.R_mono (Kd.R_far (p := ⟨gb290, 2, none⟩) (Kd.R_far (p := ⟨gb290, 1, none⟩) (Kd.R_far (p := ⟨gb290, 0, none⟩) (Kd.R_far (p := ⟨gb301, 0, none⟩) (Kd.R_types (Kd.R_types HO306.out BK301.out (by decide)) BK290.out (by decide)) (fun _ hk => hk.1.2) (.slice Ao8 y304.length co8)) (fun _ hk => hk.2) (.slice Ao8 y304.length co8)) (fun _ hk => hk.2) (.slice Ao12 t294.length co12)) (fun _ hk => hk.2) (.slice Ao13 t297.length co13)) (fun _ hk => by first | exact ⟨hk.1.1.1, hk.1.1.2⟩ | exact ⟨ownLen_ hk.1.1.1, hk.1.1.2⟩), by (with_reducible repeat (first | apply Kd.R_alloc | apply Kd.R_drewN | apply Kd.R_drew)); exact Kd.R_mono (Kd.R_far (p := ⟨gb290, 2, none⟩) (Kd.R_far (p := ⟨gb290, 1, none⟩) (Kd.R_far (p := ⟨gb290, 0, none⟩) (Kd.R_far (p := ⟨gb301, 0, none⟩) (Kd.R_types (Kd.R_types HO296.out BK301.out (by decide)) BK290.out (by decide)) (fun _ hk => hk.1.2) (.slice Ao8 y304.length co8)) (fun _ hk => hk.2) (.slice Ao8 y304.length co8)) (fun _ hk => hk.2) (.slice Ao12 t294.length co12)) (fun _ hk => hk.2) (.slice Ao13 t297.length co13)) (fun _ hk => by first | exact ⟨hk.1.1.1, hk.1.1.2⟩ | exact ⟨ownLen_ hk.1.1.1, hk.1.1.2⟩), by (with_reducible repeat (first | apply Kd.R_alloc | apply Kd.R_drewN | apply Kd.R_drew)); exact Kd.R_mono (Kd.R_far (p := ⟨gb290, 2, none⟩) (Kd.R_far (p := ⟨gb290, 1, none⟩) (Kd.R_far (p := ⟨gb290, 0, none⟩) (Kd.R_far (p := ⟨gb301, 0, none⟩) (Kd.R_types (Kd.R_types HO299.out BK301.out (by decide)) BK290.out (by decide)) (fun _ hk => hk.1.2) (.slice Ao8 y304.length co8)) (fun _ hk => hk.2) (.slice Ao8 y304.length co8)) (fun _ hk => hk.2) (.slice Ao12 t294.length co12)) (fun _ hk => hk.2) (.slice Ao13 t297.length co13)) (fun _ hk => by first | exact ⟨hk.1.1.1, hk.1.1.2⟩ | exact ⟨ownLen_ hk.1.1.1, hk.1.1.2⟩), mI66_1 HI0.out, mB66HI0 HB.out, mKp HK.out⟩
  ·rw [if_neg c16] at H
   exact absurd H (by simp)
 ·rw [if_neg c15] at H
  have c15b0 : (t302 == 0) = false := beq_eq_false_iff_ne.mpr c15
  have c15b1 : (t302 != 0) = true := bne_iff_ne.mpr c15
  (first | rw [c15b0] | (simp only [i64_w, i32_w]; rw [c15b0]) | skip)
  by_cases c23 : t302 = 1
  ·rw [if_pos c23] at H
   have c23b0 : (t302 == 1) = true := beq_iff_eq.mpr c23
   have c23b1 : (t302 != 1) = false := bne_eq_false_iff_eq.mpr c23
   clear c23
   by_cases c24 : 0 < (t297.length : Int)
   ·rw [if_pos c24] at H
    have c24b0 : decide (0 < (t297.length : Int)) = true := decide_eq_true c24
    have c24b1 : decide (0 < t297.length) = true := decide_eq_true (by omega)
    clear c24
    obtain ⟨y307, hy307⟩ : ∃ y_ : List Int, y_ = (t297.set (0 : Int).toNat 1000001) := ⟨_, rfl⟩
    replace H : (some (t291, t294, y307, t303)) = some (r1, r2, r3, r4) := by first | (rw [hy307]; with_reducible exact H) | (have H2_ := (Option.bind_some _ _).symm.trans H; rw [hy307]; with_reducible exact H2_) | (have H2_ := (Option.bind_some _ _).symm.trans H; with_reducible exact H2_) | with_reducible exact H | (rw [hy307]; exact H) | exact H
    have Ny307 := z0 hy307
    clear hy307
    simp only [Option.some.injEq, Prod.mk.injEq] at H
    obtain ⟨rfl, rfl, rfl, rfl⟩ := H
    have hnb26 := NB301_290.out
    have hnc26 := NB290_301.out
    have hnb27 := NB301_0.out
    have hnc27 := NB0_301.out
    obtain ⟨hcz28_0, hcz28_1, hcz28_2, hfz28_0, hfz28_1, hfz28_2⟩ := cel3 BK301.out
    have p25 : 0 ≤ (0 : Int) := (by omega)
    have q25 : (0 : Int) < ((t297.length : Int) : Int) := of_decide_eq_true (by first | (with_reducible assumption) | assumption)
    have qi25 : (0 < t297.length) = True := eq_true (by omega)
    obtain ⟨go25, co25, eo25, gb25, gl25, cl25, HG25⟩ := Kd.R_form HO299.out (by omega)
    (first | cases eo25 | (injection eo25 with ea_ en_ ec_; (first | subst ea_ | (injection ea_ with ea_; subst ea_)); subst ec_; clear en_))
    have GB25 := z0 gb25
    have GG25 := z0 HG25
    clear gb25 gl25 HG25
    obtain ⟨hx25_0, hf25_0⟩ := Kd.R_celln 0 HO299.out (0 : Int) p25 q25
    (try rw [show ((0 : Int)).toNat = 0 from rfl] at hx25_0)
    (try simp only [Nat.reduceMul, Nat.zero_mul, Nat.zero_add, Nat.reduceAdd] at hx25_0)
    (try rw [show ((0 : Int)).toNat = 0 from rfl] at hf25_0)
    (try simp only [Nat.reduceMul, Nat.zero_mul, Nat.zero_add, Nat.reduceAdd] at hf25_0)
    replace p25 := eq_true p25
    replace q25 := eq_true q25
    have HP29 := Kd.R_putg HO299.out (0 : Int) 1000001
    go_wp2_with (first | ((with_reducible refine gate_store (t := 3) (p := 18) rfl ?_); refine store_event (t := 3) (p := 18) (v := ?vo_w30) (w1 := (w14.setCell ⟨go25, (0 : Int).toNat, none⟩ (.int .i64 1000001))) ?hg ?ho ?hn ?hr ?_; (case ho => rfl); (case hg => rfl); (case hn => rfl); (case hr => first | (go_simp; done) | (go_simp; rfl)); intro w30 hw; have hg : w14.grownBy w30 (some go25) := (by rw [hw]; exact HP29.2); have hp_ : Kd.R (Kd.int .i64) 3 w30 w.heap.size (fun k_ => nB k_ (.slice Ao8 t291.length co8) ∧ nB k_ (.slice Ao12 t294.length co12)) (.slice (some ⟨go25, 0, none⟩) t297.length co13) y307 := (by rw [hw, Ny307.out]; exact HP29.1); clear HP29; have n_ := az (IsS66.grown (mI66_1 HI0.out) hg (IsS66.own_ne HI0.out HO299.out (by decide))) <| az (blk_grown (g := gb290) (o := .cells #[.slice none 0 0, .slice none 0 0, .slice none 0 0] 30 (0, 0)) (mK BK290.out) hg (Kd.R_ne HO299.out BK290.out (by decide))) <| az (Kd.R_after (v := (.slice (some ⟨go25, 0, none⟩) t297.length co13)) (v1 := (.slice (some ⟨go25, 0, none⟩) t297.length co13)) (ok := (fun k_ => nB k_ (.slice Ao12 t294.length co12))) (mR HO293.out) hg (.inl rfl)) <| az (Kd.R_after (v := (.slice (some ⟨go25, 0, none⟩) t297.length co13)) (v1 := (.slice (some ⟨go25, 0, none⟩) t297.length co13)) (ok := (fun k_ => nB k_ (.slice Ao8 t291.length co8))) (mR HO296.out) hg (.inl rfl)) <| az (hp_) <| az (blk_grown (g := gb301) (o := .cells #[.slice Ao8 t291.length co8, .slice Ao12 t294.length co12, .slice (some ⟨go25, 0, none⟩) t297.length co13] 30 (0, 0)) (mK BK301.out) hg (Kd.R_ne HO299.out BK301.out (by decide))) <| az ((by rw [hw]; exact below_set (HB.out) (Nat.le_trans HL.out GB25.out) : Below w0.heap.size w0 w30)) <| z0 (KeepBut.trans (mKp HK.out) (KeepBut.of_grown hg g) (Kd.R_base2 HO299.out)); clear HI0 BK290 HO293 HO296 HO299 BK301 HB HK; obtain ⟨HI0, BK290, HO293, HO296, HO299, BK301, HB, HK⟩ := n_; clear hg hw hp_; obtain ⟨hcz31_0, hcz31_1, hcz31_2, hfz31_0, hfz31_1, hfz31_2⟩ := cel3 BK301.out; have hnb32 := NB290_0.out; have hnc32 := NB0_290.out; obtain ⟨hcz33_0, hcz33_1, hcz33_2, hfz33_0, hfz33_1, hfz33_2⟩ := cel3 BK290.out))
    refine bodyPost_ret (results_cell_row rfl _ _ gb290 30 #[.slice Ao8 t291.length co8, .slice Ao12 t294.length co12, .slice (some ⟨go25, 0, none⟩) t297.length co13] (0, 0) _ rfl (pF BK290.out) Try.underlying30 rfl (by kernel_rfl)) rfl ?_
    exact ⟨_, _, _, rfx, by (with_reducible repeat (first | apply Kd.R_alloc | apply Kd.R_drewN | apply Kd.R_drew)); exact Kd.R_mono (Kd.R_far (p := ⟨gb290, 2, none⟩) (Kd.R_far (p := ⟨gb290, 1, none⟩) (Kd.R_far (p := ⟨gb290, 0, none⟩) (Kd.R_types HO293.out BK290.out (by decide)) (fun _ hk => hk.2) (.slice Ao8 t291.length co8)) (fun _ hk => hk.2) (.slice Ao12 t294.length co12)) (fun _ hk => hk.2) (.slice (some ⟨go25, 0, none⟩) t297.length co13)) (fun _ hk => ⟨hk.1.1, hk.1.2⟩), by (with_reducible repeat (first | apply Kd.R_alloc | apply Kd.R_drewN | apply Kd.R_drew)); exact Kd.R_mono (Kd.R_far (p := ⟨gb290, 2, none⟩) (Kd.R_far (p := ⟨gb290, 1, none⟩) (Kd.R_far (p := ⟨gb290, 0, none⟩) (Kd.R_types HO296.out BK290.out (by decide)) (fun _ hk => hk.2) (.slice Ao8 t291.length co8)) (fun _ hk => hk.2) (.slice Ao12 t294.length co12)) (fun _ hk => hk.2) (.slice (some ⟨go25, 0, none⟩) t297.length co13)) (fun _ hk => ⟨hk.1.1, hk.1.2⟩), by (with_reducible repeat (first | apply Kd.R_alloc | apply Kd.R_drewN | apply Kd.R_drew)); exact Kd.R_mono (Kd.R_far (p := ⟨gb290, 2, none⟩) (Kd.R_far (p := ⟨gb290, 1, none⟩) (Kd.R_far (p := ⟨gb290, 0, none⟩) (Kd.R_types HO299.out BK290.out (by decide)) (fun _ hk => hk.2) (.slice Ao8 t291.length co8)) (fun _ hk => hk.2) (.slice Ao12 t294.length co12)) (fun _ hk => hk.2) (.slice (some ⟨go25, 0, none⟩) t297.length co13)) (fun _ hk => ⟨hk.1.1, hk.1.2⟩), mI66_1 HI0.out, mB66HI0 HB.out, mKp HK.out⟩
   ·rw [if_neg c24] at H
    exact absurd H (by simp)
  ·rw [if_neg c23] at H
   have c23b0 : (t302 == 1) = false := beq_eq_false_iff_ne.mpr c23
   have c23b1 : (t302 != 1) = true := bne_iff_ne.mpr c23
   by_cases c34 : t302 = 2
   ·rw [if_pos c34] at H
    have c34b0 : (t302 == 2) = true := beq_iff_eq.mpr c34
    have c34b1 : (t302 != 2) = false := bne_eq_false_iff_eq.mpr c34
    clear c34
    by_cases c35 : t294.length < 17592186044416
    ·rw [if_pos c35] at H
     have LMc35 := z0 c35
     clear c35
     obtain ⟨y308, hy308⟩ : ∃ y_ : List Int, y_ = (t294 ++ [0]) := ⟨_, rfl⟩
     replace H : (some (t291, y308, t297, t303)) = some (r1, r2, r3, r4) := by first | (rw [hy308]; with_reducible exact H) | (have H2_ := (Option.bind_some _ _).symm.trans H; rw [hy308]; with_reducible exact H2_) | (have H2_ := (Option.bind_some _ _).symm.trans H; with_reducible exact H2_) | with_reducible exact H | (rw [hy308]; exact H) | exact H
     have Ny308 := z0 hy308
     clear hy308
     simp only [Option.some.injEq, Prod.mk.injEq] at H
     obtain ⟨rfl, rfl, rfl, rfl⟩ := H
     have hnb36 := NB301_290.out
     have hnc36 := NB290_301.out
     have hnb37 := NB301_0.out
     have hnc37 := NB0_301.out
     obtain ⟨hcz38_0, hcz38_1, hcz38_2, hfz38_0, hfz38_1, hfz38_2⟩ := cel3 BK301.out
     go_wp2_with (first | ((with_reducible refine gate_builtin (b := .append) (xs := #[.tmp 22, .tmp 23]) rfl ?_); at_builtin; refine Kd.R_append (Kd.int .i64) w.heap.size rfl (.tmp 22) (.tmp 23) 28 3 (.int .i64 0) 8 rfl Try.underlying28 info3 rfl (by decide) (by omega) (.slice Ao12 t294.length co12) t294 0 [.int .i64 0] (fun k_ => nB k_ (.slice Ao8 t291.length co8) ∧ nB k_ (.slice Ao13 t297.length co13)) (fun _ => False) rfl rfl ?aP (fun _ hk => hk.elim) ?aF ?aO (Below.refl _ _) ?aS ?aL ?_; (case aP => exact rfl); (case aF => exact (fun k_ hk => ⟨Kd.fresh' (Kd.R_lt (mR HO293.out)) k_ hk, Kd.fresh' (Kd.R_lt (mR HO299.out)) k_ hk⟩)); (case aO => exact (mR HO296.out)); (case aS => exact (kS HK.out)); (case aL => have := LMc35.out; omega); intro v309 w39 ho hb hg hat; rw [← Ny308.out] at ho; have n_ := az (IsS66.grown (mI66_1 HI0.out) hg (IsS66.own_ne HI0.out HO296.out (by decide))) <| az (blk_grown (g := gb290) (o := .cells #[.slice none 0 0, .slice none 0 0, .slice none 0 0] 30 (0, 0)) (mK BK290.out) hg (Kd.R_ne HO296.out BK290.out (by decide))) <| az (Kd.R_after (ok := (fun k_ => nB k_ (.slice Ao13 t297.length co13))) (by (with_reducible repeat (first | apply Kd.R_alloc | apply Kd.R_drewN | apply Kd.R_drew)); exact Kd.R_mono HO293.out (fun _ hk => ⟨hk.2, hk.1⟩)) hg hat) <| az (Kd.R_after (ok := (fun k_ => nB k_ (.slice Ao8 t291.length co8))) (mR HO299.out) hg hat) <| az (blk_grown (g := gb301) (o := .cells #[.slice Ao8 t291.length co8, .slice Ao12 t294.length co12, .slice Ao13 t297.length co13] 30 (0, 0)) (mK BK301.out) hg (Kd.R_ne HO296.out BK301.out (by decide))) <| az (below_weaken (mB66HI0 HB.out) HL.out hb) <| az (KeepBut.trans (mKp HK.out) (KeepBut.of_grown hg g) (Kd.R_base2 HO296.out)) <| z0 (ho); clear HI0 BK290 HO293 HO299 BK301 HB HK HO296; obtain ⟨HI0, BK290, HO293, HO299, BK301, HB, HK, HO310⟩ := n_; clear ho hb hg hat; obtain ⟨Ao40, co40, eo40⟩ := Kd.R_slice HO310.out; subst eo40; obtain ⟨hcz41_0, hcz41_1, hcz41_2, hfz41_0, hfz41_1, hfz41_2⟩ := cel3 BK301.out; have hnb42 := NB290_0.out; have hnc42 := NB0_290.out; obtain ⟨hcz43_0, hcz43_1, hcz43_2, hfz43_0, hfz43_1, hfz43_2⟩ := cel3 BK290.out))
     refine bodyPost_ret (results_cell_row rfl _ _ gb290 30 #[.slice Ao8 t291.length co8, .slice Ao40 y308.length co40, .slice Ao13 t297.length co13] (0, 0) _ rfl (by (with_reducible repeat (first | refine blk_drewN ?_ _ | refine blk_drew ?_ | refine blk_alloc ?_ _)); refine blk_put (cs := #[.slice Ao8 t291.length co8, .slice Ao40 y308.length co40, .slice none 0 0]) ?_ 2 _ rfl; (with_reducible repeat (first | refine blk_drewN ?_ _ | refine blk_drew ?_ | refine blk_alloc ?_ _)); refine blk_put (cs := #[.slice Ao8 t291.length co8, .slice none 0 0, .slice none 0 0]) ?_ 1 _ rfl; (with_reducible repeat (first | refine blk_drewN ?_ _ | refine blk_drew ?_ | refine blk_alloc ?_ _)); refine blk_put (cs := #[.slice none 0 0, .slice none 0 0, .slice none 0 0]) ?_ 0 _ rfl; (with_reducible repeat (first | refine blk_drewN ?_ _ | refine blk_drew ?_ | refine blk_alloc ?_ _)); refine blk_far ?_ NB290_301.out _; (with_reducible repeat (first | refine blk_drewN ?_ _ | refine blk_drew ?_ | refine blk_alloc ?_ _)); exact BK290.out) Try.underlying30 rfl (by kernel_rfl)) rfl ?_
     exact ⟨_, _, _, rfx, by (with_reducible repeat (first | apply Kd.R_alloc | apply Kd.R_drewN | apply Kd.R_drew)); exact Kd.R_mono (Kd.R_far (p := ⟨gb290, 2, none⟩) (Kd.R_far (p := ⟨gb290, 1, none⟩) (Kd.R_far (p := ⟨gb290, 0, none⟩) (Kd.R_far (p := ⟨gb301, 1, none⟩) (Kd.R_types (Kd.R_types HO293.out BK301.out (by decide)) BK290.out (by decide)) (fun _ hk => hk.1.2) (.slice Ao40 y308.length co40)) (fun _ hk => hk.2) (.slice Ao8 t291.length co8)) (fun _ hk => hk.2) (.slice Ao40 y308.length co40)) (fun _ hk => hk.2) (.slice Ao13 t297.length co13)) (fun _ hk => ⟨hk.1.1.2, hk.1.1.1⟩), by (with_reducible repeat (first | apply Kd.R_alloc | apply Kd.R_drewN | apply Kd.R_drew)); exact Kd.R_mono (Kd.R_far (p := ⟨gb290, 2, none⟩) (Kd.R_far (p := ⟨gb290, 1, none⟩) (Kd.R_far (p := ⟨gb290, 0, none⟩) (Kd.R_far (p := ⟨gb301, 1, none⟩) (Kd.R_types (Kd.R_types HO310.out BK301.out (by decide)) BK290.out (by decide)) (fun _ hk => hk.1.2) (.slice Ao40 y308.length co40)) (fun _ hk => hk.2) (.slice Ao8 t291.length co8)) (fun _ hk => hk.2) (.slice Ao40 y308.length co40)) (fun _ hk => hk.2) (.slice Ao13 t297.length co13)) (fun _ hk => by first | exact ⟨hk.1.1.1, hk.1.1.2⟩ | exact ⟨ownLen_ hk.1.1.1, hk.1.1.2⟩), by (with_reducible repeat (first | apply Kd.R_alloc | apply Kd.R_drewN | apply Kd.R_drew)); exact Kd.R_mono (Kd.R_far (p := ⟨gb290, 2, none⟩) (Kd.R_far (p := ⟨gb290, 1, none⟩) (Kd.R_far (p := ⟨gb290, 0, none⟩) (Kd.R_far (p := ⟨gb301, 1, none⟩) (Kd.R_types (Kd.R_types HO299.out BK301.out (by decide)) BK290.out (by decide)) (fun _ hk => hk.1.2) (.slice Ao40 y308.length co40)) (fun _ hk => hk.2) (.slice Ao8 t291.length co8)) (fun _ hk => hk.2) (.slice Ao40 y308.length co40)) (fun _ hk => hk.2) (.slice Ao13 t297.length co13)) (fun _ hk => by first | exact ⟨hk.1.1.1, hk.1.1.2⟩ | exact ⟨ownLen_ hk.1.1.1, hk.1.1.2⟩), mI66_1 HI0.out, mB66HI0 HB.out, mKp HK.out⟩
    ·rw [if_neg c35] at H
     exact absurd H (by simp)
   ·rw [if_neg c34] at H
    have c34b0 : (t302 == 2) = false := beq_eq_false_iff_ne.mpr c34
    have c34b1 : (t302 != 2) = true := bne_iff_ne.mpr c34
    simp only [Option.some.injEq, Prod.mk.injEq] at H
    obtain ⟨rfl, rfl, rfl, rfl⟩ := H
    have hnb44 := NB301_290.out
    have hnc44 := NB290_301.out
    have hnb45 := NB301_0.out
    have hnc45 := NB0_301.out
    obtain ⟨hcz46_0, hcz46_1, hcz46_2, hfz46_0, hfz46_1, hfz46_2⟩ := cel3 BK301.out
    have hnb47 := NB290_0.out
    have hnc47 := NB0_290.out
    obtain ⟨hcz48_0, hcz48_1, hcz48_2, hfz48_0, hfz48_1, hfz48_2⟩ := cel3 BK290.out
    go_wp2
    refine bodyPost_ret (results_cell_row rfl _ _ gb290 30 #[.slice Ao8 t291.length co8, .slice Ao12 t294.length co12, .slice Ao13 t297.length co13] (0, 0) _ rfl (pF BK290.out) Try.underlying30 rfl (by kernel_rfl)) rfl ?_
    exact ⟨_, _, _, rfx, by (with_reducible repeat (first | apply Kd.R_alloc | apply Kd.R_drewN | apply Kd.R_drew)); exact Kd.R_mono (Kd.R_far (p := ⟨gb290, 2, none⟩) (Kd.R_far (p := ⟨gb290, 1, none⟩) (Kd.R_far (p := ⟨gb290, 0, none⟩) (Kd.R_types HO293.out BK290.out (by decide)) (fun _ hk => hk.2) (.slice Ao8 t291.length co8)) (fun _ hk => hk.2) (.slice Ao12 t294.length co12)) (fun _ hk => hk.2) (.slice Ao13 t297.length co13)) (fun _ hk => ⟨hk.1.1, hk.1.2⟩), by (with_reducible repeat (first | apply Kd.R_alloc | apply Kd.R_drewN | apply Kd.R_drew)); exact Kd.R_mono (Kd.R_far (p := ⟨gb290, 2, none⟩) (Kd.R_far (p := ⟨gb290, 1, none⟩) (Kd.R_far (p := ⟨gb290, 0, none⟩) (Kd.R_types HO296.out BK290.out (by decide)) (fun _ hk => hk.2) (.slice Ao8 t291.length co8)) (fun _ hk => hk.2) (.slice Ao12 t294.length co12)) (fun _ hk => hk.2) (.slice Ao13 t297.length co13)) (fun _ hk => ⟨hk.1.1, hk.1.2⟩), by (with_reducible repeat (first | apply Kd.R_alloc | apply Kd.R_drewN | apply Kd.R_drew)); exact Kd.R_mono (Kd.R_far (p := ⟨gb290, 2, none⟩) (Kd.R_far (p := ⟨gb290, 1, none⟩) (Kd.R_far (p := ⟨gb290, 0, none⟩) (Kd.R_types HO299.out BK290.out (by decide)) (fun _ hk => hk.2) (.slice Ao8 t291.length co8)) (fun _ hk => hk.2) (.slice Ao12 t294.length co12)) (fun _ hk => hk.2) (.slice Ao13 t297.length co13)) (fun _ hk => ⟨hk.1.1, hk.1.2⟩), mI66_1 HI0.out, mB66HI0 HB.out, mKp HK.out⟩

/-! ### spec_DrawExprOf: function 4 -/
def spec_DrawExprOf.f (k : Nat) (l0 : List Int) : Option (Int × Int × Int × Int × (List (S27)) × List Int × List Int × List Int) := (spec_l12Open.f l0).bind fun bt313 => ((spec_l3Bent.f k bt313.1 bt313.2).bind fun bt316 => ((spec_l2MemBent.f k bt313.1 bt316.2.2.2.2.2).bind fun bt325 => (some (bt316.1, bt316.2.1, bt316.2.2.1, bt316.2.2.2.1, bt316.2.2.2.2.1, bt325.1, bt325.2.1, bt325.2.2.1))))
set_option maxHeartbeats 8000000 in
set_option maxRecDepth 100000 in
theorem spec_DrawExprOf.calls (k : Nat) (A0 : Option Addr) (c0 : Nat) (l0 : List Int) (r1 : Int) (r2 : Int) (r3 : Int) (r4 : Int) (r5 : List (S27)) (r6 : List Int) (r7 : List Int) (r8 : List Int) (w : World) (hr0 : Kd.C (Kd.int .u8) w A0 l0.length l0) (hc0 : l0.length ≤ c0) (h : spec_DrawExprOf.f k l0 = some (r1, r2, r3, r4, r5, r6, r7, r8)) :
  Calls Try.prog 4 #[.slice A0 l0.length c0] w fun e w' => ∃ v4_ v5_ v6_ v7_ : Value, e = .returned (.tuple #[.agg #[.int .i64 r1, .int .i64 r2, .int .i64 r3, .int .i64 r4, v4_], .agg #[v5_, v6_, v7_]]) ∧ Kd.N k27 27 w' w.heap.size (fun k_ => (w.heap.size ≤ k_) ∧ nB k_ v5_ ∧ nB k_ v6_ ∧ nB k_ v7_) v4_ r5 ∧ Kd.R (Kd.int .i64) 3 w' w.heap.size (fun k_ => (w.heap.size ≤ k_) ∧ nB k_ v6_ ∧ nB k_ v7_) v5_ r6 ∧ Kd.R (Kd.int .i64) 3 w' w.heap.size (fun k_ => (w.heap.size ≤ k_) ∧ nB k_ v5_ ∧ nB k_ v7_) v6_ r7 ∧ Kd.R (Kd.int .i64) 3 w' w.heap.size (fun k_ => (w.heap.size ≤ k_) ∧ nB k_ v5_ ∧ nB k_ v6_) v7_ r8 ∧ Below w.heap.size w w' := by
 have hu27 := Try.underlying27
 have hu30 := Try.underlying30
 have HR0 := z0 hr0
 have HC0 := z0 hc0
 clear hr0 hc0
 have HB := z0 (Below.refl w.heap.size w)
 have H : ((spec_l12Open.f l0).bind fun bt313 => ((spec_l3Bent.f k bt313.1 bt313.2).bind fun bt316 => ((spec_l2MemBent.f k bt313.1 bt316.2.2.2.2.2).bind fun bt325 => (some (bt316.1, bt316.2.1, bt316.2.2.1, bt316.2.2.2.1, bt316.2.2.2.2.1, bt325.1, bt325.2.1, bt325.2.2.1))))) = some (r1, r2, r3, r4, r5, r6, r7, r8) := h
 clear h
 replace H := Option.bind_eq_some_iff.mp H
 obtain ⟨⟨t313, t314⟩, A20, H⟩ := H
 try dsimp only at H
 have A2 := z0 A20
 clear A20
 replace H := Option.bind_eq_some_iff.mp H
 obtain ⟨⟨t316, t317, t318, t319, t320, t323⟩, A30, H⟩ := H
 try dsimp only at H
 have A3 := z0 A30
 clear A30
 replace H := Option.bind_eq_some_iff.mp H
 obtain ⟨⟨t325, t328, t331, t334⟩, A40, H⟩ := H
 try dsimp only at H
 have A4 := z0 A40
 clear A40
 simp only [Option.some.injEq, Prod.mk.injEq] at H
 obtain ⟨rfl, rfl, rfl, rfl, rfl, rfl, rfl, rfl⟩ := H
 go_enter Try.func4, Try.ntmps4
 try go_wp2_with (first | ((with_reducible refine gate_dst (N := 2) rfl ?_); refine box_event ?hg (N := 2) ?hd (cs := #[.int .i64 0, .int .i64 0, .int .i64 0, .int .i64 0, .slice none 0 0]) (t := 27) ?hr ?_; (case hd => rfl); (case hg => rfl); (case hr => first | (go_simp; done) | (go_simp; rfl)); intro gb311 hg w5 hbox hb; have n_ := az (below_step (mB HB.out) hb) <| az (hbox) <| az ((by rw [hg]; exact (below_size (mB HB.out)) : w.heap.size ≤ gb311)) <| z0 ((by rw [hg]; exact (below_size (mB HB.out)) : w.heap.size ≤ gb311)); clear HB; obtain ⟨HB, BK311, GW311, GE311⟩ := n_; clear hb hbox hg) | ((with_reducible refine gate_dst (N := 3) rfl ?_); refine box_event ?hg (N := 3) ?hd (cs := #[.slice none 0 0, .slice none 0 0, .slice none 0 0]) (t := 30) ?hr ?_; (case hd => rfl); (case hg => rfl); (case hr => first | (go_simp; done) | (go_simp; rfl)); intro gb312 hg w6 hbox hb; have n_ := az (bB BK311.out hb) <| az (below_step (mB HB.out) hb) <| az (hbox) <| az ((by rw [hg]; exact (below_size (mB HB.out)) : w.heap.size ≤ gb312)) <| az ((by rw [hg]; exact (below_size (mB HB.out)) : w.heap.size ≤ gb312)) <| az ((nL hg BK311.out)) <| z0 ((nG hg BK311.out)); clear BK311 HB; obtain ⟨BK311, HB, BK312, GW312, GE312, NB311_312, NB312_311⟩ := n_; clear hb hbox hg) | ((with_reducible refine gate_callee (f := 15) rfl ?_); refine goesL_ (some 7) rfl rfl Try.func15 (by kernel_rfl) rfl #[.slice A0 l0.length c0] rfl argx ?_; (with_reducible refine (spec_l12Open.calls _ _ l0 t313 t314 w _ ?side1 ?side2 ?side3 A2.out).mono ?_); (case side1 => exact mB HB.out); (case side2 => exact HR0.out); (case side3 => exact HC0.out); rintro e w7 ⟨g315, rfl, hi, hb, hb2⟩; refine ⟨_, rfl, ?_⟩; have n_ := az (bB BK311.out hb2) <| az (bB BK312.out hb2) <| az (hb) <| az (hi) <| az (IsS66.ne_blk hi (bB BK311.out hb2) (by decide)) <| az (Ne.symm (IsS66.ne_blk hi (bB BK311.out hb2) (by decide))) <| az (IsS66.ne_blk hi (bB BK312.out hb2) (by decide)) <| z0 (Ne.symm (IsS66.ne_blk hi (bB BK312.out hb2) (by decide))); clear BK311 BK312 HB; obtain ⟨BK311, BK312, HB, HI315, NB315_311, NB311_315, NB315_312, NB312_315⟩ := n_; clear hb hb2 hi) | ((with_reducible refine gate_callee (f := 16) rfl ?_); refine goesL_ (some 9) rfl rfl Try.func16 (by kernel_rfl) rfl #[.pointer (some ⟨g315, 0, none⟩)] rfl argx ?_; (with_reducible refine (spec_l3Bent.calls k g315 t313 t314 t316 t317 t318 t319 t320 t323 w _ ?side1 ?side2 A3.out).mono ?_); (case side1 => exact mI66_1 HI315.out); (case side2 => exact mB66HI315 HB.out); rintro e w8 ⟨v321, rfl, ho0, hi, hb, hk⟩; refine ⟨_, rfl, ?_⟩; have n_ := az (kB hk BK311.out NB311_315.out) <| az (kB hk BK312.out NB312_315.out) <| az (Kd.N_lower (Kd.N_mono (ok' := fun k_ => (w.heap.size ≤ k_) ∧ k_ ≠ gb311 ∧ k_ ≠ gb312 ∧ k_ ≠ g315) ho0 (fun k_ hk_ => ⟨(Nat.le_trans (below_size (mB66HI315 HB.out)) hk_), (fB BK311.out hk_), (fB BK312.out hk_), (IsS66.fresh (mI66_1 HI315.out) k_ hk_)⟩)) (below_size (mB66HI315 HB.out))) <| az (hb) <| z0 (hi); clear BK311 BK312 HB HI315; obtain ⟨BK311, BK312, HO322, HB, HI315⟩ := n_; clear hb hk hi ho0) | ((with_reducible refine gate_dst (N := 5) rfl ?_); refine box_event ?hg (N := 5) ?hd (cs := #[.int .i64 0, .int .i64 0, .int .i64 0, .int .i64 0, .slice none 0 0]) (t := 27) ?hr ?_; (case hd => rfl); (case hg => rfl); (case hr => first | (go_simp; done) | (go_simp; rfl)); intro gb324 hg w9 hbox hb; have n_ := az (Kd.N_below (Kd.N_elderB (mN HO322.out) gb324 (Nat.le_of_eq hg.symm)) hb) <| az (bB BK311.out hb) <| az (bB BK312.out hb) <| az (IsS66.below (mI66_1 HI315.out) hb) <| az (below_step (mB66HI315 HB.out) hb) <| az (hbox) <| az ((by rw [hg]; exact (below_size (mB66HI315 HB.out)) : w.heap.size ≤ gb324)) <| az ((by rw [hg]; exact (below_size (mB66HI315 HB.out)) : w.heap.size ≤ gb324)) <| az ((nL hg BK311.out)) <| az ((nG hg BK311.out)) <| az ((nL hg BK312.out)) <| az ((nG hg BK312.out)) <| az ((by rw [hg]; exact Nat.ne_of_lt (IsS66.lt (show IsS66 w _ g315 t313 t323 from mI66_1 HI315.out)) : g315 ≠ gb324)) <| z0 ((by rw [hg]; exact Nat.ne_of_gt (IsS66.lt (show IsS66 w _ g315 t313 t323 from mI66_1 HI315.out)) : gb324 ≠ g315)); clear HO322 BK311 BK312 HI315 HB; obtain ⟨HO322, BK311, BK312, HI315, HB, BK324, GW324, GE324, NB311_324, NB324_311, NB312_324, NB324_312, NB315_324, NB324_315⟩ := n_; clear hb hbox hg; have hnb10 := NB324_311.out; have hnc10 := NB311_324.out; have hnb11 := NB324_312.out; have hnc11 := NB312_324.out; have hnb12 := NB324_315.out; have hnc12 := NB315_324.out; obtain ⟨hcz13_0, hcz13_1, hcz13_2, hcz13_3, hcz13_4, hfz13_0, hfz13_1, hfz13_2, hfz13_3, hfz13_4⟩ := cel5 BK324.out; obtain ⟨Ao14, co14, eo14⟩ := Kd.N_slice HO322.out; subst eo14))
 have n0_ : Aside0 (Kd.N k27 27 (((((w9.setCell ⟨gb324, 0, none⟩ (.int .i64 t316)).setCell ⟨gb324, 1, none⟩ (.int .i64 t317)).setCell ⟨gb324, 2, none⟩ (.int .i64 t318)).setCell ⟨gb324, 3, none⟩ (.int .i64 t319)).setCell ⟨gb324, 4, none⟩ (.slice Ao14 t320.length co14)) w.heap.size (fun k_ => (w.heap.size ≤ k_) ∧ k_ ≠ gb311 ∧ k_ ≠ gb312 ∧ k_ ≠ g315 ∧ k_ ≠ gb324) (.slice Ao14 t320.length co14) t320) := ⟨by (with_reducible repeat (first | apply Kd.N_alloc | apply Kd.N_drewN | apply Kd.N_drew)); exact Kd.N_mono (Kd.N_far (p := ⟨gb324, 4, none⟩) (Kd.N_far (p := ⟨gb324, 3, none⟩) (Kd.N_far (p := ⟨gb324, 2, none⟩) (Kd.N_far (p := ⟨gb324, 1, none⟩) (Kd.N_far (p := ⟨gb324, 0, none⟩) (Kd.N_mono HO322.out (fun k_ hk => (⟨hk, hk.2⟩ : _ ∧ k_ ≠ gb324))) (fun _ hk => hk.2) (.int .i64 t316)) (fun _ hk => hk.2) (.int .i64 t317)) (fun _ hk => hk.2) (.int .i64 t318)) (fun _ hk => hk.2) (.int .i64 t319)) (fun _ hk => hk.2) (.slice Ao14 t320.length co14)) (fun _ hk => ⟨hk.1.1.1, ⟨hk.1.1.2.1, ⟨hk.1.1.2.2.1, ⟨hk.1.1.2.2.2, hk.1.2⟩⟩⟩⟩)⟩
 have n1_ : Aside0 ((((((w9.setCell ⟨gb324, 0, none⟩ (.int .i64 t316)).setCell ⟨gb324, 1, none⟩ (.int .i64 t317)).setCell ⟨gb324, 2, none⟩ (.int .i64 t318)).setCell ⟨gb324, 3, none⟩ (.int .i64 t319)).setCell ⟨gb324, 4, none⟩ (.slice Ao14 t320.length co14)).heap[gb311]? = some (.cells #[.int .i64 0, .int .i64 0, .int .i64 0, .int .i64 0, .slice none 0 0] 27 (0, 0))) := ⟨mF BK311.out⟩
 have n2_ : Aside0 ((((((w9.setCell ⟨gb324, 0, none⟩ (.int .i64 t316)).setCell ⟨gb324, 1, none⟩ (.int .i64 t317)).setCell ⟨gb324, 2, none⟩ (.int .i64 t318)).setCell ⟨gb324, 3, none⟩ (.int .i64 t319)).setCell ⟨gb324, 4, none⟩ (.slice Ao14 t320.length co14)).heap[gb312]? = some (.cells #[.slice none 0 0, .slice none 0 0, .slice none 0 0] 30 (0, 0))) := ⟨mF BK312.out⟩
 have n3_ : Aside0 ((((((w9.setCell ⟨gb324, 0, none⟩ (.int .i64 t316)).setCell ⟨gb324, 1, none⟩ (.int .i64 t317)).setCell ⟨gb324, 2, none⟩ (.int .i64 t318)).setCell ⟨gb324, 3, none⟩ (.int .i64 t319)).setCell ⟨gb324, 4, none⟩ (.slice Ao14 t320.length co14)).heap[gb324]? = some (.cells #[.int .i64 t316, .int .i64 t317, .int .i64 t318, .int .i64 t319, .slice Ao14 t320.length co14] 27 (0, 0))) := ⟨pF BK324.out⟩
 have n4_ : Aside0 (IsS66 w (((((w9.setCell ⟨gb324, 0, none⟩ (.int .i64 t316)).setCell ⟨gb324, 1, none⟩ (.int .i64 t317)).setCell ⟨gb324, 2, none⟩ (.int .i64 t318)).setCell ⟨gb324, 3, none⟩ (.int .i64 t319)).setCell ⟨gb324, 4, none⟩ (.slice Ao14 t320.length co14)) g315 t313 t323) := ⟨mI66_1 HI315.out⟩
 have n5_ : Aside0 (Below w.heap.size w (((((w9.setCell ⟨gb324, 0, none⟩ (.int .i64 t316)).setCell ⟨gb324, 1, none⟩ (.int .i64 t317)).setCell ⟨gb324, 2, none⟩ (.int .i64 t318)).setCell ⟨gb324, 3, none⟩ (.int .i64 t319)).setCell ⟨gb324, 4, none⟩ (.slice Ao14 t320.length co14))) := ⟨mB66HI315 HB.out⟩
 (try clear HO322)
 (try clear BK311)
 (try clear BK312)
 (try clear BK324)
 (try clear HI315)
 (try clear HB)
 generalize (((((w9.setCell ⟨gb324, 0, none⟩ (.int .i64 t316)).setCell ⟨gb324, 1, none⟩ (.int .i64 t317)).setCell ⟨gb324, 2, none⟩ (.int .i64 t318)).setCell ⟨gb324, 3, none⟩ (.int .i64 t319)).setCell ⟨gb324, 4, none⟩ (.slice Ao14 t320.length co14)) = w15 at n0_ n1_ n2_ n3_ n4_ n5_ ⊢
 have HO322 := n0_
 have BK311 := n1_
 have BK312 := n2_
 have BK324 := n3_
 have HI315 := n4_
 have HB := n5_
 clear n0_ n1_ n2_ n3_ n4_ n5_
 have n_ := az (Kd.N_drew HO322.out) <| az (blk_drew BK311.out) <| az (blk_drew BK312.out) <| az (blk_drew BK324.out) <| az (IsS66.drew HI315.out) <| z0 (below_drew1 HB.out)
 clear HO322 BK311 BK312 BK324 HI315 HB
 obtain ⟨HO322, BK311, BK312, BK324, HI315, HB⟩ := n_
 refine start_ (n := 5) (S := fun w' => w'.cell? ⟨gb324, 0, none⟩ = some (.int .i64 t316) ∧ w'.cell? ⟨gb324, 1, none⟩ = some (.int .i64 t317) ∧ w'.cell? ⟨gb324, 2, none⟩ = some (.int .i64 t318) ∧ w'.cell? ⟨gb324, 3, none⟩ = some (.int .i64 t319) ∧ w'.cell? ⟨gb324, 4, none⟩ = some (.slice Ao14 t320.length co14)) (ds := []) #[false, false, false, false, false] (by kernel_rfl) rfl rfl ⟨(blk_cell BK324.out 0).trans rfl, (blk_cell BK324.out 1).trans rfl, (blk_cell BK324.out 2).trans rfl, (blk_cell BK324.out 3).trans rfl, (blk_cell BK324.out 4).trans rfl⟩ (fun hHeld => ?_)
 generalize w15.drew = w16 at HO322 BK311 BK312 BK324 HI315 HB hHeld ⊢
 refine pure_ (i := 1) (N := some 11) (v := ?_) (a' := ?_) #[false, true, false, false, false] rfl rfl (by kernel_rfl) (fun _ _ _ h => h) (Or.inl ⟨by rfl, ?_⟩) ?_ ?_
 rotate_left
 ·intro w'
  go_simp
  with_reducible rfl
 rotate_left
 ·simp only [Act.put, List.setIfInBounds_toArray, List.set_cons_zero, List.set_cons_succ, i64_w, i32_w]
  rfl
 refine take_ (i := 0) (N := some 10) (v := ?_) (a' := ?_) #[true, true, false, false, false] rfl rfl (by kernel_rfl) (fun _ _ _ h => h) (Or.inl ⟨by rfl, ?_⟩) hHeld ?_ ?_
 rotate_left
 ·rintro w' ⟨s0, s1, s2, s3, s4⟩
  go_simp
  with_reducible rfl
 rotate_left
 ·simp only [Act.put, List.setIfInBounds_toArray, List.set_cons_zero, List.set_cons_succ, i64_w, i32_w]
  rfl
 refine one_ (i := 2) (N := some 12) #[true, true, true, false, false] rfl rfl (by kernel_rfl) (by decide) (fun K hK => ?_)
 refine goes_ Try.func17 (by kernel_rfl) rfl #[.pointer (some ⟨g315, 0, none⟩)] (by rfl) rfl rfl argx ?_
 with_reducible refine (spec_l2MemBent.calls k g315 t313 t323 t325 t328 t331 t334 w _ ?side1 ?side2 A4.out).mono ?_
 (case side1 => exact mI66_1 HI315.out)
 (case side2 => exact mB66HI315 HB.out)
 rintro e w17 ⟨v326, v329, v332, rfl, ho0, ho1, ho2, hi, hb, hk⟩
 refine ⟨_, rfl, ?_⟩
 have n_ := az (kB hk BK311.out NB311_315.out) <| az (kB hk BK312.out NB312_315.out) <| And.intro (z0 (Kd.N_mono (Kd.N_told (Kd.N_told (Kd.N_told (Kd.N_oldK (Kd.N_mono (ok := fun k_ => (((w.heap.size ≤ k_)) ∧ (k_ ≠ gb311 ∧ (k_ ≠ gb312 ∧ (k_ ≠ g315 ∧ k_ ≠ gb324))))) (mN HO322.out) (fun k_ hk_ => (⟨hk_, hk_.2.2.2.1⟩ : _ ∧ k_ ≠ g315))) hk) (by first | exact Kd.R_base ho0 | exact Kd.R_base ho0)) (by first | exact Kd.R_base ho1 | exact Kd.R_base ho1)) (by first | exact Kd.R_base ho2 | exact Kd.R_base ho2)) (fun _ h_ => h_.1))) <| az (kB hk BK324.out NB324_315.out) <| And.intro (z0 (Kd.R_lower (Kd.R_newM (M := fun k_ => (w.heap.size ≤ k_)) ho0 (below_size (mB66HI315 HB.out)) (fun k_ h_ => h_)) (below_size (mB66HI315 HB.out)))) <| And.intro (z0 (Kd.R_lower (Kd.R_newM (M := fun k_ => (w.heap.size ≤ k_)) ho1 (below_size (mB66HI315 HB.out)) (fun k_ h_ => h_)) (below_size (mB66HI315 HB.out)))) <| And.intro (z0 (Kd.R_lower (Kd.R_newM (M := fun k_ => (w.heap.size ≤ k_)) ho2 (below_size (mB66HI315 HB.out)) (fun k_ h_ => h_)) (below_size (mB66HI315 HB.out)))) <| az (hb) <| z0 (hi)
 clear BK311 BK312 HO322 BK324 HB HI315
 obtain ⟨BK311, BK312, HO322, BK324, HO327, HO330, HO333, HB, HI315⟩ := n_
 (try clear hb)
 (try clear hb2)
 (try clear hk)
 (try clear hi)
 (try clear ho0)
 (try clear ho1)
 (try clear ho2)
 obtain ⟨Ao23, co23, eo23⟩ := Kd.R_slice HO327.out
 (first | subst eo23 | (injection eo23 with f1_ f2_ f3_; have f4_ := f1_.symm; have f5_ := f3_.symm; clear f1_ f2_ f3_; subst f4_; subst f5_))
 obtain ⟨Ao25, co25, eo25⟩ := Kd.R_slice HO330.out
 (first | subst eo25 | (injection eo25 with f1_ f2_ f3_; have f4_ := f1_.symm; have f5_ := f3_.symm; clear f1_ f2_ f3_; subst f4_; subst f5_))
 obtain ⟨Ao27, co27, eo27⟩ := Kd.R_slice HO333.out
 (first | subst eo27 | (injection eo27 with f1_ f2_ f3_; have f4_ := f1_.symm; have f5_ := f3_.symm; clear f1_ f2_ f3_; subst f4_; subst f5_))
 refine hK.out _ _ ⟨(blk_cell BK324.out 0).trans rfl, (blk_cell BK324.out 1).trans rfl, (blk_cell BK324.out 2).trans rfl, (blk_cell BK324.out 3).trans rfl, (blk_cell BK324.out 4).trans rfl⟩ (fun hHeld => ?_)
 clear hK K
 refine norm_ (a' := ?_) ?_ ?_
 rotate_left
 ·show Act.put _ (some 12) _ = _
  simp only [Act.put, List.setIfInBounds_toArray, List.set_cons_zero, List.set_cons_succ, i64_w, i32_w]
  rfl
 refine one_ (i := 3) (N := none) #[true, true, true, true, false] rfl rfl (by kernel_rfl) (by decide) (fun K hK => ?_)
 have hs18 : w17.cell? ⟨gb311, 0, none⟩ = some (.int .i64 0) := (blk_cell BK311.out 0).trans rfl
 have hfs18 := blk_frozen BK311.out 0
 have hns18_1 := NB312_311.out
 have hns18_2 := NB324_311.out
 have hms18_1 := NB311_312.out
 have hms18_2 := NB311_324.out
 have hs19 : w17.cell? ⟨gb311, 1, none⟩ = some (.int .i64 0) := (blk_cell BK311.out 1).trans rfl
 have hfs19 := blk_frozen BK311.out 1
 have hns19_1 := NB312_311.out
 have hns19_2 := NB324_311.out
 have hms19_1 := NB311_312.out
 have hms19_2 := NB311_324.out
 have hs20 : w17.cell? ⟨gb311, 2, none⟩ = some (.int .i64 0) := (blk_cell BK311.out 2).trans rfl
 have hfs20 := blk_frozen BK311.out 2
 have hns20_1 := NB312_311.out
 have hns20_2 := NB324_311.out
 have hms20_1 := NB311_312.out
 have hms20_2 := NB311_324.out
 have hs21 : w17.cell? ⟨gb311, 3, none⟩ = some (.int .i64 0) := (blk_cell BK311.out 3).trans rfl
 have hfs21 := blk_frozen BK311.out 3
 have hns21_1 := NB312_311.out
 have hns21_2 := NB324_311.out
 have hms21_1 := NB311_312.out
 have hms21_2 := NB311_324.out
 have hs22 : w17.cell? ⟨gb311, 4, none⟩ = some (.slice none 0 0) := (blk_cell BK311.out 4).trans rfl
 have hfs22 := blk_frozen BK311.out 4
 have hns22_1 := NB312_311.out
 have hns22_2 := NB324_311.out
 have hms22_1 := NB311_312.out
 have hms22_2 := NB311_324.out
 refine skip_ (w1 := ?_) (by rfl) rfl ?_ ?_
 rotate_left
 ·go_simp
  rfl
 refine hK.out _ _ ⟨((cell_far (p := ⟨gb311, _, none⟩) NB324_311.out _).trans (((cell_far (p := ⟨gb311, _, none⟩) NB324_311.out _).trans (((cell_far (p := ⟨gb311, _, none⟩) NB324_311.out _).trans (((cell_far (p := ⟨gb311, _, none⟩) NB324_311.out _).trans (((cell_far (p := ⟨gb311, _, none⟩) NB324_311.out _).trans (hHeld.1)))))))))), ((cell_far (p := ⟨gb311, _, none⟩) NB324_311.out _).trans (((cell_far (p := ⟨gb311, _, none⟩) NB324_311.out _).trans (((cell_far (p := ⟨gb311, _, none⟩) NB324_311.out _).trans (((cell_far (p := ⟨gb311, _, none⟩) NB324_311.out _).trans (((cell_far (p := ⟨gb311, _, none⟩) NB324_311.out _).trans (hHeld.2.1)))))))))), ((cell_far (p := ⟨gb311, _, none⟩) NB324_311.out _).trans (((cell_far (p := ⟨gb311, _, none⟩) NB324_311.out _).trans (((cell_far (p := ⟨gb311, _, none⟩) NB324_311.out _).trans (((cell_far (p := ⟨gb311, _, none⟩) NB324_311.out _).trans (((cell_far (p := ⟨gb311, _, none⟩) NB324_311.out _).trans (hHeld.2.2.1)))))))))), ((cell_far (p := ⟨gb311, _, none⟩) NB324_311.out _).trans (((cell_far (p := ⟨gb311, _, none⟩) NB324_311.out _).trans (((cell_far (p := ⟨gb311, _, none⟩) NB324_311.out _).trans (((cell_far (p := ⟨gb311, _, none⟩) NB324_311.out _).trans (((cell_far (p := ⟨gb311, _, none⟩) NB324_311.out _).trans (hHeld.2.2.2.1)))))))))), ((cell_far (p := ⟨gb311, _, none⟩) NB324_311.out _).trans (((cell_far (p := ⟨gb311, _, none⟩) NB324_311.out _).trans (((cell_far (p := ⟨gb311, _, none⟩) NB324_311.out _).trans (((cell_far (p := ⟨gb311, _, none⟩) NB324_311.out _).trans (((cell_far (p := ⟨gb311, _, none⟩) NB324_311.out _).trans (hHeld.2.2.2.2))))))))))⟩ (fun hHeld => ?_)
 clear hK K
 refine one_ (i := 4) (N := none) #[true, true, true, true, true] rfl rfl (by kernel_rfl) (by decide) (fun K hK => ?_)
 have hs24 : w17.cell? ⟨gb312, 0, none⟩ = some (.slice none 0 0) := (blk_cell BK312.out 0).trans rfl
 have hfs24 := blk_frozen BK312.out 0
 have hns24_0 := NB311_312.out
 have hns24_2 := NB324_312.out
 have hms24_0 := NB312_311.out
 have hms24_2 := NB312_324.out
 have hs26 : w17.cell? ⟨gb312, 1, none⟩ = some (.slice none 0 0) := (blk_cell BK312.out 1).trans rfl
 have hfs26 := blk_frozen BK312.out 1
 have hns26_0 := NB311_312.out
 have hns26_2 := NB324_312.out
 have hms26_0 := NB312_311.out
 have hms26_2 := NB312_324.out
 have hs28 : w17.cell? ⟨gb312, 2, none⟩ = some (.slice none 0 0) := (blk_cell BK312.out 2).trans rfl
 have hfs28 := blk_frozen BK312.out 2
 have hns28_0 := NB311_312.out
 have hns28_2 := NB324_312.out
 have hms28_0 := NB312_311.out
 have hms28_2 := NB312_324.out
 refine skip_ (w1 := ?_) (by rfl) rfl ?_ ?_
 rotate_left
 ·go_simp
  rfl
 refine hK.out _ _ ⟨((cell_far (p := ⟨gb312, _, none⟩) NB324_312.out _).trans (((cell_far (p := ⟨gb312, _, none⟩) NB324_312.out _).trans (((cell_far (p := ⟨gb312, _, none⟩) NB324_312.out _).trans (hHeld.1)))))), ((cell_far (p := ⟨gb312, _, none⟩) NB324_312.out _).trans (((cell_far (p := ⟨gb312, _, none⟩) NB324_312.out _).trans (((cell_far (p := ⟨gb312, _, none⟩) NB324_312.out _).trans (hHeld.2.1)))))), ((cell_far (p := ⟨gb312, _, none⟩) NB324_312.out _).trans (((cell_far (p := ⟨gb312, _, none⟩) NB324_312.out _).trans (((cell_far (p := ⟨gb312, _, none⟩) NB324_312.out _).trans (hHeld.2.2.1)))))), ((cell_far (p := ⟨gb312, _, none⟩) NB324_312.out _).trans (((cell_far (p := ⟨gb312, _, none⟩) NB324_312.out _).trans (((cell_far (p := ⟨gb312, _, none⟩) NB324_312.out _).trans (hHeld.2.2.2.1)))))), ((cell_far (p := ⟨gb312, _, none⟩) NB324_312.out _).trans (((cell_far (p := ⟨gb312, _, none⟩) NB324_312.out _).trans (((cell_far (p := ⟨gb312, _, none⟩) NB324_312.out _).trans (hHeld.2.2.2.2))))))⟩ (fun hHeld => ?_)
 clear hK K
 refine done_ (by kernel_rfl) ?_
 try go_wp2
 refine bodyPost_ret (results_cc rfl _ _ gb311 gb312 27 30 #[.int .i64 t316, .int .i64 t317, .int .i64 t318, .int .i64 t319, .slice Ao14 t320.length co14] #[.slice Ao23 t325.length co23, .slice Ao25 t328.length co25, .slice Ao27 t331.length co27] (0, 0) (0, 0) _ _ rfl (by (with_reducible repeat (first | refine blk_drewN ?_ _ | refine blk_drew ?_ | refine blk_alloc ?_ _)); refine blk_far ?_ NB311_312.out _; (with_reducible repeat (first | refine blk_drewN ?_ _ | refine blk_drew ?_ | refine blk_alloc ?_ _)); refine blk_far ?_ NB311_312.out _; (with_reducible repeat (first | refine blk_drewN ?_ _ | refine blk_drew ?_ | refine blk_alloc ?_ _)); refine blk_far ?_ NB311_312.out _; (with_reducible repeat (first | refine blk_drewN ?_ _ | refine blk_drew ?_ | refine blk_alloc ?_ _)); refine blk_put (cs := #[.int .i64 t316, .int .i64 t317, .int .i64 t318, .int .i64 t319, .slice none 0 0]) ?_ 4 _ rfl; (with_reducible repeat (first | refine blk_drewN ?_ _ | refine blk_drew ?_ | refine blk_alloc ?_ _)); refine blk_put (cs := #[.int .i64 t316, .int .i64 t317, .int .i64 t318, .int .i64 0, .slice none 0 0]) ?_ 3 _ rfl; (with_reducible repeat (first | refine blk_drewN ?_ _ | refine blk_drew ?_ | refine blk_alloc ?_ _)); refine blk_put (cs := #[.int .i64 t316, .int .i64 t317, .int .i64 0, .int .i64 0, .slice none 0 0]) ?_ 2 _ rfl; (with_reducible repeat (first | refine blk_drewN ?_ _ | refine blk_drew ?_ | refine blk_alloc ?_ _)); refine blk_put (cs := #[.int .i64 t316, .int .i64 0, .int .i64 0, .int .i64 0, .slice none 0 0]) ?_ 1 _ rfl; (with_reducible repeat (first | refine blk_drewN ?_ _ | refine blk_drew ?_ | refine blk_alloc ?_ _)); refine blk_put (cs := #[.int .i64 0, .int .i64 0, .int .i64 0, .int .i64 0, .slice none 0 0]) ?_ 0 _ rfl; (with_reducible repeat (first | refine blk_drewN ?_ _ | refine blk_drew ?_ | refine blk_alloc ?_ _)); exact BK311.out) Try.underlying27 rfl (by kernel_rfl) rfl (by (with_reducible repeat (first | refine blk_drewN ?_ _ | refine blk_drew ?_ | refine blk_alloc ?_ _)); refine blk_put (cs := #[.slice Ao23 t325.length co23, .slice Ao25 t328.length co25, .slice none 0 0]) ?_ 2 _ rfl; (with_reducible repeat (first | refine blk_drewN ?_ _ | refine blk_drew ?_ | refine blk_alloc ?_ _)); refine blk_put (cs := #[.slice Ao23 t325.length co23, .slice none 0 0, .slice none 0 0]) ?_ 1 _ rfl; (with_reducible repeat (first | refine blk_drewN ?_ _ | refine blk_drew ?_ | refine blk_alloc ?_ _)); refine blk_put (cs := #[.slice none 0 0, .slice none 0 0, .slice none 0 0]) ?_ 0 _ rfl; (with_reducible repeat (first | refine blk_drewN ?_ _ | refine blk_drew ?_ | refine blk_alloc ?_ _)); refine blk_far ?_ NB312_311.out _; (with_reducible repeat (first | refine blk_drewN ?_ _ | refine blk_drew ?_ | refine blk_alloc ?_ _)); refine blk_far ?_ NB312_311.out _; (with_reducible repeat (first | refine blk_drewN ?_ _ | refine blk_drew ?_ | refine blk_alloc ?_ _)); refine blk_far ?_ NB312_311.out _; (with_reducible repeat (first | refine blk_drewN ?_ _ | refine blk_drew ?_ | refine blk_alloc ?_ _)); refine blk_far ?_ NB312_311.out _; (with_reducible repeat (first | refine blk_drewN ?_ _ | refine blk_drew ?_ | refine blk_alloc ?_ _)); refine blk_far ?_ NB312_311.out _; (with_reducible repeat (first | refine blk_drewN ?_ _ | refine blk_drew ?_ | refine blk_alloc ?_ _)); exact BK312.out) Try.underlying30 rfl (by kernel_rfl)) rfl ?_
 exact ⟨_, _, _, _, rfx, by (with_reducible repeat (first | apply Kd.N_alloc | apply Kd.N_drewN | apply Kd.N_drew)); exact Kd.N_mono (Kd.N_far (p := ⟨gb312, 2, none⟩) (Kd.N_far (p := ⟨gb312, 1, none⟩) (Kd.N_far (p := ⟨gb312, 0, none⟩) (Kd.N_far (p := ⟨gb311, 4, none⟩) (Kd.N_far (p := ⟨gb311, 3, none⟩) (Kd.N_far (p := ⟨gb311, 2, none⟩) (Kd.N_far (p := ⟨gb311, 1, none⟩) (Kd.N_far (p := ⟨gb311, 0, none⟩) (Kd.N_mono (Kd.N_mono HO322.out (fun k_ hk => (⟨hk, hk.1.1.1.2.1⟩ : _ ∧ k_ ≠ gb311))) (fun k_ hk => (⟨hk, hk.1.1.1.1.2.2.1⟩ : _ ∧ k_ ≠ gb312))) (fun _ hk => hk.1.2) (.int .i64 t316)) (fun _ hk => hk.1.2) (.int .i64 t317)) (fun _ hk => hk.1.2) (.int .i64 t318)) (fun _ hk => hk.1.2) (.int .i64 t319)) (fun _ hk => hk.1.2) (.slice Ao14 t320.length co14)) (fun _ hk => hk.2) (.slice Ao23 t325.length co23)) (fun _ hk => hk.2) (.slice Ao25 t328.length co25)) (fun _ hk => hk.2) (.slice Ao27 t331.length co27)) (fun _ hk => ⟨hk.1.1.1.1.1.1, ⟨hk.1.1.1.1.2, ⟨hk.1.1.1.2, hk.1.1.2⟩⟩⟩), by (with_reducible repeat (first | apply Kd.R_alloc | apply Kd.R_drewN | apply Kd.R_drew)); exact Kd.R_mono (Kd.R_far (p := ⟨gb312, 2, none⟩) (Kd.R_far (p := ⟨gb312, 1, none⟩) (Kd.R_far (p := ⟨gb312, 0, none⟩) (Kd.R_far (p := ⟨gb311, 4, none⟩) (Kd.R_far (p := ⟨gb311, 3, none⟩) (Kd.R_far (p := ⟨gb311, 2, none⟩) (Kd.R_far (p := ⟨gb311, 1, none⟩) (Kd.R_far (p := ⟨gb311, 0, none⟩) (Kd.R_types (Kd.R_types HO327.out BK311.out (by decide)) BK312.out (by decide)) (fun _ hk => hk.1.2) (.int .i64 t316)) (fun _ hk => hk.1.2) (.int .i64 t317)) (fun _ hk => hk.1.2) (.int .i64 t318)) (fun _ hk => hk.1.2) (.int .i64 t319)) (fun _ hk => hk.1.2) (.slice Ao14 t320.length co14)) (fun _ hk => hk.2) (.slice Ao23 t325.length co23)) (fun _ hk => hk.2) (.slice Ao25 t328.length co25)) (fun _ hk => hk.2) (.slice Ao27 t331.length co27)) (fun _ hk => ⟨hk.1.1.1, ⟨hk.1.1.2.1, hk.1.1.2.2⟩⟩), by (with_reducible repeat (first | apply Kd.R_alloc | apply Kd.R_drewN | apply Kd.R_drew)); exact Kd.R_mono (Kd.R_far (p := ⟨gb312, 2, none⟩) (Kd.R_far (p := ⟨gb312, 1, none⟩) (Kd.R_far (p := ⟨gb312, 0, none⟩) (Kd.R_far (p := ⟨gb311, 4, none⟩) (Kd.R_far (p := ⟨gb311, 3, none⟩) (Kd.R_far (p := ⟨gb311, 2, none⟩) (Kd.R_far (p := ⟨gb311, 1, none⟩) (Kd.R_far (p := ⟨gb311, 0, none⟩) (Kd.R_types (Kd.R_types HO330.out BK311.out (by decide)) BK312.out (by decide)) (fun _ hk => hk.1.2) (.int .i64 t316)) (fun _ hk => hk.1.2) (.int .i64 t317)) (fun _ hk => hk.1.2) (.int .i64 t318)) (fun _ hk => hk.1.2) (.int .i64 t319)) (fun _ hk => hk.1.2) (.slice Ao14 t320.length co14)) (fun _ hk => hk.2) (.slice Ao23 t325.length co23)) (fun _ hk => hk.2) (.slice Ao25 t328.length co25)) (fun _ hk => hk.2) (.slice Ao27 t331.length co27)) (fun _ hk => ⟨hk.1.1.1, ⟨hk.1.1.2.1, hk.1.1.2.2⟩⟩), by (with_reducible repeat (first | apply Kd.R_alloc | apply Kd.R_drewN | apply Kd.R_drew)); exact Kd.R_mono (Kd.R_far (p := ⟨gb312, 2, none⟩) (Kd.R_far (p := ⟨gb312, 1, none⟩) (Kd.R_far (p := ⟨gb312, 0, none⟩) (Kd.R_far (p := ⟨gb311, 4, none⟩) (Kd.R_far (p := ⟨gb311, 3, none⟩) (Kd.R_far (p := ⟨gb311, 2, none⟩) (Kd.R_far (p := ⟨gb311, 1, none⟩) (Kd.R_far (p := ⟨gb311, 0, none⟩) (Kd.R_types (Kd.R_types HO333.out BK311.out (by decide)) BK312.out (by decide)) (fun _ hk => hk.1.2) (.int .i64 t316)) (fun _ hk => hk.1.2) (.int .i64 t317)) (fun _ hk => hk.1.2) (.int .i64 t318)) (fun _ hk => hk.1.2) (.int .i64 t319)) (fun _ hk => hk.1.2) (.slice Ao14 t320.length co14)) (fun _ hk => hk.2) (.slice Ao23 t325.length co23)) (fun _ hk => hk.2) (.slice Ao25 t328.length co25)) (fun _ hk => hk.2) (.slice Ao27 t331.length co27)) (fun _ hk => ⟨hk.1.1.1, ⟨hk.1.1.2.1, hk.1.1.2.2⟩⟩), mB66HI315 HB.out⟩

/-! ### impl_NumCut: function 110 -/
def impl_NumCut.f (a0 : Int) : Option (Int) := some (mn (mx a0 (-1000000)) 1000000)
set_option maxHeartbeats 8000000 in
set_option maxRecDepth 100000 in
theorem impl_NumCut.calls (a0 : Int) (r : Int) (w : World) (h : impl_NumCut.f a0 = some r) :
  Calls Try.prog 110 #[.int .i64 a0] w fun e w' => e = .returned (.int .i64 r) ∧ Below w.heap.size w w' := by
 have HB := z0 (Below.refl w.heap.size w)
 have H : (some (mn (mx a0 (-1000000)) 1000000)) = some r := h
 clear h
 obtain ⟨ji2, hji2⟩ : ∃ j_ : Int, (mx a0 (-1000000)) = j_ := ⟨_, rfl⟩
 replace H : (some (mn (ji2) 1000000)) = some r := by first | (rw [hji2] at H; exact H) | (simp only [hji2] at H ⊢; exact H)
 have hji2_ : (if a0 < (-1000000) then (-1000000) else a0) = ji2 := hji2
 obtain ⟨ji3, hji3⟩ : ∃ j_ : Int, (mn (ji2) 1000000) = j_ := ⟨_, rfl⟩
 replace H : (some ji3) = some r := by first | (rw [hji3] at H; exact H) | (simp only [hji3] at H ⊢; exact H)
 have hji3_ : (if 1000000 < (ji2) then 1000000 else (ji2)) = ji3 := hji3
 obtain rfl := Option.some.inj H
 go_enter Try.func110, Try.ntmps110
 go_wp2
 go_ret
 exact ⟨by first | rfl | (simp [errW_none, errW_some] <;> rfl) | (simp only [← hji2, ← hji3]; first | rfl | (simp [errW_none, errW_some] <;> rfl)) | (simp [*, errW_none, errW_some] <;> rfl), mB HB.out⟩

/-! ### impl_maker_of: function 109 -/
def impl_maker_of.f (a0 : Int) (a1 : Int) (a2 : Int) : Option (Int) := (impl_NumCut.f a1).bind fun t492 => ((impl_NumCut.f a2).bind fun t493 => (if a0 = 0 then ((impl_NumCut.f (wrap64 (t492 + t493))).bind fun t494 => (some t494)) else (if a0 = 1 then ((impl_NumCut.f (wrap64 (t492 - t493))).bind fun t495 => (some t495)) else ((impl_NumCut.f (wrap64 (t492 * t493))).bind fun t496 => (some t496)))))
set_option maxHeartbeats 8000000 in
set_option maxRecDepth 100000 in
theorem impl_maker_of.calls (a0 : Int) (a1 : Int) (a2 : Int) (r : Int) (w : World) (h : impl_maker_of.f a0 a1 a2 = some r) :
  Calls Try.prog 109 #[.int .i64 a0, .int .i64 a1, .int .i64 a2] w fun e w' => e = .returned (.int .i64 r) ∧ Below w.heap.size w w' := by
 have HB := z0 (Below.refl w.heap.size w)
 have H : ((impl_NumCut.f a1).bind fun t492 => ((impl_NumCut.f a2).bind fun t493 => (if a0 = 0 then ((impl_NumCut.f (wrap64 (t492 + t493))).bind fun t494 => (some t494)) else (if a0 = 1 then ((impl_NumCut.f (wrap64 (t492 - t493))).bind fun t495 => (some t495)) else ((impl_NumCut.f (wrap64 (t492 * t493))).bind fun t496 => (some t496)))))) = some r := h
 clear h
 replace H := Option.bind_eq_some_iff.mp H
 obtain ⟨t492, A40, H⟩ := H
 try dsimp only at H
 have A4 := z0 A40
 clear A40
 replace H := Option.bind_eq_some_iff.mp H
 obtain ⟨t493, A50, H⟩ := H
 try dsimp only at H
 have A5 := z0 A50
 clear A50
 have HF6 := z0 H
 clear H
 go_enter Try.func109, Try.ntmps109
 go_upto_if 12 with (first | ((with_reducible refine gate_callee (f := 110) rfl ?_); refine goesL_ (some 8) rfl rfl Try.func110 (by kernel_rfl) rfl #[.int .i64 a1] rfl argx ?_; (with_reducible refine (impl_NumCut.calls a1 t492 _ A4.out).mono ?_); rintro e w7 ⟨rfl, hb⟩; refine ⟨_, rfl, ?_⟩; have n0_ := z0 (below_step (mB HB.out) hb); clear HB; have HB := n0_; clear n0_; (try clear hb); (try clear hb2); (try clear hk); (try clear hi)) | ((with_reducible refine gate_callee (f := 110) rfl ?_); refine goesL_ (some 10) rfl rfl Try.func110 (by kernel_rfl) rfl #[.int .i64 a2] rfl argx ?_; (with_reducible refine (impl_NumCut.calls a2 t493 _ A5.out).mono ?_); rintro e w8 ⟨rfl, hb⟩; refine ⟨_, rfl, ?_⟩; have n0_ := z0 (below_step (mB HB.out) hb); clear HB; have HB := n0_; clear n0_; (try clear hb); (try clear hb2); (try clear hk); (try clear hi)))
 (try simp only [Act.put, List.setIfInBounds_toArray, List.set_cons_zero, List.set_cons_succ])
 have H := HF6.out
 clear HF6
 skip
 by_cases c9 : a0 = 0
 ·rw [if_pos c9] at H
  have c9b0 : (a0 == 0) = true := beq_iff_eq.mpr c9
  have c9b1 : (a0 != 0) = false := bne_eq_false_iff_eq.mpr c9
  clear c9
  (first | rw [c9b0] | (simp only [i64_w, i32_w]; rw [c9b0]) | skip)
  replace H := Option.bind_eq_some_iff.mp H
  obtain ⟨t494, A100, H⟩ := H
  try dsimp only at H
  have A10 := z0 A100
  clear A100
  obtain rfl := Option.some.inj H
  go_wp2_with (first | ((with_reducible refine gate_callee (f := 110) rfl ?_); refine goesL_ (some 17) rfl rfl Try.func110 (by kernel_rfl) rfl #[.int .i64 (wrap64 (t492 + t493))] rfl argx ?_; (with_reducible refine (impl_NumCut.calls (wrap64 (t492 + t493)) t494 _ A10.out).mono ?_); rintro e w11 ⟨rfl, hb⟩; refine ⟨_, rfl, ?_⟩; have n0_ := z0 (below_step (mB HB.out) hb); clear HB; have HB := n0_; clear n0_; (try clear hb); (try clear hb2); (try clear hk); (try clear hi)))
  go_ret
  exact ⟨rfx, mB HB.out⟩
 ·rw [if_neg c9] at H
  have c9b0 : (a0 == 0) = false := beq_eq_false_iff_ne.mpr c9
  have c9b1 : (a0 != 0) = true := bne_iff_ne.mpr c9
  (first | rw [c9b0] | (simp only [i64_w, i32_w]; rw [c9b0]) | skip)
  by_cases c12 : a0 = 1
  ·rw [if_pos c12] at H
   have c12b0 : (a0 == 1) = true := beq_iff_eq.mpr c12
   have c12b1 : (a0 != 1) = false := bne_eq_false_iff_eq.mpr c12
   clear c12
   replace H := Option.bind_eq_some_iff.mp H
   obtain ⟨t495, A130, H⟩ := H
   try dsimp only at H
   have A13 := z0 A130
   clear A130
   obtain rfl := Option.some.inj H
   go_wp2_with (first | ((with_reducible refine gate_callee (f := 110) rfl ?_); refine goesL_ (some 23) rfl rfl Try.func110 (by kernel_rfl) rfl #[.int .i64 (wrap64 (t492 - t493))] rfl argx ?_; (with_reducible refine (impl_NumCut.calls (wrap64 (t492 - t493)) t495 _ A13.out).mono ?_); rintro e w14 ⟨rfl, hb⟩; refine ⟨_, rfl, ?_⟩; have n0_ := z0 (below_step (mB HB.out) hb); clear HB; have HB := n0_; clear n0_; (try clear hb); (try clear hb2); (try clear hk); (try clear hi)))
   go_ret
   exact ⟨rfx, mB HB.out⟩
  ·rw [if_neg c12] at H
   have c12b0 : (a0 == 1) = false := beq_eq_false_iff_ne.mpr c12
   have c12b1 : (a0 != 1) = true := bne_iff_ne.mpr c12
   replace H := Option.bind_eq_some_iff.mp H
   obtain ⟨t496, A150, H⟩ := H
   try dsimp only at H
   have A15 := z0 A150
   clear A150
   obtain rfl := Option.some.inj H
   go_wp2_with (first | ((with_reducible refine gate_callee (f := 110) rfl ?_); refine goesL_ (some 27) rfl rfl Try.func110 (by kernel_rfl) rfl #[.int .i64 (wrap64 (t492 * t493))] rfl argx ?_; (with_reducible refine (impl_NumCut.calls (wrap64 (t492 * t493)) t496 _ A15.out).mono ?_); rintro e w16 ⟨rfl, hb⟩; refine ⟨_, rfl, ?_⟩; have n0_ := z0 (below_step (mB HB.out) hb); clear HB; have HB := n0_; clear n0_; (try clear hb); (try clear hb2); (try clear hk); (try clear hi)))
   go_ret
   exact ⟨rfx, mB HB.out⟩

/-! ### impl_NumAdd: function 104 -/
def impl_NumAdd.f (a0 : Int) (a1 : Int) : Option (Int) := (impl_maker_of.f 0 a0 a1).bind fun t497 => (some t497)
set_option maxHeartbeats 8000000 in
set_option maxRecDepth 100000 in
theorem impl_NumAdd.calls (a0 : Int) (a1 : Int) (r : Int) (w : World) (h : impl_NumAdd.f a0 a1 = some r) :
  Calls Try.prog 104 #[.int .i64 a0, .int .i64 a1] w fun e w' => e = .returned (.int .i64 r) ∧ Below w.heap.size w w' := by
 have HB := z0 (Below.refl w.heap.size w)
 have H : ((impl_maker_of.f 0 a0 a1).bind fun t497 => (some t497)) = some r := h
 clear h
 replace H := Option.bind_eq_some_iff.mp H
 obtain ⟨t497, A30, H⟩ := H
 try dsimp only at H
 have A3 := z0 A30
 clear A30
 obtain rfl := Option.some.inj H
 go_enter Try.func104, Try.ntmps104
 go_wp2_with (first | ((with_reducible refine gate_callee (f := 109) rfl ?_); refine goesL_ (some 7) rfl rfl Try.func109 (by kernel_rfl) rfl #[.int .i64 0, .int .i64 a0, .int .i64 a1] rfl argx ?_; (with_reducible refine (impl_maker_of.calls 0 a0 a1 t497 _ A3.out).mono ?_); rintro e w4 ⟨rfl, hb⟩; refine ⟨_, rfl, ?_⟩; have n0_ := z0 (below_step (mB HB.out) hb); clear HB; have HB := n0_; clear n0_; (try clear hb); (try clear hb2); (try clear hk); (try clear hi)))
 go_ret
 exact ⟨rfx, mB HB.out⟩

/-! ### impl_NumSub: function 105 -/
def impl_NumSub.f (a0 : Int) (a1 : Int) : Option (Int) := (impl_maker_of.f 1 a0 a1).bind fun t498 => (some t498)
set_option maxHeartbeats 8000000 in
set_option maxRecDepth 100000 in
theorem impl_NumSub.calls (a0 : Int) (a1 : Int) (r : Int) (w : World) (h : impl_NumSub.f a0 a1 = some r) :
  Calls Try.prog 105 #[.int .i64 a0, .int .i64 a1] w fun e w' => e = .returned (.int .i64 r) ∧ Below w.heap.size w w' := by
 have HB := z0 (Below.refl w.heap.size w)
 have H : ((impl_maker_of.f 1 a0 a1).bind fun t498 => (some t498)) = some r := h
 clear h
 replace H := Option.bind_eq_some_iff.mp H
 obtain ⟨t498, A30, H⟩ := H
 try dsimp only at H
 have A3 := z0 A30
 clear A30
 obtain rfl := Option.some.inj H
 go_enter Try.func105, Try.ntmps105
 go_wp2_with (first | ((with_reducible refine gate_callee (f := 109) rfl ?_); refine goesL_ (some 7) rfl rfl Try.func109 (by kernel_rfl) rfl #[.int .i64 1, .int .i64 a0, .int .i64 a1] rfl argx ?_; (with_reducible refine (impl_maker_of.calls 1 a0 a1 t498 _ A3.out).mono ?_); rintro e w4 ⟨rfl, hb⟩; refine ⟨_, rfl, ?_⟩; have n0_ := z0 (below_step (mB HB.out) hb); clear HB; have HB := n0_; clear n0_; (try clear hb); (try clear hb2); (try clear hk); (try clear hi)))
 go_ret
 exact ⟨rfx, mB HB.out⟩

/-! ### impl_NumMul: function 106 -/
def impl_NumMul.f (a0 : Int) (a1 : Int) : Option (Int) := (impl_maker_of.f 2 a0 a1).bind fun t499 => (some t499)
set_option maxHeartbeats 8000000 in
set_option maxRecDepth 100000 in
theorem impl_NumMul.calls (a0 : Int) (a1 : Int) (r : Int) (w : World) (h : impl_NumMul.f a0 a1 = some r) :
  Calls Try.prog 106 #[.int .i64 a0, .int .i64 a1] w fun e w' => e = .returned (.int .i64 r) ∧ Below w.heap.size w w' := by
 have HB := z0 (Below.refl w.heap.size w)
 have H : ((impl_maker_of.f 2 a0 a1).bind fun t499 => (some t499)) = some r := h
 clear h
 replace H := Option.bind_eq_some_iff.mp H
 obtain ⟨t499, A30, H⟩ := H
 try dsimp only at H
 have A3 := z0 A30
 clear A30
 obtain rfl := Option.some.inj H
 go_enter Try.func106, Try.ntmps106
 go_wp2_with (first | ((with_reducible refine gate_callee (f := 109) rfl ?_); refine goesL_ (some 7) rfl rfl Try.func109 (by kernel_rfl) rfl #[.int .i64 2, .int .i64 a0, .int .i64 a1] rfl argx ?_; (with_reducible refine (impl_maker_of.calls 2 a0 a1 t499 _ A3.out).mono ?_); rintro e w4 ⟨rfl, hb⟩; refine ⟨_, rfl, ?_⟩; have n0_ := z0 (below_step (mB HB.out) hb); clear HB; have HB := n0_; clear n0_; (try clear hb); (try clear hb2); (try clear hk); (try clear hi)))
 go_ret
 exact ⟨rfx, mB HB.out⟩

/-! ### impl_NumIs: function 107 -/
def impl_NumIs.f (a0 : Bool) : Option (Int) := if a0 = true then (some 1) else (some 0)
set_option maxHeartbeats 8000000 in
set_option maxRecDepth 100000 in
theorem impl_NumIs.calls (a0 : Bool) (r : Int) (w : World) (h : impl_NumIs.f a0 = some r) :
  Calls Try.prog 107 #[.bool a0] w fun e w' => e = .returned (.int .i64 r) ∧ Drawn0 w w' := by
 have H : (if a0 = true then (some 1) else (some 0)) = some r := h
 clear h
 by_cases c2 : a0 = true
 ·subst c2
  have H1 : (some 1) = some r := by rw [if_pos rfl] at H; exact H
  clear H
  have H := H1
  clear H1
  obtain rfl := Option.some.inj H
  go_enter Try.func107, Try.ntmps107
  go_wp2
  go_ret
  exact ⟨by first | rfl | (simp; done) | (simp [*]; done), by repeat (first | exact Drawn0.refl _ | apply Drawn0.step)⟩
 ·replace c2 := Bool.eq_false_iff.mpr c2
  subst c2
  have H1 : (some 0) = some r := by rw [if_neg (show ¬ (false = true) by decide)] at H; exact H
  clear H
  have H := H1
  clear H1
  obtain rfl := Option.some.inj H
  go_enter Try.func107, Try.ntmps107
  go_wp2
  go_ret
  exact ⟨by first | rfl | (simp; done) | (simp [*]; done), by repeat (first | exact Drawn0.refl _ | apply Drawn0.step)⟩

/-! ### impl_NumOn: function 108 -/
def impl_NumOn.f (a0 : Int) : Option (Bool) := some (a0 != 0)
set_option maxHeartbeats 8000000 in
set_option maxRecDepth 100000 in
theorem impl_NumOn.calls (a0 : Int) (r : Bool) (w : World) (h : impl_NumOn.f a0 = some r) :
  Calls Try.prog 108 #[.int .i64 a0] w fun e w' => e = .returned (.bool r) ∧ Drawn0 w w' := by
 have H : (some (a0 != 0)) = some r := h
 clear h
 obtain rfl := Option.some.inj H
 go_enter Try.func108, Try.ntmps108
 go_wp2
 go_ret
 exact ⟨by first | rfl | (simp; done) | (simp [*]; done), by repeat (first | exact Drawn0.refl _ | apply Drawn0.step)⟩

end Go.Proofs.Ytacbbpbopmdpeaa.B
