/- The law FnChartBent, walked by hand. -/
import Derived.Test.YtfmipdhkiahjoaaDoorJnA
namespace Go.Proofs.YtfmipdhkiahjoaaDoor.B
open Go Go.RowKit Go.Shelf Go.Proofs.YtfmipdhkiahjoaaDoorW.PrintWords Go.Proofs.YtfmipdhkiahjoaaDoorW.PrintLast Go.Proofs.YtfmipdhkiahjoaaDoorW.PrintMore
set_option linter.unusedVariables false
theorem box_ty {W : World} {b T U : Nat} {cs ds : Array Value} (h : W.heap[b]? = some (.cells cs T (0, 0))) (k : Box W b U ds) (hne : T ≠ U) : False := by
 rw [show W.heap[b]? = _ from k] at h
 injection h with h
 injection h with _ h
 exact hne h.symm
/-- The own block of a list that is made, but of an empty one at place 3. -/
def blk3 (l : List ITr) (j : Nat) (v : Value) : Option Nat := if j = 3 ∧ l.isEmpty = true then none else v.ownBlock
theorem blk3_nil {l : List ITr} {v : Value} (h : l = []) : blk3 l 3 v = none := by subst h; rfl
theorem blk3_ne {l : List ITr} {v : Value} (h : l ≠ []) : blk3 l 3 v = v.ownBlock := by unfold blk3; rw [if_neg]; simp [h]
theorem blk3_other {l : List ITr} {j : Nat} {v : Value} (h : j ≠ 3) : blk3 l j v = v.ownBlock := by unfold blk3; rw [if_neg]; simp [h]
theorem chE_bad {x : Chv} {t : ITr} (h : trGoodL x.1 t = false) : chE (x.1, x.2.1 ++ [t], x.2.2) = false := by
 unfold chE chOkL
 simp [List.all_append, h]
theorem bent_a (x : Chv) : chE (x.1, x.2.1 ++ [(⟨[], [0], ⟨1, 1, ⟨0, 0⟩, []⟩⟩ : ITr)], x.2.2) = false := chE_bad (by simp [trGoodL, placesL])
theorem bent_b (x : Chv) : chE (x.1, x.2.1 ++ [(⟨[0], [x.1], ⟨1, 1, ⟨0, 0⟩, []⟩⟩ : ITr)], x.2.2) = false := chE_bad (by
 have : placesL [x.1] x.1 = false := by simp [placesL, goodL, rd]
 simp [trGoodL, this])
theorem bent_d (x : Chv) : chE (x.1, x.2.1, x.2.2 ++ [(⟨2, 0, ⟨3, 0⟩⟩ : IAc)]) = false := by
 have : acBadL x.1 (⟨2, 0, ⟨3, 0⟩⟩ : IAc) = true := by simp [acBadL]
 unfold chE chOkL
 simp [List.any_append, this]
theorem bent_e (x : Chv) : chE (0, x.2.1, x.2.2) = false := by simp [chE, chOkL]
theorem newM_no {x : Chv} (h : chE x = false) : newM x = ([], []) := by rw [newM, h]; rfl
set_option maxRecDepth 100000 in
set_option maxHeartbeats 4000000 in
theorem chTextNo_any (c : Chv) (h : chE c = false) (q : Cq) (W : World) (hC : CV W c q) : Calls Tryd.prog 7 #[.agg (cA c q)] W fun e W' => e = .returned (.string ⟨#[]⟩) ∧ Below W.heap.size W W' := by
 have hB0 : Below W.heap.size W (W.alloc (.cells (cA c q) 26 (0, 0))) := (Below.refl _ _).alloc (Nat.le_refl _) _
 have hr := (CVo.below hC hB0).reads
 have HC := Aside0.mk (impl_chartOk.calls c.1 q.1.1 q.1.2 c.2.1 q.2.1 q.2.2 c.2.2 false _ hr.1.2 hr.1.1 hr.2.2 hr.2.1 (by rw [impl_chartOk.f]; exact congrArg some h))
 have hbx := heap_alloc_new W (.cells (cA c q) 26 (0, 0))
 have HB := Aside0.mk hB0
 clear hB0 hr h hC
 go_enter Tryd.func7, Tryd.ntmps7
 go_upto_region 1 with fail
 have lb : Box (W.alloc (.cells (cA c q) 26 (0, 0))) W.heap.size 26 (cA c q) := hbx
 go_wp2_with ((with_reducible refine gate_dst (N := 8) rfl ?_); refine getC_ rfl rfl rfl rfl lb ?_)
 refine HC.out.mono ?_
 clear lb hbx HC
 rintro e w1 ⟨rfl, hb⟩
 have HB1 := Aside0.mk (HB.out.trans (hb.mono HB.out.size))
 clear hb
 go_wp2
 go_ret
 exact ⟨rfl, HB1.out⟩
set_option maxRecDepth 100000 in
set_option maxHeartbeats 8000000 in
theorem law_ChBent (l0 : List Int) (hw0 : ∀ x ∈ l0, (Lit.int .u8 x).wf = true) (A0 : Option Addr) (c0 : Nat) (w : World) (r0 : Kd.C (Kd.int .u8) w A0 l0.length l0) (h0 : l0.length ≤ c0) :
  Calls Tryd.prog 3 #[.slice A0 l0.length c0] w fun e w' => e = .returned (.bool true) ∧ Below w.heap.size w w' := by
 have mixed : Tryd.prog.follows .mixedOrders = true := rfl
 have D0 := Aside0.mk (drawOk8_any l0 hw0 A0 c0 w r0 h0)
 clear r0 h0 hw0
 by_cases hlen : (1048576 : Int) < (l0.length : Int)
 ·go_enter Tryd.func3, Tryd.ntmps3
  go_wp2
  go_ret
  exact ⟨rfl, Below.refl _ _⟩
 go_enter Tryd.func3, Tryd.ntmps3
 go_wp2_with fail
 refine D0.out.mono ?_
 clear D0
 rintro e w1 ⟨x, q, rfl, hS, hF, hC, hb⟩
 have HX := Aside0.mk (show ChSmall x ∧ ChFit 5 x.2.1 x.2.2 from ⟨hF.mono (by omega), hF⟩)
 clear hS hF
 have H1 := Aside0.mk (show CVo w1 (fun k => k < w1.heap.size) x q ∧ Below w.heap.size w w1 ∧ Below w1.heap.size w1 w1 from ⟨hC.bound.mono fun k hk => hk.2, hb, Below.refl _ _⟩)
 clear hC hb
 go_wp2_with ((with_reducible refine gate_dst (N := 3) rfl ?_); refine new1_ (N := 3) (x := 13) (T := 26) (cA x q) (zs := #[.int .i64 0, .slice none 0 0, .slice none 0 0]) (cA_one _ _) ?_ ?_ ?_ ?_ ?_ ?_ ?_ ?_ ?_ ?_ ?_ ?_ ?_)
 all_goals (first | rfl | decide | (intro _ _; go_simp; done) | kernel_rfl | skip)
 intro g3 W1 hg3 bg3 hb
 simp only [Act.put, List.setIfInBounds_toArray, List.set_cons_zero, List.set_cons_succ]
 clear hg3
 have H2 := Aside0.mk (show Box W1 g3 26 (cA x q) ∧ CVo W1 (fun k => k < w1.heap.size) x q ∧ Below w.heap.size w W1 ∧ Below w1.heap.size w1 W1 from ⟨bg3, (CVo.last _ _ _) _ _ hb H1.out.1, Below.trans H1.out.2.1 (hb.mono H1.out.2.1.size), Below.trans H1.out.2.2 (hb.mono H1.out.2.2.size)⟩)
 clear H1 bg3 hb
 go_wp2_with fail
 obtain ⟨b, hb1⟩ : ∃ b, b = chE x := ⟨_, rfl⟩
 have B1 := Aside0.mk hb1
 clear hb1
 cases b
 ·skip
  refine weaveB_ (fun W => Below W1.heap.size W1 W) (Lasts.below W1) (Below.refl _ _) [(14, 0), (15, 1), (16, 2), (17, 3), (18, 4), (19, 5), (20, 6), (21, 7), (22, 8), (23, 9)] [fun v _ => v = .agg (cA x q), fun v _ => v = .bool false, fun v _ => v = .agg (cA x q), fun v _ => v = .bool false, fun v _ => v = .bool false, fun v _ => v = .bool false, fun v _ => v = .agg (cA x q), fun v _ => v = .bool false, fun v _ => v = .bool true, fun v _ => v = .bool true] rfl (by kernel_rfl) ⟨fun _ => Lasts.const _, fun _ => Lasts.const _, fun _ => Lasts.const _, fun _ => Lasts.const _, fun _ => Lasts.const _, fun _ => Lasts.const _, fun _ => Lasts.const _, fun _ => Lasts.const _, fun _ => Lasts.const _, fun _ => Lasts.const _, trivial⟩ ?_ ?_
  ·refine ⟨?_, ?_, ?_, ?_, ?_, ?_, ?_, ?_, ?_, ?_, trivial⟩
   ·intro vs W hp hv b hs
    exact stepGet rfl rfl ((hs.old 3 rfl).trans rfl) (blk_below H2.out.1 hp) Tryd.underlying26 rfl (by kernel_rfl) ⟨Below.refl _ _, rfl⟩
   ·intro vs W hp hv b hs
    have h0 : vs 0 = .agg (cA x q) := hv 0 (by decide)
    have t14 := (hs.tm 14 0 rfl).trans (congrArg some h0)
    refine stepCall rfl Tryd.func5 (by kernel_rfl) rfl #[vs 0] rfl (by simp [Act.eval, hs.tm 14 0 rfl]) (by rw [h0]; exact chOkI_any x q W (CVo.all (CVo.below H2.out.2.1 hp))) ?_
    rintro e W' ⟨rfl, hb'⟩
    exact ⟨_, rfl, hb', congrArg Value.bool B1.out.symm⟩
   ·intro vs W hp hv b hs
    exact stepGet rfl rfl ((hs.old 3 rfl).trans rfl) (blk_below H2.out.1 hp) Tryd.underlying26 rfl (by kernel_rfl) ⟨Below.refl _ _, rfl⟩
   ·intro vs W hp hv b hs
    have h2 : vs 2 = .agg (cA x q) := hv 2 (by decide)
    have t16 := (hs.tm 16 2 rfl).trans (congrArg some h2)
    refine stepCall rfl Tryd.func6 (by kernel_rfl) rfl #[vs 2] rfl (by simp [Act.eval, hs.tm 16 2 rfl]) (by rw [h2]; exact chOkS_any x HX.out.1 q W (CVo.all (CVo.below H2.out.2.1 hp))) ?_
    rintro e W' ⟨rfl, hb'⟩
    exact ⟨_, rfl, hb', congrArg Value.bool B1.out.symm⟩
   ·intro vs W hp hv b hs
    have h1 : vs 1 = .bool false := hv 1 (by decide)
    have t15 := (hs.tm 15 1 rfl).trans (congrArg some h1)
    have h3 : vs 3 = .bool false := hv 3 (by decide)
    have t17 := (hs.tm 17 3 rfl).trans (congrArg some h3)
    exact stepVal rfl (by go_simp) ⟨Below.refl _ _, rfl⟩
   ·intro vs W hp hv b hs
    have h4 : vs 4 = .bool false := hv 4 (by decide)
    have t18 := (hs.tm 18 4 rfl).trans (congrArg some h4)
    exact stepVal rfl (by go_simp) ⟨Below.refl _ _, rfl⟩
   ·intro vs W hp hv b hs
    have h5 : vs 5 = .bool false := hv 5 (by decide)
    exact stepGet (wanted_on rfl rfl ((hs.tm 19 5 rfl).trans (congrArg some h5))) rfl ((hs.old 3 rfl).trans rfl) (blk_below H2.out.1 hp) Tryd.underlying26 rfl (by kernel_rfl) ⟨Below.refl _ _, rfl⟩
   ·intro vs W hp hv b hs
    have h5 : vs 5 = .bool false := hv 5 (by decide)
    have h6 : vs 6 = .agg (cA x q) := hv 6 (by decide)
    have t20 := (hs.tm 20 6 rfl).trans (congrArg some h6)
    refine stepCall (wanted_on rfl rfl ((hs.tm 19 5 rfl).trans (congrArg some h5))) Tryd.func6 (by kernel_rfl) rfl #[vs 6] rfl (by simp [Act.eval, hs.tm 20 6 rfl]) (by rw [h6]; exact chOkS_any x HX.out.1 q W (CVo.all (CVo.below H2.out.2.1 hp))) ?_
    rintro e W' ⟨rfl, hb'⟩
    exact ⟨_, rfl, hb', congrArg Value.bool B1.out.symm⟩
   ·intro vs W hp hv b hs
    have h5 : vs 5 = .bool false := hv 5 (by decide)
    have h7 : vs 7 = .bool false := hv 7 (by decide)
    have t21 := (hs.tm 21 7 rfl).trans (congrArg some h7)
    exact stepVal (wanted_on rfl rfl ((hs.tm 19 5 rfl).trans (congrArg some h5))) (by go_simp) ⟨Below.refl _ _, rfl⟩
   ·intro vs W hp hv b hs
    have h5 : vs 5 = .bool false := hv 5 (by decide)
    have t19 := (hs.tm 19 5 rfl).trans (congrArg some h5)
    have h8 : vs 8 = .bool true := hv 8 (by decide)
    have t22 := (hs.tm 22 8 rfl).trans (congrArg some h8)
    exact stepVal rfl (by go_simp) ⟨Below.refl _ _, rfl⟩
  intro vs WA hb hv
  have h9 : vs 9 = .bool true := hv 9 (by decide)
  simp only [List.map_cons, List.map_nil, putL, Act.put, List.setIfInBounds_toArray, List.set_cons_zero, List.set_cons_succ, h9]
  clear hv h9
  have H3 := Aside0.mk (show Box WA g3 26 (cA x q) ∧ CVo WA (fun k => k < w1.heap.size) x q ∧ Below w.heap.size w WA ∧ Below w1.heap.size w1 WA from ⟨blk_below H2.out.1 hb, (CVo.last _ _ _) _ _ hb H2.out.2.1, Below.trans H2.out.2.2.1 (hb.mono H2.out.2.2.1.size), Below.trans H2.out.2.2.2 (hb.mono H2.out.2.2.2.size)⟩)
  clear H2 hb
  go_wp2_with fail
  refine weaveB_ (fun W => Below WA.heap.size WA W) (Lasts.below WA) (Below.refl _ _) [(24, 0), (25, 1), (26, 2), (27, 3), (28, 4), (29, 5), (30, 6), (31, 7), (32, 8), (33, 9), (34, 10), (35, 11), (36, 12), (37, 13), (2, 14)] [fun v _ => v = .agg (cA x q), fun v _ => v = .bool false, fun v _ => v = .agg (cA x q), fun v _ => v = .bool false, fun v _ => v = .bool true, fun v _ => v = .bool true, fun v _ => v = .agg (cA x q), fun v _ => v = .bool false, fun v _ => v = .bool false, fun v _ => v = .agg (cA x q), fun v _ => v = .string ⟨#[]⟩, fun v _ => v = .bool true, fun v _ => v = .bool true, fun v _ => v = .bool true, fun v _ => v = .bool true] rfl (by kernel_rfl) ⟨fun _ => Lasts.const _, fun _ => Lasts.const _, fun _ => Lasts.const _, fun _ => Lasts.const _, fun _ => Lasts.const _, fun _ => Lasts.const _, fun _ => Lasts.const _, fun _ => Lasts.const _, fun _ => Lasts.const _, fun _ => Lasts.const _, fun _ => Lasts.const _, fun _ => Lasts.const _, fun _ => Lasts.const _, fun _ => Lasts.const _, fun _ => Lasts.const _, trivial⟩ ?_ ?_
  ·refine ⟨?_, ?_, ?_, ?_, ?_, ?_, ?_, ?_, ?_, ?_, ?_, ?_, ?_, ?_, ?_, trivial⟩
   ·intro vs W hp hv b hs
    exact stepGet rfl rfl ((hs.old 3 rfl).trans rfl) (blk_below H3.out.1 hp) Tryd.underlying26 rfl (by kernel_rfl) ⟨Below.refl _ _, rfl⟩
   ·intro vs W hp hv b hs
    have h0 : vs 0 = .agg (cA x q) := hv 0 (by decide)
    have t24 := (hs.tm 24 0 rfl).trans (congrArg some h0)
    refine stepCall rfl Tryd.func5 (by kernel_rfl) rfl #[vs 0] rfl (by simp [Act.eval, hs.tm 24 0 rfl]) (by rw [h0]; exact chOkI_any x q W (CVo.all (CVo.below H3.out.2.1 hp))) ?_
    rintro e W' ⟨rfl, hb'⟩
    exact ⟨_, rfl, hb', congrArg Value.bool B1.out.symm⟩
   ·intro vs W hp hv b hs
    exact stepGet rfl rfl ((hs.old 3 rfl).trans rfl) (blk_below H3.out.1 hp) Tryd.underlying26 rfl (by kernel_rfl) ⟨Below.refl _ _, rfl⟩
   ·intro vs W hp hv b hs
    have h2 : vs 2 = .agg (cA x q) := hv 2 (by decide)
    have t26 := (hs.tm 26 2 rfl).trans (congrArg some h2)
    refine stepCall rfl Tryd.func6 (by kernel_rfl) rfl #[vs 2] rfl (by simp [Act.eval, hs.tm 26 2 rfl]) (by rw [h2]; exact chOkS_any x HX.out.1 q W (CVo.all (CVo.below H3.out.2.1 hp))) ?_
    rintro e W' ⟨rfl, hb'⟩
    exact ⟨_, rfl, hb', congrArg Value.bool B1.out.symm⟩
   ·intro vs W hp hv b hs
    have h1 : vs 1 = .bool false := hv 1 (by decide)
    have t25 := (hs.tm 25 1 rfl).trans (congrArg some h1)
    have h3 : vs 3 = .bool false := hv 3 (by decide)
    have t27 := (hs.tm 27 3 rfl).trans (congrArg some h3)
    exact stepVal rfl (by go_simp) ⟨Below.refl _ _, rfl⟩
   ·intro vs W hp hv b hs
    have h4 : vs 4 = .bool true := hv 4 (by decide)
    have t28 := (hs.tm 28 4 rfl).trans (congrArg some h4)
    exact stepVal rfl (by go_simp) ⟨Below.refl _ _, rfl⟩
   ·intro vs W hp hv b hs
    have h5 : vs 5 = .bool true := hv 5 (by decide)
    exact stepGet (wanted_on rfl rfl ((hs.tm 29 5 rfl).trans (congrArg some h5))) rfl ((hs.old 3 rfl).trans rfl) (blk_below H3.out.1 hp) Tryd.underlying26 rfl (by kernel_rfl) ⟨Below.refl _ _, rfl⟩
   ·intro vs W hp hv b hs
    have h5 : vs 5 = .bool true := hv 5 (by decide)
    have h6 : vs 6 = .agg (cA x q) := hv 6 (by decide)
    have t30 := (hs.tm 30 6 rfl).trans (congrArg some h6)
    refine stepCall (wanted_on rfl rfl ((hs.tm 29 5 rfl).trans (congrArg some h5))) Tryd.func6 (by kernel_rfl) rfl #[vs 6] rfl (by simp [Act.eval, hs.tm 30 6 rfl]) (by rw [h6]; exact chOkS_any x HX.out.1 q W (CVo.all (CVo.below H3.out.2.1 hp))) ?_
    rintro e W' ⟨rfl, hb'⟩
    exact ⟨_, rfl, hb', congrArg Value.bool B1.out.symm⟩
   ·intro vs W hp hv b hs
    have h5 : vs 5 = .bool true := hv 5 (by decide)
    have h7 : vs 7 = .bool false := hv 7 (by decide)
    have t31 := (hs.tm 31 7 rfl).trans (congrArg some h7)
    exact stepVal (wanted_on rfl rfl ((hs.tm 29 5 rfl).trans (congrArg some h5))) (by go_simp) ⟨Below.refl _ _, rfl⟩
   ·intro vs W hp hv b hs
    have h8 : vs 8 = .bool false := hv 8 (by decide)
    exact stepGet (wanted_on rfl rfl ((hs.tm 32 8 rfl).trans (congrArg some h8))) rfl ((hs.old 3 rfl).trans rfl) (blk_below H3.out.1 hp) Tryd.underlying26 rfl (by kernel_rfl) ⟨Below.refl _ _, rfl⟩
   ·intro vs W hp hv b hs
    have h8 : vs 8 = .bool false := hv 8 (by decide)
    have h9 : vs 9 = .agg (cA x q) := hv 9 (by decide)
    have t33 := (hs.tm 33 9 rfl).trans (congrArg some h9)
    refine stepCall (wanted_on rfl rfl ((hs.tm 32 8 rfl).trans (congrArg some h8))) Tryd.func7 (by kernel_rfl) rfl #[vs 9] rfl (by simp [Act.eval, hs.tm 33 9 rfl]) (by rw [h9]; exact chTextNo_any x B1.out.symm q W (CVo.all (CVo.below H3.out.2.1 hp))) ?_
    rintro e W' ⟨rfl, hb'⟩
    exact ⟨_, rfl, hb', rfl⟩
   ·intro vs W hp hv b hs
    have h8 : vs 8 = .bool false := hv 8 (by decide)
    have h10 : vs 10 = .string ⟨#[]⟩ := hv 10 (by decide)
    have t34 := (hs.tm 34 10 rfl).trans (congrArg some h10)
    exact stepVal (wanted_on rfl rfl ((hs.tm 32 8 rfl).trans (congrArg some h8))) (by go_simp) ⟨Below.refl _ _, rfl⟩
   ·intro vs W hp hv b hs
    have h5 : vs 5 = .bool true := hv 5 (by decide)
    have h8 : vs 8 = .bool false := hv 8 (by decide)
    have t32 := (hs.tm 32 8 rfl).trans (congrArg some h8)
    have h11 : vs 11 = .bool true := hv 11 (by decide)
    have t35 := (hs.tm 35 11 rfl).trans (congrArg some h11)
    exact stepVal (wanted_on rfl rfl ((hs.tm 29 5 rfl).trans (congrArg some h5))) (by go_simp) ⟨Below.refl _ _, rfl⟩
   ·intro vs W hp hv b hs
    have h5 : vs 5 = .bool true := hv 5 (by decide)
    have t29 := (hs.tm 29 5 rfl).trans (congrArg some h5)
    have h12 : vs 12 = .bool true := hv 12 (by decide)
    have t36 := (hs.tm 36 12 rfl).trans (congrArg some h12)
    exact stepVal rfl (by go_simp) ⟨Below.refl _ _, rfl⟩
   ·intro vs W hp hv b hs
    have h13 : vs 13 = .bool true := hv 13 (by decide)
    have t37 := (hs.tm 37 13 rfl).trans (congrArg some h13)
    exact stepVal rfl (by go_simp) ⟨Below.refl _ _, rfl⟩
  intro vs WB hb hv
  have h14 : vs 14 = .bool true := hv 14 (by decide)
  simp only [List.map_cons, List.map_nil, putL, Act.put, List.setIfInBounds_toArray, List.set_cons_zero, List.set_cons_succ, h14]
  have HB := Aside0.mk (Below.trans H3.out.2.2.1 (hb.mono (Below.size H3.out.2.2.1)))
  clear hv h14 hb
  go_wp2
  go_ret
  exact ⟨rfl, HB.out⟩
 ·skip
  refine weaveB_ (fun W => Below W1.heap.size W1 W) (Lasts.below W1) (Below.refl _ _) [(14, 0), (15, 1), (16, 2), (17, 3), (18, 4), (19, 5), (20, 6), (21, 7), (22, 8), (23, 9)] [fun v _ => v = .agg (cA x q), fun v _ => v = .bool true, fun v _ => v = .agg (cA x q), fun v _ => v = .bool true, fun v _ => v = .bool false, fun v _ => v = .bool false, fun v _ => v = .agg (cA x q), fun v _ => v = .bool true, fun v _ => v = .bool false, fun v _ => v = .bool false] rfl (by kernel_rfl) ⟨fun _ => Lasts.const _, fun _ => Lasts.const _, fun _ => Lasts.const _, fun _ => Lasts.const _, fun _ => Lasts.const _, fun _ => Lasts.const _, fun _ => Lasts.const _, fun _ => Lasts.const _, fun _ => Lasts.const _, fun _ => Lasts.const _, trivial⟩ ?_ ?_
  ·refine ⟨?_, ?_, ?_, ?_, ?_, ?_, ?_, ?_, ?_, ?_, trivial⟩
   ·intro vs W hp hv b hs
    exact stepGet rfl rfl ((hs.old 3 rfl).trans rfl) (blk_below H2.out.1 hp) Tryd.underlying26 rfl (by kernel_rfl) ⟨Below.refl _ _, rfl⟩
   ·intro vs W hp hv b hs
    have h0 : vs 0 = .agg (cA x q) := hv 0 (by decide)
    have t14 := (hs.tm 14 0 rfl).trans (congrArg some h0)
    refine stepCall rfl Tryd.func5 (by kernel_rfl) rfl #[vs 0] rfl (by simp [Act.eval, hs.tm 14 0 rfl]) (by rw [h0]; exact chOkI_any x q W (CVo.all (CVo.below H2.out.2.1 hp))) ?_
    rintro e W' ⟨rfl, hb'⟩
    exact ⟨_, rfl, hb', congrArg Value.bool B1.out.symm⟩
   ·intro vs W hp hv b hs
    exact stepGet rfl rfl ((hs.old 3 rfl).trans rfl) (blk_below H2.out.1 hp) Tryd.underlying26 rfl (by kernel_rfl) ⟨Below.refl _ _, rfl⟩
   ·intro vs W hp hv b hs
    have h2 : vs 2 = .agg (cA x q) := hv 2 (by decide)
    have t16 := (hs.tm 16 2 rfl).trans (congrArg some h2)
    refine stepCall rfl Tryd.func6 (by kernel_rfl) rfl #[vs 2] rfl (by simp [Act.eval, hs.tm 16 2 rfl]) (by rw [h2]; exact chOkS_any x HX.out.1 q W (CVo.all (CVo.below H2.out.2.1 hp))) ?_
    rintro e W' ⟨rfl, hb'⟩
    exact ⟨_, rfl, hb', congrArg Value.bool B1.out.symm⟩
   ·intro vs W hp hv b hs
    have h1 : vs 1 = .bool true := hv 1 (by decide)
    have t15 := (hs.tm 15 1 rfl).trans (congrArg some h1)
    have h3 : vs 3 = .bool true := hv 3 (by decide)
    have t17 := (hs.tm 17 3 rfl).trans (congrArg some h3)
    exact stepVal rfl (by go_simp) ⟨Below.refl _ _, rfl⟩
   ·intro vs W hp hv b hs
    have h4 : vs 4 = .bool false := hv 4 (by decide)
    have t18 := (hs.tm 18 4 rfl).trans (congrArg some h4)
    exact stepVal rfl (by go_simp) ⟨Below.refl _ _, rfl⟩
   ·intro vs W hp hv b hs
    have h5 : vs 5 = .bool false := hv 5 (by decide)
    exact stepGet (wanted_on rfl rfl ((hs.tm 19 5 rfl).trans (congrArg some h5))) rfl ((hs.old 3 rfl).trans rfl) (blk_below H2.out.1 hp) Tryd.underlying26 rfl (by kernel_rfl) ⟨Below.refl _ _, rfl⟩
   ·intro vs W hp hv b hs
    have h5 : vs 5 = .bool false := hv 5 (by decide)
    have h6 : vs 6 = .agg (cA x q) := hv 6 (by decide)
    have t20 := (hs.tm 20 6 rfl).trans (congrArg some h6)
    refine stepCall (wanted_on rfl rfl ((hs.tm 19 5 rfl).trans (congrArg some h5))) Tryd.func6 (by kernel_rfl) rfl #[vs 6] rfl (by simp [Act.eval, hs.tm 20 6 rfl]) (by rw [h6]; exact chOkS_any x HX.out.1 q W (CVo.all (CVo.below H2.out.2.1 hp))) ?_
    rintro e W' ⟨rfl, hb'⟩
    exact ⟨_, rfl, hb', congrArg Value.bool B1.out.symm⟩
   ·intro vs W hp hv b hs
    have h5 : vs 5 = .bool false := hv 5 (by decide)
    have h7 : vs 7 = .bool true := hv 7 (by decide)
    have t21 := (hs.tm 21 7 rfl).trans (congrArg some h7)
    exact stepVal (wanted_on rfl rfl ((hs.tm 19 5 rfl).trans (congrArg some h5))) (by go_simp) ⟨Below.refl _ _, rfl⟩
   ·intro vs W hp hv b hs
    have h5 : vs 5 = .bool false := hv 5 (by decide)
    have t19 := (hs.tm 19 5 rfl).trans (congrArg some h5)
    have h8 : vs 8 = .bool false := hv 8 (by decide)
    have t22 := (hs.tm 22 8 rfl).trans (congrArg some h8)
    exact stepVal rfl (by go_simp) ⟨Below.refl _ _, rfl⟩
  intro vs WA hb hv
  have h9 : vs 9 = .bool false := hv 9 (by decide)
  simp only [List.map_cons, List.map_nil, putL, Act.put, List.setIfInBounds_toArray, List.set_cons_zero, List.set_cons_succ, h9]
  clear hv h9
  have H4 := Aside0.mk (show Box WA g3 26 (cA x q) ∧ CVo WA (fun k => k < w1.heap.size) x q ∧ Below w.heap.size w WA ∧ Below w1.heap.size w1 WA from ⟨blk_below H2.out.1 hb, (CVo.last _ _ _) _ _ hb H2.out.2.1, Below.trans H2.out.2.2.1 (hb.mono H2.out.2.2.1.size), Below.trans H2.out.2.2.2 (hb.mono H2.out.2.2.2.size)⟩)
  clear H2 hb
  go_wp2_with ((with_reducible refine gate_dst (N := 4) rfl ?_); refine new1_ (N := 4) (x := 38) (T := 34) (#[.int .i64 1, .int .i64 1, .int .i64 0, .int .i64 0, .slice none 0 0]) (zs := #[.int .i64 0, .int .i64 0, .int .i64 0, .int .i64 0, .slice none 0 0]) (by simp [Value.oneCell']) ?_ ?_ ?_ ?_ ?_ ?_ ?_ ?_ ?_ ?_ ?_ ?_ ?_)
  all_goals (first | rfl | decide | (intro _ _; go_simp; done) | kernel_rfl | skip)
  intro g4 W2 hg4 bg4 hb
  simp only [Act.put, List.setIfInBounds_toArray, List.set_cons_zero, List.set_cons_succ]
  clear hg4
  have H5 := Aside0.mk (show Box W2 g4 34 #[.int .i64 1, .int .i64 1, .int .i64 0, .int .i64 0, .slice none 0 0] ∧ Box W2 g3 26 (cA x q) ∧ CVo W2 (fun k => k < w1.heap.size) x q ∧ Below w.heap.size w W2 ∧ Below w1.heap.size w1 W2 from ⟨bg4, blk_below H4.out.1 hb, (CVo.last _ _ _) _ _ hb H4.out.2.1, Below.trans H4.out.2.2.1 (hb.mono H4.out.2.2.1.size), Below.trans H4.out.2.2.2 (hb.mono H4.out.2.2.2.size)⟩)
  clear H4 bg4 hb
  skip
  have lb := H5.out.2.1
  go_wp2_with (first | ((with_reducible refine gate_dst (N := 39) rfl ?_); refine getC_ rfl rfl rfl rfl lb ?_) | ((with_reducible refine gate_dst (N := 5) rfl ?_); refine new1_ (N := 5) (x := 39) (T := 26) (cA x q) (zs := #[.int .i64 0, .slice none 0 0, .slice none 0 0]) (cA_one _ _) ?_ ?_ ?_ ?_ ?_ ?_ ?_ ?_ ?_ ?_ ?_ ?_ ?_))
  all_goals (first | rfl | decide | (intro _ _; go_simp; done) | kernel_rfl | skip)
  intro g5 W5 hg5 bg5 hb
  simp only [Act.put, List.setIfInBounds_toArray, List.set_cons_zero, List.set_cons_succ]
  clear lb
  have hlt := blk_lt bg5
  have hsz := hb.size
  have w1s : w1.heap.size ≤ W2.heap.size := H5.out.2.2.2.2.size
  go_wp2_with fail
  refine weaveBT_ [3, 7] (blk3 x.2.1) 8 10 (by decide) rfl (by decide) [(9, .pointer (some ⟨g5, 1, none⟩))] rfl rfl (fun _ W => Below W5.heap.size W5 W) (drew_below _) [(40, 0), (41, 1), (42, 2), (43, 3), (44, 4), (45, 5), (46, 6), (47, 7), (48, 8), (49, 9)] [fun (v : Value) (_ : World) => ∃ A, v = .slice A 0 0, fun v _ => v = .pointer (some ⟨g3, 1, none⟩), fun v _ => v = .slice q.1.1 x.2.1.length q.1.2, fun (v : Value) (W : World) => (x.2.1 = [] → ∃ A, v = .slice A 0 0) ∧ (x.2.1 ≠ [] → Kd.N k37 37 W W5.heap.size (fun k => k ≠ g5) v x.2.1), fun (v : Value) (W : World) => ∃ qi, v = .slice (some ⟨qi, 0, none⟩) 1 1 ∧ W5.heap.size ≤ qi ∧ Box W qi 3 #[.int .i64 0], fun v _ => v = .agg #[.int .i64 1, .int .i64 1, .int .i64 0, .int .i64 0, .slice none 0 0], fun (v : Value) (W : World) => ∃ q1 : Nat, v = .agg #[.slice none 0 0, .slice (some ⟨q1, 0, none⟩) 1 1, .int .i64 1, .int .i64 1, .int .i64 0, .int .i64 0, .slice none 0 0] ∧ W5.heap.size ≤ q1 ∧ Box W q1 3 #[.int .i64 0], fun (v : Value) (W : World) => ∃ qb : Nat, ∃ q1 : Nat, v = .slice (some ⟨qb, 0, none⟩) 1 1 ∧ W5.heap.size ≤ qb ∧ Box W qb 37 #[.slice none 0 0, .slice (some ⟨q1, 0, none⟩) 1 1, .int .i64 1, .int .i64 1, .int .i64 0, .int .i64 0, .slice none 0 0] ∧ W5.heap.size ≤ q1 ∧ Box W q1 3 #[.int .i64 0]] mixed (by kernel_rfl) ⟨fun _ => Lasts.const _, fun _ => Lasts.const _, fun _ => Lasts.const _, fun _ _ _ hb h => ⟨h.1, fun e => Kd.N_below (h.2 e) hb⟩, fun _ _ _ hb ⟨qi, h1, h2, h3⟩ => ⟨qi, h1, h2, blk_below h3 hb⟩, fun _ => Lasts.const _, fun _ _ _ hb ⟨q1, h1, a1, b1⟩ => ⟨q1, h1, a1, blk_below b1 hb⟩, fun _ _ _ hb ⟨qb, q1, h1, h2, h3, a1, b1⟩ => ⟨qb, q1, h1, h2, blk_below h3 hb, a1, blk_below b1 hb⟩, trivial⟩ (by kernel_rfl) (by kernel_rfl) (by kernel_rfl) ?_ ?_ ?_ (by simp) (fun v W => ∃ (B : Option Addr) (d : Nat), v = .slice B (x.2.1.length + 1) d ∧ Kd.N k37 37 W W5.heap.size (fun k => k ≠ g5) v (x.2.1 ++ [(⟨[], [0], ⟨1, 1, ⟨0, 0⟩, []⟩⟩ : ITr)]) ∧ Below W2.heap.size W2 W ∧ Box W g5 26 (cA x q) ∧ CVo W (fun k => k < w1.heap.size) x q) (fun _ W => ∃ (B : Option Addr) (d : Nat), Below W2.heap.size W2 W ∧ Box W g5 26 (cA (x.1, x.2.1 ++ [(⟨[], [0], ⟨1, 1, ⟨0, 0⟩, []⟩⟩ : ITr)], x.2.2) ((B, d), q.2)) ∧ CV W (x.1, x.2.1 ++ [(⟨[], [0], ⟨1, 1, ⟨0, 0⟩, []⟩⟩ : ITr)], x.2.2) ((B, d), q.2)) ?_ ?_ ?_
  ·refine ⟨?_, ?_, ?_, ?_, ?_, ?_, ?_, ?_, ?_, ?_, ?_, trivial⟩
   ·intro _ l vs W hp hl hv b hs
    exact stepLit00 rfl (by go_simp; try rfl) fun A W' hb1 => ⟨hb1, hp.trans (hb1.mono hp.size), ⟨A, rfl⟩, fun h => absurd h (by decide)⟩
   ·intro _ l vs W hp hl hv b hs
    have t3 := (hs.oldtm 3 rfl).trans (show _ = some (Value.pointer (some ⟨g3, 0, none⟩)) from rfl)
    exact stepVal rfl (by go_simp) ⟨Below.refl _ _, hp, rfl, fun h => absurd h (by decide)⟩
   ·intro _ l vs W hp hl hv b hs
    have h1 : vs 1 = .pointer (some ⟨g3, 1, none⟩) := hv 1 (by decide)
    have t1 := (hs.tm 41 1 rfl).trans (congrArg some h1)
    have cm := (Box.cell (blk_below (blk_below H5.out.2.1 hb) hp) 1 (.slice q.1.1 x.2.1.length q.1.2) rfl).1
    exact stepVal rfl (by go_simp) ⟨Below.refl _ _, hp, rfl, fun h => absurd h (by decide)⟩
   ·intro _ l vs W hp hl hv b hs
    obtain ⟨A0, h0⟩ : (fun (v : Value) (_ : World) => ∃ A, v = .slice A 0 0) (vs 0) W := hv 0 (by decide)
    have h2 : vs 2 = .slice q.1.1 x.2.1.length q.1.2 := hv 2 (by decide)
    have hc := (CVo.below (CVo.below H5.out.2.2.1 hb) hp)
    exact stepAppE k37 (s := .tmp 40) (x := .tmp 42) (t := 23) (z := .agg zTr) (bytes := 104) (base := W5.heap.size) (ok := (fun k => k ≠ g5)) (okp := fun k => k < w1.heap.size) rfl rfl Tryd.underlying23 info37 rfl (by decide) (by omega) ((hs.ev 40 0 rfl).trans h0) ((hs.ev 42 2 rfl).trans h2) (Kd.V_F hc.t) (fun k hk => by have : k < w1.heap.size := hk; show k ≠ g5; omega) (fun k hk => by have := hp.size; show k ≠ g5; omega) hp.size (by have := HX.out.2.1; omega) (cap5 _ HX.out.2.1) (fun e => ⟨Below.refl _ _, hp, ⟨fun _ => ⟨A0, rfl⟩, fun h => absurd e h⟩, fun _ k hk => by have hk' : blk3 x.2.1 3 (.slice A0 0 0) = some k := hk; rw [blk3_nil e] at hk'; cases hk'⟩) fun hne v W' hN hfr hb1 => ⟨hb1, hp.trans (hb1.mono hp.size), ⟨fun e => absurd e hne, fun _ => hN⟩, fun _ k hk => hfr k ((blk3_ne hne).symm.trans (show blk3 x.2.1 3 v = some k from hk))⟩
   ·intro _ l vs W hp hl hv b hs
    exact stepLit1 (T := 3) (cs := #[.int .i64 0]) rfl (by go_simp; try rfl) fun qi W' e hbx hb1 => ⟨hb1, hp.trans (hb1.mono hp.size), ⟨qi, rfl, by rw [e]; exact hp.size, hbx⟩, fun h => absurd h (by decide)⟩
   ·intro _ l vs W hp hl hv b hs
    exact stepGet rfl rfl ((hs.old 4 rfl).trans rfl) (blk_below (blk_below H5.out.1 hb) hp) Tryd.underlying34 rfl (by kernel_rfl) ⟨Below.refl _ _, hp, rfl, fun h => absurd h (by decide)⟩
   ·intro _ l vs W hp hl hv b hs
    obtain ⟨q1, e1, a1, b1⟩ : (fun (v : Value) (W : World) => ∃ qi, v = .slice (some ⟨qi, 0, none⟩) 1 1 ∧ W5.heap.size ≤ qi ∧ Box W qi 3 #[.int .i64 0]) (vs 4) W := hv 4 (by decide)
    have r1 := (hs.tm 44 4 rfl).trans (congrArg some e1)
    have eo : vs 5 = .agg #[.int .i64 1, .int .i64 1, .int .i64 0, .int .i64 0, .slice none 0 0] := hv 5 (by decide)
    have ro := (hs.tm 45 5 rfl).trans (congrArg some eo)
    exact stepVal rfl (by go_simp) ⟨Below.refl _ _, hp, ⟨q1, rfl, a1, b1⟩, fun h => absurd h (by decide)⟩
   ·intro _ l vs W hp hl hv b hs
    obtain ⟨q1, e1, a1, b1⟩ : (fun (v : Value) (W : World) => ∃ q1 : Nat, v = .agg #[.slice none 0 0, .slice (some ⟨q1, 0, none⟩) 1 1, .int .i64 1, .int .i64 1, .int .i64 0, .int .i64 0, .slice none 0 0] ∧ W5.heap.size ≤ q1 ∧ Box W q1 3 #[.int .i64 0]) (vs 6) W := hv 6 (by decide)
    have r1 := (hs.tm 46 6 rfl).trans (congrArg some e1)
    exact stepLit1 (T := 37) (cs := #[.slice none 0 0, .slice (some ⟨q1, 0, none⟩) 1 1, .int .i64 1, .int .i64 1, .int .i64 0, .int .i64 0, .slice none 0 0]) rfl (by go_simp; try rfl) fun qb W' e hbx hb => ⟨hb, hp.trans (hb.mono hp.size), ⟨qb, q1, rfl, by rw [e]; exact hp.size, hbx, a1, blk_below b1 hb⟩, fun _ k hk => by have hk2 : qb = k := (by simpa [Value.ownBlock] using (blk3_other (l := x.2.1) (j := 7) (by decide)).symm.trans (show blk3 x.2.1 7 _ = some k from hk)); omega⟩
   ·intro h
    exact absurd h (by decide)
   ·intro h
    exact absurd h (by decide)
   ·intro h
    exact absurd h (by decide)
  ·intro j hj v W hF k hk
   simp only [List.mem_cons, List.mem_nil_iff, or_false] at hj
   rcases hj with rfl | rfl
   ·have hF' : (fun (v : Value) (W : World) => (x.2.1 = [] → ∃ A, v = .slice A 0 0) ∧ (x.2.1 ≠ [] → Kd.N k37 37 W W5.heap.size (fun k => k ≠ g5) v x.2.1)) v W := hF
    by_cases he : x.2.1 = []
    ·rw [blk3_nil he] at hk; cases hk
    ·rw [blk3_ne he] at hk; exact Kd.N_lt (hF'.2 he) k hk
   ·obtain ⟨qb, q1, rfl, _, hbx, _⟩ : (fun (v : Value) (W : World) => ∃ qb : Nat, ∃ q1 : Nat, v = .slice (some ⟨qb, 0, none⟩) 1 1 ∧ W5.heap.size ≤ qb ∧ Box W qb 37 #[.slice none 0 0, .slice (some ⟨q1, 0, none⟩) 1 1, .int .i64 1, .int .i64 1, .int .i64 0, .int .i64 0, .slice none 0 0] ∧ W5.heap.size ≤ q1 ∧ Box W q1 3 #[.int .i64 0]) v W := hF
    rw [blk3_other (by decide)] at hk
    injection hk with hk
    exact hk ▸ blk_lt hbx
  ·intro q' hq o ho vs W b hs
   obtain rfl := List.mem_singleton.1 hq
   obtain rfl := Option.some.inj ho
   have t3 := (hs.oldtm 5 rfl).trans (show _ = some (Value.pointer (some ⟨g5, 0, none⟩)) from rfl)
   exact stepVal rfl (by go_simp) ⟨rfl, rfl⟩
  ·intro o ho l vs W hl hp hv hap b hs
   obtain rfl := Option.some.inj ho
   have h3 : (fun (v : Value) (W : World) => (x.2.1 = [] → ∃ A, v = .slice A 0 0) ∧ (x.2.1 ≠ [] → Kd.N k37 37 W W5.heap.size (fun k => k ≠ g5) v x.2.1)) (vs 3) W := hv 3 (by decide)
   obtain ⟨qb, q1, e7, aq, hbx, a1, b1⟩ : (fun (v : Value) (W : World) => ∃ qb : Nat, ∃ q1 : Nat, v = .slice (some ⟨qb, 0, none⟩) 1 1 ∧ W5.heap.size ≤ qb ∧ Box W qb 37 #[.slice none 0 0, .slice (some ⟨q1, 0, none⟩) 1 1, .int .i64 1, .int .i64 1, .int .i64 0, .int .i64 0, .slice none 0 0] ∧ W5.heap.size ≤ q1 ∧ Box W q1 3 #[.int .i64 0]) (vs 7) W := hv 7 (by decide)
   have hF7 : Kd.F k37 W (fun k => k = qb ∨ k = q1) (some ⟨qb, 0, none⟩) 1 [(⟨[], [0], ⟨1, 1, ⟨0, 0⟩, []⟩⟩ : ITr)] := fun W' hW => C_one ((hW qb (.inl rfl) (blk_lt hbx)).trans hbx) (k37_mk W' (⟨[], [0], ⟨1, 1, ⟨0, 0⟩, []⟩⟩ : ITr) (A0 := none) (c0 := 0) (A1 := some ⟨q1, 0, none⟩) (c1 := 1) (A6 := none) (c6 := 0) (Nat.le_refl _) (Kd.C_nil _ _) (Nat.le_refl _) (C_int1 ((hW q1 (.inr rfl) (blk_lt b1)).trans b1)) (Nat.le_refl _) (Kd.C_nil _ _)) rfl
   have hsz2 := hp.size
   have hfar : ∀ k, (fun k => k = qb ∨ k = q1) k → W5.heap.size ≤ k := fun k hk => by
    rcases hk with rfl | rfl <;> assumption
   have hcv := (CVo.below (CVo.below H5.out.2.2.1 hb) hp)
   have hbg := (blk_below bg5 hp)
   have fin : ∀ v W', Kd.N k37 37 W' W5.heap.size (fun k => k ≠ g5) v (x.2.1 ++ [(⟨[], [0], ⟨1, 1, ⟨0, 0⟩, []⟩⟩ : ITr)]) → Below W5.heap.size W W' → (∀ T cs, Box W g5 T cs → Box W' g5 T cs) → (fun v W => ∃ (B : Option Addr) (d : Nat), v = .slice B (x.2.1.length + 1) d ∧ Kd.N k37 37 W W5.heap.size (fun k => k ≠ g5) v (x.2.1 ++ [(⟨[], [0], ⟨1, 1, ⟨0, 0⟩, []⟩⟩ : ITr)]) ∧ Below W2.heap.size W2 W ∧ Box W g5 26 (cA x q) ∧ CVo W (fun k => k < w1.heap.size) x q) v W' := fun v W' hN hbb hbox => by
    obtain ⟨B, d, rfl⟩ := Kd.N_slice hN
    have e2 : (x.2.1 ++ [(⟨[], [0], ⟨1, 1, ⟨0, 0⟩, []⟩⟩ : ITr)]).length = x.2.1.length + 1 := by simp
    rw [e2] at hN ⊢
    exact ⟨B, d, rfl, hN, (hb.trans (hp.mono hsz)).trans (hbb.mono hsz), hbox _ _ hbg, ⟨Kd.V_step hcv.t fun k hk _ => hbb.block k (by omega), Kd.V_step hcv.a fun k hk _ => hbb.block k (by omega)⟩⟩
   by_cases he : x.2.1 = []
   ·obtain ⟨A3, e3⟩ := h3.1 he
    exact stepAppE k37 (s := .tmp 43) (x := .tmp 47) (t := 23) (z := .agg zTr) (bytes := 104) (base := W5.heap.size) (ok := (fun k => k ≠ g5)) (okp := (fun k => k = qb ∨ k = q1)) rfl rfl Tryd.underlying23 info37 rfl (by decide) (by omega) ((hs.ev 43 3 rfl).trans e3) ((hs.ev 47 7 rfl).trans e7) hF7 (fun k hk => by have := hfar k hk; show k ≠ g5; omega) (fun k hk => by show k ≠ g5; omega) hsz2 (by omega) (cap5 1 (by omega)) (fun h => by cases h) fun _ v W' hN _ hb1 => fin v W' (by rw [he]; exact hN) (hb1.mono hsz2) fun T cs h => blk_below h hb1
   ·have hN3 := h3.2 he
    have hap' : ∀ k, (vs 3).ownBlock = some k → k ≠ qb := fun k hk e => hap 3 (by simp) 7 (by simp) (by decide) k (by rw [blk3_ne he]; exact hk) (by rw [blk3_other (by decide), e7, e]; rfl)
    have hty : ∀ k, (vs 3).ownBlock = some k → k ≠ q1 := fun k hk => by
     obtain ⟨b9, cs9, o1, _, o3, _⟩ := own_size hN3 (List.length_pos_iff.2 he)
     rw [hk] at o1
     injection o1 with o1
     subst o1
     exact fun e => by rw [e] at o3; exact box_ty o3 b1 (by decide)
    have hgne : ∀ k, (vs 3).ownBlock = some k → k ≠ g5 := fun k hk => hN3.1 k hk
    intro K Q hK
    refine Kd.N_append_rows_step k37 W5.heap.size rfl (.tmp 43) (.tmp 47) 23 37 (.agg zTr) 104 rfl Tryd.underlying23 info37 rfl (by decide) (by omega) (vs 3) x.2.1 [(⟨[], [0], ⟨1, 1, ⟨0, 0⟩, []⟩⟩ : ITr)] (some ⟨qb, 0, none⟩) 1 1 (fun k => k ≠ g5) (fun k => k = qb ∨ k = q1) (hs.ev 43 3 rfl) ((hs.ev 47 7 rfl).trans e7) hN3 hF7 (fun k hk => ⟨by have := hfar k hk; show k ≠ g5; omega, fun e => by
     have h1 := hap' k e.symm
     have h2 := hty k e.symm
     rcases hk with rfl | rfl <;> omega⟩) (fun k hk => by show k ≠ g5; omega) (Below.refl W5.heap.size W) hsz2 (by have := HX.out.2.1; omega) ?_
    intro v1 w1' hN hbb hg hat
    exact hK _ _ (fin v1 w1' hN hbb fun T cs h => Box.grown h hg fun e => hgne _ e rfl)
  ·intro o ho vs W ⟨B, d, h8, hN, hbb, hbx, hcv⟩ hq b hs
   obtain rfl := Option.some.inj ho
   have h9 : vs 9 = .pointer (some ⟨g5, 1, none⟩) := hq _ (List.mem_singleton.2 rfl)
   have t8 := (hs.tm 48 8 rfl).trans (congrArg some h8)
   have t9 := (hs.tm 49 9 rfl).trans (congrArg some h9)
   have cm1 := (Box.cell hbx 1 _ rfl).1
   have cm2 := (Box.cell hbx 1 _ rfl).2
   refine stepField (i := 1) (v := .slice B (x.2.1.length + 1) d) rfl rfl hbx (by go_simp) fun W' hb2 hput => ⟨B, d, hput.below hbb hg5, ?_, ⟨?_, Kd.V_mono (Kd.V_step hcv.a fun k hk _ => hput.far k (by omega)) fun _ _ => trivial⟩⟩
   ·have e2 : (x.2.1 ++ [(⟨[], [0], ⟨1, 1, ⟨0, 0⟩, []⟩⟩ : ITr)]).length = x.2.1.length + 1 := by simp
    simp only [cA, e2]
    exact hb2
   ·have e2 : (x.2.1 ++ [(⟨[], [0], ⟨1, 1, ⟨0, 0⟩, []⟩⟩ : ITr)]).length = x.2.1.length + 1 := by simp
    rw [h8] at hN
    simp only [e2]
    exact Kd.V_mono (Kd.V_step (Kd.N_V hN) fun k hk _ => hput.far k hk) fun _ _ => trivial
  ·rintro vs Wa ⟨Bg5, dg5, hbb, bx, hcv⟩
   simp only [List.map_cons, List.map_nil, putL]
   simp only [Act.put, List.setIfInBounds_toArray, List.set_cons_zero, List.set_cons_succ]
   obtain ⟨xa, hxxa⟩ : ∃ z : Chv, z = (x.1, x.2.1 ++ [(⟨[], [0], ⟨1, 1, ⟨0, 0⟩, []⟩⟩ : ITr)], x.2.2) := ⟨_, rfl⟩
   rw [← hxxa] at bx hcv
   have Bxa := Aside0.mk (show chE xa = false by rw [hxxa]; exact bent_a x)
   clear hxxa hg5 bg5 hb hlt hsz w1s
   have H6 := Aside0.mk (show CV Wa xa ((Bg5, dg5), q.2) ∧ Box Wa g5 26 (cA xa ((Bg5, dg5), q.2)) ∧ Box Wa g4 34 #[.int .i64 1, .int .i64 1, .int .i64 0, .int .i64 0, .slice none 0 0] ∧ Box Wa g3 26 (cA x q) ∧ CVo Wa (fun k => k < w1.heap.size) x q ∧ Below w.heap.size w Wa ∧ Below w1.heap.size w1 Wa from ⟨hcv, bx, blk_below H5.out.1 hbb, blk_below H5.out.2.1 hbb, (CVo.last _ _ _) _ _ hbb H5.out.2.2.1, Below.trans H5.out.2.2.2.1 (hbb.mono H5.out.2.2.2.1.size), Below.trans H5.out.2.2.2.2 (hbb.mono H5.out.2.2.2.2.size)⟩)
   clear H5 hbb hcv bx
   have lb := H6.out.2.2.2.1
   go_wp2_with (first | ((with_reducible refine gate_dst (N := 50) rfl ?_); refine getC_ rfl rfl rfl rfl lb ?_) | ((with_reducible refine gate_dst (N := 6) rfl ?_); refine new1_ (N := 6) (x := 50) (T := 26) (cA x q) (zs := #[.int .i64 0, .slice none 0 0, .slice none 0 0]) (cA_one _ _) ?_ ?_ ?_ ?_ ?_ ?_ ?_ ?_ ?_ ?_ ?_ ?_ ?_))
   all_goals (first | rfl | decide | (intro _ _; go_simp; done) | kernel_rfl | skip)
   intro g6 W6 hg6 bg6 hb
   simp only [Act.put, List.setIfInBounds_toArray, List.set_cons_zero, List.set_cons_succ]
   clear lb
   have hlt := blk_lt bg6
   have hsz := hb.size
   have w1s : w1.heap.size ≤ Wa.heap.size := H6.out.2.2.2.2.2.2.size
   go_wp2_with fail
   refine weaveBT_ [3, 10] (blk3 x.2.1) 11 13 (by decide) rfl (by decide) [(12, .pointer (some ⟨g6, 1, none⟩))] rfl rfl (fun _ W => Below W6.heap.size W6 W) (drew_below _) [(51, 0), (52, 1), (53, 2), (54, 3), (55, 4), (56, 5), (57, 6), (58, 7), (59, 8), (60, 9), (61, 10), (62, 11), (63, 12)] [fun (v : Value) (_ : World) => ∃ A, v = .slice A 0 0, fun v _ => v = .pointer (some ⟨g3, 1, none⟩), fun v _ => v = .slice q.1.1 x.2.1.length q.1.2, fun (v : Value) (W : World) => (x.2.1 = [] → ∃ A, v = .slice A 0 0) ∧ (x.2.1 ≠ [] → Kd.N k37 37 W W6.heap.size (fun k => k ≠ g6) v x.2.1), fun (v : Value) (W : World) => ∃ qi, v = .slice (some ⟨qi, 0, none⟩) 1 1 ∧ W6.heap.size ≤ qi ∧ Box W qi 3 #[.int .i64 0], fun v _ => v = .pointer (some ⟨g3, 0, none⟩), fun v _ => v = .int .i64 x.1, fun (v : Value) (W : World) => ∃ qi, v = .slice (some ⟨qi, 0, none⟩) 1 1 ∧ W6.heap.size ≤ qi ∧ Box W qi 3 #[.int .i64 x.1], fun v _ => v = .agg #[.int .i64 1, .int .i64 1, .int .i64 0, .int .i64 0, .slice none 0 0], fun (v : Value) (W : World) => ∃ q0 q1 : Nat, v = .agg #[.slice (some ⟨q0, 0, none⟩) 1 1, .slice (some ⟨q1, 0, none⟩) 1 1, .int .i64 1, .int .i64 1, .int .i64 0, .int .i64 0, .slice none 0 0] ∧ W6.heap.size ≤ q0 ∧ Box W q0 3 #[.int .i64 0] ∧ W6.heap.size ≤ q1 ∧ Box W q1 3 #[.int .i64 x.1], fun (v : Value) (W : World) => ∃ qb : Nat, ∃ q0 q1 : Nat, v = .slice (some ⟨qb, 0, none⟩) 1 1 ∧ W6.heap.size ≤ qb ∧ Box W qb 37 #[.slice (some ⟨q0, 0, none⟩) 1 1, .slice (some ⟨q1, 0, none⟩) 1 1, .int .i64 1, .int .i64 1, .int .i64 0, .int .i64 0, .slice none 0 0] ∧ W6.heap.size ≤ q0 ∧ Box W q0 3 #[.int .i64 0] ∧ W6.heap.size ≤ q1 ∧ Box W q1 3 #[.int .i64 x.1]] mixed (by kernel_rfl) ⟨fun _ => Lasts.const _, fun _ => Lasts.const _, fun _ => Lasts.const _, fun _ _ _ hb h => ⟨h.1, fun e => Kd.N_below (h.2 e) hb⟩, fun _ _ _ hb ⟨qi, h1, h2, h3⟩ => ⟨qi, h1, h2, blk_below h3 hb⟩, fun _ => Lasts.const _, fun _ => Lasts.const _, fun _ _ _ hb ⟨qi, h1, h2, h3⟩ => ⟨qi, h1, h2, blk_below h3 hb⟩, fun _ => Lasts.const _, fun _ _ _ hb ⟨q0, q1, h1, a0, b0, a1, b1⟩ => ⟨q0, q1, h1, a0, blk_below b0 hb, a1, blk_below b1 hb⟩, fun _ _ _ hb ⟨qb, q0, q1, h1, h2, h3, a0, b0, a1, b1⟩ => ⟨qb, q0, q1, h1, h2, blk_below h3 hb, a0, blk_below b0 hb, a1, blk_below b1 hb⟩, trivial⟩ (by kernel_rfl) (by kernel_rfl) (by kernel_rfl) ?_ ?_ ?_ (by simp) (fun v W => ∃ (B : Option Addr) (d : Nat), v = .slice B (x.2.1.length + 1) d ∧ Kd.N k37 37 W W6.heap.size (fun k => k ≠ g6) v (x.2.1 ++ [(⟨[0], [x.1], ⟨1, 1, ⟨0, 0⟩, []⟩⟩ : ITr)]) ∧ Below Wa.heap.size Wa W ∧ Box W g6 26 (cA x q) ∧ CVo W (fun k => k < w1.heap.size) x q) (fun _ W => ∃ (B : Option Addr) (d : Nat), Below Wa.heap.size Wa W ∧ Box W g6 26 (cA (x.1, x.2.1 ++ [(⟨[0], [x.1], ⟨1, 1, ⟨0, 0⟩, []⟩⟩ : ITr)], x.2.2) ((B, d), q.2)) ∧ CV W (x.1, x.2.1 ++ [(⟨[0], [x.1], ⟨1, 1, ⟨0, 0⟩, []⟩⟩ : ITr)], x.2.2) ((B, d), q.2)) ?_ ?_ ?_
   ·refine ⟨?_, ?_, ?_, ?_, ?_, ?_, ?_, ?_, ?_, ?_, ?_, ?_, ?_, ?_, trivial⟩
    ·intro _ l vs W hp hl hv b hs
     exact stepLit00 rfl (by go_simp; try rfl) fun A W' hb1 => ⟨hb1, hp.trans (hb1.mono hp.size), ⟨A, rfl⟩, fun h => absurd h (by decide)⟩
    ·intro _ l vs W hp hl hv b hs
     have t3 := (hs.oldtm 3 rfl).trans (show _ = some (Value.pointer (some ⟨g3, 0, none⟩)) from rfl)
     exact stepVal rfl (by go_simp) ⟨Below.refl _ _, hp, rfl, fun h => absurd h (by decide)⟩
    ·intro _ l vs W hp hl hv b hs
     have h1 : vs 1 = .pointer (some ⟨g3, 1, none⟩) := hv 1 (by decide)
     have t1 := (hs.tm 52 1 rfl).trans (congrArg some h1)
     have cm := (Box.cell (blk_below (blk_below H6.out.2.2.2.1 hb) hp) 1 (.slice q.1.1 x.2.1.length q.1.2) rfl).1
     exact stepVal rfl (by go_simp) ⟨Below.refl _ _, hp, rfl, fun h => absurd h (by decide)⟩
    ·intro _ l vs W hp hl hv b hs
     obtain ⟨A0, h0⟩ : (fun (v : Value) (_ : World) => ∃ A, v = .slice A 0 0) (vs 0) W := hv 0 (by decide)
     have h2 : vs 2 = .slice q.1.1 x.2.1.length q.1.2 := hv 2 (by decide)
     have hc := (CVo.below (CVo.below H6.out.2.2.2.2.1 hb) hp)
     exact stepAppE k37 (s := .tmp 51) (x := .tmp 53) (t := 23) (z := .agg zTr) (bytes := 104) (base := W6.heap.size) (ok := (fun k => k ≠ g6)) (okp := fun k => k < w1.heap.size) rfl rfl Tryd.underlying23 info37 rfl (by decide) (by omega) ((hs.ev 51 0 rfl).trans h0) ((hs.ev 53 2 rfl).trans h2) (Kd.V_F hc.t) (fun k hk => by have : k < w1.heap.size := hk; show k ≠ g6; omega) (fun k hk => by have := hp.size; show k ≠ g6; omega) hp.size (by have := HX.out.2.1; omega) (cap5 _ HX.out.2.1) (fun e => ⟨Below.refl _ _, hp, ⟨fun _ => ⟨A0, rfl⟩, fun h => absurd e h⟩, fun _ k hk => by have hk' : blk3 x.2.1 3 (.slice A0 0 0) = some k := hk; rw [blk3_nil e] at hk'; cases hk'⟩) fun hne v W' hN hfr hb1 => ⟨hb1, hp.trans (hb1.mono hp.size), ⟨fun e => absurd e hne, fun _ => hN⟩, fun _ k hk => hfr k ((blk3_ne hne).symm.trans (show blk3 x.2.1 3 v = some k from hk))⟩
    ·intro _ l vs W hp hl hv b hs
     exact stepLit1 (T := 3) (cs := #[.int .i64 0]) rfl (by go_simp; try rfl) fun qi W' e hbx hb1 => ⟨hb1, hp.trans (hb1.mono hp.size), ⟨qi, rfl, by rw [e]; exact hp.size, hbx⟩, fun h => absurd h (by decide)⟩
    ·intro _ l vs W hp hl hv b hs
     have t3 := (hs.oldtm 3 rfl).trans (show _ = some (Value.pointer (some ⟨g3, 0, none⟩)) from rfl)
     exact stepVal rfl (by go_simp) ⟨Below.refl _ _, hp, rfl, fun h => absurd h (by decide)⟩
    ·intro _ l vs W hp hl hv b hs
     have h5 : vs 5 = .pointer (some ⟨g3, 0, none⟩) := hv 5 (by decide)
     have t1 := (hs.tm 56 5 rfl).trans (congrArg some h5)
     have cm := (Box.cell (blk_below (blk_below H6.out.2.2.2.1 hb) hp) 0 (.int .i64 x.1) rfl).1
     exact stepVal rfl (by go_simp) ⟨Below.refl _ _, hp, rfl, fun h => absurd h (by decide)⟩
    ·intro _ l vs W hp hl hv b hs
     have h6 : vs 6 = .int .i64 x.1 := hv 6 (by decide)
     have t1 := (hs.tm 57 6 rfl).trans (congrArg some h6)
     exact stepLit1 (T := 3) (cs := #[.int .i64 x.1]) rfl (by go_simp; try rfl) fun qi W' e hbx hb1 => ⟨hb1, hp.trans (hb1.mono hp.size), ⟨qi, rfl, by rw [e]; exact hp.size, hbx⟩, fun h => absurd h (by decide)⟩
    ·intro _ l vs W hp hl hv b hs
     exact stepGet rfl rfl ((hs.old 4 rfl).trans rfl) (blk_below (blk_below H6.out.2.2.1 hb) hp) Tryd.underlying34 rfl (by kernel_rfl) ⟨Below.refl _ _, hp, rfl, fun h => absurd h (by decide)⟩
    ·intro _ l vs W hp hl hv b hs
     obtain ⟨q0, e0, a0, b0⟩ : (fun (v : Value) (W : World) => ∃ qi, v = .slice (some ⟨qi, 0, none⟩) 1 1 ∧ W6.heap.size ≤ qi ∧ Box W qi 3 #[.int .i64 0]) (vs 4) W := hv 4 (by decide)
     have r0 := (hs.tm 55 4 rfl).trans (congrArg some e0)
     obtain ⟨q1, e1, a1, b1⟩ : (fun (v : Value) (W : World) => ∃ qi, v = .slice (some ⟨qi, 0, none⟩) 1 1 ∧ W6.heap.size ≤ qi ∧ Box W qi 3 #[.int .i64 x.1]) (vs 7) W := hv 7 (by decide)
     have r1 := (hs.tm 58 7 rfl).trans (congrArg some e1)
     have eo : vs 8 = .agg #[.int .i64 1, .int .i64 1, .int .i64 0, .int .i64 0, .slice none 0 0] := hv 8 (by decide)
     have ro := (hs.tm 59 8 rfl).trans (congrArg some eo)
     exact stepVal rfl (by go_simp) ⟨Below.refl _ _, hp, ⟨q0, q1, rfl, a0, b0, a1, b1⟩, fun h => absurd h (by decide)⟩
    ·intro _ l vs W hp hl hv b hs
     obtain ⟨q0, q1, e1, a0, b0, a1, b1⟩ : (fun (v : Value) (W : World) => ∃ q0 q1 : Nat, v = .agg #[.slice (some ⟨q0, 0, none⟩) 1 1, .slice (some ⟨q1, 0, none⟩) 1 1, .int .i64 1, .int .i64 1, .int .i64 0, .int .i64 0, .slice none 0 0] ∧ W6.heap.size ≤ q0 ∧ Box W q0 3 #[.int .i64 0] ∧ W6.heap.size ≤ q1 ∧ Box W q1 3 #[.int .i64 x.1]) (vs 9) W := hv 9 (by decide)
     have r1 := (hs.tm 60 9 rfl).trans (congrArg some e1)
     exact stepLit1 (T := 37) (cs := #[.slice (some ⟨q0, 0, none⟩) 1 1, .slice (some ⟨q1, 0, none⟩) 1 1, .int .i64 1, .int .i64 1, .int .i64 0, .int .i64 0, .slice none 0 0]) rfl (by go_simp; try rfl) fun qb W' e hbx hb => ⟨hb, hp.trans (hb.mono hp.size), ⟨qb, q0, q1, rfl, by rw [e]; exact hp.size, hbx, a0, blk_below b0 hb, a1, blk_below b1 hb⟩, fun _ k hk => by have hk2 : qb = k := (by simpa [Value.ownBlock] using (blk3_other (l := x.2.1) (j := 10) (by decide)).symm.trans (show blk3 x.2.1 10 _ = some k from hk)); omega⟩
    ·intro h
     exact absurd h (by decide)
    ·intro h
     exact absurd h (by decide)
    ·intro h
     exact absurd h (by decide)
   ·intro j hj v W hF k hk
    simp only [List.mem_cons, List.mem_nil_iff, or_false] at hj
    rcases hj with rfl | rfl
    ·have hF' : (fun (v : Value) (W : World) => (x.2.1 = [] → ∃ A, v = .slice A 0 0) ∧ (x.2.1 ≠ [] → Kd.N k37 37 W W6.heap.size (fun k => k ≠ g6) v x.2.1)) v W := hF
     by_cases he : x.2.1 = []
     ·rw [blk3_nil he] at hk; cases hk
     ·rw [blk3_ne he] at hk; exact Kd.N_lt (hF'.2 he) k hk
    ·obtain ⟨qb, q0, q1, rfl, _, hbx, _⟩ : (fun (v : Value) (W : World) => ∃ qb : Nat, ∃ q0 q1 : Nat, v = .slice (some ⟨qb, 0, none⟩) 1 1 ∧ W6.heap.size ≤ qb ∧ Box W qb 37 #[.slice (some ⟨q0, 0, none⟩) 1 1, .slice (some ⟨q1, 0, none⟩) 1 1, .int .i64 1, .int .i64 1, .int .i64 0, .int .i64 0, .slice none 0 0] ∧ W6.heap.size ≤ q0 ∧ Box W q0 3 #[.int .i64 0] ∧ W6.heap.size ≤ q1 ∧ Box W q1 3 #[.int .i64 x.1]) v W := hF
     rw [blk3_other (by decide)] at hk
     injection hk with hk
     exact hk ▸ blk_lt hbx
   ·intro q' hq o ho vs W b hs
    obtain rfl := List.mem_singleton.1 hq
    obtain rfl := Option.some.inj ho
    have t3 := (hs.oldtm 6 rfl).trans (show _ = some (Value.pointer (some ⟨g6, 0, none⟩)) from rfl)
    exact stepVal rfl (by go_simp) ⟨rfl, rfl⟩
   ·intro o ho l vs W hl hp hv hap b hs
    obtain rfl := Option.some.inj ho
    have h3 : (fun (v : Value) (W : World) => (x.2.1 = [] → ∃ A, v = .slice A 0 0) ∧ (x.2.1 ≠ [] → Kd.N k37 37 W W6.heap.size (fun k => k ≠ g6) v x.2.1)) (vs 3) W := hv 3 (by decide)
    obtain ⟨qb, q0, q1, e7, aq, hbx, a0, b0, a1, b1⟩ : (fun (v : Value) (W : World) => ∃ qb : Nat, ∃ q0 q1 : Nat, v = .slice (some ⟨qb, 0, none⟩) 1 1 ∧ W6.heap.size ≤ qb ∧ Box W qb 37 #[.slice (some ⟨q0, 0, none⟩) 1 1, .slice (some ⟨q1, 0, none⟩) 1 1, .int .i64 1, .int .i64 1, .int .i64 0, .int .i64 0, .slice none 0 0] ∧ W6.heap.size ≤ q0 ∧ Box W q0 3 #[.int .i64 0] ∧ W6.heap.size ≤ q1 ∧ Box W q1 3 #[.int .i64 x.1]) (vs 10) W := hv 10 (by decide)
    have hF7 : Kd.F k37 W (fun k => k = qb ∨ k = q1 ∨ k = q0) (some ⟨qb, 0, none⟩) 1 [(⟨[0], [x.1], ⟨1, 1, ⟨0, 0⟩, []⟩⟩ : ITr)] := fun W' hW => C_one ((hW qb (.inl rfl) (blk_lt hbx)).trans hbx) (k37_mk W' (⟨[0], [x.1], ⟨1, 1, ⟨0, 0⟩, []⟩⟩ : ITr) (A0 := some ⟨q0, 0, none⟩) (c0 := 1) (A1 := some ⟨q1, 0, none⟩) (c1 := 1) (A6 := none) (c6 := 0) (Nat.le_refl _) (C_int1 ((hW q0 (.inr (.inr rfl)) (blk_lt b0)).trans b0)) (Nat.le_refl _) (C_int1 ((hW q1 (.inr (.inl rfl)) (blk_lt b1)).trans b1)) (Nat.le_refl _) (Kd.C_nil _ _)) rfl
    have hsz2 := hp.size
    have hfar : ∀ k, (fun k => k = qb ∨ k = q1 ∨ k = q0) k → W6.heap.size ≤ k := fun k hk => by
     rcases hk with rfl | rfl | rfl <;> assumption
    have hcv := (CVo.below (CVo.below H6.out.2.2.2.2.1 hb) hp)
    have hbg := (blk_below bg6 hp)
    have fin : ∀ v W', Kd.N k37 37 W' W6.heap.size (fun k => k ≠ g6) v (x.2.1 ++ [(⟨[0], [x.1], ⟨1, 1, ⟨0, 0⟩, []⟩⟩ : ITr)]) → Below W6.heap.size W W' → (∀ T cs, Box W g6 T cs → Box W' g6 T cs) → (fun v W => ∃ (B : Option Addr) (d : Nat), v = .slice B (x.2.1.length + 1) d ∧ Kd.N k37 37 W W6.heap.size (fun k => k ≠ g6) v (x.2.1 ++ [(⟨[0], [x.1], ⟨1, 1, ⟨0, 0⟩, []⟩⟩ : ITr)]) ∧ Below Wa.heap.size Wa W ∧ Box W g6 26 (cA x q) ∧ CVo W (fun k => k < w1.heap.size) x q) v W' := fun v W' hN hbb hbox => by
     obtain ⟨B, d, rfl⟩ := Kd.N_slice hN
     have e2 : (x.2.1 ++ [(⟨[0], [x.1], ⟨1, 1, ⟨0, 0⟩, []⟩⟩ : ITr)]).length = x.2.1.length + 1 := by simp
     rw [e2] at hN ⊢
     exact ⟨B, d, rfl, hN, (hb.trans (hp.mono hsz)).trans (hbb.mono hsz), hbox _ _ hbg, ⟨Kd.V_step hcv.t fun k hk _ => hbb.block k (by omega), Kd.V_step hcv.a fun k hk _ => hbb.block k (by omega)⟩⟩
    by_cases he : x.2.1 = []
    ·obtain ⟨A3, e3⟩ := h3.1 he
     exact stepAppE k37 (s := .tmp 54) (x := .tmp 61) (t := 23) (z := .agg zTr) (bytes := 104) (base := W6.heap.size) (ok := (fun k => k ≠ g6)) (okp := (fun k => k = qb ∨ k = q1 ∨ k = q0)) rfl rfl Tryd.underlying23 info37 rfl (by decide) (by omega) ((hs.ev 54 3 rfl).trans e3) ((hs.ev 61 10 rfl).trans e7) hF7 (fun k hk => by have := hfar k hk; show k ≠ g6; omega) (fun k hk => by show k ≠ g6; omega) hsz2 (by omega) (cap5 1 (by omega)) (fun h => by cases h) fun _ v W' hN _ hb1 => fin v W' (by rw [he]; exact hN) (hb1.mono hsz2) fun T cs h => blk_below h hb1
    ·have hN3 := h3.2 he
     have hap' : ∀ k, (vs 3).ownBlock = some k → k ≠ qb := fun k hk e => hap 3 (by simp) 10 (by simp) (by decide) k (by rw [blk3_ne he]; exact hk) (by rw [blk3_other (by decide), e7, e]; rfl)
     have hty : ∀ k, (vs 3).ownBlock = some k → k ≠ q1 ∧ k ≠ q0 := fun k hk => by
      obtain ⟨b9, cs9, o1, _, o3, _⟩ := own_size hN3 (List.length_pos_iff.2 he)
      rw [hk] at o1
      injection o1 with o1
      subst o1
      exact ⟨fun e => by rw [e] at o3; exact box_ty o3 b1 (by decide), fun e => by rw [e] at o3; exact box_ty o3 b0 (by decide)⟩
     have hgne : ∀ k, (vs 3).ownBlock = some k → k ≠ g6 := fun k hk => hN3.1 k hk
     intro K Q hK
     refine Kd.N_append_rows_step k37 W6.heap.size rfl (.tmp 54) (.tmp 61) 23 37 (.agg zTr) 104 rfl Tryd.underlying23 info37 rfl (by decide) (by omega) (vs 3) x.2.1 [(⟨[0], [x.1], ⟨1, 1, ⟨0, 0⟩, []⟩⟩ : ITr)] (some ⟨qb, 0, none⟩) 1 1 (fun k => k ≠ g6) (fun k => k = qb ∨ k = q1 ∨ k = q0) (hs.ev 54 3 rfl) ((hs.ev 61 10 rfl).trans e7) hN3 hF7 (fun k hk => ⟨by have := hfar k hk; show k ≠ g6; omega, fun e => by
      have h1 := hap' k e.symm
      have h2 := hty k e.symm
      rcases hk with rfl | rfl | rfl <;> omega⟩) (fun k hk => by show k ≠ g6; omega) (Below.refl W6.heap.size W) hsz2 (by have := HX.out.2.1; omega) ?_
     intro v1 w1' hN hbb hg hat
     exact hK _ _ (fin v1 w1' hN hbb fun T cs h => Box.grown h hg fun e => hgne _ e rfl)
   ·intro o ho vs W ⟨B, d, h8, hN, hbb, hbx, hcv⟩ hq b hs
    obtain rfl := Option.some.inj ho
    have h9 : vs 12 = .pointer (some ⟨g6, 1, none⟩) := hq _ (List.mem_singleton.2 rfl)
    have t8 := (hs.tm 62 11 rfl).trans (congrArg some h8)
    have t9 := (hs.tm 63 12 rfl).trans (congrArg some h9)
    have cm1 := (Box.cell hbx 1 _ rfl).1
    have cm2 := (Box.cell hbx 1 _ rfl).2
    refine stepField (i := 1) (v := .slice B (x.2.1.length + 1) d) rfl rfl hbx (by go_simp) fun W' hb2 hput => ⟨B, d, hput.below hbb hg6, ?_, ⟨?_, Kd.V_mono (Kd.V_step hcv.a fun k hk _ => hput.far k (by omega)) fun _ _ => trivial⟩⟩
    ·have e2 : (x.2.1 ++ [(⟨[0], [x.1], ⟨1, 1, ⟨0, 0⟩, []⟩⟩ : ITr)]).length = x.2.1.length + 1 := by simp
     simp only [cA, e2]
     exact hb2
    ·have e2 : (x.2.1 ++ [(⟨[0], [x.1], ⟨1, 1, ⟨0, 0⟩, []⟩⟩ : ITr)]).length = x.2.1.length + 1 := by simp
     rw [h8] at hN
     simp only [e2]
     exact Kd.V_mono (Kd.V_step (Kd.N_V hN) fun k hk _ => hput.far k hk) fun _ _ => trivial
   ·rintro vs Wb ⟨Bg6, dg6, hbb, bx, hcv⟩
    simp only [List.map_cons, List.map_nil, putL]
    simp only [Act.put, List.setIfInBounds_toArray, List.set_cons_zero, List.set_cons_succ]
    obtain ⟨xb, hxxb⟩ : ∃ z : Chv, z = (x.1, x.2.1 ++ [(⟨[0], [x.1], ⟨1, 1, ⟨0, 0⟩, []⟩⟩ : ITr)], x.2.2) := ⟨_, rfl⟩
    rw [← hxxb] at bx hcv
    have Bxb := Aside0.mk (show chE xb = false by rw [hxxb]; exact bent_b x)
    clear hxxb hg6 bg6 hb hlt hsz w1s
    have H7 := Aside0.mk (show CV Wb xb ((Bg6, dg6), q.2) ∧ Box Wb g6 26 (cA xb ((Bg6, dg6), q.2)) ∧ CV Wb xa ((Bg5, dg5), q.2) ∧ Box Wb g5 26 (cA xa ((Bg5, dg5), q.2)) ∧ Box Wb g4 34 #[.int .i64 1, .int .i64 1, .int .i64 0, .int .i64 0, .slice none 0 0] ∧ Box Wb g3 26 (cA x q) ∧ CVo Wb (fun k => k < w1.heap.size) x q ∧ Below w.heap.size w Wb ∧ Below w1.heap.size w1 Wb from ⟨hcv, bx, (CV.last _ _) _ _ hbb H6.out.1, blk_below H6.out.2.1 hbb, blk_below H6.out.2.2.1 hbb, blk_below H6.out.2.2.2.1 hbb, (CVo.last _ _ _) _ _ hbb H6.out.2.2.2.2.1, Below.trans H6.out.2.2.2.2.2.1 (hbb.mono H6.out.2.2.2.2.2.1.size), Below.trans H6.out.2.2.2.2.2.2 (hbb.mono H6.out.2.2.2.2.2.2.size)⟩)
    clear H6 hbb hcv bx
    have w1s : w1.heap.size ≤ Wb.heap.size := H7.out.2.2.2.2.2.2.2.2.size
    have lb := H7.out.2.2.2.2.2.1
    go_wp2_with (first | ((with_reducible refine gate_dst (N := 64) rfl ?_); refine getC_ rfl rfl rfl rfl lb ?_) | ((with_reducible refine gate_dst (N := 7) rfl ?_); refine new1_ (N := 7) (x := 64) (T := 26) (cA x q) (zs := #[.int .i64 0, .slice none 0 0, .slice none 0 0]) (cA_one _ _) ?_ ?_ ?_ ?_ ?_ ?_ ?_ ?_ ?_ ?_ ?_ ?_ ?_))
    all_goals (first | rfl | decide | (intro _ _; go_simp; done) | kernel_rfl | skip)
    intro g7 W7 hg7 bg7 hb
    simp only [Act.put, List.setIfInBounds_toArray, List.set_cons_zero, List.set_cons_succ]
    clear lb
    have hlt := blk_lt bg7
    have hsz := hb.size
    go_upto_region 13 with (first
     | ((with_reducible refine gate_dst (N := 65) rfl ?_); refine Kd.N_lit k39 _ 39 rfl (N' := 65) rfl (xs := ([] : List IAc)) (inner := []) (ok := fun k => k ≠ g7) (okp := fun k => k ≠ g7) (by first | (go_simp; done) | (go_simp; rfl)) (Reps.none _ _) (fun _ hk => hk) (Nat.ne_of_gt hlt) (Below.refl W7.heap.size W7) (Nat.le_refl _) (by simp) ?_; intro v1 wa ho1 hb1 hg1 hn1; have lc := (Box.cell (cs := cA x q) (blk_below (blk_below H7.out.2.2.2.2.2.1 hb) hb1) 2 (.slice q.2.1 x.2.2.length q.2.2) rfl).1; clear hg1 hn1)
     | ((with_reducible refine gate_builtin (b := .append) (xs := #[.tmp 65, .tmp 67]) rfl ?_); at_builtin; have hs1 := hb1.size; refine Kd.N_append_rows k39 (w0 := W7) W7.heap.size rfl (.tmp 65) (.tmp 67) 24 39 (.agg #[.int .i64 0, .int .i64 0, .int .i64 0, .int .i64 0]) 32 rfl Tryd.underlying24 info39 rfl (by decide) (by omega) v1 [] x.2.2 q.2.1 x.2.2.length q.2.2 (fun k => k ≠ g7) (fun k => k < w1.heap.size) rfl rfl ho1 (Kd.V_F (CVo.below (CVo.below H7.out.2.2.2.2.2.2.1 hb) (hb1.mono (Nat.le_refl _))).a) (fun k hk => ⟨by have : k < w1.heap.size := hk; show k ≠ g7; omega, fun e => by have := Kd.N_base ho1 k e.symm; have : k < w1.heap.size := hk; omega⟩) (fun k hk => by show k ≠ g7; omega) hb1 hs1 (by have := HX.out.2.2.2; simp; omega) ?_; intro v2 wb ho2 hb2 hg2 hat2; clear hg2 hat2 lc hs1)
     | ((with_reducible refine gate_builtin (b := .append) (xs := #[.tmp 68, .tmp 71]) rfl ?_); at_builtin; have hs2 := hb2.size; refine Kd.N_append k39 (w0 := W7) W7.heap.size rfl (.tmp 68) (.tmp 71) 24 39 (.agg #[.int .i64 0, .int .i64 0, .int .i64 0, .int .i64 0]) 32 rfl Tryd.underlying24 info39 rfl (by decide) (by omega) v2 ([] ++ x.2.2) (⟨2, 0, ⟨3, 0⟩⟩ : IAc) [.int .i64 2, .int .i64 0, .int .i64 3, .int .i64 0] (fun k => k ≠ g7) (fun _ => False) rfl rfl (k39_mkF _ _ (⟨2, 0, ⟨3, 0⟩⟩ : IAc)) (fun _ hk => hk.elim) (fun k hk => by show k ≠ g7; omega) ho2 hb2 hs2 (by have := HX.out.2.2.2; simp; omega) ?_; intro v3 wc ho3 hb3 hg3' hat3; clear hg3' hat3 hs2; obtain ⟨A3, c3, rfl⟩ := Kd.N_slice ho3; have lc := Box.cell (cs := cA x q) (blk_below bg7 hb3) 2 (.slice q.2.1 x.2.2.length q.2.2) rfl; obtain ⟨lc1, lc2⟩ := lc)
     | ((with_reducible refine gate_store (t := 24) (p := 73) rfl ?_); refine setF_ (T := 24) (q := 73) (g := g7) (i := 2) (v := .slice A3 ([] ++ x.2.2 ++ [(⟨2, 0, ⟨3, 0⟩⟩ : IAc)]).length c3) rfl rfl rfl (blk_below bg7 hb3) (by first | (go_simp; done) | (go_simp; rfl)) ?_; intro W9 b4 hp4))
    obtain ⟨xd, hxd⟩ : ∃ z : Chv, z = (x.1, x.2.1, x.2.2 ++ [(⟨2, 0, ⟨3, 0⟩⟩ : IAc)]) := ⟨_, rfl⟩
    have hcx := CVo.below (CVo.below H7.out.2.2.2.2.2.2.1 hb) hb3
    have b4' : Box W9 g7 26 (cA xd (q.1, (A3, c3))) := by rw [hxd]; exact b4
    have t4 : CV W9 xd (q.1, (A3, c3)) := by rw [hxd]; exact ⟨Kd.V_mono (Kd.V_step hcx.t fun k hk _ => hp4.far k (by have : k < w1.heap.size := hk; omega)) fun _ _ => trivial, Kd.V_mono (Kd.V_step (Kd.N_V (base' := 0) ho3) fun k hk _ => hp4.far k hk) fun _ _ => trivial⟩
    have hbb := hp4.below (hb.trans (hb3.mono hsz)) hg7
    have Bxd := Aside0.mk (show chE xd = false by rw [hxd]; exact bent_d x)
    clear hxd b4 ho1 ho2 ho3 hb1 hb2 hb3 lc1 lc2 hp4 bg7 hlt hsz hb hcx w1s
    have H8 := Aside0.mk (show CV W9 xd (q.1, (A3, c3)) ∧ Box W9 g7 26 (cA xd (q.1, (A3, c3))) ∧ CV W9 xb ((Bg6, dg6), q.2) ∧ Box W9 g6 26 (cA xb ((Bg6, dg6), q.2)) ∧ CV W9 xa ((Bg5, dg5), q.2) ∧ Box W9 g5 26 (cA xa ((Bg5, dg5), q.2)) ∧ Box W9 g4 34 #[.int .i64 1, .int .i64 1, .int .i64 0, .int .i64 0, .slice none 0 0] ∧ Box W9 g3 26 (cA x q) ∧ CVo W9 (fun k => k < w1.heap.size) x q ∧ Below w.heap.size w W9 ∧ Below w1.heap.size w1 W9 from ⟨t4, b4', (CV.last _ _) _ _ hbb H7.out.1, blk_below H7.out.2.1 hbb, (CV.last _ _) _ _ hbb H7.out.2.2.1, blk_below H7.out.2.2.2.1 hbb, blk_below H7.out.2.2.2.2.1 hbb, blk_below H7.out.2.2.2.2.2.1 hbb, (CVo.last _ _ _) _ _ hbb H7.out.2.2.2.2.2.2.1, Below.trans H7.out.2.2.2.2.2.2.2.1 (hbb.mono H7.out.2.2.2.2.2.2.2.1.size), Below.trans H7.out.2.2.2.2.2.2.2.2 (hbb.mono H7.out.2.2.2.2.2.2.2.2.size)⟩)
    clear H7 hbb t4 b4' hg7
    have lb := H8.out.2.2.2.2.2.2.2.1
    go_wp2_with (first | ((with_reducible refine gate_dst (N := 74) rfl ?_); refine getC_ rfl rfl rfl rfl lb ?_) | ((with_reducible refine gate_dst (N := 8) rfl ?_); refine new1_ (N := 8) (x := 74) (T := 26) (cA x q) (zs := #[.int .i64 0, .slice none 0 0, .slice none 0 0]) (cA_one _ _) ?_ ?_ ?_ ?_ ?_ ?_ ?_ ?_ ?_ ?_ ?_ ?_ ?_))
    all_goals (first | rfl | decide | (intro _ _; go_simp; done) | kernel_rfl | skip)
    intro g8 W8 hg8 bg8 hb
    simp only [Act.put, List.setIfInBounds_toArray, List.set_cons_zero, List.set_cons_succ]
    clear lb
    have lc := Box.cell (cs := cA x q) bg8 0 (.int .i64 x.1) rfl
    obtain ⟨lc1, lc2⟩ := lc
    go_upto_region 15 with ((with_reducible refine gate_store (t := 3) (p := 75) rfl ?_); refine setF_ (T := 3) (q := 75) (g := g8) (i := 0) (v := .int .i64 0) rfl rfl rfl bg8 (by first | (go_simp; done) | (go_simp; rfl)) ?_; intro Wf b' hp')
    obtain ⟨xe, hxe⟩ : ∃ z : Chv, z = (0, x.2.1, x.2.2) := ⟨_, rfl⟩
    have b4' : Box Wf g8 26 (cA xe q) := by rw [hxe]; exact b'
    have hbb := hp'.below hb hg8
    have hcx := CVo.below H8.out.2.2.2.2.2.2.2.2.1 hbb
    have t4 : CV Wf xe q := by rw [hxe]; exact ⟨Kd.V_mono hcx.t fun _ _ => trivial, Kd.V_mono hcx.a fun _ _ => trivial⟩
    have Bxe := Aside0.mk (show chE xe = false by rw [hxe]; exact bent_e x)
    clear hxe b' hp' lc1 lc2 bg8 hb hcx
    have H9 := Aside0.mk (show CV Wf xe q ∧ Box Wf g8 26 (cA xe q) ∧ CV Wf xd (q.1, (A3, c3)) ∧ Box Wf g7 26 (cA xd (q.1, (A3, c3))) ∧ CV Wf xb ((Bg6, dg6), q.2) ∧ Box Wf g6 26 (cA xb ((Bg6, dg6), q.2)) ∧ CV Wf xa ((Bg5, dg5), q.2) ∧ Box Wf g5 26 (cA xa ((Bg5, dg5), q.2)) ∧ Box Wf g4 34 #[.int .i64 1, .int .i64 1, .int .i64 0, .int .i64 0, .slice none 0 0] ∧ Box Wf g3 26 (cA x q) ∧ CVo Wf (fun k => k < w1.heap.size) x q ∧ Below w.heap.size w Wf ∧ Below w1.heap.size w1 Wf from ⟨t4, b4', (CV.last _ _) _ _ hbb H8.out.1, blk_below H8.out.2.1 hbb, (CV.last _ _) _ _ hbb H8.out.2.2.1, blk_below H8.out.2.2.2.1 hbb, (CV.last _ _) _ _ hbb H8.out.2.2.2.2.1, blk_below H8.out.2.2.2.2.2.1 hbb, blk_below H8.out.2.2.2.2.2.2.1 hbb, blk_below H8.out.2.2.2.2.2.2.2.1 hbb, (CVo.last _ _ _) _ _ hbb H8.out.2.2.2.2.2.2.2.2.1, Below.trans H8.out.2.2.2.2.2.2.2.2.2.1 (hbb.mono H8.out.2.2.2.2.2.2.2.2.2.1.size), Below.trans H8.out.2.2.2.2.2.2.2.2.2.2 (hbb.mono H8.out.2.2.2.2.2.2.2.2.2.2.size)⟩)
    clear H8 hbb t4 b4' hg8
    have lb0 := H9.out.2.2.2.2.2.2.2.1
    go_wp2_with (first | ((with_reducible refine gate_dst (N := 76) rfl ?_); refine getC_ rfl rfl rfl rfl lb0 ?_))
    clear lb0
    refine (chOkI_any xa ((Bg5, dg5), q.2) Wf H9.out.2.2.2.2.2.2.1).mono ?_
    rw [Bxa.out]
    rintro e u1 ⟨rfl, hb⟩
    have H10 := Aside0.mk (show CV u1 xe q ∧ Box u1 g8 26 (cA xe q) ∧ CV u1 xd (q.1, (A3, c3)) ∧ Box u1 g7 26 (cA xd (q.1, (A3, c3))) ∧ CV u1 xb ((Bg6, dg6), q.2) ∧ Box u1 g6 26 (cA xb ((Bg6, dg6), q.2)) ∧ CV u1 xa ((Bg5, dg5), q.2) ∧ Box u1 g5 26 (cA xa ((Bg5, dg5), q.2)) ∧ Box u1 g4 34 #[.int .i64 1, .int .i64 1, .int .i64 0, .int .i64 0, .slice none 0 0] ∧ Box u1 g3 26 (cA x q) ∧ CVo u1 (fun k => k < w1.heap.size) x q ∧ Below w.heap.size w u1 ∧ Below w1.heap.size w1 u1 from ⟨(CV.last _ _) _ _ hb H9.out.1, blk_below H9.out.2.1 hb, (CV.last _ _) _ _ hb H9.out.2.2.1, blk_below H9.out.2.2.2.1 hb, (CV.last _ _) _ _ hb H9.out.2.2.2.2.1, blk_below H9.out.2.2.2.2.2.1 hb, (CV.last _ _) _ _ hb H9.out.2.2.2.2.2.2.1, blk_below H9.out.2.2.2.2.2.2.2.1 hb, blk_below H9.out.2.2.2.2.2.2.2.2.1 hb, blk_below H9.out.2.2.2.2.2.2.2.2.2.1 hb, (CVo.last _ _ _) _ _ hb H9.out.2.2.2.2.2.2.2.2.2.2.1, Below.trans H9.out.2.2.2.2.2.2.2.2.2.2.2.1 (hb.mono H9.out.2.2.2.2.2.2.2.2.2.2.2.1.size), Below.trans H9.out.2.2.2.2.2.2.2.2.2.2.2.2 (hb.mono H9.out.2.2.2.2.2.2.2.2.2.2.2.2.size)⟩)
    clear H9 hb
    have lb0 := H10.out.2.2.2.2.2.1
    go_wp2_with (first | ((with_reducible refine gate_dst (N := 80) rfl ?_); refine gate_guard rfl ?_; refine getC_ rfl rfl rfl rfl lb0 ?_))
    clear lb0
    refine (chOkI_any xb ((Bg6, dg6), q.2) u1 H10.out.2.2.2.2.1).mono ?_
    rw [Bxb.out]
    rintro e u2 ⟨rfl, hb⟩
    have H11 := Aside0.mk (show CV u2 xe q ∧ Box u2 g8 26 (cA xe q) ∧ CV u2 xd (q.1, (A3, c3)) ∧ Box u2 g7 26 (cA xd (q.1, (A3, c3))) ∧ CV u2 xb ((Bg6, dg6), q.2) ∧ Box u2 g6 26 (cA xb ((Bg6, dg6), q.2)) ∧ CV u2 xa ((Bg5, dg5), q.2) ∧ Box u2 g5 26 (cA xa ((Bg5, dg5), q.2)) ∧ Box u2 g4 34 #[.int .i64 1, .int .i64 1, .int .i64 0, .int .i64 0, .slice none 0 0] ∧ Box u2 g3 26 (cA x q) ∧ CVo u2 (fun k => k < w1.heap.size) x q ∧ Below w.heap.size w u2 ∧ Below w1.heap.size w1 u2 from ⟨(CV.last _ _) _ _ hb H10.out.1, blk_below H10.out.2.1 hb, (CV.last _ _) _ _ hb H10.out.2.2.1, blk_below H10.out.2.2.2.1 hb, (CV.last _ _) _ _ hb H10.out.2.2.2.2.1, blk_below H10.out.2.2.2.2.2.1 hb, (CV.last _ _) _ _ hb H10.out.2.2.2.2.2.2.1, blk_below H10.out.2.2.2.2.2.2.2.1 hb, blk_below H10.out.2.2.2.2.2.2.2.2.1 hb, blk_below H10.out.2.2.2.2.2.2.2.2.2.1 hb, (CVo.last _ _ _) _ _ hb H10.out.2.2.2.2.2.2.2.2.2.2.1, Below.trans H10.out.2.2.2.2.2.2.2.2.2.2.2.1 (hb.mono H10.out.2.2.2.2.2.2.2.2.2.2.2.1.size), Below.trans H10.out.2.2.2.2.2.2.2.2.2.2.2.2 (hb.mono H10.out.2.2.2.2.2.2.2.2.2.2.2.2.size)⟩)
    clear H10 hb
    have lb0 := H11.out.2.2.2.1
    go_wp2_with (first | ((with_reducible refine gate_dst (N := 85) rfl ?_); refine gate_guard rfl ?_; refine getC_ rfl rfl rfl rfl lb0 ?_))
    clear lb0
    refine (chOkI_any xd (q.1, (A3, c3)) u2 H11.out.2.2.1).mono ?_
    rw [Bxd.out]
    rintro e u3 ⟨rfl, hb⟩
    have H12 := Aside0.mk (show CV u3 xe q ∧ Box u3 g8 26 (cA xe q) ∧ CV u3 xd (q.1, (A3, c3)) ∧ Box u3 g7 26 (cA xd (q.1, (A3, c3))) ∧ CV u3 xb ((Bg6, dg6), q.2) ∧ Box u3 g6 26 (cA xb ((Bg6, dg6), q.2)) ∧ CV u3 xa ((Bg5, dg5), q.2) ∧ Box u3 g5 26 (cA xa ((Bg5, dg5), q.2)) ∧ Box u3 g4 34 #[.int .i64 1, .int .i64 1, .int .i64 0, .int .i64 0, .slice none 0 0] ∧ Box u3 g3 26 (cA x q) ∧ CVo u3 (fun k => k < w1.heap.size) x q ∧ Below w.heap.size w u3 ∧ Below w1.heap.size w1 u3 from ⟨(CV.last _ _) _ _ hb H11.out.1, blk_below H11.out.2.1 hb, (CV.last _ _) _ _ hb H11.out.2.2.1, blk_below H11.out.2.2.2.1 hb, (CV.last _ _) _ _ hb H11.out.2.2.2.2.1, blk_below H11.out.2.2.2.2.2.1 hb, (CV.last _ _) _ _ hb H11.out.2.2.2.2.2.2.1, blk_below H11.out.2.2.2.2.2.2.2.1 hb, blk_below H11.out.2.2.2.2.2.2.2.2.1 hb, blk_below H11.out.2.2.2.2.2.2.2.2.2.1 hb, (CVo.last _ _ _) _ _ hb H11.out.2.2.2.2.2.2.2.2.2.2.1, Below.trans H11.out.2.2.2.2.2.2.2.2.2.2.2.1 (hb.mono H11.out.2.2.2.2.2.2.2.2.2.2.2.1.size), Below.trans H11.out.2.2.2.2.2.2.2.2.2.2.2.2 (hb.mono H11.out.2.2.2.2.2.2.2.2.2.2.2.2.size)⟩)
    clear H11 hb
    have lb0 := H12.out.2.1
    go_wp2_with (first | ((with_reducible refine gate_dst (N := 90) rfl ?_); refine gate_guard rfl ?_; refine getC_ rfl rfl rfl rfl lb0 ?_))
    clear lb0
    refine (chOkI_any xe q u3 H12.out.1).mono ?_
    rw [Bxe.out]
    rintro e u4 ⟨rfl, hb⟩
    have H13 := Aside0.mk (show CV u4 xe q ∧ Box u4 g8 26 (cA xe q) ∧ CV u4 xd (q.1, (A3, c3)) ∧ Box u4 g7 26 (cA xd (q.1, (A3, c3))) ∧ CV u4 xb ((Bg6, dg6), q.2) ∧ Box u4 g6 26 (cA xb ((Bg6, dg6), q.2)) ∧ CV u4 xa ((Bg5, dg5), q.2) ∧ Box u4 g5 26 (cA xa ((Bg5, dg5), q.2)) ∧ Box u4 g4 34 #[.int .i64 1, .int .i64 1, .int .i64 0, .int .i64 0, .slice none 0 0] ∧ Box u4 g3 26 (cA x q) ∧ CVo u4 (fun k => k < w1.heap.size) x q ∧ Below w.heap.size w u4 ∧ Below w1.heap.size w1 u4 from ⟨(CV.last _ _) _ _ hb H12.out.1, blk_below H12.out.2.1 hb, (CV.last _ _) _ _ hb H12.out.2.2.1, blk_below H12.out.2.2.2.1 hb, (CV.last _ _) _ _ hb H12.out.2.2.2.2.1, blk_below H12.out.2.2.2.2.2.1 hb, (CV.last _ _) _ _ hb H12.out.2.2.2.2.2.2.1, blk_below H12.out.2.2.2.2.2.2.2.1 hb, blk_below H12.out.2.2.2.2.2.2.2.2.1 hb, blk_below H12.out.2.2.2.2.2.2.2.2.2.1 hb, (CVo.last _ _ _) _ _ hb H12.out.2.2.2.2.2.2.2.2.2.2.1, Below.trans H12.out.2.2.2.2.2.2.2.2.2.2.2.1 (hb.mono H12.out.2.2.2.2.2.2.2.2.2.2.2.1.size), Below.trans H12.out.2.2.2.2.2.2.2.2.2.2.2.2 (hb.mono H12.out.2.2.2.2.2.2.2.2.2.2.2.2.size)⟩)
    clear H12 hb
    have lb0 := H13.out.2.2.2.2.2.2.2.1
    go_wp2_with (first | ((with_reducible refine gate_dst (N := 95) rfl ?_); refine gate_guard rfl ?_; refine getC_ rfl rfl rfl rfl lb0 ?_))
    clear lb0
    refine (chNewI_any xa ((Bg5, dg5), q.2) u4 H13.out.2.2.2.2.2.2.1).mono ?_
    rw [newM_no Bxa.out]
    rintro e u5 ⟨p5, rfl, _, hb⟩
    simp only [kA]
    have H14 := Aside0.mk (show CV u5 xe q ∧ Box u5 g8 26 (cA xe q) ∧ CV u5 xd (q.1, (A3, c3)) ∧ Box u5 g7 26 (cA xd (q.1, (A3, c3))) ∧ CV u5 xb ((Bg6, dg6), q.2) ∧ Box u5 g6 26 (cA xb ((Bg6, dg6), q.2)) ∧ CV u5 xa ((Bg5, dg5), q.2) ∧ Box u5 g5 26 (cA xa ((Bg5, dg5), q.2)) ∧ Box u5 g4 34 #[.int .i64 1, .int .i64 1, .int .i64 0, .int .i64 0, .slice none 0 0] ∧ Box u5 g3 26 (cA x q) ∧ CVo u5 (fun k => k < w1.heap.size) x q ∧ Below w.heap.size w u5 ∧ Below w1.heap.size w1 u5 from ⟨(CV.last _ _) _ _ hb H13.out.1, blk_below H13.out.2.1 hb, (CV.last _ _) _ _ hb H13.out.2.2.1, blk_below H13.out.2.2.2.1 hb, (CV.last _ _) _ _ hb H13.out.2.2.2.2.1, blk_below H13.out.2.2.2.2.2.1 hb, (CV.last _ _) _ _ hb H13.out.2.2.2.2.2.2.1, blk_below H13.out.2.2.2.2.2.2.2.1 hb, blk_below H13.out.2.2.2.2.2.2.2.2.1 hb, blk_below H13.out.2.2.2.2.2.2.2.2.2.1 hb, (CVo.last _ _ _) _ _ hb H13.out.2.2.2.2.2.2.2.2.2.2.1, Below.trans H13.out.2.2.2.2.2.2.2.2.2.2.2.1 (hb.mono H13.out.2.2.2.2.2.2.2.2.2.2.2.1.size), Below.trans H13.out.2.2.2.2.2.2.2.2.2.2.2.2 (hb.mono H13.out.2.2.2.2.2.2.2.2.2.2.2.2.size)⟩)
    clear H13 hb
    have hfd : ∀ (a b : Value) (W : World), (Instr.field 42 (.agg #[a, b]) 0).run Tryd.prog W = .ok a W := fun _ _ _ => by kernel_rfl
    go_wp2
    go_ret
    exact ⟨rfl, H14.out.2.2.2.2.2.2.2.2.2.2.2.1⟩
end Go.Proofs.YtfmipdhkiahjoaaDoor.B
