/- The law FnExprBent, walked by hand. -/
import Derived.Test.YtiofkhfmdophpaaValBent
namespace Go.Proofs.Ytiofkhfmdophpaa.B
open Go Go.RowKit Go.Proofs.YtiofkhfmdophpaaW.PrintWords Go.Proofs.YtiofkhfmdophpaaW.PrintLast Go.Proofs.YtiofkhfmdophpaaW.PrintMore
set_option linter.unusedVariables false
set_option maxRecDepth 100000 in
set_option maxHeartbeats 4000000 in
theorem law_Bent (l0 : List Int) (hw0 : ∀ x ∈ l0, (Lit.int .u8 x).wf = true) (A0 : Option Addr) (c0 : Nat) (w : World) (r0 : Kd.C (Kd.int .u8) w A0 l0.length l0) (h0 : l0.length ≤ c0) :
  Calls Try.prog 14 #[.slice A0 l0.length c0] w fun e w' => e = .returned (.bool true) ∧ Below w.heap.size w w' := by
 obtain ⟨x, hx, hx3, hd0⟩ := drawOk_any l0 hw0
 have D0 := Aside0.mk (hd0 A0 c0 w r0 h0)
 have HX := Aside0.mk hx
 clear hd0 r0 h0 hx hw0
 by_cases hlen : (1048576 : Int) < (l0.length : Int)
 ·go_enter Try.func14, Try.ntmps14
  go_wp2
  go_ret
  exact ⟨rfl, Below.refl _ _⟩
 go_enter Try.func14, Try.ntmps14
 go_wp2_with fail
 refine D0.out.mono ?_
 clear D0
 rintro e w1 ⟨B, d, rfl, hT, hb⟩
 have H1 := Aside0.mk (show TV w1 x B d ∧ Below w.heap.size w w1 from ⟨hT, hb⟩)
 clear hT hb
 go_wp2_with ((with_reducible refine gate_dst (N := 3) rfl ?_); refine new1_ (N := 3) (x := 12) (T := 32) (eA x B d) (zs := #[.int .i64 0, .int .i64 0, .int .i64 0, .int .i64 0, .slice none 0 0]) (eA_one _ _ _) ?_ ?_ ?_ ?_ ?_ ?_ ?_ ?_ ?_ ?_ ?_ ?_ ?_)
 all_goals (first | rfl | decide | (intro _ _; go_simp; done) | kernel_rfl | skip)
 intro g3 W1 hg3 bg3 hb
 simp only [Act.put, List.setIfInBounds_toArray, List.set_cons_zero, List.set_cons_succ]
 clear hg3
 have H2 := Aside0.mk (show Box W1 g3 32 (eA x B d) ∧ TV W1 x B d ∧ Below w.heap.size w W1 from ⟨bg3, TV.last _ _ _ _ _ hb H1.out.1, Below.trans H1.out.2 (hb.mono H1.out.2.size)⟩)
 clear H1 bg3 hb
 go_wp2_with fail
 obtain ⟨b, hb1⟩ : ∃ b, b = okE x := ⟨_, rfl⟩
 have B1 := Aside0.mk hb1
 clear hb1
 cases b
 ·skip
  refine weaveB_ (fun W => Below W1.heap.size W1 W) (Lasts.below W1) (Below.refl _ _) [(13, 0), (14, 1), (15, 2), (16, 3), (17, 4), (18, 5), (19, 6), (20, 7), (21, 8), (22, 9)] [fun v _ => v = .agg (eA x B d), fun v _ => v = .bool false, fun v _ => v = .agg (eA x B d), fun v _ => v = .bool false, fun v _ => v = .bool false, fun v _ => v = .bool false, fun v _ => v = .agg (eA x B d), fun v _ => v = .bool false, fun v _ => v = .bool true, fun v _ => v = .bool true] rfl (by kernel_rfl) ⟨fun _ => Lasts.const _, fun _ => Lasts.const _, fun _ => Lasts.const _, fun _ => Lasts.const _, fun _ => Lasts.const _, fun _ => Lasts.const _, fun _ => Lasts.const _, fun _ => Lasts.const _, fun _ => Lasts.const _, fun _ => Lasts.const _, trivial⟩ ?_ ?_
  ·refine ⟨?_, ?_, ?_, ?_, ?_, ?_, ?_, ?_, ?_, ?_, trivial⟩
   ·intro vs W hp hv b hs
    exact stepGet rfl rfl ((hs.old 3 rfl).trans rfl) (blk_below H2.out.1 hp) Try.underlying32 rfl (by kernel_rfl) ⟨Below.refl _ _, rfl⟩
   ·intro vs W hp hv b hs
    have h0 : vs 0 = .agg (eA x B d) := hv 0 (by decide)
    have t13 := (hs.tm 13 0 rfl).trans (congrArg some h0)
    refine stepCall rfl Try.func18 (by kernel_rfl) rfl #[vs 0] rfl (by simp [Act.eval, hs.tm 13 0 rfl]) (by rw [h0]; exact implOk_any x B d W (TV.last _ _ _ _ _ hp H2.out.2.1)) ?_
    rintro e W' ⟨rfl, hb'⟩
    exact ⟨_, rfl, hb', congrArg Value.bool B1.out.symm⟩
   ·intro vs W hp hv b hs
    exact stepGet rfl rfl ((hs.old 3 rfl).trans rfl) (blk_below H2.out.1 hp) Try.underlying32 rfl (by kernel_rfl) ⟨Below.refl _ _, rfl⟩
   ·intro vs W hp hv b hs
    have h2 : vs 2 = .agg (eA x B d) := hv 2 (by decide)
    have t15 := (hs.tm 15 2 rfl).trans (congrArg some h2)
    refine stepCall rfl Try.func16 (by kernel_rfl) rfl #[vs 2] rfl (by simp [Act.eval, hs.tm 15 2 rfl]) (by rw [h2]; exact specOk_any x HX.out B d W (TV.last _ _ _ _ _ hp H2.out.2.1)) ?_
    rintro e W' ⟨rfl, hb'⟩
    exact ⟨_, rfl, hb', congrArg Value.bool B1.out.symm⟩
   ·intro vs W hp hv b hs
    have h1 : vs 1 = .bool false := hv 1 (by decide)
    have t14 := (hs.tm 14 1 rfl).trans (congrArg some h1)
    have h3 : vs 3 = .bool false := hv 3 (by decide)
    have t16 := (hs.tm 16 3 rfl).trans (congrArg some h3)
    exact stepVal rfl (by go_simp) ⟨Below.refl _ _, rfl⟩
   ·intro vs W hp hv b hs
    have h4 : vs 4 = .bool false := hv 4 (by decide)
    have t17 := (hs.tm 17 4 rfl).trans (congrArg some h4)
    exact stepVal rfl (by go_simp) ⟨Below.refl _ _, rfl⟩
   ·intro vs W hp hv b hs
    have h5 : vs 5 = .bool false := hv 5 (by decide)
    exact stepGet (wanted_on rfl rfl ((hs.tm 18 5 rfl).trans (congrArg some h5))) rfl ((hs.old 3 rfl).trans rfl) (blk_below H2.out.1 hp) Try.underlying32 rfl (by kernel_rfl) ⟨Below.refl _ _, rfl⟩
   ·intro vs W hp hv b hs
    have h5 : vs 5 = .bool false := hv 5 (by decide)
    have h6 : vs 6 = .agg (eA x B d) := hv 6 (by decide)
    have t19 := (hs.tm 19 6 rfl).trans (congrArg some h6)
    refine stepCall (wanted_on rfl rfl ((hs.tm 18 5 rfl).trans (congrArg some h5))) Try.func16 (by kernel_rfl) rfl #[vs 6] rfl (by simp [Act.eval, hs.tm 19 6 rfl]) (by rw [h6]; exact specOk_any x HX.out B d W (TV.last _ _ _ _ _ hp H2.out.2.1)) ?_
    rintro e W' ⟨rfl, hb'⟩
    exact ⟨_, rfl, hb', congrArg Value.bool B1.out.symm⟩
   ·intro vs W hp hv b hs
    have h5 : vs 5 = .bool false := hv 5 (by decide)
    have h7 : vs 7 = .bool false := hv 7 (by decide)
    have t20 := (hs.tm 20 7 rfl).trans (congrArg some h7)
    exact stepVal (wanted_on rfl rfl ((hs.tm 18 5 rfl).trans (congrArg some h5))) (by go_simp) ⟨Below.refl _ _, rfl⟩
   ·intro vs W hp hv b hs
    have h5 : vs 5 = .bool false := hv 5 (by decide)
    have t18 := (hs.tm 18 5 rfl).trans (congrArg some h5)
    have h8 : vs 8 = .bool true := hv 8 (by decide)
    have t21 := (hs.tm 21 8 rfl).trans (congrArg some h8)
    exact stepVal rfl (by go_simp) ⟨Below.refl _ _, rfl⟩
  intro vs WA hb hv
  have h9 : vs 9 = .bool true := hv 9 (by decide)
  simp only [List.map_cons, List.map_nil, putL, Act.put, List.setIfInBounds_toArray, List.set_cons_zero, List.set_cons_succ, h9]
  clear hv h9
  have H3 := Aside0.mk (show Box WA g3 32 (eA x B d) ∧ TV WA x B d ∧ Below w.heap.size w WA from ⟨blk_below H2.out.1 hb, TV.last _ _ _ _ _ hb H2.out.2.1, Below.trans H2.out.2.2 (hb.mono H2.out.2.2.size)⟩)
  clear H2 hb
  go_wp2_with fail
  refine weaveB_ (fun W => Below WA.heap.size WA W) (Lasts.below WA) (Below.refl _ _) [(23, 0), (24, 1), (25, 2), (26, 3), (27, 4), (2, 5)] [fun v _ => v = .agg (eA x B d), fun v _ => v = .bool false, fun v _ => v = .agg (eA x B d), fun v _ => v = .bool false, fun v _ => v = .bool true, fun v _ => v = .bool true] rfl (by kernel_rfl) ⟨fun _ => Lasts.const _, fun _ => Lasts.const _, fun _ => Lasts.const _, fun _ => Lasts.const _, fun _ => Lasts.const _, fun _ => Lasts.const _, trivial⟩ ?_ ?_
  ·refine ⟨?_, ?_, ?_, ?_, ?_, ?_, trivial⟩
   ·intro vs W hp hv b hs
    exact stepGet rfl rfl ((hs.old 3 rfl).trans rfl) (blk_below H3.out.1 hp) Try.underlying32 rfl (by kernel_rfl) ⟨Below.refl _ _, rfl⟩
   ·intro vs W hp hv b hs
    have h0 : vs 0 = .agg (eA x B d) := hv 0 (by decide)
    have t23 := (hs.tm 23 0 rfl).trans (congrArg some h0)
    refine stepCall rfl Try.func18 (by kernel_rfl) rfl #[vs 0] rfl (by simp [Act.eval, hs.tm 23 0 rfl]) (by rw [h0]; exact implOk_any x B d W (TV.last _ _ _ _ _ hp H3.out.2.1)) ?_
    rintro e W' ⟨rfl, hb'⟩
    exact ⟨_, rfl, hb', congrArg Value.bool B1.out.symm⟩
   ·intro vs W hp hv b hs
    exact stepGet rfl rfl ((hs.old 3 rfl).trans rfl) (blk_below H3.out.1 hp) Try.underlying32 rfl (by kernel_rfl) ⟨Below.refl _ _, rfl⟩
   ·intro vs W hp hv b hs
    have h2 : vs 2 = .agg (eA x B d) := hv 2 (by decide)
    have t25 := (hs.tm 25 2 rfl).trans (congrArg some h2)
    refine stepCall rfl Try.func16 (by kernel_rfl) rfl #[vs 2] rfl (by simp [Act.eval, hs.tm 25 2 rfl]) (by rw [h2]; exact specOk_any x HX.out B d W (TV.last _ _ _ _ _ hp H3.out.2.1)) ?_
    rintro e W' ⟨rfl, hb'⟩
    exact ⟨_, rfl, hb', congrArg Value.bool B1.out.symm⟩
   ·intro vs W hp hv b hs
    have h1 : vs 1 = .bool false := hv 1 (by decide)
    have t24 := (hs.tm 24 1 rfl).trans (congrArg some h1)
    have h3 : vs 3 = .bool false := hv 3 (by decide)
    have t26 := (hs.tm 26 3 rfl).trans (congrArg some h3)
    exact stepVal rfl (by go_simp) ⟨Below.refl _ _, rfl⟩
   ·intro vs W hp hv b hs
    have h4 : vs 4 = .bool true := hv 4 (by decide)
    have t27 := (hs.tm 27 4 rfl).trans (congrArg some h4)
    exact stepVal rfl (by go_simp) ⟨Below.refl _ _, rfl⟩
  intro vs WB hb hv
  have h5 : vs 5 = .bool true := hv 5 (by decide)
  simp only [List.map_cons, List.map_nil, putL, Act.put, List.setIfInBounds_toArray, List.set_cons_zero, List.set_cons_succ, h5]
  have HB := Aside0.mk (Below.trans H3.out.2.2 (hb.mono (Below.size H3.out.2.2)))
  clear hv h5 hb
  go_wp2
  go_ret
  exact ⟨rfl, HB.out⟩
 ·skip
  refine weaveB_ (fun W => Below W1.heap.size W1 W) (Lasts.below W1) (Below.refl _ _) [(13, 0), (14, 1), (15, 2), (16, 3), (17, 4), (18, 5), (19, 6), (20, 7), (21, 8), (22, 9)] [fun v _ => v = .agg (eA x B d), fun v _ => v = .bool true, fun v _ => v = .agg (eA x B d), fun v _ => v = .bool true, fun v _ => v = .bool false, fun v _ => v = .bool false, fun v _ => v = .agg (eA x B d), fun v _ => v = .bool true, fun v _ => v = .bool false, fun v _ => v = .bool false] rfl (by kernel_rfl) ⟨fun _ => Lasts.const _, fun _ => Lasts.const _, fun _ => Lasts.const _, fun _ => Lasts.const _, fun _ => Lasts.const _, fun _ => Lasts.const _, fun _ => Lasts.const _, fun _ => Lasts.const _, fun _ => Lasts.const _, fun _ => Lasts.const _, trivial⟩ ?_ ?_
  ·refine ⟨?_, ?_, ?_, ?_, ?_, ?_, ?_, ?_, ?_, ?_, trivial⟩
   ·intro vs W hp hv b hs
    exact stepGet rfl rfl ((hs.old 3 rfl).trans rfl) (blk_below H2.out.1 hp) Try.underlying32 rfl (by kernel_rfl) ⟨Below.refl _ _, rfl⟩
   ·intro vs W hp hv b hs
    have h0 : vs 0 = .agg (eA x B d) := hv 0 (by decide)
    have t13 := (hs.tm 13 0 rfl).trans (congrArg some h0)
    refine stepCall rfl Try.func18 (by kernel_rfl) rfl #[vs 0] rfl (by simp [Act.eval, hs.tm 13 0 rfl]) (by rw [h0]; exact implOk_any x B d W (TV.last _ _ _ _ _ hp H2.out.2.1)) ?_
    rintro e W' ⟨rfl, hb'⟩
    exact ⟨_, rfl, hb', congrArg Value.bool B1.out.symm⟩
   ·intro vs W hp hv b hs
    exact stepGet rfl rfl ((hs.old 3 rfl).trans rfl) (blk_below H2.out.1 hp) Try.underlying32 rfl (by kernel_rfl) ⟨Below.refl _ _, rfl⟩
   ·intro vs W hp hv b hs
    have h2 : vs 2 = .agg (eA x B d) := hv 2 (by decide)
    have t15 := (hs.tm 15 2 rfl).trans (congrArg some h2)
    refine stepCall rfl Try.func16 (by kernel_rfl) rfl #[vs 2] rfl (by simp [Act.eval, hs.tm 15 2 rfl]) (by rw [h2]; exact specOk_any x HX.out B d W (TV.last _ _ _ _ _ hp H2.out.2.1)) ?_
    rintro e W' ⟨rfl, hb'⟩
    exact ⟨_, rfl, hb', congrArg Value.bool B1.out.symm⟩
   ·intro vs W hp hv b hs
    have h1 : vs 1 = .bool true := hv 1 (by decide)
    have t14 := (hs.tm 14 1 rfl).trans (congrArg some h1)
    have h3 : vs 3 = .bool true := hv 3 (by decide)
    have t16 := (hs.tm 16 3 rfl).trans (congrArg some h3)
    exact stepVal rfl (by go_simp) ⟨Below.refl _ _, rfl⟩
   ·intro vs W hp hv b hs
    have h4 : vs 4 = .bool false := hv 4 (by decide)
    have t17 := (hs.tm 17 4 rfl).trans (congrArg some h4)
    exact stepVal rfl (by go_simp) ⟨Below.refl _ _, rfl⟩
   ·intro vs W hp hv b hs
    have h5 : vs 5 = .bool false := hv 5 (by decide)
    exact stepGet (wanted_on rfl rfl ((hs.tm 18 5 rfl).trans (congrArg some h5))) rfl ((hs.old 3 rfl).trans rfl) (blk_below H2.out.1 hp) Try.underlying32 rfl (by kernel_rfl) ⟨Below.refl _ _, rfl⟩
   ·intro vs W hp hv b hs
    have h5 : vs 5 = .bool false := hv 5 (by decide)
    have h6 : vs 6 = .agg (eA x B d) := hv 6 (by decide)
    have t19 := (hs.tm 19 6 rfl).trans (congrArg some h6)
    refine stepCall (wanted_on rfl rfl ((hs.tm 18 5 rfl).trans (congrArg some h5))) Try.func16 (by kernel_rfl) rfl #[vs 6] rfl (by simp [Act.eval, hs.tm 19 6 rfl]) (by rw [h6]; exact specOk_any x HX.out B d W (TV.last _ _ _ _ _ hp H2.out.2.1)) ?_
    rintro e W' ⟨rfl, hb'⟩
    exact ⟨_, rfl, hb', congrArg Value.bool B1.out.symm⟩
   ·intro vs W hp hv b hs
    have h5 : vs 5 = .bool false := hv 5 (by decide)
    have h7 : vs 7 = .bool true := hv 7 (by decide)
    have t20 := (hs.tm 20 7 rfl).trans (congrArg some h7)
    exact stepVal (wanted_on rfl rfl ((hs.tm 18 5 rfl).trans (congrArg some h5))) (by go_simp) ⟨Below.refl _ _, rfl⟩
   ·intro vs W hp hv b hs
    have h5 : vs 5 = .bool false := hv 5 (by decide)
    have t18 := (hs.tm 18 5 rfl).trans (congrArg some h5)
    have h8 : vs 8 = .bool false := hv 8 (by decide)
    have t21 := (hs.tm 21 8 rfl).trans (congrArg some h8)
    exact stepVal rfl (by go_simp) ⟨Below.refl _ _, rfl⟩
  intro vs WA hb hv
  have h9 : vs 9 = .bool false := hv 9 (by decide)
  simp only [List.map_cons, List.map_nil, putL, Act.put, List.setIfInBounds_toArray, List.set_cons_zero, List.set_cons_succ, h9]
  clear hv h9
  have H4 := Aside0.mk (show Box WA g3 32 (eA x B d) ∧ TV WA x B d ∧ Below w.heap.size w WA from ⟨blk_below H2.out.1 hb, TV.last _ _ _ _ _ hb H2.out.2.1, Below.trans H2.out.2.2 (hb.mono H2.out.2.2.size)⟩)
  clear H2 hb
  have lb := H4.out.1
  go_wp2_with (first | ((with_reducible refine gate_dst (N := 28) rfl ?_); refine getE_ rfl rfl rfl rfl lb ?_) | ((with_reducible refine gate_dst (N := 4) rfl ?_); refine new1_ (N := 4) (x := 28) (T := 32) (eA x B d) (zs := #[.int .i64 0, .int .i64 0, .int .i64 0, .int .i64 0, .slice none 0 0]) (eA_one _ _ _) ?_ ?_ ?_ ?_ ?_ ?_ ?_ ?_ ?_ ?_ ?_ ?_ ?_))
  all_goals (first | rfl | decide | (intro _ _; go_simp; done) | kernel_rfl | skip)
  intro g4 W2 hg4 bg4 hb
  simp only [Act.put, List.setIfInBounds_toArray, List.set_cons_zero, List.set_cons_succ]
  clear lb
  have hlt := blk_lt bg4
  have hsz := hb.size
  have hv0 := hlt
  go_upto_region 8 with (first
   | ((with_reducible refine gate_dst (N := 29) rfl ?_); refine Kd.N_lit k32 _ 32 rfl (N' := 29) rfl (xs := ([] : List Ex)) (inner := []) (ok := fun k => k ≠ g4) (okp := fun k => k ≠ g4) (by first | (go_simp; done) | (go_simp; rfl)) (Reps.none _ _) (fun _ hk => hk) (Nat.ne_of_gt hlt) (Below.refl W2.heap.size W2) (Nat.le_refl _) (by simp) ?_; intro v1 wa ho1 hb1 hg1 hn1; have lc := (Box.cell (cs := eA x B d) (blk_below (blk_below H4.out.1 hb) hb1) 4 _ rfl).1; clear hg1 hn1)
   | ((with_reducible refine gate_builtin (b := .append) (xs := #[.tmp 29, .tmp 31]) rfl ?_); at_builtin; have hs1 := hb1.size; refine Kd.N_append_rows k32 (w0 := W2) W2.heap.size rfl (.tmp 29) (.tmp 31) 30 32 (.agg #[.int .i64 0, .int .i64 0, .int .i64 0, .int .i64 0, .slice none 0 0]) 56 rfl Try.underlying30 info32 rfl (by decide) (by omega) v1 [] x.f3 B x.f3.length d (fun k => k ≠ g4) (fun k => k < WA.heap.size) rfl rfl ho1 (Kd.V_F (Kd.V_mono (Kd.V_old (H4.out.2.1).v (hb.trans (hb1.mono hsz))) (fun k hk => hk.2))) (fun k hk => ⟨Nat.ne_of_lt (Nat.lt_of_lt_of_le hk hg4), fun e => Nat.lt_irrefl _ (Nat.lt_of_lt_of_le hk (Nat.le_trans hsz (Kd.N_base ho1 k e.symm)))⟩) (fun k hk => Nat.ne_of_gt (Nat.lt_of_lt_of_le hlt (Nat.le_trans hs1 hk))) hb1 hs1 (by simp; omega) ?_; intro v2 wb ho2 hb2 hg2 hat2; clear hg2 hat2 lc hs1)
   | ((with_reducible refine gate_builtin (b := .append) (xs := #[.tmp 32, .tmp 34]) rfl ?_); at_builtin; have hs2 := hb2.size; refine Kd.N_append k32 (w0 := W2) W2.heap.size rfl (.tmp 32) (.tmp 34) 30 32 (.agg #[.int .i64 0, .int .i64 0, .int .i64 0, .int .i64 0, .slice none 0 0]) 56 rfl Try.underlying30 info32 rfl (by decide) (by omega) v2 ([] ++ x.f3) (⟨1, 0, ⟨0, 0⟩, []⟩ : Ex) [.int .i64 1, .int .i64 0, .int .i64 0, .int .i64 0, .slice none 0 0] (fun k => k ≠ g4) (fun _ => False) rfl rfl (k32_mkF _ _ (⟨1, 0, ⟨0, 0⟩, []⟩ : Ex) (Nat.le_refl _) (Kd.F_nil _ _ _)) (fun _ hk => hk.elim) (fun k hk => Nat.ne_of_gt (Nat.lt_of_lt_of_le hlt (Nat.le_trans hs2 hk))) ho2 hb2 hs2 (by simp; omega) ?_; intro v3 wc ho3 hb3 hg3' hat3; clear hg3' hat3 hs2; obtain ⟨A3, c3, rfl⟩ := Kd.N_slice ho3; have lc := Box.cell (cs := eA x B d) (blk_below bg4 hb3) 4 _ rfl; obtain ⟨lc1, lc2⟩ := lc)
   | ((with_reducible refine gate_store (t := 30) (p := 36) rfl ?_); refine setF_ (T := 30) (q := 36) (g := g4) (i := 4) (v := .slice A3 ([] ++ x.f3 ++ [(⟨1, 0, ⟨0, 0⟩, []⟩ : Ex)]).length c3) rfl rfl rfl (blk_below bg4 hb3) (by first | (go_simp; done) | (go_simp; rfl)) ?_; intro W3 b4 hp4))
  obtain ⟨x4, hx4⟩ : ∃ z : Ex, z = ⟨x.f0, x.f1, ⟨x.f2.f0, x.f2.f1⟩, [] ++ x.f3 ++ [(⟨1, 0, ⟨0, 0⟩, []⟩ : Ex)]⟩ := ⟨_, rfl⟩
  have b4' : Box W3 g4 32 (eA x4 A3 c3) := by rw [hx4]; exact b4
  have t4 : TV W3 x4 A3 c3 := by rw [hx4]; exact ⟨Kd.V_mono (Kd.V_step (Kd.N_V (base' := 0) ho3) (fun j hj _ => hp4.far j hj)) (fun _ _ => trivial)⟩
  have hbb := hp4.below (hb.trans (hb3.mono hsz)) hg4
  have B4 := Aside0.mk (show okE x4 = false by rw [hx4]; exact bent_kids B1.out.symm _)
  clear hx4 b4 ho1 ho2 ho3 hb1 hb2 hb3 lc1 lc2 hp4 bg4 hlt hsz hv0 hb
  have H5 := Aside0.mk (show TV W3 x4 A3 c3 ∧ Box W3 g4 32 (eA x4 A3 c3) ∧ Box W3 g3 32 (eA x B d) ∧ TV W3 x B d ∧ Below w.heap.size w W3 from ⟨t4, b4', blk_below H4.out.1 hbb, TV.last _ _ _ _ _ hbb H4.out.2.1, Below.trans H4.out.2.2 (hbb.mono H4.out.2.2.size)⟩)
  clear H4 hbb t4 b4' hg4
  have lb := H5.out.2.2.1
  go_wp2_with (first | ((with_reducible refine gate_dst (N := 37) rfl ?_); refine getE_ rfl rfl rfl rfl lb ?_) | ((with_reducible refine gate_dst (N := 5) rfl ?_); refine new1_ (N := 5) (x := 37) (T := 32) (eA x B d) (zs := #[.int .i64 0, .int .i64 0, .int .i64 0, .int .i64 0, .slice none 0 0]) (eA_one _ _ _) ?_ ?_ ?_ ?_ ?_ ?_ ?_ ?_ ?_ ?_ ?_ ?_ ?_))
  all_goals (first | rfl | decide | (intro _ _; go_simp; done) | kernel_rfl | skip)
  intro g5 Wg5 hg5 bg5 hb
  simp only [Act.put, List.setIfInBounds_toArray, List.set_cons_zero, List.set_cons_succ]
  clear lb
  have lc := Box.cell (cs := eA x B d) bg5 0 _ rfl
  obtain ⟨lc1, lc2⟩ := lc
  go_upto_region 10 with ((with_reducible refine gate_store (t := 3) (p := 38) rfl ?_); refine setF_ (T := 3) (q := 38) (g := g5) (i := 0) (v := .int .i64 11) rfl rfl rfl bg5 (by first | (go_simp; done) | (go_simp; rfl)) ?_; intro W5 b' hp')
  obtain ⟨x5, hx4⟩ : ∃ z : Ex, z = ⟨11, x.f1, ⟨x.f2.f0, x.f2.f1⟩, x.f3⟩ := ⟨_, rfl⟩
  have b4' : Box W5 g5 32 (eA x5 B d) := by rw [hx4]; exact b'
  have hbb := hp'.below hb hg5
  have t4 : TV W5 x5 B d := by rw [hx4]; exact ⟨(TV.last _ _ _ _ _ hbb H5.out.2.2.2.1).v⟩
  have B5 := Aside0.mk (show okE x5 = false by rw [hx4]; exact bent_kind _ _ _ _)
  clear hx4 b' hp' lc1 lc2 bg5 hb
  have H6 := Aside0.mk (show TV W5 x5 B d ∧ Box W5 g5 32 (eA x5 B d) ∧ TV W5 x4 A3 c3 ∧ Box W5 g4 32 (eA x4 A3 c3) ∧ Box W5 g3 32 (eA x B d) ∧ TV W5 x B d ∧ Below w.heap.size w W5 from ⟨t4, b4', TV.last _ _ _ _ _ hbb H5.out.1, blk_below H5.out.2.1 hbb, blk_below H5.out.2.2.1 hbb, TV.last _ _ _ _ _ hbb H5.out.2.2.2.1, Below.trans H5.out.2.2.2.2 (hbb.mono H5.out.2.2.2.2.size)⟩)
  clear H5 hbb t4 b4' hg5
  have lb := H6.out.2.2.2.2.1
  go_wp2_with (first | ((with_reducible refine gate_dst (N := 39) rfl ?_); refine getE_ rfl rfl rfl rfl lb ?_) | ((with_reducible refine gate_dst (N := 6) rfl ?_); refine new1_ (N := 6) (x := 39) (T := 32) (eA x B d) (zs := #[.int .i64 0, .int .i64 0, .int .i64 0, .int .i64 0, .slice none 0 0]) (eA_one _ _ _) ?_ ?_ ?_ ?_ ?_ ?_ ?_ ?_ ?_ ?_ ?_ ?_ ?_))
  all_goals (first | rfl | decide | (intro _ _; go_simp; done) | kernel_rfl | skip)
  intro g6 Wg6 hg6 bg6 hb
  simp only [Act.put, List.setIfInBounds_toArray, List.set_cons_zero, List.set_cons_succ]
  clear lb
  have lc := Box.cell (cs := eA x B d) bg6 1 _ rfl
  obtain ⟨lc1, lc2⟩ := lc
  go_upto_region 12 with ((with_reducible refine gate_store (t := 3) (p := 40) rfl ?_); refine setF_ (T := 3) (q := 40) (g := g6) (i := 1) (v := .int .i64 1000001) rfl rfl rfl bg6 (by first | (go_simp; done) | (go_simp; rfl)) ?_; intro W6 b' hp')
  obtain ⟨x6, hx4⟩ : ∃ z : Ex, z = ⟨x.f0, 1000001, ⟨x.f2.f0, x.f2.f1⟩, x.f3⟩ := ⟨_, rfl⟩
  have b4' : Box W6 g6 32 (eA x6 B d) := by rw [hx4]; exact b'
  have hbb := hp'.below hb hg6
  have t4 : TV W6 x6 B d := by rw [hx4]; exact ⟨(TV.last _ _ _ _ _ hbb H6.out.2.2.2.2.2.1).v⟩
  have B6 := Aside0.mk (show okE x6 = false by rw [hx4]; exact bent_num _ _ _ _)
  clear hx4 b' hp' lc1 lc2 bg6 hb
  have H7 := Aside0.mk (show TV W6 x6 B d ∧ Box W6 g6 32 (eA x6 B d) ∧ TV W6 x5 B d ∧ Box W6 g5 32 (eA x5 B d) ∧ TV W6 x4 A3 c3 ∧ Box W6 g4 32 (eA x4 A3 c3) ∧ Box W6 g3 32 (eA x B d) ∧ TV W6 x B d ∧ Below w.heap.size w W6 from ⟨t4, b4', TV.last _ _ _ _ _ hbb H6.out.1, blk_below H6.out.2.1 hbb, TV.last _ _ _ _ _ hbb H6.out.2.2.1, blk_below H6.out.2.2.2.1 hbb, blk_below H6.out.2.2.2.2.1 hbb, TV.last _ _ _ _ _ hbb H6.out.2.2.2.2.2.1, Below.trans H6.out.2.2.2.2.2.2 (hbb.mono H6.out.2.2.2.2.2.2.size)⟩)
  clear H6 hbb t4 b4' hg6
  have lb := H7.out.2.2.2.2.2.2.1
  go_wp2_with (first | ((with_reducible refine gate_dst (N := 41) rfl ?_); refine getE_ rfl rfl rfl rfl lb ?_) | ((with_reducible refine gate_dst (N := 7) rfl ?_); refine new1_ (N := 7) (x := 41) (T := 32) (eA x B d) (zs := #[.int .i64 0, .int .i64 0, .int .i64 0, .int .i64 0, .slice none 0 0]) (eA_one _ _ _) ?_ ?_ ?_ ?_ ?_ ?_ ?_ ?_ ?_ ?_ ?_ ?_ ?_))
  all_goals (first | rfl | decide | (intro _ _; go_simp; done) | kernel_rfl | skip)
  intro g7 Wg7 hg7 bg7 hb
  simp only [Act.put, List.setIfInBounds_toArray, List.set_cons_zero, List.set_cons_succ]
  clear lb
  have lc := Box.cell (cs := eA x B d) bg7 2 _ rfl
  obtain ⟨lc1, lc2⟩ := lc
  have ld := Box.cell (cs := eA x B d) bg7 3 _ rfl
  obtain ⟨ld1, ld2⟩ := ld
  go_upto_region 14 with ((with_reducible refine gate_store (t := 29) (p := 43) rfl ?_); refine setF2_ (T := 29) (q := 43) (g := g7) (i := 2) (v := .int .i64 9) (u := .int .i64 1) rfl rfl rfl bg7 (by first | (go_simp; done) | (go_simp; rfl)) ?_; intro W7 b' hp')
  obtain ⟨x7, hx4⟩ : ∃ z : Ex, z = ⟨x.f0, x.f1, ⟨9, 1⟩, x.f3⟩ := ⟨_, rfl⟩
  have b4' : Box W7 g7 32 (eA x7 B d) := by rw [hx4]; exact b'
  have hbb := hp'.below hb hg7
  have t4 : TV W7 x7 B d := by rw [hx4]; exact ⟨(TV.last _ _ _ _ _ hbb H7.out.2.2.2.2.2.2.2.1).v⟩
  have B7 := Aside0.mk (show okE x7 = false by rw [hx4]; exact bent_addr _ _ _)
  clear hx4 b' hp' lc1 lc2 ld1 ld2 bg7 hb
  have H8 := Aside0.mk (show TV W7 x7 B d ∧ Box W7 g7 32 (eA x7 B d) ∧ TV W7 x6 B d ∧ Box W7 g6 32 (eA x6 B d) ∧ TV W7 x5 B d ∧ Box W7 g5 32 (eA x5 B d) ∧ TV W7 x4 A3 c3 ∧ Box W7 g4 32 (eA x4 A3 c3) ∧ Box W7 g3 32 (eA x B d) ∧ TV W7 x B d ∧ Below w.heap.size w W7 from ⟨t4, b4', TV.last _ _ _ _ _ hbb H7.out.1, blk_below H7.out.2.1 hbb, TV.last _ _ _ _ _ hbb H7.out.2.2.1, blk_below H7.out.2.2.2.1 hbb, TV.last _ _ _ _ _ hbb H7.out.2.2.2.2.1, blk_below H7.out.2.2.2.2.2.1 hbb, blk_below H7.out.2.2.2.2.2.2.1 hbb, TV.last _ _ _ _ _ hbb H7.out.2.2.2.2.2.2.2.1, Below.trans H7.out.2.2.2.2.2.2.2.2 (hbb.mono H7.out.2.2.2.2.2.2.2.2.size)⟩)
  clear H7 hbb t4 b4' hg7
  have lb0 := H8.out.2.2.2.2.2.2.2.1
  go_wp2_with (first | ((with_reducible refine gate_dst (N := 44) rfl ?_); refine getE_ rfl rfl rfl rfl lb0 ?_))
  clear lb0
  refine (implOk_any x4 A3 c3 W7 H8.out.2.2.2.2.2.2.1).mono ?_
  rw [B4.out]
  rintro e u1 ⟨rfl, hb⟩
  have H9 := Aside0.mk (show TV u1 x7 B d ∧ Box u1 g7 32 (eA x7 B d) ∧ TV u1 x6 B d ∧ Box u1 g6 32 (eA x6 B d) ∧ TV u1 x5 B d ∧ Box u1 g5 32 (eA x5 B d) ∧ TV u1 x4 A3 c3 ∧ Box u1 g4 32 (eA x4 A3 c3) ∧ Box u1 g3 32 (eA x B d) ∧ TV u1 x B d ∧ Below w.heap.size w u1 from ⟨TV.last _ _ _ _ _ hb H8.out.1, blk_below H8.out.2.1 hb, TV.last _ _ _ _ _ hb H8.out.2.2.1, blk_below H8.out.2.2.2.1 hb, TV.last _ _ _ _ _ hb H8.out.2.2.2.2.1, blk_below H8.out.2.2.2.2.2.1 hb, TV.last _ _ _ _ _ hb H8.out.2.2.2.2.2.2.1, blk_below H8.out.2.2.2.2.2.2.2.1 hb, blk_below H8.out.2.2.2.2.2.2.2.2.1 hb, TV.last _ _ _ _ _ hb H8.out.2.2.2.2.2.2.2.2.2.1, Below.trans H8.out.2.2.2.2.2.2.2.2.2.2 (hb.mono H8.out.2.2.2.2.2.2.2.2.2.2.size)⟩)
  clear H8 hb
  have lb0 := H9.out.2.2.2.2.2.1
  go_wp2_with (first | ((with_reducible refine gate_dst (N := 48) rfl ?_); refine gate_guard rfl ?_; refine getE_ rfl rfl rfl rfl lb0 ?_))
  clear lb0
  refine (implOk_any x5 B d u1 H9.out.2.2.2.2.1).mono ?_
  rw [B5.out]
  rintro e u2 ⟨rfl, hb⟩
  have H10 := Aside0.mk (show TV u2 x7 B d ∧ Box u2 g7 32 (eA x7 B d) ∧ TV u2 x6 B d ∧ Box u2 g6 32 (eA x6 B d) ∧ TV u2 x5 B d ∧ Box u2 g5 32 (eA x5 B d) ∧ TV u2 x4 A3 c3 ∧ Box u2 g4 32 (eA x4 A3 c3) ∧ Box u2 g3 32 (eA x B d) ∧ TV u2 x B d ∧ Below w.heap.size w u2 from ⟨TV.last _ _ _ _ _ hb H9.out.1, blk_below H9.out.2.1 hb, TV.last _ _ _ _ _ hb H9.out.2.2.1, blk_below H9.out.2.2.2.1 hb, TV.last _ _ _ _ _ hb H9.out.2.2.2.2.1, blk_below H9.out.2.2.2.2.2.1 hb, TV.last _ _ _ _ _ hb H9.out.2.2.2.2.2.2.1, blk_below H9.out.2.2.2.2.2.2.2.1 hb, blk_below H9.out.2.2.2.2.2.2.2.2.1 hb, TV.last _ _ _ _ _ hb H9.out.2.2.2.2.2.2.2.2.2.1, Below.trans H9.out.2.2.2.2.2.2.2.2.2.2 (hb.mono H9.out.2.2.2.2.2.2.2.2.2.2.size)⟩)
  clear H9 hb
  have lb0 := H10.out.2.2.2.1
  go_wp2_with (first | ((with_reducible refine gate_dst (N := 53) rfl ?_); refine gate_guard rfl ?_; refine getE_ rfl rfl rfl rfl lb0 ?_))
  clear lb0
  refine (implOk_any x6 B d u2 H10.out.2.2.1).mono ?_
  rw [B6.out]
  rintro e u3 ⟨rfl, hb⟩
  have H11 := Aside0.mk (show TV u3 x7 B d ∧ Box u3 g7 32 (eA x7 B d) ∧ TV u3 x6 B d ∧ Box u3 g6 32 (eA x6 B d) ∧ TV u3 x5 B d ∧ Box u3 g5 32 (eA x5 B d) ∧ TV u3 x4 A3 c3 ∧ Box u3 g4 32 (eA x4 A3 c3) ∧ Box u3 g3 32 (eA x B d) ∧ TV u3 x B d ∧ Below w.heap.size w u3 from ⟨TV.last _ _ _ _ _ hb H10.out.1, blk_below H10.out.2.1 hb, TV.last _ _ _ _ _ hb H10.out.2.2.1, blk_below H10.out.2.2.2.1 hb, TV.last _ _ _ _ _ hb H10.out.2.2.2.2.1, blk_below H10.out.2.2.2.2.2.1 hb, TV.last _ _ _ _ _ hb H10.out.2.2.2.2.2.2.1, blk_below H10.out.2.2.2.2.2.2.2.1 hb, blk_below H10.out.2.2.2.2.2.2.2.2.1 hb, TV.last _ _ _ _ _ hb H10.out.2.2.2.2.2.2.2.2.2.1, Below.trans H10.out.2.2.2.2.2.2.2.2.2.2 (hb.mono H10.out.2.2.2.2.2.2.2.2.2.2.size)⟩)
  clear H10 hb
  have lb0 := H11.out.2.1
  go_wp2_with (first | ((with_reducible refine gate_dst (N := 58) rfl ?_); refine gate_guard rfl ?_; refine getE_ rfl rfl rfl rfl lb0 ?_))
  clear lb0
  refine (implOk_any x7 B d u3 H11.out.1).mono ?_
  rw [B7.out]
  rintro e u4 ⟨rfl, hb⟩
  have H12 := Aside0.mk (show TV u4 x7 B d ∧ Box u4 g7 32 (eA x7 B d) ∧ TV u4 x6 B d ∧ Box u4 g6 32 (eA x6 B d) ∧ TV u4 x5 B d ∧ Box u4 g5 32 (eA x5 B d) ∧ TV u4 x4 A3 c3 ∧ Box u4 g4 32 (eA x4 A3 c3) ∧ Box u4 g3 32 (eA x B d) ∧ TV u4 x B d ∧ Below w.heap.size w u4 from ⟨TV.last _ _ _ _ _ hb H11.out.1, blk_below H11.out.2.1 hb, TV.last _ _ _ _ _ hb H11.out.2.2.1, blk_below H11.out.2.2.2.1 hb, TV.last _ _ _ _ _ hb H11.out.2.2.2.2.1, blk_below H11.out.2.2.2.2.2.1 hb, TV.last _ _ _ _ _ hb H11.out.2.2.2.2.2.2.1, blk_below H11.out.2.2.2.2.2.2.2.1 hb, blk_below H11.out.2.2.2.2.2.2.2.2.1 hb, TV.last _ _ _ _ _ hb H11.out.2.2.2.2.2.2.2.2.2.1, Below.trans H11.out.2.2.2.2.2.2.2.2.2.2 (hb.mono H11.out.2.2.2.2.2.2.2.2.2.2.size)⟩)
  clear H11 hb
  have lb0 := H12.out.2.2.2.2.2.2.2.1
  go_wp2_with (first | ((with_reducible refine gate_dst (N := 63) rfl ?_); refine gate_guard rfl ?_; refine getE_ rfl rfl rfl rfl lb0 ?_))
  clear lb0
  refine (textNo_any x4 B4.out A3 c3 u4 H12.out.2.2.2.2.2.2.1).mono ?_
  rintro e u5 ⟨rfl, hb⟩
  have H13 := Aside0.mk (show TV u5 x7 B d ∧ Box u5 g7 32 (eA x7 B d) ∧ TV u5 x6 B d ∧ Box u5 g6 32 (eA x6 B d) ∧ TV u5 x5 B d ∧ Box u5 g5 32 (eA x5 B d) ∧ TV u5 x4 A3 c3 ∧ Box u5 g4 32 (eA x4 A3 c3) ∧ Box u5 g3 32 (eA x B d) ∧ TV u5 x B d ∧ Below w.heap.size w u5 from ⟨TV.last _ _ _ _ _ hb H12.out.1, blk_below H12.out.2.1 hb, TV.last _ _ _ _ _ hb H12.out.2.2.1, blk_below H12.out.2.2.2.1 hb, TV.last _ _ _ _ _ hb H12.out.2.2.2.2.1, blk_below H12.out.2.2.2.2.2.1 hb, TV.last _ _ _ _ _ hb H12.out.2.2.2.2.2.2.1, blk_below H12.out.2.2.2.2.2.2.2.1 hb, blk_below H12.out.2.2.2.2.2.2.2.2.1 hb, TV.last _ _ _ _ _ hb H12.out.2.2.2.2.2.2.2.2.2.1, Below.trans H12.out.2.2.2.2.2.2.2.2.2.2 (hb.mono H12.out.2.2.2.2.2.2.2.2.2.2.size)⟩)
  clear H12 hb
  have lb0 := H13.out.2.2.2.2.2.1
  go_wp2_with (first | ((with_reducible refine gate_dst (N := 68) rfl ?_); refine gate_guard rfl ?_; refine getE_ rfl rfl rfl rfl lb0 ?_))
  clear lb0
  refine (manyNo_any x5 B5.out B d u5 H13.out.2.2.2.2.1).mono ?_
  rintro e u6 ⟨rfl, hb⟩
  have H14 := Aside0.mk (show TV u6 x7 B d ∧ Box u6 g7 32 (eA x7 B d) ∧ TV u6 x6 B d ∧ Box u6 g6 32 (eA x6 B d) ∧ TV u6 x5 B d ∧ Box u6 g5 32 (eA x5 B d) ∧ TV u6 x4 A3 c3 ∧ Box u6 g4 32 (eA x4 A3 c3) ∧ Box u6 g3 32 (eA x B d) ∧ TV u6 x B d ∧ Below w.heap.size w u6 from ⟨TV.last _ _ _ _ _ hb H13.out.1, blk_below H13.out.2.1 hb, TV.last _ _ _ _ _ hb H13.out.2.2.1, blk_below H13.out.2.2.2.1 hb, TV.last _ _ _ _ _ hb H13.out.2.2.2.2.1, blk_below H13.out.2.2.2.2.2.1 hb, TV.last _ _ _ _ _ hb H13.out.2.2.2.2.2.2.1, blk_below H13.out.2.2.2.2.2.2.2.1 hb, blk_below H13.out.2.2.2.2.2.2.2.2.1 hb, TV.last _ _ _ _ _ hb H13.out.2.2.2.2.2.2.2.2.2.1, Below.trans H13.out.2.2.2.2.2.2.2.2.2.2 (hb.mono H13.out.2.2.2.2.2.2.2.2.2.2.size)⟩)
  clear H13 hb
  go_wp2
  go_ret
  exact ⟨rfl, H14.out.2.2.2.2.2.2.2.2.2.2⟩
end Go.Proofs.Ytiofkhfmdophpaa.B
