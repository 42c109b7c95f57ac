/- The law FnExprMorgan, walked by hand. -/
import Derived.Test.YtiofkhfmdophpaaMorganPure
import Derived.Test.YtiofkhfmdophpaaVal
import Derived.Test.YtiofkhfmdophpaaPkB
namespace Go.Proofs.Ytiofkhfmdophpaa.B
open Go Go.RowKit Go.Proofs.YtiofkhfmdophpaaW.PrintWords Go.Proofs.YtiofkhfmdophpaaW.PrintLast Go.Proofs.YtiofkhfmdophpaaW.PrintMore
set_option linter.unusedVariables false
set_option maxRecDepth 100000 in
set_option maxHeartbeats 4000000 in
theorem law_Morgan (l0 l1 : List Int) (hw0 : ∀ x ∈ l0, (Lit.int .u8 x).wf = true) (hw1 : ∀ x ∈ l1, (Lit.int .u8 x).wf = true) (A0 : Option Addr) (c0 : Nat) (A1 : Option Addr) (c1 : Nat) (w : World)
  (r0 : Kd.C (Kd.int .u8) w A0 l0.length l0) (h0 : l0.length ≤ c0) (r1 : Kd.C (Kd.int .u8) w A1 l1.length l1) (h1 : l1.length ≤ c1) :
  Calls Try.prog 10 #[.slice A0 l0.length c0, .slice A1 l1.length c1] w fun e w' => e = .returned (.bool true) ∧ Below w.heap.size w w' := by
 obtain ⟨x, m, hx, hm, hd0⟩ := drawOf_any l0 hw0
 obtain ⟨y, m', hy, hm', hd1⟩ := drawOf_any l1 hw1
 have D0 := Aside0.mk (hd0 A0 c0 w r0 h0)
 have D1 := Aside0.mk (fun W (hb : Below w.heap.size w W) => hd1 A1 c1 W (Kd.C_below r1 hb) h1)
 have HX := Aside0.mk (And.intro (And.intro hx hm) (And.intro hy hm'))
 clear hd0 hd1 r0 r1 h0 h1 hx hm hy hm' hw0 hw1
 by_cases hlen : (1048576 : Int) < (l0.length : Int)
 ·go_enter Try.func10, Try.ntmps10
  go_wp2
  go_ret
  exact ⟨rfl, Below.refl _ _⟩
 by_cases hlen' : (1048576 : Int) < (l1.length : Int)
 ·go_enter Try.func10, Try.ntmps10
  go_wp2
  go_ret
  exact ⟨rfl, Below.refl _ _⟩
 go_enter Try.func10, Try.ntmps10
 go_wp2_with fail
 refine D0.out.mono ?_
 clear D0
 rintro e w1 ⟨B, d, p, rfl, hT, hM, hb⟩
 have H1 := Aside0.mk (show TV w1 x B d ∧ MV w1 m p ∧ Below w.heap.size w w1 from ⟨hT, hM, hb⟩)
 clear hT hM hb
 go_wp2_with ((with_reducible refine gate_dst (N := 5) rfl ?_); refine new2_ (N := 5) (M := 6) (x := 23) (y := 24) (T := 32) (U := 44) (eA x B d) (mA m p) (zs := #[.int .i64 0, .int .i64 0, .int .i64 0, .int .i64 0, .slice none 0 0]) (ys := #[.slice none 0 0, .slice none 0 0, .slice none 0 0]) (eA_one _ _ _) (mA_one _ _) ?_ ?_ ?_ ?_ ?_ ?_ ?_ ?_ ?_ ?_ ?_ ?_ ?_ ?_ ?_ ?_ ?_ ?_ ?_ ?_ ?_ ?_ ?_ ?_ ?_ ?_ ?_ ?_)
 all_goals (first | rfl | decide | (intro _ _; go_simp; done) | kernel_rfl | skip)
 intro g5 g6 W1 hg5 hg6 hne bg5 bg6 hb
 simp only [Act.put, List.setIfInBounds_toArray, List.set_cons_zero, List.set_cons_succ]
 clear hg5 hg6 hne
 have H2 := Aside0.mk (show Box W1 g5 32 (eA x B d) ∧ Box W1 g6 44 (mA m p) ∧ TV W1 x B d ∧ MV W1 m p ∧ Below w.heap.size w W1 from ⟨bg5, bg6, TV.last _ _ _ _ _ hb H1.out.1, MV.last _ _ _ _ hb H1.out.2.1, Below.trans H1.out.2.2 (hb.mono H1.out.2.2.size)⟩)
 clear H1 bg5 bg6 hb
 go_wp2_with fail
 refine (D1.out W1 H2.out.2.2.2.2).mono ?_
 clear D1
 rintro e w2 ⟨B', d', p', rfl, hT, hM, hb⟩
 have H3 := Aside0.mk (show TV w2 y B' d' ∧ Box w2 g5 32 (eA x B d) ∧ Box w2 g6 44 (mA m p) ∧ TV w2 x B d ∧ MV w2 m p ∧ Below w.heap.size w w2 from ⟨hT, blk_below H2.out.1 hb, blk_below H2.out.2.1 hb, TV.last _ _ _ _ _ hb H2.out.2.2.1, MV.last _ _ _ _ hb H2.out.2.2.2.1, Below.trans H2.out.2.2.2.2 (hb.mono H2.out.2.2.2.2.size)⟩)
 clear H2 hT hM hb
 go_wp2_with ((with_reducible refine gate_dst (N := 7) rfl ?_); refine new2_ (N := 7) (M := 8) (x := 28) (y := 29) (T := 32) (U := 44) (eA y B' d') (mA m' p') (zs := #[.int .i64 0, .int .i64 0, .int .i64 0, .int .i64 0, .slice none 0 0]) (ys := #[.slice none 0 0, .slice none 0 0, .slice none 0 0]) (eA_one _ _ _) (mA_one _ _) ?_ ?_ ?_ ?_ ?_ ?_ ?_ ?_ ?_ ?_ ?_ ?_ ?_ ?_ ?_ ?_ ?_ ?_ ?_ ?_ ?_ ?_ ?_ ?_ ?_ ?_ ?_ ?_)
 all_goals (first | rfl | decide | (intro _ _; go_simp; done) | kernel_rfl | skip)
 intro g7 g8 W2 hg7 hg8 hne bg7 bg8 hb
 simp only [Act.put, List.setIfInBounds_toArray, List.set_cons_zero, List.set_cons_succ]
 clear hg7 hg8 hne
 have H4 := Aside0.mk (show Box W2 g7 32 (eA y B' d') ∧ TV W2 y B' d' ∧ Box W2 g5 32 (eA x B d) ∧ Box W2 g6 44 (mA m p) ∧ TV W2 x B d ∧ MV W2 m p ∧ Below w.heap.size w W2 from ⟨bg7, TV.last _ _ _ _ _ hb H3.out.1, blk_below H3.out.2.1 hb, blk_below H3.out.2.2.1 hb, TV.last _ _ _ _ _ hb H3.out.2.2.2.1, MV.last _ _ _ _ hb H3.out.2.2.2.2.1, Below.trans H3.out.2.2.2.2.2 (hb.mono H3.out.2.2.2.2.2.size)⟩)
 clear H3 bg7 bg8 hb
 have lb0 := H4.out.2.2.1
 have lb1 := H4.out.1
 go_wp2_with (first | ((with_reducible refine gate_dst (N := 30) rfl ?_); refine getE_ rfl rfl rfl rfl lb0 ?_) | ((with_reducible refine gate_dst (N := 31) rfl ?_); refine getE_ rfl rfl rfl rfl lb1 ?_))
 clear lb0 lb1
 refine (wqTwo_any 8 x y B d B' d' W2 H4.out.2.2.2.2.1 H4.out.2.1).mono ?_
 rintro e w3 ⟨z1, C1, e1, hz1, rfl, hT, hb⟩
 have Z1 := Aside0.mk hz1
 have H5 := Aside0.mk (show TV w3 z1 C1 e1 ∧ Box w3 g7 32 (eA y B' d') ∧ TV w3 y B' d' ∧ Box w3 g5 32 (eA x B d) ∧ Box w3 g6 44 (mA m p) ∧ TV w3 x B d ∧ MV w3 m p ∧ Below w.heap.size w w3 from ⟨hT, blk_below H4.out.1 hb, TV.last _ _ _ _ _ hb H4.out.2.1, blk_below H4.out.2.2.1 hb, blk_below H4.out.2.2.2.1 hb, TV.last _ _ _ _ _ hb H4.out.2.2.2.2.1, MV.last _ _ _ _ hb H4.out.2.2.2.2.2.1, Below.trans H4.out.2.2.2.2.2.2 (hb.mono H4.out.2.2.2.2.2.2.size)⟩)
 clear H4 hz1 hT hb
 go_wp2_with fail
 refine (wqNot_any z1 C1 e1 w3 H5.out.1).mono ?_
 rintro e w4 ⟨z2, C2, e2, hz2, rfl, hT, hb⟩
 have Z2 := Aside0.mk (show z2 = n1 (n2 8 x y) from hz2.trans (congrArg n1 Z1.out))
 have H6 := Aside0.mk (show TV w4 z2 C2 e2 ∧ Box w4 g7 32 (eA y B' d') ∧ TV w4 y B' d' ∧ Box w4 g5 32 (eA x B d) ∧ Box w4 g6 44 (mA m p) ∧ TV w4 x B d ∧ MV w4 m p ∧ Below w.heap.size w w4 from ⟨hT, blk_below H5.out.2.1 hb, TV.last _ _ _ _ _ hb H5.out.2.2.1, blk_below H5.out.2.2.2.1 hb, blk_below H5.out.2.2.2.2.1 hb, TV.last _ _ _ _ _ hb H5.out.2.2.2.2.2.1, MV.last _ _ _ _ hb H5.out.2.2.2.2.2.2.1, Below.trans H5.out.2.2.2.2.2.2.2 (hb.mono H5.out.2.2.2.2.2.2.2.size)⟩)
 clear H5 hz2 hT hb Z1
 go_wp2_with ((with_reducible refine gate_dst (N := 9) rfl ?_); refine new1_ (N := 9) (x := 33) (T := 32) (eA z2 C2 e2) (zs := #[.int .i64 0, .int .i64 0, .int .i64 0, .int .i64 0, .slice none 0 0]) (eA_one _ _ _) ?_ ?_ ?_ ?_ ?_ ?_ ?_ ?_ ?_ ?_ ?_ ?_ ?_)
 all_goals (first | rfl | decide | (intro _ _; go_simp; done) | kernel_rfl | skip)
 intro g9 W3 hg9 bg9 hb
 simp only [Act.put, List.setIfInBounds_toArray, List.set_cons_zero, List.set_cons_succ]
 clear hg9
 have H7 := Aside0.mk (show Box W3 g9 32 (eA z2 C2 e2) ∧ TV W3 z2 C2 e2 ∧ Box W3 g7 32 (eA y B' d') ∧ TV W3 y B' d' ∧ Box W3 g5 32 (eA x B d) ∧ Box W3 g6 44 (mA m p) ∧ TV W3 x B d ∧ MV W3 m p ∧ Below w.heap.size w W3 from ⟨bg9, TV.last _ _ _ _ _ hb H6.out.1, blk_below H6.out.2.1 hb, TV.last _ _ _ _ _ hb H6.out.2.2.1, blk_below H6.out.2.2.2.1 hb, blk_below H6.out.2.2.2.2.1 hb, TV.last _ _ _ _ _ hb H6.out.2.2.2.2.2.1, MV.last _ _ _ _ hb H6.out.2.2.2.2.2.2.1, Below.trans H6.out.2.2.2.2.2.2.2 (hb.mono H6.out.2.2.2.2.2.2.2.size)⟩)
 clear H6 bg9 hb
 go_wp2_with fail
 obtain ⟨y1, hy1⟩ : ∃ z, z = n1 x := ⟨_, rfl⟩
 obtain ⟨y2, hy2⟩ : ∃ z, z = n1 y := ⟨_, rfl⟩
 obtain ⟨y3, hy3⟩ : ∃ z, z = n2 9 y1 y2 := ⟨_, rfl⟩
 have Y := Aside0.mk (And.intro hy1 (And.intro hy2 hy3))
 clear hy1 hy2 hy3
 refine weaveNew_ 5 4 10 38 32 #[.int .i64 0, .int .i64 0, .int .i64 0, .int .i64 0, .slice none 0 0] aggOf [(34, 0), (35, 1), (36, 2), (37, 3), (38, 4), (10, 5)] [fun v _ _ => v = .agg (eA x B d), treeF y1, fun v _ _ => v = .agg (eA y B' d'), treeF y2, treeF y3] rfl (by kernel_rfl) ⟨Good.const _, treeF_good _, Good.const _, treeF_good _, treeF_good _, trivial⟩ _ _ rfl rfl rfl rfl rfl rfl rfl rfl ?_ rfl rfl (by kernel_rfl) (by kernel_rfl) (fun v W ok h => treeF_cs y3 v W ok h) (by kernel_rfl) ?_ (by kernel_rfl) ?_
 ·intro _ _
  go_simp
 ·refine ⟨?_, ?_, ?_, ?_, ?_, ?_, ?_, trivial⟩
  ·intro _ vs W ok hp hn ho hv b hs
   exact stepGet rfl rfl ((hs.old 5 rfl).trans rfl) (blk_below H7.out.2.2.2.2.1 hp) Try.underlying32 rfl (by kernel_rfl) ⟨Below.refl _ _, rfl⟩
  ·intro _ vs W ok hp hn ho hv b hs
   have h0 : vs 0 = .agg (eA x B d) := hv 0 (by decide) (by decide)
   have t34 := (hs.tm 34 0 rfl).trans (congrArg some h0)
   refine stepCall rfl Try.func38 (by kernel_rfl) rfl #[vs 0] rfl (by simp [Act.eval, hs.tm 34 0 rfl]) (by rw [h0]; exact wqNot_o x B d W ok hn (TVo.old H7.out.2.2.2.2.2.2.1 hp ho)) ?_
   rintro e W' ⟨z, A, c, hz, rfl, hT, hb'⟩
   obtain rfl : z = y1 := hz.trans Y.out.1.symm
   exact ⟨_, rfl, hb', A, c, rfl, hT⟩
  ·intro _ vs W ok hp hn ho hv b hs
   exact stepGet rfl rfl ((hs.old 7 rfl).trans rfl) (blk_below H7.out.2.2.1 hp) Try.underlying32 rfl (by kernel_rfl) ⟨Below.refl _ _, rfl⟩
  ·intro _ vs W ok hp hn ho hv b hs
   have h2 : vs 2 = .agg (eA y B' d') := hv 2 (by decide) (by decide)
   have t36 := (hs.tm 36 2 rfl).trans (congrArg some h2)
   refine stepCall rfl Try.func38 (by kernel_rfl) rfl #[vs 2] rfl (by simp [Act.eval, hs.tm 36 2 rfl]) (by rw [h2]; exact wqNot_o y B' d' W ok hn (TVo.old H7.out.2.2.2.1 hp ho)) ?_
   rintro e W' ⟨z, A, c, hz, rfl, hT, hb'⟩
   obtain rfl : z = y2 := hz.trans Y.out.2.1.symm
   exact ⟨_, rfl, hb', A, c, rfl, hT⟩
  ·intro _ vs W ok hp hn ho hv b hs
   obtain ⟨P1, q1, h1, t1⟩ : (treeF y1) (vs 1) W ok := hv 1 (by decide) (by decide)
   have t35 := (hs.tm 35 1 rfl).trans (congrArg some h1)
   obtain ⟨P3, q3, h3, t3⟩ : (treeF y2) (vs 3) W ok := hv 3 (by decide) (by decide)
   have t37 := (hs.tm 37 3 rfl).trans (congrArg some h3)
   refine stepCall rfl Try.func37 (by kernel_rfl) rfl #[.int .i64 9, vs 1, vs 3] rfl (by simp [Act.eval, hs.tm 35 1 rfl, hs.tm 37 3 rfl]) (by rw [h1, h3]; exact wqTwo_o 9 y1 y2 P1 q1 P3 q3 W ok hn t1 t3) ?_
   rintro e W' ⟨z, A, c, hz, rfl, hT, hb'⟩
   obtain rfl : z = y3 := hz.trans Y.out.2.2.symm
   exact ⟨_, rfl, hb', A, c, rfl, hT⟩
  ·intro h
   exact absurd h (by decide)
  ·intro h
   exact absurd h (by decide)
 intro vs g10 W4 hb hg hv hn5 bg10
 obtain ⟨C3, e3, h4, T3⟩ : treeF y3 (vs 4) W4 (fun k => k ≠ g10) := hv 4 (by decide)
 rw [h4] at bg10
 simp only [List.map_cons, List.map_nil, putL, Act.put, List.setIfInBounds_toArray, List.set_cons_zero, List.set_cons_succ, hn5, h4]
 clear hv hn5 h4
 have H8 := Aside0.mk (show TV W4 y3 C3 e3 ∧ Box W4 g10 32 (eA y3 C3 e3) ∧ Box W4 g9 32 (eA z2 C2 e2) ∧ TV W4 z2 C2 e2 ∧ Box W4 g7 32 (eA y B' d') ∧ TV W4 y B' d' ∧ Box W4 g5 32 (eA x B d) ∧ Box W4 g6 44 (mA m p) ∧ TV W4 x B d ∧ MV W4 m p ∧ Below w.heap.size w W4 from ⟨T3.all, bg10, blk_below H7.out.1 hb, TV.last _ _ _ _ _ hb H7.out.2.1, blk_below H7.out.2.2.1 hb, TV.last _ _ _ _ _ hb H7.out.2.2.2.1, blk_below H7.out.2.2.2.2.1 hb, blk_below H7.out.2.2.2.2.2.1 hb, TV.last _ _ _ _ _ hb H7.out.2.2.2.2.2.2.1, MV.last _ _ _ _ hb H7.out.2.2.2.2.2.2.2.1, Below.trans H7.out.2.2.2.2.2.2.2.2 (hb.mono H7.out.2.2.2.2.2.2.2.2.size)⟩)
 clear H7 bg10 T3 hb hg
 obtain ⟨n, hn⟩ : ∃ n, n = oV z2 m := ⟨_, rfl⟩
 have HN := Aside0.mk hn
 clear hn
 have hs2 : Short z2 := by rw [Z2.out]; exact short_n1 (short_n2 8 HX.out.1.1 HX.out.2.1)
 have hs3 : Short y3 := by rw [Y.out.2.2, Y.out.1, Y.out.2.1]; exact short_n2 9 (short_n1 HX.out.1.1) (short_n1 HX.out.2.1)
 have HS := Aside0.mk (And.intro hs2 hs3)
 clear hs2 hs3
 have lb0 := H8.out.2.2.1
 have lb1 := H8.out.2.2.2.2.2.2.2.1
 go_wp2_with (first | ((with_reducible refine gate_dst (N := 39) rfl ?_); refine getE_ rfl rfl rfl rfl lb0 ?_) | ((with_reducible refine gate_dst (N := 40) rfl ?_); refine getM_ rfl rfl rfl rfl lb1 ?_))
 clear lb0 lb1
 refine (implOf_any z2 C2 e2 m p W4 H8.out.2.2.2.1 H8.out.2.2.2.2.2.2.2.2.2.1).mono ?_
 rw [← HN.out]
 rintro e w5 ⟨rfl, hb⟩
 have H9 := Aside0.mk (show TV w5 y3 C3 e3 ∧ Box w5 g10 32 (eA y3 C3 e3) ∧ Box w5 g9 32 (eA z2 C2 e2) ∧ TV w5 z2 C2 e2 ∧ Box w5 g7 32 (eA y B' d') ∧ TV w5 y B' d' ∧ Box w5 g5 32 (eA x B d) ∧ Box w5 g6 44 (mA m p) ∧ TV w5 x B d ∧ MV w5 m p ∧ Below w.heap.size w w5 from ⟨TV.last _ _ _ _ _ hb H8.out.1, blk_below H8.out.2.1 hb, blk_below H8.out.2.2.1 hb, TV.last _ _ _ _ _ hb H8.out.2.2.2.1, blk_below H8.out.2.2.2.2.1 hb, TV.last _ _ _ _ _ hb H8.out.2.2.2.2.2.1, blk_below H8.out.2.2.2.2.2.2.1 hb, blk_below H8.out.2.2.2.2.2.2.2.1 hb, TV.last _ _ _ _ _ hb H8.out.2.2.2.2.2.2.2.2.1, MV.last _ _ _ _ hb H8.out.2.2.2.2.2.2.2.2.2.1, Below.trans H8.out.2.2.2.2.2.2.2.2.2.2 (hb.mono H8.out.2.2.2.2.2.2.2.2.2.2.size)⟩)
 clear H8 hb
 have lb0 := H9.out.2.2.1
 have lb1 := H9.out.2.2.2.2.2.2.2.1
 go_wp2_with (first | ((with_reducible refine gate_dst (N := 43) rfl ?_); refine getE_ rfl rfl rfl rfl lb0 ?_) | ((with_reducible refine gate_dst (N := 44) rfl ?_); refine getM_ rfl rfl rfl rfl lb1 ?_))
 clear lb0 lb1
 refine (specOf_any z2 HS.out.1 C2 e2 m HX.out.1.2 p w5 H9.out.2.2.2.1 H9.out.2.2.2.2.2.2.2.2.2.1).mono ?_
 rw [← HN.out]
 rintro e w6 ⟨rfl, hb⟩
 have H10 := Aside0.mk (show TV w6 y3 C3 e3 ∧ Box w6 g10 32 (eA y3 C3 e3) ∧ Box w6 g9 32 (eA z2 C2 e2) ∧ TV w6 z2 C2 e2 ∧ Box w6 g7 32 (eA y B' d') ∧ TV w6 y B' d' ∧ Box w6 g5 32 (eA x B d) ∧ Box w6 g6 44 (mA m p) ∧ TV w6 x B d ∧ MV w6 m p ∧ Below w.heap.size w w6 from ⟨TV.last _ _ _ _ _ hb H9.out.1, blk_below H9.out.2.1 hb, blk_below H9.out.2.2.1 hb, TV.last _ _ _ _ _ hb H9.out.2.2.2.1, blk_below H9.out.2.2.2.2.1 hb, TV.last _ _ _ _ _ hb H9.out.2.2.2.2.2.1, blk_below H9.out.2.2.2.2.2.2.1 hb, blk_below H9.out.2.2.2.2.2.2.2.1 hb, TV.last _ _ _ _ _ hb H9.out.2.2.2.2.2.2.2.2.1, MV.last _ _ _ _ hb H9.out.2.2.2.2.2.2.2.2.2.1, Below.trans H9.out.2.2.2.2.2.2.2.2.2.2 (hb.mono H9.out.2.2.2.2.2.2.2.2.2.2.size)⟩)
 clear H9 hb
 have hnn : (n != n) = false := by simp
 have lb0 := H10.out.2.2.1
 go_wp2_with (first | ((with_reducible refine gate_dst (N := 47) rfl ?_); refine getE_ rfl rfl rfl rfl lb0 ?_))
 clear lb0 hnn
 obtain ⟨b1, hb1⟩ : ∃ b, b = okE z2 := ⟨_, rfl⟩
 have B1 := Aside0.mk hb1
 clear hb1
 refine (specOk_any z2 HS.out.1 C2 e2 w6 H10.out.2.2.2.1).mono ?_
 rw [← B1.out]
 rintro e w7 ⟨rfl, hb⟩
 have H11 := Aside0.mk (show TV w7 y3 C3 e3 ∧ Box w7 g10 32 (eA y3 C3 e3) ∧ Box w7 g9 32 (eA z2 C2 e2) ∧ TV w7 z2 C2 e2 ∧ Box w7 g7 32 (eA y B' d') ∧ TV w7 y B' d' ∧ Box w7 g5 32 (eA x B d) ∧ Box w7 g6 44 (mA m p) ∧ TV w7 x B d ∧ MV w7 m p ∧ Below w.heap.size w w7 from ⟨TV.last _ _ _ _ _ hb H10.out.1, blk_below H10.out.2.1 hb, blk_below H10.out.2.2.1 hb, TV.last _ _ _ _ _ hb H10.out.2.2.2.1, blk_below H10.out.2.2.2.2.1 hb, TV.last _ _ _ _ _ hb H10.out.2.2.2.2.2.1, blk_below H10.out.2.2.2.2.2.2.1 hb, blk_below H10.out.2.2.2.2.2.2.2.1 hb, TV.last _ _ _ _ _ hb H10.out.2.2.2.2.2.2.2.2.1, MV.last _ _ _ _ hb H10.out.2.2.2.2.2.2.2.2.2.1, Below.trans H10.out.2.2.2.2.2.2.2.2.2.2 (hb.mono H10.out.2.2.2.2.2.2.2.2.2.2.size)⟩)
 clear H10 hb
 cases b1
 ·go_wp2
  go_ret
  exact ⟨rfl, H11.out.2.2.2.2.2.2.2.2.2.2⟩
 have lb0 := H11.out.2.1
 go_wp2_with (first | ((with_reducible refine gate_dst (N := 51) rfl ?_); refine gate_guard rfl ?_; refine getE_ rfl rfl rfl rfl lb0 ?_))
 clear lb0
 obtain ⟨b2, hb2⟩ : ∃ b, b = okE y3 := ⟨_, rfl⟩
 have B2 := Aside0.mk hb2
 clear hb2
 refine (specOk_any y3 HS.out.2 C3 e3 w7 H11.out.1).mono ?_
 rw [← B2.out]
 rintro e w8 ⟨rfl, hb⟩
 have H12 := Aside0.mk (show TV w8 y3 C3 e3 ∧ Box w8 g10 32 (eA y3 C3 e3) ∧ Box w8 g9 32 (eA z2 C2 e2) ∧ TV w8 z2 C2 e2 ∧ Box w8 g7 32 (eA y B' d') ∧ TV w8 y B' d' ∧ Box w8 g5 32 (eA x B d) ∧ Box w8 g6 44 (mA m p) ∧ TV w8 x B d ∧ MV w8 m p ∧ Below w.heap.size w w8 from ⟨TV.last _ _ _ _ _ hb H11.out.1, blk_below H11.out.2.1 hb, blk_below H11.out.2.2.1 hb, TV.last _ _ _ _ _ hb H11.out.2.2.2.1, blk_below H11.out.2.2.2.2.1 hb, TV.last _ _ _ _ _ hb H11.out.2.2.2.2.2.1, blk_below H11.out.2.2.2.2.2.2.1 hb, blk_below H11.out.2.2.2.2.2.2.2.1 hb, TV.last _ _ _ _ _ hb H11.out.2.2.2.2.2.2.2.2.1, MV.last _ _ _ _ hb H11.out.2.2.2.2.2.2.2.2.2.1, Below.trans H11.out.2.2.2.2.2.2.2.2.2.2 (hb.mono H11.out.2.2.2.2.2.2.2.2.2.2.size)⟩)
 clear H11 hb
 cases b2
 ·go_wp2
  go_ret
  exact ⟨rfl, H12.out.2.2.2.2.2.2.2.2.2.2⟩
 have lb0 := H12.out.2.2.2.2.2.2.2.1
 go_wp2_with (first | ((with_reducible refine gate_dst (N := 56) rfl ?_); refine gate_guard rfl ?_; refine getM_ rfl rfl rfl rfl lb0 ?_))
 clear lb0
 obtain ⟨b3, hb3⟩ : ∃ b, b = mOk m := ⟨_, rfl⟩
 have B3 := Aside0.mk hb3
 clear hb3
 refine (specMem_any m HX.out.1.2 p w8 H12.out.2.2.2.2.2.2.2.2.2.1).mono ?_
 rw [← B3.out]
 rintro e w9 ⟨rfl, hb⟩
 have H13 := Aside0.mk (show TV w9 y3 C3 e3 ∧ Box w9 g10 32 (eA y3 C3 e3) ∧ Box w9 g9 32 (eA z2 C2 e2) ∧ TV w9 z2 C2 e2 ∧ Box w9 g7 32 (eA y B' d') ∧ TV w9 y B' d' ∧ Box w9 g5 32 (eA x B d) ∧ Box w9 g6 44 (mA m p) ∧ TV w9 x B d ∧ MV w9 m p ∧ Below w.heap.size w w9 from ⟨TV.last _ _ _ _ _ hb H12.out.1, blk_below H12.out.2.1 hb, blk_below H12.out.2.2.1 hb, TV.last _ _ _ _ _ hb H12.out.2.2.2.1, blk_below H12.out.2.2.2.2.1 hb, TV.last _ _ _ _ _ hb H12.out.2.2.2.2.2.1, blk_below H12.out.2.2.2.2.2.2.1 hb, blk_below H12.out.2.2.2.2.2.2.2.1 hb, TV.last _ _ _ _ _ hb H12.out.2.2.2.2.2.2.2.2.1, MV.last _ _ _ _ hb H12.out.2.2.2.2.2.2.2.2.2.1, Below.trans H12.out.2.2.2.2.2.2.2.2.2.2 (hb.mono H12.out.2.2.2.2.2.2.2.2.2.2.size)⟩)
 clear H12 hb
 cases b3
 ·go_wp2
  go_ret
  exact ⟨rfl, H13.out.2.2.2.2.2.2.2.2.2.2⟩
 have lb0 := H13.out.2.2.1
 go_wp2_with (first | ((with_reducible refine gate_dst (N := 61) rfl ?_); refine gate_guard rfl ?_; refine getE_ rfl rfl rfl rfl lb0 ?_))
 clear lb0
 refine (wqNot_any z2 C2 e2 w9 H13.out.2.2.2.1).mono ?_
 rintro e w10 ⟨z5, C5, e5, hz5, rfl, hT, hb⟩
 have Z5 := Aside0.mk hz5
 have H14 := Aside0.mk (show TV w10 z5 C5 e5 ∧ TV w10 y3 C3 e3 ∧ Box w10 g10 32 (eA y3 C3 e3) ∧ Box w10 g9 32 (eA z2 C2 e2) ∧ TV w10 z2 C2 e2 ∧ Box w10 g7 32 (eA y B' d') ∧ TV w10 y B' d' ∧ Box w10 g5 32 (eA x B d) ∧ Box w10 g6 44 (mA m p) ∧ TV w10 x B d ∧ MV w10 m p ∧ Below w.heap.size w w10 from ⟨hT, TV.last _ _ _ _ _ hb H13.out.1, blk_below H13.out.2.1 hb, blk_below H13.out.2.2.1 hb, TV.last _ _ _ _ _ hb H13.out.2.2.2.1, blk_below H13.out.2.2.2.2.1 hb, TV.last _ _ _ _ _ hb H13.out.2.2.2.2.2.1, blk_below H13.out.2.2.2.2.2.2.1 hb, blk_below H13.out.2.2.2.2.2.2.2.1 hb, TV.last _ _ _ _ _ hb H13.out.2.2.2.2.2.2.2.2.1, MV.last _ _ _ _ hb H13.out.2.2.2.2.2.2.2.2.2.1, Below.trans H13.out.2.2.2.2.2.2.2.2.2.2 (hb.mono H13.out.2.2.2.2.2.2.2.2.2.2.size)⟩)
 clear H13 hz5 hT hb
 obtain ⟨b4, hb4⟩ : ∃ b, b = okE z5 := ⟨_, rfl⟩
 have B4 := Aside0.mk hb4
 clear hb4
 go_wp2_with fail
 refine (specOk_any z5 (by rw [Z5.out]; exact short_n1 HS.out.1) C5 e5 w10 H14.out.1).mono ?_
 rw [← B4.out]
 rintro e w11 ⟨rfl, hb⟩
 have H15 := Aside0.mk (show TV w11 y3 C3 e3 ∧ Box w11 g10 32 (eA y3 C3 e3) ∧ Box w11 g7 32 (eA y B' d') ∧ TV w11 y B' d' ∧ Box w11 g5 32 (eA x B d) ∧ Box w11 g6 44 (mA m p) ∧ TV w11 x B d ∧ MV w11 m p ∧ Below w.heap.size w w11 from ⟨TV.last _ _ _ _ _ hb H14.out.2.1, blk_below H14.out.2.2.1 hb, blk_below H14.out.2.2.2.2.2.1 hb, TV.last _ _ _ _ _ hb H14.out.2.2.2.2.2.2.1, blk_below H14.out.2.2.2.2.2.2.2.1 hb, blk_below H14.out.2.2.2.2.2.2.2.2.1 hb, TV.last _ _ _ _ _ hb H14.out.2.2.2.2.2.2.2.2.2.1, MV.last _ _ _ _ hb H14.out.2.2.2.2.2.2.2.2.2.2.1, Below.trans H14.out.2.2.2.2.2.2.2.2.2.2.2 (hb.mono H14.out.2.2.2.2.2.2.2.2.2.2.2.size)⟩)
 clear H14 hb
 cases b4
 ·go_wp2
  go_ret
  exact ⟨rfl, H15.out.2.2.2.2.2.2.2.2⟩
 obtain ⟨u1, hu1⟩ : ∃ z, z = n1 x := ⟨_, rfl⟩
 obtain ⟨u2, hu2⟩ : ∃ z, z = n1 u1 := ⟨_, rfl⟩
 obtain ⟨v1, hv1⟩ : ∃ v, v = oV u2 m := ⟨_, rfl⟩
 obtain ⟨v2, hv2⟩ : ∃ v, v = oV x m := ⟨_, rfl⟩
 obtain ⟨v3, hv3⟩ : ∃ v, v = isL (v2 != 0) := ⟨_, rfl⟩
 have FF := morgan_facts x y m (by rw [← Z2.out]; exact B1.out.symm) (by rw [← Y.out.1, ← Y.out.2.1, ← Y.out.2.2]; exact B2.out.symm) B3.out.symm
 have hne := FF.1
 rw [← Z2.out, ← HN.out, ← Y.out.1, ← Y.out.2.1, ← Y.out.2.2] at hne
 have F2 := Aside0.mk FF.2.1
 have F3 := Aside0.mk FF.2.2
 clear FF
 have hnn : (n != oV y3 m) = false := by rw [← hne]; simp
 have U := Aside0.mk (And.intro hu1 (And.intro hu2 (And.intro hv1 (And.intro hv2 (And.intro hv3 hne)))))
 clear hu1 hu2 hv1 hv2 hv3 hne hnn
 have hnn : (n != n) = false := by simp
 obtain ⟨b5, hb5⟩ : ∃ b, b = (v1 != v3) := ⟨_, rfl⟩
 go_wp2_with fail
 cases b5
 ·skip
  have hb5' := hb5.symm
  clear hb5
  refine weaveB_ (fun W => Below w11.heap.size w11 W) (Lasts.below w11) (Below.refl _ _) [(66, 0), (67, 1), (68, 2), (69, 3), (70, 4), (71, 5), (72, 6), (73, 7), (74, 8), (75, 9), (76, 10), (77, 11), (78, 12), (79, 13), (80, 14), (81, 15), (82, 16), (83, 17), (84, 18), (85, 19), (86, 20), (87, 21), (88, 22), (89, 23)] [fun v _ => v = .int .i64 n, fun v _ => v = .agg (eA y3 C3 e3), fun v _ => v = .agg (mA m p), fun v _ => v = .int .i64 n, fun v _ => v = .bool false, fun v _ => v = .bool false, fun v _ => v = .agg (eA x B d), treeW u1, treeW u2, fun v _ => v = .agg (mA m p), fun v _ => v = .int .i64 v1, fun v _ => v = .agg (eA x B d), fun v _ => v = .agg (mA m p), fun v _ => v = .int .i64 v2, fun v _ => v = .bool (v2 != 0), fun v _ => v = .int .i64 v3, fun v _ => v = .bool false, fun v _ => v = .bool false, fun v _ => True, fun v _ => True, fun v _ => True, fun v _ => True, fun v _ => v = .bool false, fun v _ => v = .bool false] rfl (by kernel_rfl) ⟨fun _ => Lasts.const _, fun _ => Lasts.const _, fun _ => Lasts.const _, fun _ => Lasts.const _, fun _ => Lasts.const _, fun _ => Lasts.const _, fun _ => Lasts.const _, treeW_last _, treeW_last _, fun _ => Lasts.const _, fun _ => Lasts.const _, fun _ => Lasts.const _, fun _ => Lasts.const _, fun _ => Lasts.const _, fun _ => Lasts.const _, fun _ => Lasts.const _, fun _ => Lasts.const _, fun _ => Lasts.const _, fun _ => Lasts.const _, fun _ => Lasts.const _, fun _ => Lasts.const _, fun _ => Lasts.const _, fun _ => Lasts.const _, fun _ => Lasts.const _, trivial⟩ ?_ ?_
  ·refine ⟨?_, ?_, ?_, ?_, ?_, ?_, ?_, ?_, ?_, ?_, ?_, ?_, ?_, ?_, ?_, ?_, ?_, ?_, ?_, ?_, ?_, ?_, ?_, ?_, trivial⟩
   ·intro vs W hp hv b hs
    have t11 : b.tmps[(11 : Nat)]? = some (.int .i64 n) := (hs.oldtm 11 rfl).trans rfl
    exact stepVal rfl (by go_simp) ⟨Below.refl _ _, rfl⟩
   ·intro vs W hp hv b hs
    exact stepGet rfl rfl ((hs.old 10 rfl).trans rfl) (blk_below H15.out.2.1 hp) Try.underlying32 rfl (by kernel_rfl) ⟨Below.refl _ _, rfl⟩
   ·intro vs W hp hv b hs
    exact stepGet rfl rfl ((hs.old 6 rfl).trans rfl) (blk_below H15.out.2.2.2.2.2.1 hp) Try.underlying44 rfl (by kernel_rfl) ⟨Below.refl _ _, rfl⟩
   ·intro vs W hp hv b hs
    have h1 : vs 1 = .agg (eA y3 C3 e3) := hv 1 (by decide)
    have t67 := (hs.tm 67 1 rfl).trans (congrArg some h1)
    have h2 : vs 2 = .agg (mA m p) := hv 2 (by decide)
    have t68 := (hs.tm 68 2 rfl).trans (congrArg some h2)
    refine stepCall rfl Try.func26 (by kernel_rfl) rfl #[vs 1, vs 2] rfl (by simp [Act.eval, hs.tm 67 1 rfl, hs.tm 68 2 rfl]) (by rw [h1, h2]; exact implOf_any y3 C3 e3 m p W (TV.last _ _ _ _ _ hp H15.out.1) (MV.last _ _ _ _ hp H15.out.2.2.2.2.2.2.2.1)) ?_
    rintro e W' ⟨rfl, hb'⟩
    exact ⟨_, rfl, hb', by show Value.int .i64 _ = Value.int .i64 _; rw [← U.out.2.2.2.2.2]⟩
   ·intro vs W hp hv b hs
    have h0 : vs 0 = .int .i64 n := hv 0 (by decide)
    have t66 := (hs.tm 66 0 rfl).trans (congrArg some h0)
    have h3 : vs 3 = .int .i64 n := hv 3 (by decide)
    have t69 := (hs.tm 69 3 rfl).trans (congrArg some h3)
    exact stepVal rfl (by go_simp) ⟨Below.refl _ _, rfl⟩
   ·intro vs W hp hv b hs
    have h4 : vs 4 = .bool false := hv 4 (by decide)
    have t70 := (hs.tm 70 4 rfl).trans (congrArg some h4)
    exact stepVal rfl (by go_simp) ⟨Below.refl _ _, rfl⟩
   ·intro vs W hp hv b hs
    have h5 : vs 5 = .bool false := hv 5 (by decide)
    exact stepGet (wanted_on rfl rfl ((hs.tm 71 5 rfl).trans (congrArg some h5))) rfl ((hs.old 5 rfl).trans rfl) (blk_below H15.out.2.2.2.2.1 hp) Try.underlying32 rfl (by kernel_rfl) ⟨Below.refl _ _, rfl⟩
   ·intro vs W hp hv b hs
    have h5 : vs 5 = .bool false := hv 5 (by decide)
    have h6 : vs 6 = .agg (eA x B d) := hv 6 (by decide)
    have t72 := (hs.tm 72 6 rfl).trans (congrArg some h6)
    refine stepCall (wanted_on rfl rfl ((hs.tm 71 5 rfl).trans (congrArg some h5))) Try.func38 (by kernel_rfl) rfl #[vs 6] rfl (by simp [Act.eval, hs.tm 72 6 rfl]) (by rw [h6]; exact wqNot_any x B d W (TV.last _ _ _ _ _ hp H15.out.2.2.2.2.2.2.1)) ?_
    rintro e W' ⟨z, A, c, hz, rfl, hT, hb'⟩
    obtain rfl : z = u1 := hz.trans U.out.1.symm
    exact ⟨_, rfl, hb', A, c, rfl, hT⟩
   ·intro vs W hp hv b hs
    have h5 : vs 5 = .bool false := hv 5 (by decide)
    obtain ⟨P7, q7, h7, t7⟩ : (treeW u1) (vs 7) W := hv 7 (by decide)
    have t73 := (hs.tm 73 7 rfl).trans (congrArg some h7)
    refine stepCall (wanted_on rfl rfl ((hs.tm 71 5 rfl).trans (congrArg some h5))) Try.func38 (by kernel_rfl) rfl #[vs 7] rfl (by simp [Act.eval, hs.tm 73 7 rfl]) (by rw [h7]; exact wqNot_any u1 P7 q7 W t7) ?_
    rintro e W' ⟨z, A, c, hz, rfl, hT, hb'⟩
    obtain rfl : z = u2 := hz.trans U.out.2.1.symm
    exact ⟨_, rfl, hb', A, c, rfl, hT⟩
   ·intro vs W hp hv b hs
    have h5 : vs 5 = .bool false := hv 5 (by decide)
    exact stepGet (wanted_on rfl rfl ((hs.tm 71 5 rfl).trans (congrArg some h5))) rfl ((hs.old 6 rfl).trans rfl) (blk_below H15.out.2.2.2.2.2.1 hp) Try.underlying44 rfl (by kernel_rfl) ⟨Below.refl _ _, rfl⟩
   ·intro vs W hp hv b hs
    have h5 : vs 5 = .bool false := hv 5 (by decide)
    obtain ⟨P8, q8, h8, t8⟩ : (treeW u2) (vs 8) W := hv 8 (by decide)
    have t74 := (hs.tm 74 8 rfl).trans (congrArg some h8)
    have h9 : vs 9 = .agg (mA m p) := hv 9 (by decide)
    have t75 := (hs.tm 75 9 rfl).trans (congrArg some h9)
    refine stepCall (wanted_on rfl rfl ((hs.tm 71 5 rfl).trans (congrArg some h5))) Try.func26 (by kernel_rfl) rfl #[vs 8, vs 9] rfl (by simp [Act.eval, hs.tm 74 8 rfl, hs.tm 75 9 rfl]) (by rw [h8, h9]; exact implOf_any u2 P8 q8 m p W t8 (MV.last _ _ _ _ hp H15.out.2.2.2.2.2.2.2.1)) ?_
    rintro e W' ⟨rfl, hb'⟩
    exact ⟨_, rfl, hb', by show Value.int .i64 _ = Value.int .i64 _; rw [U.out.2.2.1]⟩
   ·intro vs W hp hv b hs
    have h5 : vs 5 = .bool false := hv 5 (by decide)
    exact stepGet (wanted_on rfl rfl ((hs.tm 71 5 rfl).trans (congrArg some h5))) rfl ((hs.old 5 rfl).trans rfl) (blk_below H15.out.2.2.2.2.1 hp) Try.underlying32 rfl (by kernel_rfl) ⟨Below.refl _ _, rfl⟩
   ·intro vs W hp hv b hs
    have h5 : vs 5 = .bool false := hv 5 (by decide)
    exact stepGet (wanted_on rfl rfl ((hs.tm 71 5 rfl).trans (congrArg some h5))) rfl ((hs.old 6 rfl).trans rfl) (blk_below H15.out.2.2.2.2.2.1 hp) Try.underlying44 rfl (by kernel_rfl) ⟨Below.refl _ _, rfl⟩
   ·intro vs W hp hv b hs
    have h5 : vs 5 = .bool false := hv 5 (by decide)
    have h11 : vs 11 = .agg (eA x B d) := hv 11 (by decide)
    have t77 := (hs.tm 77 11 rfl).trans (congrArg some h11)
    have h12 : vs 12 = .agg (mA m p) := hv 12 (by decide)
    have t78 := (hs.tm 78 12 rfl).trans (congrArg some h12)
    refine stepCall (wanted_on rfl rfl ((hs.tm 71 5 rfl).trans (congrArg some h5))) Try.func26 (by kernel_rfl) rfl #[vs 11, vs 12] rfl (by simp [Act.eval, hs.tm 77 11 rfl, hs.tm 78 12 rfl]) (by rw [h11, h12]; exact implOf_any x B d m p W (TV.last _ _ _ _ _ hp H15.out.2.2.2.2.2.2.1) (MV.last _ _ _ _ hp H15.out.2.2.2.2.2.2.2.1)) ?_
    rintro e W' ⟨rfl, hb'⟩
    exact ⟨_, rfl, hb', by show Value.int .i64 _ = Value.int .i64 _; rw [U.out.2.2.2.1]⟩
   ·intro vs W hp hv b hs
    have h5 : vs 5 = .bool false := hv 5 (by decide)
    have h13 : vs 13 = .int .i64 v2 := hv 13 (by decide)
    have t79 := (hs.tm 79 13 rfl).trans (congrArg some h13)
    refine stepCall (wanted_on rfl rfl ((hs.tm 71 5 rfl).trans (congrArg some h5))) Try.func41 (by kernel_rfl) rfl #[vs 13] rfl (by simp [Act.eval, hs.tm 79 13 rfl]) (by rw [h13]; exact numOn_any v2 W) ?_
    rintro e W' ⟨rfl, hb'⟩
    exact ⟨_, rfl, hb', rfl⟩
   ·intro vs W hp hv b hs
    have h5 : vs 5 = .bool false := hv 5 (by decide)
    have h14 : vs 14 = .bool (v2 != 0) := hv 14 (by decide)
    have t80 := (hs.tm 80 14 rfl).trans (congrArg some h14)
    refine stepCall (wanted_on rfl rfl ((hs.tm 71 5 rfl).trans (congrArg some h5))) Try.func40 (by kernel_rfl) rfl #[vs 14] rfl (by simp [Act.eval, hs.tm 80 14 rfl]) (by rw [h14]; exact numIs_any (v2 != 0) W) ?_
    rintro e W' ⟨rfl, hb'⟩
    exact ⟨_, rfl, hb', congrArg (Value.int .i64) ((isL_if _).trans U.out.2.2.2.2.1.symm)⟩
   ·intro vs W hp hv b hs
    have h5 : vs 5 = .bool false := hv 5 (by decide)
    have h10 : vs 10 = .int .i64 v1 := hv 10 (by decide)
    have t76 := (hs.tm 76 10 rfl).trans (congrArg some h10)
    have h15 : vs 15 = .int .i64 v3 := hv 15 (by decide)
    have t81 := (hs.tm 81 15 rfl).trans (congrArg some h15)
    exact stepVal (wanted_on rfl rfl ((hs.tm 71 5 rfl).trans (congrArg some h5))) (by go_simp) ⟨Below.refl _ _, rfl⟩
   ·intro vs W hp hv b hs
    have h5 : vs 5 = .bool false := hv 5 (by decide)
    have h16 : vs 16 = .bool false := hv 16 (by decide)
    have t82 := (hs.tm 82 16 rfl).trans (congrArg some h16)
    exact stepVal (wanted_on rfl rfl ((hs.tm 71 5 rfl).trans (congrArg some h5))) (by go_simp) ⟨Below.refl _ _, rfl⟩
   ·intro vs W hp hv b hs
    have h17 : vs 17 = .bool false := hv 17 (by decide)
    exact stepOff (wanted_off rfl rfl ((hs.tm 83 17 rfl).trans (congrArg some h17)) (by decide)) ⟨Below.refl _ _, trivial⟩
   ·intro vs W hp hv b hs
    have h17 : vs 17 = .bool false := hv 17 (by decide)
    exact stepOff (wanted_off rfl rfl ((hs.tm 83 17 rfl).trans (congrArg some h17)) (by decide)) ⟨Below.refl _ _, trivial⟩
   ·intro vs W hp hv b hs
    have h17 : vs 17 = .bool false := hv 17 (by decide)
    exact stepOff (wanted_off rfl rfl ((hs.tm 83 17 rfl).trans (congrArg some h17)) (by decide)) ⟨Below.refl _ _, trivial⟩
   ·intro vs W hp hv b hs
    have h17 : vs 17 = .bool false := hv 17 (by decide)
    exact stepOff (wanted_off rfl rfl ((hs.tm 83 17 rfl).trans (congrArg some h17)) (by decide)) ⟨Below.refl _ _, trivial⟩
   ·intro vs W hp hv b hs
    have h5 : vs 5 = .bool false := hv 5 (by decide)
    have h17 : vs 17 = .bool false := hv 17 (by decide)
    have t83 := (hs.tm 83 17 rfl).trans (congrArg some h17)
    exact stepVal (wanted_on rfl rfl ((hs.tm 71 5 rfl).trans (congrArg some h5))) (by go_simp) ⟨Below.refl _ _, rfl⟩
   ·intro vs W hp hv b hs
    have h5 : vs 5 = .bool false := hv 5 (by decide)
    have t71 := (hs.tm 71 5 rfl).trans (congrArg some h5)
    have h22 : vs 22 = .bool false := hv 22 (by decide)
    have t88 := (hs.tm 88 22 rfl).trans (congrArg some h22)
    exact stepVal rfl (by go_simp) ⟨Below.refl _ _, rfl⟩
  intro vs W5 hb hv
  have h23 : vs 23 = .bool false := hv 23 (by decide)
  simp only [List.map_cons, List.map_nil, putL, Act.put, List.setIfInBounds_toArray, List.set_cons_zero, List.set_cons_succ, h23]
  clear hv h23
  have H16 := Aside0.mk (show TV W5 y3 C3 e3 ∧ Box W5 g10 32 (eA y3 C3 e3) ∧ Box W5 g7 32 (eA y B' d') ∧ TV W5 y B' d' ∧ Box W5 g5 32 (eA x B d) ∧ Box W5 g6 44 (mA m p) ∧ TV W5 x B d ∧ MV W5 m p ∧ Below w.heap.size w W5 from ⟨TV.last _ _ _ _ _ hb H15.out.1, blk_below H15.out.2.1 hb, blk_below H15.out.2.2.1 hb, TV.last _ _ _ _ _ hb H15.out.2.2.2.1, blk_below H15.out.2.2.2.2.1 hb, blk_below H15.out.2.2.2.2.2.1 hb, TV.last _ _ _ _ _ hb H15.out.2.2.2.2.2.2.1, MV.last _ _ _ _ hb H15.out.2.2.2.2.2.2.2.1, Below.trans H15.out.2.2.2.2.2.2.2.2 (hb.mono H15.out.2.2.2.2.2.2.2.2.size)⟩)
  clear H15 hb
  go_wp2_with fail
  obtain ⟨k1, hk1⟩ : ∃ z, z = n2 6 x y := ⟨_, rfl⟩
  obtain ⟨k2, hk2⟩ : ∃ z, z = n2 6 y x := ⟨_, rfl⟩
  obtain ⟨k3, hk3⟩ : ∃ z, z = n2 7 x y := ⟨_, rfl⟩
  obtain ⟨s1, hs1⟩ : ∃ v, v = oV k1 m := ⟨_, rfl⟩
  obtain ⟨s2, hs2⟩ : ∃ v, v = oV k2 m := ⟨_, rfl⟩
  obtain ⟨s3, hs3⟩ : ∃ v, v = oV k3 m := ⟨_, rfl⟩
  have FS := Aside0.mk (F2.out k1 k2 k3 s1 s2 s3 hk1 hk2 hk3 hs1 hs2 hs3)
  have K := Aside0.mk (And.intro hk1 (And.intro hk2 (And.intro hk3 (And.intro hs1 (And.intro hs2 hs3)))))
  clear hk1 hk2 hk3 hs1 hs2 hs3
  have f1 := FS.out.1
  have f2 := FS.out.2.1
  have f3 := FS.out.2.2.1
  have f4 := FS.out.2.2.2.1
  have f5 := FS.out.2.2.2.2.1
  have f6 := FS.out.2.2.2.2.2.1
  refine weaveB_ (fun W => Below W5.heap.size W5 W) (Lasts.below W5) (Below.refl _ _) [(90, 0), (91, 1), (92, 2), (93, 3), (94, 4), (95, 5), (96, 6), (97, 7), (98, 8), (99, 9), (100, 10), (101, 11), (102, 12), (103, 13), (104, 14), (105, 15), (106, 16), (107, 17), (4, 18)] [fun v _ => v = .agg (eA x B d), fun v _ => v = .agg (eA y B' d'), treeW k1, fun v _ => v = .agg (mA m p), fun v _ => v = .int .i64 s1, fun v _ => v = .agg (eA y B' d'), fun v _ => v = .agg (eA x B d), treeW k2, fun v _ => v = .agg (mA m p), fun v _ => v = .int .i64 s2, fun v _ => v = .int .i64 (s1 + s2), fun v _ => v = .agg (eA x B d), fun v _ => v = .agg (eA y B' d'), treeW k3, fun v _ => v = .agg (mA m p), fun v _ => v = .int .i64 s3, fun v _ => v = .int .i64 (s1 + s2 + s3), fun v _ => v = .bool (s1 + s2 + s3 == 1), fun v _ => v = .bool (s1 + s2 + s3 == 1)] rfl (by kernel_rfl) ⟨fun _ => Lasts.const _, fun _ => Lasts.const _, treeW_last _, fun _ => Lasts.const _, fun _ => Lasts.const _, fun _ => Lasts.const _, fun _ => Lasts.const _, treeW_last _, fun _ => Lasts.const _, fun _ => Lasts.const _, fun _ => Lasts.const _, fun _ => Lasts.const _, fun _ => Lasts.const _, treeW_last _, fun _ => Lasts.const _, fun _ => Lasts.const _, fun _ => Lasts.const _, fun _ => Lasts.const _, fun _ => Lasts.const _, trivial⟩ ?_ ?_
  ·refine ⟨?_, ?_, ?_, ?_, ?_, ?_, ?_, ?_, ?_, ?_, ?_, ?_, ?_, ?_, ?_, ?_, ?_, ?_, ?_, trivial⟩
   ·intro vs W hp hv b hs
    exact stepGet rfl rfl ((hs.old 5 rfl).trans rfl) (blk_below H16.out.2.2.2.2.1 hp) Try.underlying32 rfl (by kernel_rfl) ⟨Below.refl _ _, rfl⟩
   ·intro vs W hp hv b hs
    exact stepGet rfl rfl ((hs.old 7 rfl).trans rfl) (blk_below H16.out.2.2.1 hp) Try.underlying32 rfl (by kernel_rfl) ⟨Below.refl _ _, rfl⟩
   ·intro vs W hp hv b hs
    have h0 : vs 0 = .agg (eA x B d) := hv 0 (by decide)
    have t90 := (hs.tm 90 0 rfl).trans (congrArg some h0)
    have h1 : vs 1 = .agg (eA y B' d') := hv 1 (by decide)
    have t91 := (hs.tm 91 1 rfl).trans (congrArg some h1)
    refine stepCall rfl Try.func37 (by kernel_rfl) rfl #[.int .i64 6, vs 0, vs 1] rfl (by simp [Act.eval, hs.tm 90 0 rfl, hs.tm 91 1 rfl]) (by rw [h0, h1]; exact wqTwo_any 6 x y B d B' d' W (TV.last _ _ _ _ _ hp H16.out.2.2.2.2.2.2.1) (TV.last _ _ _ _ _ hp H16.out.2.2.2.1)) ?_
    rintro e W' ⟨z, A, c, hz, rfl, hT, hb'⟩
    obtain rfl : z = k1 := hz.trans K.out.1.symm
    exact ⟨_, rfl, hb', A, c, rfl, hT⟩
   ·intro vs W hp hv b hs
    exact stepGet rfl rfl ((hs.old 6 rfl).trans rfl) (blk_below H16.out.2.2.2.2.2.1 hp) Try.underlying44 rfl (by kernel_rfl) ⟨Below.refl _ _, rfl⟩
   ·intro vs W hp hv b hs
    obtain ⟨P2, q2, h2, t2⟩ : (treeW k1) (vs 2) W := hv 2 (by decide)
    have t92 := (hs.tm 92 2 rfl).trans (congrArg some h2)
    have h3 : vs 3 = .agg (mA m p) := hv 3 (by decide)
    have t93 := (hs.tm 93 3 rfl).trans (congrArg some h3)
    refine stepCall rfl Try.func26 (by kernel_rfl) rfl #[vs 2, vs 3] rfl (by simp [Act.eval, hs.tm 92 2 rfl, hs.tm 93 3 rfl]) (by rw [h2, h3]; exact implOf_any k1 P2 q2 m p W t2 (MV.last _ _ _ _ hp H16.out.2.2.2.2.2.2.2.1)) ?_
    rintro e W' ⟨rfl, hb'⟩
    exact ⟨_, rfl, hb', by show Value.int .i64 _ = Value.int .i64 _; rw [K.out.2.2.2.1]⟩
   ·intro vs W hp hv b hs
    exact stepGet rfl rfl ((hs.old 7 rfl).trans rfl) (blk_below H16.out.2.2.1 hp) Try.underlying32 rfl (by kernel_rfl) ⟨Below.refl _ _, rfl⟩
   ·intro vs W hp hv b hs
    exact stepGet rfl rfl ((hs.old 5 rfl).trans rfl) (blk_below H16.out.2.2.2.2.1 hp) Try.underlying32 rfl (by kernel_rfl) ⟨Below.refl _ _, rfl⟩
   ·intro vs W hp hv b hs
    have h5 : vs 5 = .agg (eA y B' d') := hv 5 (by decide)
    have t95 := (hs.tm 95 5 rfl).trans (congrArg some h5)
    have h6 : vs 6 = .agg (eA x B d) := hv 6 (by decide)
    have t96 := (hs.tm 96 6 rfl).trans (congrArg some h6)
    refine stepCall rfl Try.func37 (by kernel_rfl) rfl #[.int .i64 6, vs 5, vs 6] rfl (by simp [Act.eval, hs.tm 95 5 rfl, hs.tm 96 6 rfl]) (by rw [h5, h6]; exact wqTwo_any 6 y x B' d' B d W (TV.last _ _ _ _ _ hp H16.out.2.2.2.1) (TV.last _ _ _ _ _ hp H16.out.2.2.2.2.2.2.1)) ?_
    rintro e W' ⟨z, A, c, hz, rfl, hT, hb'⟩
    obtain rfl : z = k2 := hz.trans K.out.2.1.symm
    exact ⟨_, rfl, hb', A, c, rfl, hT⟩
   ·intro vs W hp hv b hs
    exact stepGet rfl rfl ((hs.old 6 rfl).trans rfl) (blk_below H16.out.2.2.2.2.2.1 hp) Try.underlying44 rfl (by kernel_rfl) ⟨Below.refl _ _, rfl⟩
   ·intro vs W hp hv b hs
    obtain ⟨P7, q7, h7, t7⟩ : (treeW k2) (vs 7) W := hv 7 (by decide)
    have t97 := (hs.tm 97 7 rfl).trans (congrArg some h7)
    have h8 : vs 8 = .agg (mA m p) := hv 8 (by decide)
    have t98 := (hs.tm 98 8 rfl).trans (congrArg some h8)
    refine stepCall rfl Try.func26 (by kernel_rfl) rfl #[vs 7, vs 8] rfl (by simp [Act.eval, hs.tm 97 7 rfl, hs.tm 98 8 rfl]) (by rw [h7, h8]; exact implOf_any k2 P7 q7 m p W t7 (MV.last _ _ _ _ hp H16.out.2.2.2.2.2.2.2.1)) ?_
    rintro e W' ⟨rfl, hb'⟩
    exact ⟨_, rfl, hb', by show Value.int .i64 _ = Value.int .i64 _; rw [K.out.2.2.2.2.1]⟩
   ·intro vs W hp hv b hs
    have h4 : vs 4 = .int .i64 s1 := hv 4 (by decide)
    have t94 := (hs.tm 94 4 rfl).trans (congrArg some h4)
    have h9 : vs 9 = .int .i64 s2 := hv 9 (by decide)
    have t99 := (hs.tm 99 9 rfl).trans (congrArg some h9)
    exact stepVal rfl (by go_simp; rw [IntKind.wrap_i64]; omega) ⟨Below.refl _ _, rfl⟩
   ·intro vs W hp hv b hs
    exact stepGet rfl rfl ((hs.old 5 rfl).trans rfl) (blk_below H16.out.2.2.2.2.1 hp) Try.underlying32 rfl (by kernel_rfl) ⟨Below.refl _ _, rfl⟩
   ·intro vs W hp hv b hs
    exact stepGet rfl rfl ((hs.old 7 rfl).trans rfl) (blk_below H16.out.2.2.1 hp) Try.underlying32 rfl (by kernel_rfl) ⟨Below.refl _ _, rfl⟩
   ·intro vs W hp hv b hs
    have h11 : vs 11 = .agg (eA x B d) := hv 11 (by decide)
    have t101 := (hs.tm 101 11 rfl).trans (congrArg some h11)
    have h12 : vs 12 = .agg (eA y B' d') := hv 12 (by decide)
    have t102 := (hs.tm 102 12 rfl).trans (congrArg some h12)
    refine stepCall rfl Try.func37 (by kernel_rfl) rfl #[.int .i64 7, vs 11, vs 12] rfl (by simp [Act.eval, hs.tm 101 11 rfl, hs.tm 102 12 rfl]) (by rw [h11, h12]; exact wqTwo_any 7 x y B d B' d' W (TV.last _ _ _ _ _ hp H16.out.2.2.2.2.2.2.1) (TV.last _ _ _ _ _ hp H16.out.2.2.2.1)) ?_
    rintro e W' ⟨z, A, c, hz, rfl, hT, hb'⟩
    obtain rfl : z = k3 := hz.trans K.out.2.2.1.symm
    exact ⟨_, rfl, hb', A, c, rfl, hT⟩
   ·intro vs W hp hv b hs
    exact stepGet rfl rfl ((hs.old 6 rfl).trans rfl) (blk_below H16.out.2.2.2.2.2.1 hp) Try.underlying44 rfl (by kernel_rfl) ⟨Below.refl _ _, rfl⟩
   ·intro vs W hp hv b hs
    obtain ⟨P13, q13, h13, t13⟩ : (treeW k3) (vs 13) W := hv 13 (by decide)
    have t103 := (hs.tm 103 13 rfl).trans (congrArg some h13)
    have h14 : vs 14 = .agg (mA m p) := hv 14 (by decide)
    have t104 := (hs.tm 104 14 rfl).trans (congrArg some h14)
    refine stepCall rfl Try.func26 (by kernel_rfl) rfl #[vs 13, vs 14] rfl (by simp [Act.eval, hs.tm 103 13 rfl, hs.tm 104 14 rfl]) (by rw [h13, h14]; exact implOf_any k3 P13 q13 m p W t13 (MV.last _ _ _ _ hp H16.out.2.2.2.2.2.2.2.1)) ?_
    rintro e W' ⟨rfl, hb'⟩
    exact ⟨_, rfl, hb', by show Value.int .i64 _ = Value.int .i64 _; rw [K.out.2.2.2.2.2]⟩
   ·intro vs W hp hv b hs
    have h10 : vs 10 = .int .i64 (s1 + s2) := hv 10 (by decide)
    have t100 := (hs.tm 100 10 rfl).trans (congrArg some h10)
    have h15 : vs 15 = .int .i64 s3 := hv 15 (by decide)
    have t105 := (hs.tm 105 15 rfl).trans (congrArg some h15)
    exact stepVal rfl (by go_simp; rw [IntKind.wrap_i64]; omega) ⟨Below.refl _ _, rfl⟩
   ·intro vs W hp hv b hs
    have h16 : vs 16 = .int .i64 (s1 + s2 + s3) := hv 16 (by decide)
    have t106 := (hs.tm 106 16 rfl).trans (congrArg some h16)
    exact stepVal rfl (by go_simp) ⟨Below.refl _ _, rfl⟩
   ·intro vs W hp hv b hs
    have h17 : vs 17 = .bool (s1 + s2 + s3 == 1) := hv 17 (by decide)
    have t107 := (hs.tm 107 17 rfl).trans (congrArg some h17)
    exact stepVal rfl (by go_simp) ⟨Below.refl _ _, rfl⟩
  intro vs W6 hb hv
  have h18 : vs 18 = .bool true := (hv 18 (by decide)).trans (congrArg Value.bool (beq_iff_eq.2 FS.out.2.2.2.2.2.2))
  simp only [List.map_cons, List.map_nil, putL, Act.put, List.setIfInBounds_toArray, List.set_cons_zero, List.set_cons_succ, h18]
  have HB := Aside0.mk (Below.trans H16.out.2.2.2.2.2.2.2.2 (hb.mono (Below.size H16.out.2.2.2.2.2.2.2.2)))
  clear hv h18 hb
  go_wp2
  go_ret
  exact ⟨rfl, HB.out⟩
 ·skip
  have hb5' := hb5.symm
  clear hb5
  refine weaveB_ (fun W => Below w11.heap.size w11 W) (Lasts.below w11) (Below.refl _ _) [(66, 0), (67, 1), (68, 2), (69, 3), (70, 4), (71, 5), (72, 6), (73, 7), (74, 8), (75, 9), (76, 10), (77, 11), (78, 12), (79, 13), (80, 14), (81, 15), (82, 16), (83, 17), (84, 18), (85, 19), (86, 20), (87, 21), (88, 22), (89, 23)] [fun v _ => v = .int .i64 n, fun v _ => v = .agg (eA y3 C3 e3), fun v _ => v = .agg (mA m p), fun v _ => v = .int .i64 n, fun v _ => v = .bool false, fun v _ => v = .bool false, fun v _ => v = .agg (eA x B d), treeW u1, treeW u2, fun v _ => v = .agg (mA m p), fun v _ => v = .int .i64 v1, fun v _ => v = .agg (eA x B d), fun v _ => v = .agg (mA m p), fun v _ => v = .int .i64 v2, fun v _ => v = .bool (v2 != 0), fun v _ => v = .int .i64 v3, fun v _ => v = .bool true, fun v _ => v = .bool true, fun v _ => v = .agg (eA x B d), treeW u1, treeW u2, fun v _ => v = .bool false, fun v _ => v = .bool false, fun v _ => v = .bool false] rfl (by kernel_rfl) ⟨fun _ => Lasts.const _, fun _ => Lasts.const _, fun _ => Lasts.const _, fun _ => Lasts.const _, fun _ => Lasts.const _, fun _ => Lasts.const _, fun _ => Lasts.const _, treeW_last _, treeW_last _, fun _ => Lasts.const _, fun _ => Lasts.const _, fun _ => Lasts.const _, fun _ => Lasts.const _, fun _ => Lasts.const _, fun _ => Lasts.const _, fun _ => Lasts.const _, fun _ => Lasts.const _, fun _ => Lasts.const _, fun _ => Lasts.const _, treeW_last _, treeW_last _, fun _ => Lasts.const _, fun _ => Lasts.const _, fun _ => Lasts.const _, trivial⟩ ?_ ?_
  ·refine ⟨?_, ?_, ?_, ?_, ?_, ?_, ?_, ?_, ?_, ?_, ?_, ?_, ?_, ?_, ?_, ?_, ?_, ?_, ?_, ?_, ?_, ?_, ?_, ?_, trivial⟩
   ·intro vs W hp hv b hs
    have t11 : b.tmps[(11 : Nat)]? = some (.int .i64 n) := (hs.oldtm 11 rfl).trans rfl
    exact stepVal rfl (by go_simp) ⟨Below.refl _ _, rfl⟩
   ·intro vs W hp hv b hs
    exact stepGet rfl rfl ((hs.old 10 rfl).trans rfl) (blk_below H15.out.2.1 hp) Try.underlying32 rfl (by kernel_rfl) ⟨Below.refl _ _, rfl⟩
   ·intro vs W hp hv b hs
    exact stepGet rfl rfl ((hs.old 6 rfl).trans rfl) (blk_below H15.out.2.2.2.2.2.1 hp) Try.underlying44 rfl (by kernel_rfl) ⟨Below.refl _ _, rfl⟩
   ·intro vs W hp hv b hs
    have h1 : vs 1 = .agg (eA y3 C3 e3) := hv 1 (by decide)
    have t67 := (hs.tm 67 1 rfl).trans (congrArg some h1)
    have h2 : vs 2 = .agg (mA m p) := hv 2 (by decide)
    have t68 := (hs.tm 68 2 rfl).trans (congrArg some h2)
    refine stepCall rfl Try.func26 (by kernel_rfl) rfl #[vs 1, vs 2] rfl (by simp [Act.eval, hs.tm 67 1 rfl, hs.tm 68 2 rfl]) (by rw [h1, h2]; exact implOf_any y3 C3 e3 m p W (TV.last _ _ _ _ _ hp H15.out.1) (MV.last _ _ _ _ hp H15.out.2.2.2.2.2.2.2.1)) ?_
    rintro e W' ⟨rfl, hb'⟩
    exact ⟨_, rfl, hb', by show Value.int .i64 _ = Value.int .i64 _; rw [← U.out.2.2.2.2.2]⟩
   ·intro vs W hp hv b hs
    have h0 : vs 0 = .int .i64 n := hv 0 (by decide)
    have t66 := (hs.tm 66 0 rfl).trans (congrArg some h0)
    have h3 : vs 3 = .int .i64 n := hv 3 (by decide)
    have t69 := (hs.tm 69 3 rfl).trans (congrArg some h3)
    exact stepVal rfl (by go_simp) ⟨Below.refl _ _, rfl⟩
   ·intro vs W hp hv b hs
    have h4 : vs 4 = .bool false := hv 4 (by decide)
    have t70 := (hs.tm 70 4 rfl).trans (congrArg some h4)
    exact stepVal rfl (by go_simp) ⟨Below.refl _ _, rfl⟩
   ·intro vs W hp hv b hs
    have h5 : vs 5 = .bool false := hv 5 (by decide)
    exact stepGet (wanted_on rfl rfl ((hs.tm 71 5 rfl).trans (congrArg some h5))) rfl ((hs.old 5 rfl).trans rfl) (blk_below H15.out.2.2.2.2.1 hp) Try.underlying32 rfl (by kernel_rfl) ⟨Below.refl _ _, rfl⟩
   ·intro vs W hp hv b hs
    have h5 : vs 5 = .bool false := hv 5 (by decide)
    have h6 : vs 6 = .agg (eA x B d) := hv 6 (by decide)
    have t72 := (hs.tm 72 6 rfl).trans (congrArg some h6)
    refine stepCall (wanted_on rfl rfl ((hs.tm 71 5 rfl).trans (congrArg some h5))) Try.func38 (by kernel_rfl) rfl #[vs 6] rfl (by simp [Act.eval, hs.tm 72 6 rfl]) (by rw [h6]; exact wqNot_any x B d W (TV.last _ _ _ _ _ hp H15.out.2.2.2.2.2.2.1)) ?_
    rintro e W' ⟨z, A, c, hz, rfl, hT, hb'⟩
    obtain rfl : z = u1 := hz.trans U.out.1.symm
    exact ⟨_, rfl, hb', A, c, rfl, hT⟩
   ·intro vs W hp hv b hs
    have h5 : vs 5 = .bool false := hv 5 (by decide)
    obtain ⟨P7, q7, h7, t7⟩ : (treeW u1) (vs 7) W := hv 7 (by decide)
    have t73 := (hs.tm 73 7 rfl).trans (congrArg some h7)
    refine stepCall (wanted_on rfl rfl ((hs.tm 71 5 rfl).trans (congrArg some h5))) Try.func38 (by kernel_rfl) rfl #[vs 7] rfl (by simp [Act.eval, hs.tm 73 7 rfl]) (by rw [h7]; exact wqNot_any u1 P7 q7 W t7) ?_
    rintro e W' ⟨z, A, c, hz, rfl, hT, hb'⟩
    obtain rfl : z = u2 := hz.trans U.out.2.1.symm
    exact ⟨_, rfl, hb', A, c, rfl, hT⟩
   ·intro vs W hp hv b hs
    have h5 : vs 5 = .bool false := hv 5 (by decide)
    exact stepGet (wanted_on rfl rfl ((hs.tm 71 5 rfl).trans (congrArg some h5))) rfl ((hs.old 6 rfl).trans rfl) (blk_below H15.out.2.2.2.2.2.1 hp) Try.underlying44 rfl (by kernel_rfl) ⟨Below.refl _ _, rfl⟩
   ·intro vs W hp hv b hs
    have h5 : vs 5 = .bool false := hv 5 (by decide)
    obtain ⟨P8, q8, h8, t8⟩ : (treeW u2) (vs 8) W := hv 8 (by decide)
    have t74 := (hs.tm 74 8 rfl).trans (congrArg some h8)
    have h9 : vs 9 = .agg (mA m p) := hv 9 (by decide)
    have t75 := (hs.tm 75 9 rfl).trans (congrArg some h9)
    refine stepCall (wanted_on rfl rfl ((hs.tm 71 5 rfl).trans (congrArg some h5))) Try.func26 (by kernel_rfl) rfl #[vs 8, vs 9] rfl (by simp [Act.eval, hs.tm 74 8 rfl, hs.tm 75 9 rfl]) (by rw [h8, h9]; exact implOf_any u2 P8 q8 m p W t8 (MV.last _ _ _ _ hp H15.out.2.2.2.2.2.2.2.1)) ?_
    rintro e W' ⟨rfl, hb'⟩
    exact ⟨_, rfl, hb', by show Value.int .i64 _ = Value.int .i64 _; rw [U.out.2.2.1]⟩
   ·intro vs W hp hv b hs
    have h5 : vs 5 = .bool false := hv 5 (by decide)
    exact stepGet (wanted_on rfl rfl ((hs.tm 71 5 rfl).trans (congrArg some h5))) rfl ((hs.old 5 rfl).trans rfl) (blk_below H15.out.2.2.2.2.1 hp) Try.underlying32 rfl (by kernel_rfl) ⟨Below.refl _ _, rfl⟩
   ·intro vs W hp hv b hs
    have h5 : vs 5 = .bool false := hv 5 (by decide)
    exact stepGet (wanted_on rfl rfl ((hs.tm 71 5 rfl).trans (congrArg some h5))) rfl ((hs.old 6 rfl).trans rfl) (blk_below H15.out.2.2.2.2.2.1 hp) Try.underlying44 rfl (by kernel_rfl) ⟨Below.refl _ _, rfl⟩
   ·intro vs W hp hv b hs
    have h5 : vs 5 = .bool false := hv 5 (by decide)
    have h11 : vs 11 = .agg (eA x B d) := hv 11 (by decide)
    have t77 := (hs.tm 77 11 rfl).trans (congrArg some h11)
    have h12 : vs 12 = .agg (mA m p) := hv 12 (by decide)
    have t78 := (hs.tm 78 12 rfl).trans (congrArg some h12)
    refine stepCall (wanted_on rfl rfl ((hs.tm 71 5 rfl).trans (congrArg some h5))) Try.func26 (by kernel_rfl) rfl #[vs 11, vs 12] rfl (by simp [Act.eval, hs.tm 77 11 rfl, hs.tm 78 12 rfl]) (by rw [h11, h12]; exact implOf_any x B d m p W (TV.last _ _ _ _ _ hp H15.out.2.2.2.2.2.2.1) (MV.last _ _ _ _ hp H15.out.2.2.2.2.2.2.2.1)) ?_
    rintro e W' ⟨rfl, hb'⟩
    exact ⟨_, rfl, hb', by show Value.int .i64 _ = Value.int .i64 _; rw [U.out.2.2.2.1]⟩
   ·intro vs W hp hv b hs
    have h5 : vs 5 = .bool false := hv 5 (by decide)
    have h13 : vs 13 = .int .i64 v2 := hv 13 (by decide)
    have t79 := (hs.tm 79 13 rfl).trans (congrArg some h13)
    refine stepCall (wanted_on rfl rfl ((hs.tm 71 5 rfl).trans (congrArg some h5))) Try.func41 (by kernel_rfl) rfl #[vs 13] rfl (by simp [Act.eval, hs.tm 79 13 rfl]) (by rw [h13]; exact numOn_any v2 W) ?_
    rintro e W' ⟨rfl, hb'⟩
    exact ⟨_, rfl, hb', rfl⟩
   ·intro vs W hp hv b hs
    have h5 : vs 5 = .bool false := hv 5 (by decide)
    have h14 : vs 14 = .bool (v2 != 0) := hv 14 (by decide)
    have t80 := (hs.tm 80 14 rfl).trans (congrArg some h14)
    refine stepCall (wanted_on rfl rfl ((hs.tm 71 5 rfl).trans (congrArg some h5))) Try.func40 (by kernel_rfl) rfl #[vs 14] rfl (by simp [Act.eval, hs.tm 80 14 rfl]) (by rw [h14]; exact numIs_any (v2 != 0) W) ?_
    rintro e W' ⟨rfl, hb'⟩
    exact ⟨_, rfl, hb', congrArg (Value.int .i64) ((isL_if _).trans U.out.2.2.2.2.1.symm)⟩
   ·intro vs W hp hv b hs
    have h5 : vs 5 = .bool false := hv 5 (by decide)
    have h10 : vs 10 = .int .i64 v1 := hv 10 (by decide)
    have t76 := (hs.tm 76 10 rfl).trans (congrArg some h10)
    have h15 : vs 15 = .int .i64 v3 := hv 15 (by decide)
    have t81 := (hs.tm 81 15 rfl).trans (congrArg some h15)
    exact stepVal (wanted_on rfl rfl ((hs.tm 71 5 rfl).trans (congrArg some h5))) (by go_simp) ⟨Below.refl _ _, rfl⟩
   ·intro vs W hp hv b hs
    have h5 : vs 5 = .bool false := hv 5 (by decide)
    have h16 : vs 16 = .bool true := hv 16 (by decide)
    have t82 := (hs.tm 82 16 rfl).trans (congrArg some h16)
    exact stepVal (wanted_on rfl rfl ((hs.tm 71 5 rfl).trans (congrArg some h5))) (by go_simp) ⟨Below.refl _ _, rfl⟩
   ·intro vs W hp hv b hs
    have h17 : vs 17 = .bool true := hv 17 (by decide)
    exact stepGet (wanted_on rfl rfl ((hs.tm 83 17 rfl).trans (congrArg some h17))) rfl ((hs.old 5 rfl).trans rfl) (blk_below H15.out.2.2.2.2.1 hp) Try.underlying32 rfl (by kernel_rfl) ⟨Below.refl _ _, rfl⟩
   ·intro vs W hp hv b hs
    have h17 : vs 17 = .bool true := hv 17 (by decide)
    have h18 : vs 18 = .agg (eA x B d) := hv 18 (by decide)
    have t84 := (hs.tm 84 18 rfl).trans (congrArg some h18)
    refine stepCall (wanted_on rfl rfl ((hs.tm 83 17 rfl).trans (congrArg some h17))) Try.func38 (by kernel_rfl) rfl #[vs 18] rfl (by simp [Act.eval, hs.tm 84 18 rfl]) (by rw [h18]; exact wqNot_any x B d W (TV.last _ _ _ _ _ hp H15.out.2.2.2.2.2.2.1)) ?_
    rintro e W' ⟨z, A, c, hz, rfl, hT, hb'⟩
    obtain rfl : z = u1 := hz.trans U.out.1.symm
    exact ⟨_, rfl, hb', A, c, rfl, hT⟩
   ·intro vs W hp hv b hs
    have h17 : vs 17 = .bool true := hv 17 (by decide)
    obtain ⟨P19, q19, h19, t19⟩ : (treeW u1) (vs 19) W := hv 19 (by decide)
    have t85 := (hs.tm 85 19 rfl).trans (congrArg some h19)
    refine stepCall (wanted_on rfl rfl ((hs.tm 83 17 rfl).trans (congrArg some h17))) Try.func38 (by kernel_rfl) rfl #[vs 19] rfl (by simp [Act.eval, hs.tm 85 19 rfl]) (by rw [h19]; exact wqNot_any u1 P19 q19 W t19) ?_
    rintro e W' ⟨z, A, c, hz, rfl, hT, hb'⟩
    obtain rfl : z = u2 := hz.trans U.out.2.1.symm
    exact ⟨_, rfl, hb', A, c, rfl, hT⟩
   ·intro vs W hp hv b hs
    have h17 : vs 17 = .bool true := hv 17 (by decide)
    obtain ⟨P20, q20, h20, t20⟩ : (treeW u2) (vs 20) W := hv 20 (by decide)
    have t86 := (hs.tm 86 20 rfl).trans (congrArg some h20)
    refine stepCall (wanted_on rfl rfl ((hs.tm 83 17 rfl).trans (congrArg some h17))) Try.func18 (by kernel_rfl) rfl #[vs 20] rfl (by simp [Act.eval, hs.tm 86 20 rfl]) (by rw [h20]; exact implOk_any u2 P20 q20 W t20) ?_
    rintro e W' ⟨rfl, hb'⟩
    exact ⟨_, rfl, hb', congrArg Value.bool (F3.out _ _ _ _ _ U.out.1 U.out.2.1 U.out.2.2.1 U.out.2.2.2.1 U.out.2.2.2.2.1 hb5')⟩
   ·intro vs W hp hv b hs
    have h5 : vs 5 = .bool false := hv 5 (by decide)
    have h17 : vs 17 = .bool true := hv 17 (by decide)
    have t83 := (hs.tm 83 17 rfl).trans (congrArg some h17)
    have h21 : vs 21 = .bool false := hv 21 (by decide)
    have t87 := (hs.tm 87 21 rfl).trans (congrArg some h21)
    exact stepVal (wanted_on rfl rfl ((hs.tm 71 5 rfl).trans (congrArg some h5))) (by go_simp) ⟨Below.refl _ _, rfl⟩
   ·intro vs W hp hv b hs
    have h5 : vs 5 = .bool false := hv 5 (by decide)
    have t71 := (hs.tm 71 5 rfl).trans (congrArg some h5)
    have h22 : vs 22 = .bool false := hv 22 (by decide)
    have t88 := (hs.tm 88 22 rfl).trans (congrArg some h22)
    exact stepVal rfl (by go_simp) ⟨Below.refl _ _, rfl⟩
  intro vs W5 hb hv
  have h23 : vs 23 = .bool false := hv 23 (by decide)
  simp only [List.map_cons, List.map_nil, putL, Act.put, List.setIfInBounds_toArray, List.set_cons_zero, List.set_cons_succ, h23]
  clear hv h23
  have H17 := Aside0.mk (show TV W5 y3 C3 e3 ∧ Box W5 g10 32 (eA y3 C3 e3) ∧ Box W5 g7 32 (eA y B' d') ∧ TV W5 y B' d' ∧ Box W5 g5 32 (eA x B d) ∧ Box W5 g6 44 (mA m p) ∧ TV W5 x B d ∧ MV W5 m p ∧ Below w.heap.size w W5 from ⟨TV.last _ _ _ _ _ hb H15.out.1, blk_below H15.out.2.1 hb, blk_below H15.out.2.2.1 hb, TV.last _ _ _ _ _ hb H15.out.2.2.2.1, blk_below H15.out.2.2.2.2.1 hb, blk_below H15.out.2.2.2.2.2.1 hb, TV.last _ _ _ _ _ hb H15.out.2.2.2.2.2.2.1, MV.last _ _ _ _ hb H15.out.2.2.2.2.2.2.2.1, Below.trans H15.out.2.2.2.2.2.2.2.2 (hb.mono H15.out.2.2.2.2.2.2.2.2.size)⟩)
  clear H15 hb
  go_wp2_with fail
  obtain ⟨k1, hk1⟩ : ∃ z, z = n2 6 x y := ⟨_, rfl⟩
  obtain ⟨k2, hk2⟩ : ∃ z, z = n2 6 y x := ⟨_, rfl⟩
  obtain ⟨k3, hk3⟩ : ∃ z, z = n2 7 x y := ⟨_, rfl⟩
  obtain ⟨s1, hs1⟩ : ∃ v, v = oV k1 m := ⟨_, rfl⟩
  obtain ⟨s2, hs2⟩ : ∃ v, v = oV k2 m := ⟨_, rfl⟩
  obtain ⟨s3, hs3⟩ : ∃ v, v = oV k3 m := ⟨_, rfl⟩
  have FS := Aside0.mk (F2.out k1 k2 k3 s1 s2 s3 hk1 hk2 hk3 hs1 hs2 hs3)
  have K := Aside0.mk (And.intro hk1 (And.intro hk2 (And.intro hk3 (And.intro hs1 (And.intro hs2 hs3)))))
  clear hk1 hk2 hk3 hs1 hs2 hs3
  have f1 := FS.out.1
  have f2 := FS.out.2.1
  have f3 := FS.out.2.2.1
  have f4 := FS.out.2.2.2.1
  have f5 := FS.out.2.2.2.2.1
  have f6 := FS.out.2.2.2.2.2.1
  refine weaveB_ (fun W => Below W5.heap.size W5 W) (Lasts.below W5) (Below.refl _ _) [(90, 0), (91, 1), (92, 2), (93, 3), (94, 4), (95, 5), (96, 6), (97, 7), (98, 8), (99, 9), (100, 10), (101, 11), (102, 12), (103, 13), (104, 14), (105, 15), (106, 16), (107, 17), (4, 18)] [fun v _ => v = .agg (eA x B d), fun v _ => v = .agg (eA y B' d'), treeW k1, fun v _ => v = .agg (mA m p), fun v _ => v = .int .i64 s1, fun v _ => v = .agg (eA y B' d'), fun v _ => v = .agg (eA x B d), treeW k2, fun v _ => v = .agg (mA m p), fun v _ => v = .int .i64 s2, fun v _ => v = .int .i64 (s1 + s2), fun v _ => v = .agg (eA x B d), fun v _ => v = .agg (eA y B' d'), treeW k3, fun v _ => v = .agg (mA m p), fun v _ => v = .int .i64 s3, fun v _ => v = .int .i64 (s1 + s2 + s3), fun v _ => v = .bool (s1 + s2 + s3 == 1), fun v _ => v = .bool (s1 + s2 + s3 == 1)] rfl (by kernel_rfl) ⟨fun _ => Lasts.const _, fun _ => Lasts.const _, treeW_last _, fun _ => Lasts.const _, fun _ => Lasts.const _, fun _ => Lasts.const _, fun _ => Lasts.const _, treeW_last _, fun _ => Lasts.const _, fun _ => Lasts.const _, fun _ => Lasts.const _, fun _ => Lasts.const _, fun _ => Lasts.const _, treeW_last _, fun _ => Lasts.const _, fun _ => Lasts.const _, fun _ => Lasts.const _, fun _ => Lasts.const _, fun _ => Lasts.const _, trivial⟩ ?_ ?_
  ·refine ⟨?_, ?_, ?_, ?_, ?_, ?_, ?_, ?_, ?_, ?_, ?_, ?_, ?_, ?_, ?_, ?_, ?_, ?_, ?_, trivial⟩
   ·intro vs W hp hv b hs
    exact stepGet rfl rfl ((hs.old 5 rfl).trans rfl) (blk_below H17.out.2.2.2.2.1 hp) Try.underlying32 rfl (by kernel_rfl) ⟨Below.refl _ _, rfl⟩
   ·intro vs W hp hv b hs
    exact stepGet rfl rfl ((hs.old 7 rfl).trans rfl) (blk_below H17.out.2.2.1 hp) Try.underlying32 rfl (by kernel_rfl) ⟨Below.refl _ _, rfl⟩
   ·intro vs W hp hv b hs
    have h0 : vs 0 = .agg (eA x B d) := hv 0 (by decide)
    have t90 := (hs.tm 90 0 rfl).trans (congrArg some h0)
    have h1 : vs 1 = .agg (eA y B' d') := hv 1 (by decide)
    have t91 := (hs.tm 91 1 rfl).trans (congrArg some h1)
    refine stepCall rfl Try.func37 (by kernel_rfl) rfl #[.int .i64 6, vs 0, vs 1] rfl (by simp [Act.eval, hs.tm 90 0 rfl, hs.tm 91 1 rfl]) (by rw [h0, h1]; exact wqTwo_any 6 x y B d B' d' W (TV.last _ _ _ _ _ hp H17.out.2.2.2.2.2.2.1) (TV.last _ _ _ _ _ hp H17.out.2.2.2.1)) ?_
    rintro e W' ⟨z, A, c, hz, rfl, hT, hb'⟩
    obtain rfl : z = k1 := hz.trans K.out.1.symm
    exact ⟨_, rfl, hb', A, c, rfl, hT⟩
   ·intro vs W hp hv b hs
    exact stepGet rfl rfl ((hs.old 6 rfl).trans rfl) (blk_below H17.out.2.2.2.2.2.1 hp) Try.underlying44 rfl (by kernel_rfl) ⟨Below.refl _ _, rfl⟩
   ·intro vs W hp hv b hs
    obtain ⟨P2, q2, h2, t2⟩ : (treeW k1) (vs 2) W := hv 2 (by decide)
    have t92 := (hs.tm 92 2 rfl).trans (congrArg some h2)
    have h3 : vs 3 = .agg (mA m p) := hv 3 (by decide)
    have t93 := (hs.tm 93 3 rfl).trans (congrArg some h3)
    refine stepCall rfl Try.func26 (by kernel_rfl) rfl #[vs 2, vs 3] rfl (by simp [Act.eval, hs.tm 92 2 rfl, hs.tm 93 3 rfl]) (by rw [h2, h3]; exact implOf_any k1 P2 q2 m p W t2 (MV.last _ _ _ _ hp H17.out.2.2.2.2.2.2.2.1)) ?_
    rintro e W' ⟨rfl, hb'⟩
    exact ⟨_, rfl, hb', by show Value.int .i64 _ = Value.int .i64 _; rw [K.out.2.2.2.1]⟩
   ·intro vs W hp hv b hs
    exact stepGet rfl rfl ((hs.old 7 rfl).trans rfl) (blk_below H17.out.2.2.1 hp) Try.underlying32 rfl (by kernel_rfl) ⟨Below.refl _ _, rfl⟩
   ·intro vs W hp hv b hs
    exact stepGet rfl rfl ((hs.old 5 rfl).trans rfl) (blk_below H17.out.2.2.2.2.1 hp) Try.underlying32 rfl (by kernel_rfl) ⟨Below.refl _ _, rfl⟩
   ·intro vs W hp hv b hs
    have h5 : vs 5 = .agg (eA y B' d') := hv 5 (by decide)
    have t95 := (hs.tm 95 5 rfl).trans (congrArg some h5)
    have h6 : vs 6 = .agg (eA x B d) := hv 6 (by decide)
    have t96 := (hs.tm 96 6 rfl).trans (congrArg some h6)
    refine stepCall rfl Try.func37 (by kernel_rfl) rfl #[.int .i64 6, vs 5, vs 6] rfl (by simp [Act.eval, hs.tm 95 5 rfl, hs.tm 96 6 rfl]) (by rw [h5, h6]; exact wqTwo_any 6 y x B' d' B d W (TV.last _ _ _ _ _ hp H17.out.2.2.2.1) (TV.last _ _ _ _ _ hp H17.out.2.2.2.2.2.2.1)) ?_
    rintro e W' ⟨z, A, c, hz, rfl, hT, hb'⟩
    obtain rfl : z = k2 := hz.trans K.out.2.1.symm
    exact ⟨_, rfl, hb', A, c, rfl, hT⟩
   ·intro vs W hp hv b hs
    exact stepGet rfl rfl ((hs.old 6 rfl).trans rfl) (blk_below H17.out.2.2.2.2.2.1 hp) Try.underlying44 rfl (by kernel_rfl) ⟨Below.refl _ _, rfl⟩
   ·intro vs W hp hv b hs
    obtain ⟨P7, q7, h7, t7⟩ : (treeW k2) (vs 7) W := hv 7 (by decide)
    have t97 := (hs.tm 97 7 rfl).trans (congrArg some h7)
    have h8 : vs 8 = .agg (mA m p) := hv 8 (by decide)
    have t98 := (hs.tm 98 8 rfl).trans (congrArg some h8)
    refine stepCall rfl Try.func26 (by kernel_rfl) rfl #[vs 7, vs 8] rfl (by simp [Act.eval, hs.tm 97 7 rfl, hs.tm 98 8 rfl]) (by rw [h7, h8]; exact implOf_any k2 P7 q7 m p W t7 (MV.last _ _ _ _ hp H17.out.2.2.2.2.2.2.2.1)) ?_
    rintro e W' ⟨rfl, hb'⟩
    exact ⟨_, rfl, hb', by show Value.int .i64 _ = Value.int .i64 _; rw [K.out.2.2.2.2.1]⟩
   ·intro vs W hp hv b hs
    have h4 : vs 4 = .int .i64 s1 := hv 4 (by decide)
    have t94 := (hs.tm 94 4 rfl).trans (congrArg some h4)
    have h9 : vs 9 = .int .i64 s2 := hv 9 (by decide)
    have t99 := (hs.tm 99 9 rfl).trans (congrArg some h9)
    exact stepVal rfl (by go_simp; rw [IntKind.wrap_i64]; omega) ⟨Below.refl _ _, rfl⟩
   ·intro vs W hp hv b hs
    exact stepGet rfl rfl ((hs.old 5 rfl).trans rfl) (blk_below H17.out.2.2.2.2.1 hp) Try.underlying32 rfl (by kernel_rfl) ⟨Below.refl _ _, rfl⟩
   ·intro vs W hp hv b hs
    exact stepGet rfl rfl ((hs.old 7 rfl).trans rfl) (blk_below H17.out.2.2.1 hp) Try.underlying32 rfl (by kernel_rfl) ⟨Below.refl _ _, rfl⟩
   ·intro vs W hp hv b hs
    have h11 : vs 11 = .agg (eA x B d) := hv 11 (by decide)
    have t101 := (hs.tm 101 11 rfl).trans (congrArg some h11)
    have h12 : vs 12 = .agg (eA y B' d') := hv 12 (by decide)
    have t102 := (hs.tm 102 12 rfl).trans (congrArg some h12)
    refine stepCall rfl Try.func37 (by kernel_rfl) rfl #[.int .i64 7, vs 11, vs 12] rfl (by simp [Act.eval, hs.tm 101 11 rfl, hs.tm 102 12 rfl]) (by rw [h11, h12]; exact wqTwo_any 7 x y B d B' d' W (TV.last _ _ _ _ _ hp H17.out.2.2.2.2.2.2.1) (TV.last _ _ _ _ _ hp H17.out.2.2.2.1)) ?_
    rintro e W' ⟨z, A, c, hz, rfl, hT, hb'⟩
    obtain rfl : z = k3 := hz.trans K.out.2.2.1.symm
    exact ⟨_, rfl, hb', A, c, rfl, hT⟩
   ·intro vs W hp hv b hs
    exact stepGet rfl rfl ((hs.old 6 rfl).trans rfl) (blk_below H17.out.2.2.2.2.2.1 hp) Try.underlying44 rfl (by kernel_rfl) ⟨Below.refl _ _, rfl⟩
   ·intro vs W hp hv b hs
    obtain ⟨P13, q13, h13, t13⟩ : (treeW k3) (vs 13) W := hv 13 (by decide)
    have t103 := (hs.tm 103 13 rfl).trans (congrArg some h13)
    have h14 : vs 14 = .agg (mA m p) := hv 14 (by decide)
    have t104 := (hs.tm 104 14 rfl).trans (congrArg some h14)
    refine stepCall rfl Try.func26 (by kernel_rfl) rfl #[vs 13, vs 14] rfl (by simp [Act.eval, hs.tm 103 13 rfl, hs.tm 104 14 rfl]) (by rw [h13, h14]; exact implOf_any k3 P13 q13 m p W t13 (MV.last _ _ _ _ hp H17.out.2.2.2.2.2.2.2.1)) ?_
    rintro e W' ⟨rfl, hb'⟩
    exact ⟨_, rfl, hb', by show Value.int .i64 _ = Value.int .i64 _; rw [K.out.2.2.2.2.2]⟩
   ·intro vs W hp hv b hs
    have h10 : vs 10 = .int .i64 (s1 + s2) := hv 10 (by decide)
    have t100 := (hs.tm 100 10 rfl).trans (congrArg some h10)
    have h15 : vs 15 = .int .i64 s3 := hv 15 (by decide)
    have t105 := (hs.tm 105 15 rfl).trans (congrArg some h15)
    exact stepVal rfl (by go_simp; rw [IntKind.wrap_i64]; omega) ⟨Below.refl _ _, rfl⟩
   ·intro vs W hp hv b hs
    have h16 : vs 16 = .int .i64 (s1 + s2 + s3) := hv 16 (by decide)
    have t106 := (hs.tm 106 16 rfl).trans (congrArg some h16)
    exact stepVal rfl (by go_simp) ⟨Below.refl _ _, rfl⟩
   ·intro vs W hp hv b hs
    have h17 : vs 17 = .bool (s1 + s2 + s3 == 1) := hv 17 (by decide)
    have t107 := (hs.tm 107 17 rfl).trans (congrArg some h17)
    exact stepVal rfl (by go_simp) ⟨Below.refl _ _, rfl⟩
  intro vs W6 hb hv
  have h18 : vs 18 = .bool true := (hv 18 (by decide)).trans (congrArg Value.bool (beq_iff_eq.2 FS.out.2.2.2.2.2.2))
  simp only [List.map_cons, List.map_nil, putL, Act.put, List.setIfInBounds_toArray, List.set_cons_zero, List.set_cons_succ, h18]
  have HB := Aside0.mk (Below.trans H17.out.2.2.2.2.2.2.2.2 (hb.mono (Below.size H17.out.2.2.2.2.2.2.2.2)))
  clear hv h18 hb
  go_wp2
  go_ret
  exact ⟨rfl, HB.out⟩
end Go.Proofs.Ytiofkhfmdophpaa.B
