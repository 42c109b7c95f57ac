/- The law FnSlimReads, walked by hand. -/
import Derived.Test.YtendbgedpjcocaaGreatDoorJnC
import Derived.Test.YtendbgedpjcocaaGreatDoorJnK
import Derived.Test.YtendbgedpjcocaaGreatDoorJnA
namespace Go.Proofs.YtendbgedpjcocaaGreatDoor.B
open Go Go.RowKit Go.Proofs.YtendbgedpjcocaaGreatDoorW.PrintWords Go.Proofs.YtendbgedpjcocaaGreatDoorW.PrintLast Go.Proofs.YtendbgedpjcocaaGreatDoorW.PrintMore
set_option linter.unusedVariables false
/-- A drawn region of which one value is wanted behind it. -/
theorem region_res {P : Program} {id : Nat} {ops : Array Oper} {a0 : Act} {w : World} {Q : Exit → Act → World → Prop} (ds : List (Tmp × Nat)) (r : Nat) (v : Value)
  (h1 : (Code.region id ops true).wp P (fun e a' w' => ∃ vs : Nat → Value, e = .normal ∧ a' = putL a0 (ds.map fun q => (q.1, vs q.2)) ∧ vs r = v ∧ Below w.heap.size w w') a0 w)
  (h2 : ∀ (vs : Nat → Value) w', vs r = v → Below w.heap.size w w' → Q .normal (putL a0 (ds.map fun q => (q.1, vs q.2))) w') : (Code.region id ops true).wp P Q a0 w :=
 Code.wp_mono (fun _ _ w' ⟨vs, e1, e2, e3, hb⟩ => by subst e1; subst e2; exact h2 vs w' e3 hb) h1
set_option maxRecDepth 100000 in
set_option maxHeartbeats 8000000 in
theorem law_SlimReads (l0 l1 : List Int) (hw0 : ∀ x ∈ l0, (Lit.int .u8 x).wf = true) (hw1 : ∀ x ∈ l1, (Lit.int .u8 x).wf = true) (A0 : Option Addr) (c0 : Nat) (A1 : Option Addr) (c1 : Nat) (w : World) (r0 : Kd.C (Kd.int .u8) w A0 l0.length l0) (h0 : l0.length ≤ c0) (r1 : Kd.C (Kd.int .u8) w A1 l1.length l1) (h1 : l1.length ≤ c1) (a : Addr) (HT : ErrAt w a) :
  Calls Tryz.prog 9 #[.slice A0 l0.length c0, .slice A1 l1.length c1] w fun e w' => e = .returned (.bool true) ∧ Below w.heap.size w w' := by
 have mixed : Tryz.prog.follows .mixedOrders = true := rfl
 have D0 := Aside0.mk (drawSR_any l0 hw0 A0 c0 w r0 h0)
 have D1 := Aside0.mk (fun W (hb : Below w.heap.size w W) => drawSW_any l0 hw0 A0 c0 W (Kd.C_below r0 hb) h0)
 have D2 := Aside0.mk (fun W (hb : Below w.heap.size w W) => drawMP_any l1 hw1 A1 c1 W (Kd.C_below r1 hb) h1)
 have D3 := Aside0.mk (fun W (hb : Below w.heap.size w W) => drawE_any l1 hw1 A1 c1 W (Kd.C_below r1 hb) h1)
 have HTT := Aside0.mk HT
 clear r0 r1 h0 h1 hw0 hw1 HT
 by_cases hlenl0 : (1048576 : Int) < (l0.length : Int)
 ·go_enter Tryz.func9, Tryz.ntmps9
  go_wp2
  go_ret
  exact ⟨rfl, Below.refl _ _⟩
 by_cases hlenl1 : (1048576 : Int) < (l1.length : Int)
 ·go_enter Tryz.func9, Tryz.ntmps9
  go_wp2
  go_ret
  exact ⟨rfl, Below.refl _ _⟩
 go_enter Tryz.func9, Tryz.ntmps9
 go_wp2_with fail
 refine D0.out.mono ?_
 clear D0
 rintro e w1 ⟨x, ka, aa, B, d, rfl, hx, hT, hb⟩
 have HX0 := Aside0.mk hx
 clear hx
 have H1 := Aside0.mk (show TV w1 x B d ∧ Below w.heap.size w w1 ∧ ErrAt w1 a from ⟨hT, hb, HTT.out.below hb⟩)
 clear hT hb HTT
 go_wp2_with ((with_reducible refine gate_dst (N := 5) rfl ?_); refine new2_ (N := 5) (M := 6) (x := 30) (y := 31) (T := 27) (U := 24) (eA x B d) (#[.int .i64 ka, .int .i64 aa]) (zs := #[.int .i64 0, .int .i64 0, .int .i64 0, .int .i64 0, .slice none 0 0]) (ys := #[.int .i64 0, .int .i64 0]) (eA_one _ _ _) (by simp [Value.oneCell']) ?_ ?_ ?_ ?_ ?_ ?_ ?_ ?_ ?_ ?_ ?_ ?_ ?_ ?_ ?_ ?_ ?_ ?_ ?_ ?_ ?_ ?_ ?_ ?_ ?_ ?_ ?_ ?_)
 all_goals (first | rfl | decide | (intro _ _; go_simp; done) | kernel_rfl | skip)
 intro g5 g6 W1 hg5 hg6 hne bg5 bg6 hb
 simp only [Act.put, List.setIfInBounds_toArray, List.set_cons_zero, List.set_cons_succ]
 clear hg5 hg6 hne
 have H2 := Aside0.mk (show Box W1 g5 27 (eA x B d) ∧ Box W1 g6 24 #[.int .i64 ka, .int .i64 aa] ∧ TV W1 x B d ∧ Below w.heap.size w W1 ∧ ErrAt W1 a from ⟨bg5, bg6, TV.last _ _ _ _ _ hb H1.out.1, Below.trans H1.out.2.1 (hb.mono H1.out.2.1.size), (ErrAt.lasts _) _ _ hb H1.out.2.2⟩)
 clear H1 bg5 bg6 hb
 go_wp2_with fail
 refine (D1.out W1 H2.out.2.2.2.1).mono ?_
 clear D1
 rintro e w2 ⟨s, kb, ab, A3, c3, rfl, hfs, hLV, hb⟩
 have HX1 := Aside0.mk hfs
 clear hfs
 have H3 := Aside0.mk (show LV w2 s A3 c3 ∧ Box w2 g5 27 (eA x B d) ∧ Box w2 g6 24 #[.int .i64 ka, .int .i64 aa] ∧ TV w2 x B d ∧ Below w.heap.size w w2 ∧ ErrAt w2 a from ⟨hLV, blk_below H2.out.1 hb, blk_below H2.out.2.1 hb, TV.last _ _ _ _ _ hb H2.out.2.2.1, Below.trans H2.out.2.2.2.1 (hb.mono H2.out.2.2.2.1.size), (ErrAt.lasts _) _ _ hb H2.out.2.2.2.2⟩)
 clear H2 hLV hb
 have lb0 := H3.out.2.1
 have lb1 := H3.out.2.2.1
 go_wp2_with (first | ((with_reducible refine gate_dst (N := 8) rfl ?_); refine boxNew_ rfl rfl (#[.int .i64 0, .int .i64 0]) 24 ?hr ?_; (case hr => (go_simp; first | done | rfl)); intro g8 w3 hg8 b8 hb8; have hg8' := Nat.le_of_eq hg8.symm; clear hg8) | ((with_reducible refine gate_store (t := 24) (p := 8) rfl ?_); refine boxPut_ rfl rfl rfl rfl (#[.int .i64 kb, .int .i64 ab]) (by rfl) b8 rfl (by kernel_rfl) (by simp [Value.oneCell']) ?_; intro W2 bg8 hput) | ((with_reducible refine gate_dst (N := 37) rfl ?_); refine getE_ rfl rfl rfl rfl (blk_below lb0 (hput.below hb8 hg8')) ?_) | ((with_reducible refine gate_dst (N := 38) rfl ?_); refine boxGet_ rfl rfl rfl rfl (blk_below lb1 (hput.below hb8 hg8')) Tryz.underlying24 rfl (by kernel_rfl) ?_))
 have hb := hput.below hb8 hg8'
 clear lb0 lb1 b8 hput hb8 hg8'
 have H4 := Aside0.mk (show Box W2 g8 24 #[.int .i64 kb, .int .i64 ab] ∧ LV W2 s A3 c3 ∧ Box W2 g5 27 (eA x B d) ∧ Box W2 g6 24 #[.int .i64 ka, .int .i64 aa] ∧ TV W2 x B d ∧ Below w.heap.size w W2 ∧ ErrAt W2 a from ⟨bg8, (LV.last _ _ _) _ _ hb H3.out.1, blk_below H3.out.2.1 hb, blk_below H3.out.2.2.1 hb, TV.last _ _ _ _ _ hb H3.out.2.2.2.1, Below.trans H3.out.2.2.2.2.1 (hb.mono H3.out.2.2.2.2.1.size), (ErrAt.lasts _) _ _ hb H3.out.2.2.2.2.2⟩)
 clear H3 hb bg8
 obtain ⟨rb, hrb⟩ : ∃ rb, rb = rdB x ka aa := ⟨_, rfl⟩
 obtain ⟨wb, hwb⟩ : ∃ wb, wb = wrB s kb ab := ⟨_, rfl⟩
 have HRB := Aside0.mk hrb
 have HWB := Aside0.mk hwb
 clear hrb hwb
 refine (readsI_any x ka aa B d W2 H4.out.2.2.2.2.1).mono ?_
 rw [← HRB.out]
 rintro e w4 ⟨rfl, hb⟩
 have H5 := Aside0.mk (show Box w4 g8 24 #[.int .i64 kb, .int .i64 ab] ∧ LV w4 s A3 c3 ∧ Box w4 g5 27 (eA x B d) ∧ Box w4 g6 24 #[.int .i64 ka, .int .i64 aa] ∧ TV w4 x B d ∧ Below w.heap.size w w4 ∧ ErrAt w4 a from ⟨blk_below H4.out.1 hb, (LV.last _ _ _) _ _ hb H4.out.2.1, blk_below H4.out.2.2.1 hb, blk_below H4.out.2.2.2.1 hb, TV.last _ _ _ _ _ hb H4.out.2.2.2.2.1, Below.trans H4.out.2.2.2.2.2.1 (hb.mono H4.out.2.2.2.2.2.1.size), (ErrAt.lasts _) _ _ hb H4.out.2.2.2.2.2.2⟩)
 clear H4 hb
 have lb0 := H5.out.1
 go_wp2_with (first | ((with_reducible refine gate_dst (N := 41) rfl ?_); refine boxGet_ rfl rfl rfl rfl lb0 Tryz.underlying24 rfl (by kernel_rfl) ?_))
 clear lb0
 refine (writesI_any s kb ab A3 c3 w4 H5.out.2.1).mono ?_
 rw [← HWB.out]
 rintro e w5 ⟨rfl, hb⟩
 have H6 := Aside0.mk (show Box w5 g8 24 #[.int .i64 kb, .int .i64 ab] ∧ LV w5 s A3 c3 ∧ Box w5 g5 27 (eA x B d) ∧ Box w5 g6 24 #[.int .i64 ka, .int .i64 aa] ∧ TV w5 x B d ∧ Below w.heap.size w w5 ∧ ErrAt w5 a from ⟨blk_below H5.out.1 hb, (LV.last _ _ _) _ _ hb H5.out.2.1, blk_below H5.out.2.2.1 hb, blk_below H5.out.2.2.2.1 hb, TV.last _ _ _ _ _ hb H5.out.2.2.2.2.1, Below.trans H5.out.2.2.2.2.2.1 (hb.mono H5.out.2.2.2.2.2.1.size), (ErrAt.lasts _) _ _ hb H5.out.2.2.2.2.2.2⟩)
 clear H5 hb
 have lb0 := H6.out.2.2.1
 have lb1 := H6.out.2.2.2.1
 go_wp2_with (first | ((with_reducible refine gate_dst (N := 44) rfl ?_); refine getE_ rfl rfl rfl rfl lb0 ?_) | ((with_reducible refine gate_dst (N := 45) rfl ?_); refine boxGet_ rfl rfl rfl rfl lb1 Tryz.underlying24 rfl (by kernel_rfl) ?_))
 clear lb0 lb1
 refine (readsS_any x HX0.out.short ka aa B d w5 H6.out.2.2.2.2.1).mono ?_
 rw [← HRB.out]
 rintro e w6 ⟨rfl, hb⟩
 have H7 := Aside0.mk (show Box w6 g8 24 #[.int .i64 kb, .int .i64 ab] ∧ LV w6 s A3 c3 ∧ Box w6 g5 27 (eA x B d) ∧ Box w6 g6 24 #[.int .i64 ka, .int .i64 aa] ∧ TV w6 x B d ∧ Below w.heap.size w w6 ∧ ErrAt w6 a from ⟨blk_below H6.out.1 hb, (LV.last _ _ _) _ _ hb H6.out.2.1, blk_below H6.out.2.2.1 hb, blk_below H6.out.2.2.2.1 hb, TV.last _ _ _ _ _ hb H6.out.2.2.2.2.1, Below.trans H6.out.2.2.2.2.2.1 (hb.mono H6.out.2.2.2.2.2.1.size), (ErrAt.lasts _) _ _ hb H6.out.2.2.2.2.2.2⟩)
 clear H6 hb
 have hn1 : (rb != rb) = false := by simp
 have hn2 : (wb != wb) = false := by simp
 have HFI := Aside0.mk (show StFit s from Fit.ok (n := 500) HX1.out (by omega))
 have HLN := Aside0.mk (show s.length ≤ 1048576 from Nat.le_trans HX1.out.len (by decide))
 have lb0 := H7.out.1
 go_wp2_with (first | ((with_reducible refine gate_dst (N := 51) rfl ?_); refine gate_guard rfl ?_; refine boxGet_ rfl rfl rfl rfl lb0 Tryz.underlying24 rfl (by kernel_rfl) ?_))
 clear lb0
 refine (writesS_any s HFI.out HLN.out kb ab A3 c3 w6 H7.out.2.1).mono ?_
 rw [← HWB.out]
 rintro e w7 ⟨rfl, hb⟩
 have H8 := Aside0.mk (show Box w7 g8 24 #[.int .i64 kb, .int .i64 ab] ∧ LV w7 s A3 c3 ∧ Box w7 g5 27 (eA x B d) ∧ Box w7 g6 24 #[.int .i64 ka, .int .i64 aa] ∧ TV w7 x B d ∧ Below w.heap.size w w7 ∧ ErrAt w7 a from ⟨blk_below H7.out.1 hb, (LV.last _ _ _) _ _ hb H7.out.2.1, blk_below H7.out.2.2.1 hb, blk_below H7.out.2.2.2.1 hb, TV.last _ _ _ _ _ hb H7.out.2.2.2.2.1, Below.trans H7.out.2.2.2.2.2.1 (hb.mono H7.out.2.2.2.2.2.1.size), (ErrAt.lasts _) _ _ hb H7.out.2.2.2.2.2.2⟩)
 clear H7 hb
 go_wp2_with fail
 refine (D2.out w7 H8.out.2.2.2.2.2.1).mono ?_
 clear D2 hn1 hn2
 rintro e w8 ⟨m, kn, an, nn, p, rfl, hm, hM, hb⟩
 clear hm
 have H9 := Aside0.mk (show MV w8 m p ∧ Box w8 g8 24 #[.int .i64 kb, .int .i64 ab] ∧ LV w8 s A3 c3 ∧ Box w8 g5 27 (eA x B d) ∧ Box w8 g6 24 #[.int .i64 ka, .int .i64 aa] ∧ TV w8 x B d ∧ Below w.heap.size w w8 ∧ ErrAt w8 a from ⟨hM, blk_below H8.out.1 hb, (LV.last _ _ _) _ _ hb H8.out.2.1, blk_below H8.out.2.2.1 hb, blk_below H8.out.2.2.2.1 hb, TV.last _ _ _ _ _ hb H8.out.2.2.2.2.1, Below.trans H8.out.2.2.2.2.2.1 (hb.mono H8.out.2.2.2.2.2.1.size), (ErrAt.lasts _) _ _ hb H8.out.2.2.2.2.2.2⟩)
 clear H8 hM hb
 go_wp2_with ((with_reducible refine gate_dst (N := 11) rfl ?_); refine new2_ (N := 11) (M := 12) (x := 58) (y := 59) (T := 30) (U := 24) (mA m p) (#[.int .i64 kn, .int .i64 an]) (zs := #[.slice none 0 0, .slice none 0 0, .slice none 0 0]) (ys := #[.int .i64 0, .int .i64 0]) (mA_one _ _) (by simp [Value.oneCell']) ?_ ?_ ?_ ?_ ?_ ?_ ?_ ?_ ?_ ?_ ?_ ?_ ?_ ?_ ?_ ?_ ?_ ?_ ?_ ?_ ?_ ?_ ?_ ?_ ?_ ?_ ?_ ?_)
 all_goals (first | rfl | decide | (intro _ _; go_simp; done) | kernel_rfl | skip)
 intro g11 g12 W8 hg11 hg12 hne bg11 bg12 hb
 simp only [Act.put, List.setIfInBounds_toArray, List.set_cons_zero, List.set_cons_succ]
 clear hg11 hg12 hne
 have H10 := Aside0.mk (show Box W8 g11 30 (mA m p) ∧ Box W8 g12 24 #[.int .i64 kn, .int .i64 an] ∧ MV W8 m p ∧ Box W8 g8 24 #[.int .i64 kb, .int .i64 ab] ∧ LV W8 s A3 c3 ∧ Box W8 g5 27 (eA x B d) ∧ Box W8 g6 24 #[.int .i64 ka, .int .i64 aa] ∧ TV W8 x B d ∧ Below w.heap.size w W8 ∧ ErrAt W8 a from ⟨bg11, bg12, MV.last _ _ _ _ hb H9.out.1, blk_below H9.out.2.1 hb, (LV.last _ _ _) _ _ hb H9.out.2.2.1, blk_below H9.out.2.2.2.1 hb, blk_below H9.out.2.2.2.2.1 hb, TV.last _ _ _ _ _ hb H9.out.2.2.2.2.2.1, Below.trans H9.out.2.2.2.2.2.2.1 (hb.mono H9.out.2.2.2.2.2.2.1.size), (ErrAt.lasts _) _ _ hb H9.out.2.2.2.2.2.2.2⟩)
 clear H9 bg11 bg12 hb
 go_wp2_with fail
 refine (D3.out W8 H10.out.2.2.2.2.2.2.2.2.1).mono ?_
 clear D3
 rintro e w9 ⟨z, k, Bz, dz, pk, rfl, hz, hmk, hTz, hMk, hb⟩
 clear hz hmk
 have H11 := Aside0.mk (show MV w9 k pk ∧ TV w9 z Bz dz ∧ Box w9 g11 30 (mA m p) ∧ Box w9 g12 24 #[.int .i64 kn, .int .i64 an] ∧ MV w9 m p ∧ Box w9 g8 24 #[.int .i64 kb, .int .i64 ab] ∧ LV w9 s A3 c3 ∧ Box w9 g5 27 (eA x B d) ∧ Box w9 g6 24 #[.int .i64 ka, .int .i64 aa] ∧ TV w9 x B d ∧ Below w.heap.size w w9 ∧ ErrAt w9 a from ⟨hMk, hTz, blk_below H10.out.1 hb, blk_below H10.out.2.1 hb, MV.last _ _ _ _ hb H10.out.2.2.1, blk_below H10.out.2.2.2.1 hb, (LV.last _ _ _) _ _ hb H10.out.2.2.2.2.1, blk_below H10.out.2.2.2.2.2.1 hb, blk_below H10.out.2.2.2.2.2.2.1 hb, TV.last _ _ _ _ _ hb H10.out.2.2.2.2.2.2.2.1, Below.trans H10.out.2.2.2.2.2.2.2.2.1 (hb.mono H10.out.2.2.2.2.2.2.2.2.1.size), (ErrAt.lasts _) _ _ hb H10.out.2.2.2.2.2.2.2.2.2⟩)
 clear H10 hMk hTz hb
 go_wp2_with ((with_reducible refine gate_dst (N := 14) rfl ?_); refine new2_ (N := 14) (M := 15) (x := 64) (y := 65) (T := 27) (U := 30) (eA z Bz dz) (mA k pk) (zs := #[.int .i64 0, .int .i64 0, .int .i64 0, .int .i64 0, .slice none 0 0]) (ys := #[.slice none 0 0, .slice none 0 0, .slice none 0 0]) (eA_one _ _ _) (mA_one _ _) ?_ ?_ ?_ ?_ ?_ ?_ ?_ ?_ ?_ ?_ ?_ ?_ ?_ ?_ ?_ ?_ ?_ ?_ ?_ ?_ ?_ ?_ ?_ ?_ ?_ ?_ ?_ ?_)
 all_goals (first | rfl | decide | (intro _ _; go_simp; done) | kernel_rfl | skip)
 intro g14 g15 W9 hg14 hg15 hne bg14 bg15 hb
 simp only [Act.put, List.setIfInBounds_toArray, List.set_cons_zero, List.set_cons_succ]
 clear hg14 hg15 hne
 have H12 := Aside0.mk (show Box W9 g15 30 (mA k pk) ∧ MV W9 k pk ∧ TV W9 z Bz dz ∧ Box W9 g11 30 (mA m p) ∧ Box W9 g12 24 #[.int .i64 kn, .int .i64 an] ∧ MV W9 m p ∧ Box W9 g8 24 #[.int .i64 kb, .int .i64 ab] ∧ LV W9 s A3 c3 ∧ Box W9 g5 27 (eA x B d) ∧ Box W9 g6 24 #[.int .i64 ka, .int .i64 aa] ∧ TV W9 x B d ∧ Below w.heap.size w W9 ∧ ErrAt W9 a from ⟨bg15, MV.last _ _ _ _ hb H11.out.1, TV.last _ _ _ _ _ hb H11.out.2.1, blk_below H11.out.2.2.1 hb, blk_below H11.out.2.2.2.1 hb, MV.last _ _ _ _ hb H11.out.2.2.2.2.1, blk_below H11.out.2.2.2.2.2.1 hb, (LV.last _ _ _) _ _ hb H11.out.2.2.2.2.2.2.1, blk_below H11.out.2.2.2.2.2.2.2.1 hb, blk_below H11.out.2.2.2.2.2.2.2.2.1 hb, TV.last _ _ _ _ _ hb H11.out.2.2.2.2.2.2.2.2.2.1, Below.trans H11.out.2.2.2.2.2.2.2.2.2.2.1 (hb.mono H11.out.2.2.2.2.2.2.2.2.2.2.1.size), (ErrAt.lasts _) _ _ hb H11.out.2.2.2.2.2.2.2.2.2.2.2⟩)
 clear H11 bg14 bg15 hb
 go_wp2_with fail
 obtain ⟨ob, hob⟩ : ∃ ob, ob = okE x := ⟨_, rfl⟩
 have HOB := Aside0.mk hob
 clear hob
 refine region_res [(66, 0), (67, 1), (68, 2), (69, 3), (70, 4), (71, 5), (72, 6), (73, 7), (74, 8), (75, 9), (76, 10), (77, 11), (78, 12), (79, 13), (80, 14), (81, 15), (82, 16), (83, 17), (84, 18), (85, 19), (86, 20), (87, 21), (88, 22), (89, 23), (90, 24), (91, 25), (92, 26)] 26 (.bool false) ?_ ?_
 ·by_cases h0 : kn = 0
  ·have b0 : (kn != 0) = false := by simp [h0]
   clear h0
   refine weaveB_ (fun W => Below W9.heap.size W9 W) (Lasts.below W9) (Below.refl _ _) [(66, 0), (67, 1), (68, 2), (69, 3), (70, 4), (71, 5), (72, 6), (73, 7), (74, 8), (75, 9), (76, 10), (77, 11), (78, 12), (79, 13), (80, 14), (81, 15), (82, 16), (83, 17), (84, 18), (85, 19), (86, 20), (87, 21), (88, 22), (89, 23), (90, 24), (91, 25), (92, 26)] [fun v _ => v = .pointer (some ⟨g12, 0, none⟩), fun v _ => v = .int .i64 kn, fun v _ => v = .bool false, fun v _ => v = .bool false, fun v _ => True, fun v _ => True, fun v _ => v = .bool false, fun v _ => v = .bool false, fun v _ => True, fun v _ => True, fun v _ => v = .bool false, fun v _ => v = .bool false, fun v _ => True, fun v _ => True, fun v _ => True, fun v _ => v = .bool false, fun v _ => v = .bool false, fun v _ => True, fun v _ => True, fun v _ => True, fun v _ => True, fun v _ => True, fun v _ => True, fun v _ => True, fun v _ => True, fun v _ => True, fun v _ => v = .bool false] rfl (by kernel_rfl) ⟨fun _ => Lasts.const _, fun _ => Lasts.const _, fun _ => Lasts.const _, fun _ => Lasts.const _, fun _ => Lasts.const _, fun _ => Lasts.const _, fun _ => Lasts.const _, fun _ => Lasts.const _, fun _ => Lasts.const _, fun _ => Lasts.const _, fun _ => Lasts.const _, fun _ => Lasts.const _, fun _ => Lasts.const _, fun _ => Lasts.const _, fun _ => Lasts.const _, fun _ => Lasts.const _, fun _ => Lasts.const _, fun _ => Lasts.const _, fun _ => Lasts.const _, fun _ => Lasts.const _, fun _ => Lasts.const _, fun _ => Lasts.const _, fun _ => Lasts.const _, fun _ => Lasts.const _, fun _ => Lasts.const _, fun _ => Lasts.const _, fun _ => Lasts.const _, trivial⟩ ?_ ?_
   ·refine ⟨?_, ?_, ?_, ?_, ?_, ?_, ?_, ?_, ?_, ?_, ?_, ?_, ?_, ?_, ?_, ?_, ?_, ?_, ?_, ?_, ?_, ?_, ?_, ?_, ?_, ?_, ?_, trivial⟩
    ·intro vs W hp hv b hs
     have t12 : b.tmps[(12 : Nat)]? = some (.pointer (some ⟨g12, 0, none⟩)) := (hs.oldtm 12 rfl).trans rfl
     exact stepVal rfl (by go_simp) ⟨Below.refl _ _, rfl⟩
    ·intro vs W hp hv b hs
     have h0 : vs 0 = .pointer (some ⟨g12, 0, none⟩) := hv 0 (by decide)
     have t66 := (hs.tm 66 0 rfl).trans (congrArg some h0)
     obtain ⟨lc, lf⟩ := Box.cell (blk_below H12.out.2.2.2.2.1 hp) 0 (.int .i64 kn) rfl
     exact stepVal rfl (by go_simp) ⟨Below.refl _ _, rfl⟩
    ·intro vs W hp hv b hs
     have h1 : vs 1 = .int .i64 kn := hv 1 (by decide)
     have t67 := (hs.tm 67 1 rfl).trans (congrArg some h1)
     exact stepVal rfl (by go_simp) ⟨Below.refl _ _, rfl⟩
    ·intro vs W hp hv b hs
     have h2 : vs 2 = .bool false := hv 2 (by decide)
     have t68 := (hs.tm 68 2 rfl).trans (congrArg some h2)
     exact stepVal rfl (by go_simp) ⟨Below.refl _ _, rfl⟩
    ·intro vs W hp hv b hs
     have h3 : vs 3 = .bool false := hv 3 (by decide)
     exact stepOff (wanted_off rfl rfl ((hs.tm 69 3 rfl).trans (congrArg some h3)) (by decide)) ⟨Below.refl _ _, trivial⟩
    ·intro vs W hp hv b hs
     have h3 : vs 3 = .bool false := hv 3 (by decide)
     exact stepOff (wanted_off rfl rfl ((hs.tm 69 3 rfl).trans (congrArg some h3)) (by decide)) ⟨Below.refl _ _, trivial⟩
    ·intro vs W hp hv b hs
     have h3 : vs 3 = .bool false := hv 3 (by decide)
     have t69 := (hs.tm 69 3 rfl).trans (congrArg some h3)
     exact stepVal rfl (by go_simp) ⟨Below.refl _ _, rfl⟩
    ·intro vs W hp hv b hs
     have h6 : vs 6 = .bool false := hv 6 (by decide)
     have t72 := (hs.tm 72 6 rfl).trans (congrArg some h6)
     exact stepVal rfl (by go_simp) ⟨Below.refl _ _, rfl⟩
    ·intro vs W hp hv b hs
     have h7 : vs 7 = .bool false := hv 7 (by decide)
     exact stepOff (wanted_off rfl rfl ((hs.tm 73 7 rfl).trans (congrArg some h7)) (by decide)) ⟨Below.refl _ _, trivial⟩
    ·intro vs W hp hv b hs
     have h7 : vs 7 = .bool false := hv 7 (by decide)
     exact stepOff (wanted_off rfl rfl ((hs.tm 73 7 rfl).trans (congrArg some h7)) (by decide)) ⟨Below.refl _ _, trivial⟩
    ·intro vs W hp hv b hs
     have h7 : vs 7 = .bool false := hv 7 (by decide)
     have t73 := (hs.tm 73 7 rfl).trans (congrArg some h7)
     exact stepVal rfl (by go_simp) ⟨Below.refl _ _, rfl⟩
    ·intro vs W hp hv b hs
     have h10 : vs 10 = .bool false := hv 10 (by decide)
     have t76 := (hs.tm 76 10 rfl).trans (congrArg some h10)
     exact stepVal rfl (by go_simp) ⟨Below.refl _ _, rfl⟩
    ·intro vs W hp hv b hs
     have h11 : vs 11 = .bool false := hv 11 (by decide)
     exact stepOff (wanted_off rfl rfl ((hs.tm 77 11 rfl).trans (congrArg some h11)) (by decide)) ⟨Below.refl _ _, trivial⟩
    ·intro vs W hp hv b hs
     have h11 : vs 11 = .bool false := hv 11 (by decide)
     exact stepOff (wanted_off rfl rfl ((hs.tm 77 11 rfl).trans (congrArg some h11)) (by decide)) ⟨Below.refl _ _, trivial⟩
    ·intro vs W hp hv b hs
     have h11 : vs 11 = .bool false := hv 11 (by decide)
     exact stepOff (wanted_off rfl rfl ((hs.tm 77 11 rfl).trans (congrArg some h11)) (by decide)) ⟨Below.refl _ _, trivial⟩
    ·intro vs W hp hv b hs
     have h11 : vs 11 = .bool false := hv 11 (by decide)
     have t77 := (hs.tm 77 11 rfl).trans (congrArg some h11)
     exact stepVal rfl (by go_simp) ⟨Below.refl _ _, rfl⟩
    ·intro vs W hp hv b hs
     have h15 : vs 15 = .bool false := hv 15 (by decide)
     have t81 := (hs.tm 81 15 rfl).trans (congrArg some h15)
     exact stepVal rfl (by go_simp) ⟨Below.refl _ _, rfl⟩
    ·intro vs W hp hv b hs
     have h16 : vs 16 = .bool false := hv 16 (by decide)
     exact stepOff (wanted_off rfl rfl ((hs.tm 82 16 rfl).trans (congrArg some h16)) (by decide)) ⟨Below.refl _ _, trivial⟩
    ·intro vs W hp hv b hs
     have h16 : vs 16 = .bool false := hv 16 (by decide)
     exact stepOff (wanted_off rfl rfl ((hs.tm 82 16 rfl).trans (congrArg some h16)) (by decide)) ⟨Below.refl _ _, trivial⟩
    ·intro vs W hp hv b hs
     have h16 : vs 16 = .bool false := hv 16 (by decide)
     exact stepOff (wanted_off rfl rfl ((hs.tm 82 16 rfl).trans (congrArg some h16)) (by decide)) ⟨Below.refl _ _, trivial⟩
    ·intro vs W hp hv b hs
     have h16 : vs 16 = .bool false := hv 16 (by decide)
     exact stepOff (wanted_off rfl rfl ((hs.tm 82 16 rfl).trans (congrArg some h16)) (by decide)) ⟨Below.refl _ _, trivial⟩
    ·intro vs W hp hv b hs
     have h16 : vs 16 = .bool false := hv 16 (by decide)
     exact stepOff (wanted_off rfl rfl ((hs.tm 82 16 rfl).trans (congrArg some h16)) (by decide)) ⟨Below.refl _ _, trivial⟩
    ·intro vs W hp hv b hs
     have h16 : vs 16 = .bool false := hv 16 (by decide)
     exact stepOff (wanted_off rfl rfl ((hs.tm 82 16 rfl).trans (congrArg some h16)) (by decide)) ⟨Below.refl _ _, trivial⟩
    ·intro vs W hp hv b hs
     have h16 : vs 16 = .bool false := hv 16 (by decide)
     exact stepOff (wanted_off rfl rfl ((hs.tm 82 16 rfl).trans (congrArg some h16)) (by decide)) ⟨Below.refl _ _, trivial⟩
    ·intro vs W hp hv b hs
     have h16 : vs 16 = .bool false := hv 16 (by decide)
     exact stepOff (wanted_off rfl rfl ((hs.tm 82 16 rfl).trans (congrArg some h16)) (by decide)) ⟨Below.refl _ _, trivial⟩
    ·intro vs W hp hv b hs
     have h16 : vs 16 = .bool false := hv 16 (by decide)
     exact stepOff (wanted_off rfl rfl ((hs.tm 82 16 rfl).trans (congrArg some h16)) (by decide)) ⟨Below.refl _ _, trivial⟩
    ·intro vs W hp hv b hs
     have h16 : vs 16 = .bool false := hv 16 (by decide)
     have t82 := (hs.tm 82 16 rfl).trans (congrArg some h16)
     exact stepVal rfl (by go_simp) ⟨Below.refl _ _, rfl⟩
   intro vs W' hb hv
   exact ⟨vs, rfl, rfl, hv 26 (by decide), hb⟩
  have b0 : (kn != 0) = true := by simp [h0]
  clear h0
  cases ob
  ·skip
   refine weaveB_ (fun W => Below W9.heap.size W9 W) (Lasts.below W9) (Below.refl _ _) [(66, 0), (67, 1), (68, 2), (69, 3), (70, 4), (71, 5), (72, 6), (73, 7), (74, 8), (75, 9), (76, 10), (77, 11), (78, 12), (79, 13), (80, 14), (81, 15), (82, 16), (83, 17), (84, 18), (85, 19), (86, 20), (87, 21), (88, 22), (89, 23), (90, 24), (91, 25), (92, 26)] [fun v _ => v = .pointer (some ⟨g12, 0, none⟩), fun v _ => v = .int .i64 kn, fun v _ => v = .bool true, fun v _ => v = .bool true, fun v _ => v = .agg (eA x B d), fun v _ => v = .bool false, fun v _ => v = .bool false, fun v _ => v = .bool false, fun v _ => True, fun v _ => True, fun v _ => v = .bool false, fun v _ => v = .bool false, fun v _ => True, fun v _ => True, fun v _ => True, fun v _ => v = .bool false, fun v _ => v = .bool false, fun v _ => True, fun v _ => True, fun v _ => True, fun v _ => True, fun v _ => True, fun v _ => True, fun v _ => True, fun v _ => True, fun v _ => True, fun v _ => v = .bool false] rfl (by kernel_rfl) ⟨fun _ => Lasts.const _, fun _ => Lasts.const _, fun _ => Lasts.const _, fun _ => Lasts.const _, fun _ => Lasts.const _, fun _ => Lasts.const _, fun _ => Lasts.const _, fun _ => Lasts.const _, fun _ => Lasts.const _, fun _ => Lasts.const _, fun _ => Lasts.const _, fun _ => Lasts.const _, fun _ => Lasts.const _, fun _ => Lasts.const _, fun _ => Lasts.const _, fun _ => Lasts.const _, fun _ => Lasts.const _, fun _ => Lasts.const _, fun _ => Lasts.const _, fun _ => Lasts.const _, fun _ => Lasts.const _, fun _ => Lasts.const _, fun _ => Lasts.const _, fun _ => Lasts.const _, fun _ => Lasts.const _, fun _ => Lasts.const _, fun _ => Lasts.const _, trivial⟩ ?_ ?_
   ·refine ⟨?_, ?_, ?_, ?_, ?_, ?_, ?_, ?_, ?_, ?_, ?_, ?_, ?_, ?_, ?_, ?_, ?_, ?_, ?_, ?_, ?_, ?_, ?_, ?_, ?_, ?_, ?_, trivial⟩
    ·intro vs W hp hv b hs
     have t12 : b.tmps[(12 : Nat)]? = some (.pointer (some ⟨g12, 0, none⟩)) := (hs.oldtm 12 rfl).trans rfl
     exact stepVal rfl (by go_simp) ⟨Below.refl _ _, rfl⟩
    ·intro vs W hp hv b hs
     have h0 : vs 0 = .pointer (some ⟨g12, 0, none⟩) := hv 0 (by decide)
     have t66 := (hs.tm 66 0 rfl).trans (congrArg some h0)
     obtain ⟨lc, lf⟩ := Box.cell (blk_below H12.out.2.2.2.2.1 hp) 0 (.int .i64 kn) rfl
     exact stepVal rfl (by go_simp) ⟨Below.refl _ _, rfl⟩
    ·intro vs W hp hv b hs
     have h1 : vs 1 = .int .i64 kn := hv 1 (by decide)
     have t67 := (hs.tm 67 1 rfl).trans (congrArg some h1)
     exact stepVal rfl (by go_simp) ⟨Below.refl _ _, rfl⟩
    ·intro vs W hp hv b hs
     have h2 : vs 2 = .bool true := hv 2 (by decide)
     have t68 := (hs.tm 68 2 rfl).trans (congrArg some h2)
     exact stepVal rfl (by go_simp) ⟨Below.refl _ _, rfl⟩
    ·intro vs W hp hv b hs
     have h3 : vs 3 = .bool true := hv 3 (by decide)
     exact stepGet (wanted_on rfl rfl ((hs.tm 69 3 rfl).trans (congrArg some h3))) rfl ((hs.old 5 rfl).trans rfl) (blk_below H12.out.2.2.2.2.2.2.2.2.1 hp) Tryz.underlying27 rfl (by kernel_rfl) ⟨Below.refl _ _, rfl⟩
    ·intro vs W hp hv b hs
     have h3 : vs 3 = .bool true := hv 3 (by decide)
     have h4 : vs 4 = .agg (eA x B d) := hv 4 (by decide)
     have t70 := (hs.tm 70 4 rfl).trans (congrArg some h4)
     refine stepCall (wanted_on rfl rfl ((hs.tm 69 3 rfl).trans (congrArg some h3))) Tryz.func30 (by kernel_rfl) rfl #[vs 4] rfl (by simp [Act.eval, hs.tm 70 4 rfl]) (by rw [h4]; exact specOk_any x HX0.out.short B d W (TV.last _ _ _ _ _ hp H12.out.2.2.2.2.2.2.2.2.2.2.1)) ?_
     rintro e W' ⟨rfl, hb'⟩
     exact ⟨_, rfl, hb', congrArg Value.bool HOB.out.symm⟩
    ·intro vs W hp hv b hs
     have h3 : vs 3 = .bool true := hv 3 (by decide)
     have t69 := (hs.tm 69 3 rfl).trans (congrArg some h3)
     have h5 : vs 5 = .bool false := hv 5 (by decide)
     have t71 := (hs.tm 71 5 rfl).trans (congrArg some h5)
     exact stepVal rfl (by go_simp) ⟨Below.refl _ _, rfl⟩
    ·intro vs W hp hv b hs
     have h6 : vs 6 = .bool false := hv 6 (by decide)
     have t72 := (hs.tm 72 6 rfl).trans (congrArg some h6)
     exact stepVal rfl (by go_simp) ⟨Below.refl _ _, rfl⟩
    ·intro vs W hp hv b hs
     have h7 : vs 7 = .bool false := hv 7 (by decide)
     exact stepOff (wanted_off rfl rfl ((hs.tm 73 7 rfl).trans (congrArg some h7)) (by decide)) ⟨Below.refl _ _, trivial⟩
    ·intro vs W hp hv b hs
     have h7 : vs 7 = .bool false := hv 7 (by decide)
     exact stepOff (wanted_off rfl rfl ((hs.tm 73 7 rfl).trans (congrArg some h7)) (by decide)) ⟨Below.refl _ _, trivial⟩
    ·intro vs W hp hv b hs
     have h7 : vs 7 = .bool false := hv 7 (by decide)
     have t73 := (hs.tm 73 7 rfl).trans (congrArg some h7)
     exact stepVal rfl (by go_simp) ⟨Below.refl _ _, rfl⟩
    ·intro vs W hp hv b hs
     have h10 : vs 10 = .bool false := hv 10 (by decide)
     have t76 := (hs.tm 76 10 rfl).trans (congrArg some h10)
     exact stepVal rfl (by go_simp) ⟨Below.refl _ _, rfl⟩
    ·intro vs W hp hv b hs
     have h11 : vs 11 = .bool false := hv 11 (by decide)
     exact stepOff (wanted_off rfl rfl ((hs.tm 77 11 rfl).trans (congrArg some h11)) (by decide)) ⟨Below.refl _ _, trivial⟩
    ·intro vs W hp hv b hs
     have h11 : vs 11 = .bool false := hv 11 (by decide)
     exact stepOff (wanted_off rfl rfl ((hs.tm 77 11 rfl).trans (congrArg some h11)) (by decide)) ⟨Below.refl _ _, trivial⟩
    ·intro vs W hp hv b hs
     have h11 : vs 11 = .bool false := hv 11 (by decide)
     exact stepOff (wanted_off rfl rfl ((hs.tm 77 11 rfl).trans (congrArg some h11)) (by decide)) ⟨Below.refl _ _, trivial⟩
    ·intro vs W hp hv b hs
     have h11 : vs 11 = .bool false := hv 11 (by decide)
     have t77 := (hs.tm 77 11 rfl).trans (congrArg some h11)
     exact stepVal rfl (by go_simp) ⟨Below.refl _ _, rfl⟩
    ·intro vs W hp hv b hs
     have h15 : vs 15 = .bool false := hv 15 (by decide)
     have t81 := (hs.tm 81 15 rfl).trans (congrArg some h15)
     exact stepVal rfl (by go_simp) ⟨Below.refl _ _, rfl⟩
    ·intro vs W hp hv b hs
     have h16 : vs 16 = .bool false := hv 16 (by decide)
     exact stepOff (wanted_off rfl rfl ((hs.tm 82 16 rfl).trans (congrArg some h16)) (by decide)) ⟨Below.refl _ _, trivial⟩
    ·intro vs W hp hv b hs
     have h16 : vs 16 = .bool false := hv 16 (by decide)
     exact stepOff (wanted_off rfl rfl ((hs.tm 82 16 rfl).trans (congrArg some h16)) (by decide)) ⟨Below.refl _ _, trivial⟩
    ·intro vs W hp hv b hs
     have h16 : vs 16 = .bool false := hv 16 (by decide)
     exact stepOff (wanted_off rfl rfl ((hs.tm 82 16 rfl).trans (congrArg some h16)) (by decide)) ⟨Below.refl _ _, trivial⟩
    ·intro vs W hp hv b hs
     have h16 : vs 16 = .bool false := hv 16 (by decide)
     exact stepOff (wanted_off rfl rfl ((hs.tm 82 16 rfl).trans (congrArg some h16)) (by decide)) ⟨Below.refl _ _, trivial⟩
    ·intro vs W hp hv b hs
     have h16 : vs 16 = .bool false := hv 16 (by decide)
     exact stepOff (wanted_off rfl rfl ((hs.tm 82 16 rfl).trans (congrArg some h16)) (by decide)) ⟨Below.refl _ _, trivial⟩
    ·intro vs W hp hv b hs
     have h16 : vs 16 = .bool false := hv 16 (by decide)
     exact stepOff (wanted_off rfl rfl ((hs.tm 82 16 rfl).trans (congrArg some h16)) (by decide)) ⟨Below.refl _ _, trivial⟩
    ·intro vs W hp hv b hs
     have h16 : vs 16 = .bool false := hv 16 (by decide)
     exact stepOff (wanted_off rfl rfl ((hs.tm 82 16 rfl).trans (congrArg some h16)) (by decide)) ⟨Below.refl _ _, trivial⟩
    ·intro vs W hp hv b hs
     have h16 : vs 16 = .bool false := hv 16 (by decide)
     exact stepOff (wanted_off rfl rfl ((hs.tm 82 16 rfl).trans (congrArg some h16)) (by decide)) ⟨Below.refl _ _, trivial⟩
    ·intro vs W hp hv b hs
     have h16 : vs 16 = .bool false := hv 16 (by decide)
     exact stepOff (wanted_off rfl rfl ((hs.tm 82 16 rfl).trans (congrArg some h16)) (by decide)) ⟨Below.refl _ _, trivial⟩
    ·intro vs W hp hv b hs
     have h16 : vs 16 = .bool false := hv 16 (by decide)
     have t82 := (hs.tm 82 16 rfl).trans (congrArg some h16)
     exact stepVal rfl (by go_simp) ⟨Below.refl _ _, rfl⟩
   intro vs W' hb hv
   exact ⟨vs, rfl, rfl, hv 26 (by decide), hb⟩
  cases rb
  rotate_left
  ·skip
   refine weaveB_ (fun W => Below W9.heap.size W9 W) (Lasts.below W9) (Below.refl _ _) [(66, 0), (67, 1), (68, 2), (69, 3), (70, 4), (71, 5), (72, 6), (73, 7), (74, 8), (75, 9), (76, 10), (77, 11), (78, 12), (79, 13), (80, 14), (81, 15), (82, 16), (83, 17), (84, 18), (85, 19), (86, 20), (87, 21), (88, 22), (89, 23), (90, 24), (91, 25), (92, 26)] [fun v _ => v = .pointer (some ⟨g12, 0, none⟩), fun v _ => v = .int .i64 kn, fun v _ => v = .bool true, fun v _ => v = .bool true, fun v _ => v = .agg (eA x B d), fun v _ => v = .bool true, fun v _ => v = .bool true, fun v _ => v = .bool true, fun v _ => v = .bool true, fun v _ => v = .bool false, fun v _ => v = .bool false, fun v _ => v = .bool false, fun v _ => True, fun v _ => True, fun v _ => True, fun v _ => v = .bool false, fun v _ => v = .bool false, fun v _ => True, fun v _ => True, fun v _ => True, fun v _ => True, fun v _ => True, fun v _ => True, fun v _ => True, fun v _ => True, fun v _ => True, fun v _ => v = .bool false] rfl (by kernel_rfl) ⟨fun _ => Lasts.const _, fun _ => Lasts.const _, fun _ => Lasts.const _, fun _ => Lasts.const _, fun _ => Lasts.const _, fun _ => Lasts.const _, fun _ => Lasts.const _, fun _ => Lasts.const _, fun _ => Lasts.const _, fun _ => Lasts.const _, fun _ => Lasts.const _, fun _ => Lasts.const _, fun _ => Lasts.const _, fun _ => Lasts.const _, fun _ => Lasts.const _, fun _ => Lasts.const _, fun _ => Lasts.const _, fun _ => Lasts.const _, fun _ => Lasts.const _, fun _ => Lasts.const _, fun _ => Lasts.const _, fun _ => Lasts.const _, fun _ => Lasts.const _, fun _ => Lasts.const _, fun _ => Lasts.const _, fun _ => Lasts.const _, fun _ => Lasts.const _, trivial⟩ ?_ ?_
   ·refine ⟨?_, ?_, ?_, ?_, ?_, ?_, ?_, ?_, ?_, ?_, ?_, ?_, ?_, ?_, ?_, ?_, ?_, ?_, ?_, ?_, ?_, ?_, ?_, ?_, ?_, ?_, ?_, trivial⟩
    ·intro vs W hp hv b hs
     have t12 : b.tmps[(12 : Nat)]? = some (.pointer (some ⟨g12, 0, none⟩)) := (hs.oldtm 12 rfl).trans rfl
     exact stepVal rfl (by go_simp) ⟨Below.refl _ _, rfl⟩
    ·intro vs W hp hv b hs
     have h0 : vs 0 = .pointer (some ⟨g12, 0, none⟩) := hv 0 (by decide)
     have t66 := (hs.tm 66 0 rfl).trans (congrArg some h0)
     obtain ⟨lc, lf⟩ := Box.cell (blk_below H12.out.2.2.2.2.1 hp) 0 (.int .i64 kn) rfl
     exact stepVal rfl (by go_simp) ⟨Below.refl _ _, rfl⟩
    ·intro vs W hp hv b hs
     have h1 : vs 1 = .int .i64 kn := hv 1 (by decide)
     have t67 := (hs.tm 67 1 rfl).trans (congrArg some h1)
     exact stepVal rfl (by go_simp) ⟨Below.refl _ _, rfl⟩
    ·intro vs W hp hv b hs
     have h2 : vs 2 = .bool true := hv 2 (by decide)
     have t68 := (hs.tm 68 2 rfl).trans (congrArg some h2)
     exact stepVal rfl (by go_simp) ⟨Below.refl _ _, rfl⟩
    ·intro vs W hp hv b hs
     have h3 : vs 3 = .bool true := hv 3 (by decide)
     exact stepGet (wanted_on rfl rfl ((hs.tm 69 3 rfl).trans (congrArg some h3))) rfl ((hs.old 5 rfl).trans rfl) (blk_below H12.out.2.2.2.2.2.2.2.2.1 hp) Tryz.underlying27 rfl (by kernel_rfl) ⟨Below.refl _ _, rfl⟩
    ·intro vs W hp hv b hs
     have h3 : vs 3 = .bool true := hv 3 (by decide)
     have h4 : vs 4 = .agg (eA x B d) := hv 4 (by decide)
     have t70 := (hs.tm 70 4 rfl).trans (congrArg some h4)
     refine stepCall (wanted_on rfl rfl ((hs.tm 69 3 rfl).trans (congrArg some h3))) Tryz.func30 (by kernel_rfl) rfl #[vs 4] rfl (by simp [Act.eval, hs.tm 70 4 rfl]) (by rw [h4]; exact specOk_any x HX0.out.short B d W (TV.last _ _ _ _ _ hp H12.out.2.2.2.2.2.2.2.2.2.2.1)) ?_
     rintro e W' ⟨rfl, hb'⟩
     exact ⟨_, rfl, hb', congrArg Value.bool HOB.out.symm⟩
    ·intro vs W hp hv b hs
     have h3 : vs 3 = .bool true := hv 3 (by decide)
     have t69 := (hs.tm 69 3 rfl).trans (congrArg some h3)
     have h5 : vs 5 = .bool true := hv 5 (by decide)
     have t71 := (hs.tm 71 5 rfl).trans (congrArg some h5)
     exact stepVal rfl (by go_simp) ⟨Below.refl _ _, rfl⟩
    ·intro vs W hp hv b hs
     have h6 : vs 6 = .bool true := hv 6 (by decide)
     have t72 := (hs.tm 72 6 rfl).trans (congrArg some h6)
     exact stepVal rfl (by go_simp) ⟨Below.refl _ _, rfl⟩
    ·intro vs W hp hv b hs
     have h7 : vs 7 = .bool true := hv 7 (by decide)
     have t9 : b.tmps[(9 : Nat)]? = some (.bool true) := (hs.oldtm 9 rfl).trans rfl
     exact stepVal (wanted_on rfl rfl ((hs.tm 73 7 rfl).trans (congrArg some h7))) (by go_simp) ⟨Below.refl _ _, rfl⟩
    ·intro vs W hp hv b hs
     have h7 : vs 7 = .bool true := hv 7 (by decide)
     have h8 : vs 8 = .bool true := hv 8 (by decide)
     have t74 := (hs.tm 74 8 rfl).trans (congrArg some h8)
     exact stepVal (wanted_on rfl rfl ((hs.tm 73 7 rfl).trans (congrArg some h7))) (by go_simp) ⟨Below.refl _ _, rfl⟩
    ·intro vs W hp hv b hs
     have h7 : vs 7 = .bool true := hv 7 (by decide)
     have t73 := (hs.tm 73 7 rfl).trans (congrArg some h7)
     have h9 : vs 9 = .bool false := hv 9 (by decide)
     have t75 := (hs.tm 75 9 rfl).trans (congrArg some h9)
     exact stepVal rfl (by go_simp) ⟨Below.refl _ _, rfl⟩
    ·intro vs W hp hv b hs
     have h10 : vs 10 = .bool false := hv 10 (by decide)
     have t76 := (hs.tm 76 10 rfl).trans (congrArg some h10)
     exact stepVal rfl (by go_simp) ⟨Below.refl _ _, rfl⟩
    ·intro vs W hp hv b hs
     have h11 : vs 11 = .bool false := hv 11 (by decide)
     exact stepOff (wanted_off rfl rfl ((hs.tm 77 11 rfl).trans (congrArg some h11)) (by decide)) ⟨Below.refl _ _, trivial⟩
    ·intro vs W hp hv b hs
     have h11 : vs 11 = .bool false := hv 11 (by decide)
     exact stepOff (wanted_off rfl rfl ((hs.tm 77 11 rfl).trans (congrArg some h11)) (by decide)) ⟨Below.refl _ _, trivial⟩
    ·intro vs W hp hv b hs
     have h11 : vs 11 = .bool false := hv 11 (by decide)
     exact stepOff (wanted_off rfl rfl ((hs.tm 77 11 rfl).trans (congrArg some h11)) (by decide)) ⟨Below.refl _ _, trivial⟩
    ·intro vs W hp hv b hs
     have h11 : vs 11 = .bool false := hv 11 (by decide)
     have t77 := (hs.tm 77 11 rfl).trans (congrArg some h11)
     exact stepVal rfl (by go_simp) ⟨Below.refl _ _, rfl⟩
    ·intro vs W hp hv b hs
     have h15 : vs 15 = .bool false := hv 15 (by decide)
     have t81 := (hs.tm 81 15 rfl).trans (congrArg some h15)
     exact stepVal rfl (by go_simp) ⟨Below.refl _ _, rfl⟩
    ·intro vs W hp hv b hs
     have h16 : vs 16 = .bool false := hv 16 (by decide)
     exact stepOff (wanted_off rfl rfl ((hs.tm 82 16 rfl).trans (congrArg some h16)) (by decide)) ⟨Below.refl _ _, trivial⟩
    ·intro vs W hp hv b hs
     have h16 : vs 16 = .bool false := hv 16 (by decide)
     exact stepOff (wanted_off rfl rfl ((hs.tm 82 16 rfl).trans (congrArg some h16)) (by decide)) ⟨Below.refl _ _, trivial⟩
    ·intro vs W hp hv b hs
     have h16 : vs 16 = .bool false := hv 16 (by decide)
     exact stepOff (wanted_off rfl rfl ((hs.tm 82 16 rfl).trans (congrArg some h16)) (by decide)) ⟨Below.refl _ _, trivial⟩
    ·intro vs W hp hv b hs
     have h16 : vs 16 = .bool false := hv 16 (by decide)
     exact stepOff (wanted_off rfl rfl ((hs.tm 82 16 rfl).trans (congrArg some h16)) (by decide)) ⟨Below.refl _ _, trivial⟩
    ·intro vs W hp hv b hs
     have h16 : vs 16 = .bool false := hv 16 (by decide)
     exact stepOff (wanted_off rfl rfl ((hs.tm 82 16 rfl).trans (congrArg some h16)) (by decide)) ⟨Below.refl _ _, trivial⟩
    ·intro vs W hp hv b hs
     have h16 : vs 16 = .bool false := hv 16 (by decide)
     exact stepOff (wanted_off rfl rfl ((hs.tm 82 16 rfl).trans (congrArg some h16)) (by decide)) ⟨Below.refl _ _, trivial⟩
    ·intro vs W hp hv b hs
     have h16 : vs 16 = .bool false := hv 16 (by decide)
     exact stepOff (wanted_off rfl rfl ((hs.tm 82 16 rfl).trans (congrArg some h16)) (by decide)) ⟨Below.refl _ _, trivial⟩
    ·intro vs W hp hv b hs
     have h16 : vs 16 = .bool false := hv 16 (by decide)
     exact stepOff (wanted_off rfl rfl ((hs.tm 82 16 rfl).trans (congrArg some h16)) (by decide)) ⟨Below.refl _ _, trivial⟩
    ·intro vs W hp hv b hs
     have h16 : vs 16 = .bool false := hv 16 (by decide)
     exact stepOff (wanted_off rfl rfl ((hs.tm 82 16 rfl).trans (congrArg some h16)) (by decide)) ⟨Below.refl _ _, trivial⟩
    ·intro vs W hp hv b hs
     have h16 : vs 16 = .bool false := hv 16 (by decide)
     have t82 := (hs.tm 82 16 rfl).trans (congrArg some h16)
     exact stepVal rfl (by go_simp) ⟨Below.refl _ _, rfl⟩
   intro vs W' hb hv
   exact ⟨vs, rfl, rfl, hv 26 (by decide), hb⟩
  by_cases h1 : ka = 1
  ·have b1 : (ka != 1) = false := by simp [h1]
   clear h1
   refine weaveB_ (fun W => Below W9.heap.size W9 W) (Lasts.below W9) (Below.refl _ _) [(66, 0), (67, 1), (68, 2), (69, 3), (70, 4), (71, 5), (72, 6), (73, 7), (74, 8), (75, 9), (76, 10), (77, 11), (78, 12), (79, 13), (80, 14), (81, 15), (82, 16), (83, 17), (84, 18), (85, 19), (86, 20), (87, 21), (88, 22), (89, 23), (90, 24), (91, 25), (92, 26)] [fun v _ => v = .pointer (some ⟨g12, 0, none⟩), fun v _ => v = .int .i64 kn, fun v _ => v = .bool true, fun v _ => v = .bool true, fun v _ => v = .agg (eA x B d), fun v _ => v = .bool true, fun v _ => v = .bool true, fun v _ => v = .bool true, fun v _ => v = .bool false, fun v _ => v = .bool true, fun v _ => v = .bool true, fun v _ => v = .bool true, fun v _ => v = .pointer (some ⟨g6, 0, none⟩), fun v _ => v = .int .i64 ka, fun v _ => v = .bool false, fun v _ => v = .bool false, fun v _ => v = .bool false, fun v _ => True, fun v _ => True, fun v _ => True, fun v _ => True, fun v _ => True, fun v _ => True, fun v _ => True, fun v _ => True, fun v _ => True, fun v _ => v = .bool false] rfl (by kernel_rfl) ⟨fun _ => Lasts.const _, fun _ => Lasts.const _, fun _ => Lasts.const _, fun _ => Lasts.const _, fun _ => Lasts.const _, fun _ => Lasts.const _, fun _ => Lasts.const _, fun _ => Lasts.const _, fun _ => Lasts.const _, fun _ => Lasts.const _, fun _ => Lasts.const _, fun _ => Lasts.const _, fun _ => Lasts.const _, fun _ => Lasts.const _, fun _ => Lasts.const _, fun _ => Lasts.const _, fun _ => Lasts.const _, fun _ => Lasts.const _, fun _ => Lasts.const _, fun _ => Lasts.const _, fun _ => Lasts.const _, fun _ => Lasts.const _, fun _ => Lasts.const _, fun _ => Lasts.const _, fun _ => Lasts.const _, fun _ => Lasts.const _, fun _ => Lasts.const _, trivial⟩ ?_ ?_
   ·refine ⟨?_, ?_, ?_, ?_, ?_, ?_, ?_, ?_, ?_, ?_, ?_, ?_, ?_, ?_, ?_, ?_, ?_, ?_, ?_, ?_, ?_, ?_, ?_, ?_, ?_, ?_, ?_, trivial⟩
    ·intro vs W hp hv b hs
     have t12 : b.tmps[(12 : Nat)]? = some (.pointer (some ⟨g12, 0, none⟩)) := (hs.oldtm 12 rfl).trans rfl
     exact stepVal rfl (by go_simp) ⟨Below.refl _ _, rfl⟩
    ·intro vs W hp hv b hs
     have h0 : vs 0 = .pointer (some ⟨g12, 0, none⟩) := hv 0 (by decide)
     have t66 := (hs.tm 66 0 rfl).trans (congrArg some h0)
     obtain ⟨lc, lf⟩ := Box.cell (blk_below H12.out.2.2.2.2.1 hp) 0 (.int .i64 kn) rfl
     exact stepVal rfl (by go_simp) ⟨Below.refl _ _, rfl⟩
    ·intro vs W hp hv b hs
     have h1 : vs 1 = .int .i64 kn := hv 1 (by decide)
     have t67 := (hs.tm 67 1 rfl).trans (congrArg some h1)
     exact stepVal rfl (by go_simp) ⟨Below.refl _ _, rfl⟩
    ·intro vs W hp hv b hs
     have h2 : vs 2 = .bool true := hv 2 (by decide)
     have t68 := (hs.tm 68 2 rfl).trans (congrArg some h2)
     exact stepVal rfl (by go_simp) ⟨Below.refl _ _, rfl⟩
    ·intro vs W hp hv b hs
     have h3 : vs 3 = .bool true := hv 3 (by decide)
     exact stepGet (wanted_on rfl rfl ((hs.tm 69 3 rfl).trans (congrArg some h3))) rfl ((hs.old 5 rfl).trans rfl) (blk_below H12.out.2.2.2.2.2.2.2.2.1 hp) Tryz.underlying27 rfl (by kernel_rfl) ⟨Below.refl _ _, rfl⟩
    ·intro vs W hp hv b hs
     have h3 : vs 3 = .bool true := hv 3 (by decide)
     have h4 : vs 4 = .agg (eA x B d) := hv 4 (by decide)
     have t70 := (hs.tm 70 4 rfl).trans (congrArg some h4)
     refine stepCall (wanted_on rfl rfl ((hs.tm 69 3 rfl).trans (congrArg some h3))) Tryz.func30 (by kernel_rfl) rfl #[vs 4] rfl (by simp [Act.eval, hs.tm 70 4 rfl]) (by rw [h4]; exact specOk_any x HX0.out.short B d W (TV.last _ _ _ _ _ hp H12.out.2.2.2.2.2.2.2.2.2.2.1)) ?_
     rintro e W' ⟨rfl, hb'⟩
     exact ⟨_, rfl, hb', congrArg Value.bool HOB.out.symm⟩
    ·intro vs W hp hv b hs
     have h3 : vs 3 = .bool true := hv 3 (by decide)
     have t69 := (hs.tm 69 3 rfl).trans (congrArg some h3)
     have h5 : vs 5 = .bool true := hv 5 (by decide)
     have t71 := (hs.tm 71 5 rfl).trans (congrArg some h5)
     exact stepVal rfl (by go_simp) ⟨Below.refl _ _, rfl⟩
    ·intro vs W hp hv b hs
     have h6 : vs 6 = .bool true := hv 6 (by decide)
     have t72 := (hs.tm 72 6 rfl).trans (congrArg some h6)
     exact stepVal rfl (by go_simp) ⟨Below.refl _ _, rfl⟩
    ·intro vs W hp hv b hs
     have h7 : vs 7 = .bool true := hv 7 (by decide)
     have t9 : b.tmps[(9 : Nat)]? = some (.bool false) := (hs.oldtm 9 rfl).trans rfl
     exact stepVal (wanted_on rfl rfl ((hs.tm 73 7 rfl).trans (congrArg some h7))) (by go_simp) ⟨Below.refl _ _, rfl⟩
    ·intro vs W hp hv b hs
     have h7 : vs 7 = .bool true := hv 7 (by decide)
     have h8 : vs 8 = .bool false := hv 8 (by decide)
     have t74 := (hs.tm 74 8 rfl).trans (congrArg some h8)
     exact stepVal (wanted_on rfl rfl ((hs.tm 73 7 rfl).trans (congrArg some h7))) (by go_simp) ⟨Below.refl _ _, rfl⟩
    ·intro vs W hp hv b hs
     have h7 : vs 7 = .bool true := hv 7 (by decide)
     have t73 := (hs.tm 73 7 rfl).trans (congrArg some h7)
     have h9 : vs 9 = .bool true := hv 9 (by decide)
     have t75 := (hs.tm 75 9 rfl).trans (congrArg some h9)
     exact stepVal rfl (by go_simp) ⟨Below.refl _ _, rfl⟩
    ·intro vs W hp hv b hs
     have h10 : vs 10 = .bool true := hv 10 (by decide)
     have t76 := (hs.tm 76 10 rfl).trans (congrArg some h10)
     exact stepVal rfl (by go_simp) ⟨Below.refl _ _, rfl⟩
    ·intro vs W hp hv b hs
     have h11 : vs 11 = .bool true := hv 11 (by decide)
     have t6 : b.tmps[(6 : Nat)]? = some (.pointer (some ⟨g6, 0, none⟩)) := (hs.oldtm 6 rfl).trans rfl
     exact stepVal (wanted_on rfl rfl ((hs.tm 77 11 rfl).trans (congrArg some h11))) (by go_simp) ⟨Below.refl _ _, rfl⟩
    ·intro vs W hp hv b hs
     have h11 : vs 11 = .bool true := hv 11 (by decide)
     have h12 : vs 12 = .pointer (some ⟨g6, 0, none⟩) := hv 12 (by decide)
     have t78 := (hs.tm 78 12 rfl).trans (congrArg some h12)
     obtain ⟨lc, lf⟩ := Box.cell (blk_below H12.out.2.2.2.2.2.2.2.2.2.1 hp) 0 (.int .i64 ka) rfl
     exact stepVal (wanted_on rfl rfl ((hs.tm 77 11 rfl).trans (congrArg some h11))) (by go_simp) ⟨Below.refl _ _, rfl⟩
    ·intro vs W hp hv b hs
     have h11 : vs 11 = .bool true := hv 11 (by decide)
     have h13 : vs 13 = .int .i64 ka := hv 13 (by decide)
     have t79 := (hs.tm 79 13 rfl).trans (congrArg some h13)
     exact stepVal (wanted_on rfl rfl ((hs.tm 77 11 rfl).trans (congrArg some h11))) (by go_simp) ⟨Below.refl _ _, rfl⟩
    ·intro vs W hp hv b hs
     have h11 : vs 11 = .bool true := hv 11 (by decide)
     have t77 := (hs.tm 77 11 rfl).trans (congrArg some h11)
     have h14 : vs 14 = .bool false := hv 14 (by decide)
     have t80 := (hs.tm 80 14 rfl).trans (congrArg some h14)
     exact stepVal rfl (by go_simp) ⟨Below.refl _ _, rfl⟩
    ·intro vs W hp hv b hs
     have h15 : vs 15 = .bool false := hv 15 (by decide)
     have t81 := (hs.tm 81 15 rfl).trans (congrArg some h15)
     exact stepVal rfl (by go_simp) ⟨Below.refl _ _, rfl⟩
    ·intro vs W hp hv b hs
     have h16 : vs 16 = .bool false := hv 16 (by decide)
     exact stepOff (wanted_off rfl rfl ((hs.tm 82 16 rfl).trans (congrArg some h16)) (by decide)) ⟨Below.refl _ _, trivial⟩
    ·intro vs W hp hv b hs
     have h16 : vs 16 = .bool false := hv 16 (by decide)
     exact stepOff (wanted_off rfl rfl ((hs.tm 82 16 rfl).trans (congrArg some h16)) (by decide)) ⟨Below.refl _ _, trivial⟩
    ·intro vs W hp hv b hs
     have h16 : vs 16 = .bool false := hv 16 (by decide)
     exact stepOff (wanted_off rfl rfl ((hs.tm 82 16 rfl).trans (congrArg some h16)) (by decide)) ⟨Below.refl _ _, trivial⟩
    ·intro vs W hp hv b hs
     have h16 : vs 16 = .bool false := hv 16 (by decide)
     exact stepOff (wanted_off rfl rfl ((hs.tm 82 16 rfl).trans (congrArg some h16)) (by decide)) ⟨Below.refl _ _, trivial⟩
    ·intro vs W hp hv b hs
     have h16 : vs 16 = .bool false := hv 16 (by decide)
     exact stepOff (wanted_off rfl rfl ((hs.tm 82 16 rfl).trans (congrArg some h16)) (by decide)) ⟨Below.refl _ _, trivial⟩
    ·intro vs W hp hv b hs
     have h16 : vs 16 = .bool false := hv 16 (by decide)
     exact stepOff (wanted_off rfl rfl ((hs.tm 82 16 rfl).trans (congrArg some h16)) (by decide)) ⟨Below.refl _ _, trivial⟩
    ·intro vs W hp hv b hs
     have h16 : vs 16 = .bool false := hv 16 (by decide)
     exact stepOff (wanted_off rfl rfl ((hs.tm 82 16 rfl).trans (congrArg some h16)) (by decide)) ⟨Below.refl _ _, trivial⟩
    ·intro vs W hp hv b hs
     have h16 : vs 16 = .bool false := hv 16 (by decide)
     exact stepOff (wanted_off rfl rfl ((hs.tm 82 16 rfl).trans (congrArg some h16)) (by decide)) ⟨Below.refl _ _, trivial⟩
    ·intro vs W hp hv b hs
     have h16 : vs 16 = .bool false := hv 16 (by decide)
     exact stepOff (wanted_off rfl rfl ((hs.tm 82 16 rfl).trans (congrArg some h16)) (by decide)) ⟨Below.refl _ _, trivial⟩
    ·intro vs W hp hv b hs
     have h16 : vs 16 = .bool false := hv 16 (by decide)
     have t82 := (hs.tm 82 16 rfl).trans (congrArg some h16)
     exact stepVal rfl (by go_simp) ⟨Below.refl _ _, rfl⟩
   intro vs W' hb hv
   exact ⟨vs, rfl, rfl, hv 26 (by decide), hb⟩
  have b1 : (ka != 1) = true := by simp [h1]
  clear h1
  have HKE := Aside0.mk (show oV x (putV k ka aa 77) = oV x k from reads_keeps HOB.out.symm (rdB_not HOB.out.symm HRB.out.symm))
  refine weaveB_ (fun W => Below W9.heap.size W9 W) (Lasts.below W9) (Below.refl _ _) [(66, 0), (67, 1), (68, 2), (69, 3), (70, 4), (71, 5), (72, 6), (73, 7), (74, 8), (75, 9), (76, 10), (77, 11), (78, 12), (79, 13), (80, 14), (81, 15), (82, 16), (83, 17), (84, 18), (85, 19), (86, 20), (87, 21), (88, 22), (89, 23), (90, 24), (91, 25), (92, 26)] [fun v _ => v = .pointer (some ⟨g12, 0, none⟩), fun v _ => v = .int .i64 kn, fun v _ => v = .bool true, fun v _ => v = .bool true, fun v _ => v = .agg (eA x B d), fun v _ => v = .bool true, fun v _ => v = .bool true, fun v _ => v = .bool true, fun v _ => v = .bool false, fun v _ => v = .bool true, fun v _ => v = .bool true, fun v _ => v = .bool true, fun v _ => v = .pointer (some ⟨g6, 0, none⟩), fun v _ => v = .int .i64 ka, fun v _ => v = .bool true, fun v _ => v = .bool true, fun v _ => v = .bool true, fun v _ => v = .agg (eA x B d), fun v _ => v = .agg (mA k pk), fun v _ => v = .agg #[.int .i64 ka, .int .i64 aa], memF (putV k ka aa 77), fun v _ => v = .int .i64 (oV x k), fun v _ => v = .agg (eA x B d), fun v _ => v = .agg (mA k pk), fun v _ => v = .int .i64 (oV x k), fun v _ => v = .bool false, fun v _ => v = .bool false] rfl (by kernel_rfl) ⟨fun _ => Lasts.const _, fun _ => Lasts.const _, fun _ => Lasts.const _, fun _ => Lasts.const _, fun _ => Lasts.const _, fun _ => Lasts.const _, fun _ => Lasts.const _, fun _ => Lasts.const _, fun _ => Lasts.const _, fun _ => Lasts.const _, fun _ => Lasts.const _, fun _ => Lasts.const _, fun _ => Lasts.const _, fun _ => Lasts.const _, fun _ => Lasts.const _, fun _ => Lasts.const _, fun _ => Lasts.const _, fun _ => Lasts.const _, fun _ => Lasts.const _, fun _ => Lasts.const _, memF_last _, fun _ => Lasts.const _, fun _ => Lasts.const _, fun _ => Lasts.const _, fun _ => Lasts.const _, fun _ => Lasts.const _, fun _ => Lasts.const _, trivial⟩ ?_ ?_
  ·refine ⟨?_, ?_, ?_, ?_, ?_, ?_, ?_, ?_, ?_, ?_, ?_, ?_, ?_, ?_, ?_, ?_, ?_, ?_, ?_, ?_, ?_, ?_, ?_, ?_, ?_, ?_, ?_, trivial⟩
   ·intro vs W hp hv b hs
    have t12 : b.tmps[(12 : Nat)]? = some (.pointer (some ⟨g12, 0, none⟩)) := (hs.oldtm 12 rfl).trans rfl
    exact stepVal rfl (by go_simp) ⟨Below.refl _ _, rfl⟩
   ·intro vs W hp hv b hs
    have h0 : vs 0 = .pointer (some ⟨g12, 0, none⟩) := hv 0 (by decide)
    have t66 := (hs.tm 66 0 rfl).trans (congrArg some h0)
    obtain ⟨lc, lf⟩ := Box.cell (blk_below H12.out.2.2.2.2.1 hp) 0 (.int .i64 kn) rfl
    exact stepVal rfl (by go_simp) ⟨Below.refl _ _, rfl⟩
   ·intro vs W hp hv b hs
    have h1 : vs 1 = .int .i64 kn := hv 1 (by decide)
    have t67 := (hs.tm 67 1 rfl).trans (congrArg some h1)
    exact stepVal rfl (by go_simp) ⟨Below.refl _ _, rfl⟩
   ·intro vs W hp hv b hs
    have h2 : vs 2 = .bool true := hv 2 (by decide)
    have t68 := (hs.tm 68 2 rfl).trans (congrArg some h2)
    exact stepVal rfl (by go_simp) ⟨Below.refl _ _, rfl⟩
   ·intro vs W hp hv b hs
    have h3 : vs 3 = .bool true := hv 3 (by decide)
    exact stepGet (wanted_on rfl rfl ((hs.tm 69 3 rfl).trans (congrArg some h3))) rfl ((hs.old 5 rfl).trans rfl) (blk_below H12.out.2.2.2.2.2.2.2.2.1 hp) Tryz.underlying27 rfl (by kernel_rfl) ⟨Below.refl _ _, rfl⟩
   ·intro vs W hp hv b hs
    have h3 : vs 3 = .bool true := hv 3 (by decide)
    have h4 : vs 4 = .agg (eA x B d) := hv 4 (by decide)
    have t70 := (hs.tm 70 4 rfl).trans (congrArg some h4)
    refine stepCall (wanted_on rfl rfl ((hs.tm 69 3 rfl).trans (congrArg some h3))) Tryz.func30 (by kernel_rfl) rfl #[vs 4] rfl (by simp [Act.eval, hs.tm 70 4 rfl]) (by rw [h4]; exact specOk_any x HX0.out.short B d W (TV.last _ _ _ _ _ hp H12.out.2.2.2.2.2.2.2.2.2.2.1)) ?_
    rintro e W' ⟨rfl, hb'⟩
    exact ⟨_, rfl, hb', congrArg Value.bool HOB.out.symm⟩
   ·intro vs W hp hv b hs
    have h3 : vs 3 = .bool true := hv 3 (by decide)
    have t69 := (hs.tm 69 3 rfl).trans (congrArg some h3)
    have h5 : vs 5 = .bool true := hv 5 (by decide)
    have t71 := (hs.tm 71 5 rfl).trans (congrArg some h5)
    exact stepVal rfl (by go_simp) ⟨Below.refl _ _, rfl⟩
   ·intro vs W hp hv b hs
    have h6 : vs 6 = .bool true := hv 6 (by decide)
    have t72 := (hs.tm 72 6 rfl).trans (congrArg some h6)
    exact stepVal rfl (by go_simp) ⟨Below.refl _ _, rfl⟩
   ·intro vs W hp hv b hs
    have h7 : vs 7 = .bool true := hv 7 (by decide)
    have t9 : b.tmps[(9 : Nat)]? = some (.bool false) := (hs.oldtm 9 rfl).trans rfl
    exact stepVal (wanted_on rfl rfl ((hs.tm 73 7 rfl).trans (congrArg some h7))) (by go_simp) ⟨Below.refl _ _, rfl⟩
   ·intro vs W hp hv b hs
    have h7 : vs 7 = .bool true := hv 7 (by decide)
    have h8 : vs 8 = .bool false := hv 8 (by decide)
    have t74 := (hs.tm 74 8 rfl).trans (congrArg some h8)
    exact stepVal (wanted_on rfl rfl ((hs.tm 73 7 rfl).trans (congrArg some h7))) (by go_simp) ⟨Below.refl _ _, rfl⟩
   ·intro vs W hp hv b hs
    have h7 : vs 7 = .bool true := hv 7 (by decide)
    have t73 := (hs.tm 73 7 rfl).trans (congrArg some h7)
    have h9 : vs 9 = .bool true := hv 9 (by decide)
    have t75 := (hs.tm 75 9 rfl).trans (congrArg some h9)
    exact stepVal rfl (by go_simp) ⟨Below.refl _ _, rfl⟩
   ·intro vs W hp hv b hs
    have h10 : vs 10 = .bool true := hv 10 (by decide)
    have t76 := (hs.tm 76 10 rfl).trans (congrArg some h10)
    exact stepVal rfl (by go_simp) ⟨Below.refl _ _, rfl⟩
   ·intro vs W hp hv b hs
    have h11 : vs 11 = .bool true := hv 11 (by decide)
    have t6 : b.tmps[(6 : Nat)]? = some (.pointer (some ⟨g6, 0, none⟩)) := (hs.oldtm 6 rfl).trans rfl
    exact stepVal (wanted_on rfl rfl ((hs.tm 77 11 rfl).trans (congrArg some h11))) (by go_simp) ⟨Below.refl _ _, rfl⟩
   ·intro vs W hp hv b hs
    have h11 : vs 11 = .bool true := hv 11 (by decide)
    have h12 : vs 12 = .pointer (some ⟨g6, 0, none⟩) := hv 12 (by decide)
    have t78 := (hs.tm 78 12 rfl).trans (congrArg some h12)
    obtain ⟨lc, lf⟩ := Box.cell (blk_below H12.out.2.2.2.2.2.2.2.2.2.1 hp) 0 (.int .i64 ka) rfl
    exact stepVal (wanted_on rfl rfl ((hs.tm 77 11 rfl).trans (congrArg some h11))) (by go_simp) ⟨Below.refl _ _, rfl⟩
   ·intro vs W hp hv b hs
    have h11 : vs 11 = .bool true := hv 11 (by decide)
    have h13 : vs 13 = .int .i64 ka := hv 13 (by decide)
    have t79 := (hs.tm 79 13 rfl).trans (congrArg some h13)
    exact stepVal (wanted_on rfl rfl ((hs.tm 77 11 rfl).trans (congrArg some h11))) (by go_simp) ⟨Below.refl _ _, rfl⟩
   ·intro vs W hp hv b hs
    have h11 : vs 11 = .bool true := hv 11 (by decide)
    have t77 := (hs.tm 77 11 rfl).trans (congrArg some h11)
    have h14 : vs 14 = .bool true := hv 14 (by decide)
    have t80 := (hs.tm 80 14 rfl).trans (congrArg some h14)
    exact stepVal rfl (by go_simp) ⟨Below.refl _ _, rfl⟩
   ·intro vs W hp hv b hs
    have h15 : vs 15 = .bool true := hv 15 (by decide)
    have t81 := (hs.tm 81 15 rfl).trans (congrArg some h15)
    exact stepVal rfl (by go_simp) ⟨Below.refl _ _, rfl⟩
   ·intro vs W hp hv b hs
    have h16 : vs 16 = .bool true := hv 16 (by decide)
    exact stepGet (wanted_on rfl rfl ((hs.tm 82 16 rfl).trans (congrArg some h16))) rfl ((hs.old 5 rfl).trans rfl) (blk_below H12.out.2.2.2.2.2.2.2.2.1 hp) Tryz.underlying27 rfl (by kernel_rfl) ⟨Below.refl _ _, rfl⟩
   ·intro vs W hp hv b hs
    have h16 : vs 16 = .bool true := hv 16 (by decide)
    exact stepGet (wanted_on rfl rfl ((hs.tm 82 16 rfl).trans (congrArg some h16))) rfl ((hs.old 15 rfl).trans rfl) (blk_below H12.out.1 hp) Tryz.underlying30 rfl (by kernel_rfl) ⟨Below.refl _ _, rfl⟩
   ·intro vs W hp hv b hs
    have h16 : vs 16 = .bool true := hv 16 (by decide)
    exact stepGet (wanted_on rfl rfl ((hs.tm 82 16 rfl).trans (congrArg some h16))) rfl ((hs.old 6 rfl).trans rfl) (blk_below H12.out.2.2.2.2.2.2.2.2.2.1 hp) Tryz.underlying24 rfl (by kernel_rfl) ⟨Below.refl _ _, rfl⟩
   ·intro vs W hp hv b hs
    have h16 : vs 16 = .bool true := hv 16 (by decide)
    have h18 : vs 18 = .agg (mA k pk) := hv 18 (by decide)
    have t84 := (hs.tm 84 18 rfl).trans (congrArg some h18)
    have h19 : vs 19 = .agg #[.int .i64 ka, .int .i64 aa] := hv 19 (by decide)
    have t85 := (hs.tm 85 19 rfl).trans (congrArg some h19)
    refine stepCall (wanted_on rfl rfl ((hs.tm 82 16 rfl).trans (congrArg some h16))) Tryz.func18 (by kernel_rfl) rfl #[vs 18, vs 19, .int .i64 77] rfl (by simp [Act.eval, hs.tm 84 18 rfl, hs.tm 85 19 rfl]) (by rw [h18, h19]; exact putM_any k ka aa 77 pk W (MV.last _ _ _ _ hp H12.out.2.1)) ?_
    rintro e W' ⟨q, rfl, hM, hb'⟩
    exact ⟨_, rfl, hb', q, rfl, hM⟩
   ·intro vs W hp hv b hs
    have h16 : vs 16 = .bool true := hv 16 (by decide)
    have h17 : vs 17 = .agg (eA x B d) := hv 17 (by decide)
    have t83 := (hs.tm 83 17 rfl).trans (congrArg some h17)
    obtain ⟨q20, h20, m20⟩ : (memF (putV k ka aa 77)) (vs 20) W := hv 20 (by decide)
    have t86 := (hs.tm 86 20 rfl).trans (congrArg some h20)
    refine stepCall (wanted_on rfl rfl ((hs.tm 82 16 rfl).trans (congrArg some h16))) Tryz.func19 (by kernel_rfl) rfl #[vs 17, vs 20] rfl (by simp [Act.eval, hs.tm 83 17 rfl, hs.tm 86 20 rfl]) (by rw [h17, h20]; exact implOf_any x B d _ q20 W (TV.last _ _ _ _ _ hp H12.out.2.2.2.2.2.2.2.2.2.2.1) m20) ?_
    rintro e W' ⟨rfl, hb'⟩
    exact ⟨_, rfl, hb', congrArg (Value.int .i64) HKE.out⟩
   ·intro vs W hp hv b hs
    have h16 : vs 16 = .bool true := hv 16 (by decide)
    exact stepGet (wanted_on rfl rfl ((hs.tm 82 16 rfl).trans (congrArg some h16))) rfl ((hs.old 5 rfl).trans rfl) (blk_below H12.out.2.2.2.2.2.2.2.2.1 hp) Tryz.underlying27 rfl (by kernel_rfl) ⟨Below.refl _ _, rfl⟩
   ·intro vs W hp hv b hs
    have h16 : vs 16 = .bool true := hv 16 (by decide)
    exact stepGet (wanted_on rfl rfl ((hs.tm 82 16 rfl).trans (congrArg some h16))) rfl ((hs.old 15 rfl).trans rfl) (blk_below H12.out.1 hp) Tryz.underlying30 rfl (by kernel_rfl) ⟨Below.refl _ _, rfl⟩
   ·intro vs W hp hv b hs
    have h16 : vs 16 = .bool true := hv 16 (by decide)
    have h22 : vs 22 = .agg (eA x B d) := hv 22 (by decide)
    have t88 := (hs.tm 88 22 rfl).trans (congrArg some h22)
    have h23 : vs 23 = .agg (mA k pk) := hv 23 (by decide)
    have t89 := (hs.tm 89 23 rfl).trans (congrArg some h23)
    refine stepCall (wanted_on rfl rfl ((hs.tm 82 16 rfl).trans (congrArg some h16))) Tryz.func19 (by kernel_rfl) rfl #[vs 22, vs 23] rfl (by simp [Act.eval, hs.tm 88 22 rfl, hs.tm 89 23 rfl]) (by rw [h22, h23]; exact implOf_any x B d k pk W (TV.last _ _ _ _ _ hp H12.out.2.2.2.2.2.2.2.2.2.2.1) (MV.last _ _ _ _ hp H12.out.2.1)) ?_
    rintro e W' ⟨rfl, hb'⟩
    exact ⟨_, rfl, hb', rfl⟩
   ·intro vs W hp hv b hs
    have h16 : vs 16 = .bool true := hv 16 (by decide)
    have h21 : vs 21 = .int .i64 (oV x k) := hv 21 (by decide)
    have t87 := (hs.tm 87 21 rfl).trans (congrArg some h21)
    have h24 : vs 24 = .int .i64 (oV x k) := hv 24 (by decide)
    have t90 := (hs.tm 90 24 rfl).trans (congrArg some h24)
    exact stepVal (wanted_on rfl rfl ((hs.tm 82 16 rfl).trans (congrArg some h16))) (by go_simp) ⟨Below.refl _ _, rfl⟩
   ·intro vs W hp hv b hs
    have h16 : vs 16 = .bool true := hv 16 (by decide)
    have t82 := (hs.tm 82 16 rfl).trans (congrArg some h16)
    have h25 : vs 25 = .bool false := hv 25 (by decide)
    have t91 := (hs.tm 91 25 rfl).trans (congrArg some h25)
    exact stepVal rfl (by go_simp) ⟨Below.refl _ _, rfl⟩
  intro vs W' hb hv
  exact ⟨vs, rfl, rfl, hv 26 (by decide), hb⟩
 intro vs WA hres hb
 simp only [List.map_cons, List.map_nil, putL, Act.put, List.setIfInBounds_toArray, List.set_cons_zero, List.set_cons_succ, hres]
 clear hres HOB
 have H13 := Aside0.mk (show Box WA g11 30 (mA m p) ∧ MV WA m p ∧ Box WA g8 24 #[.int .i64 kb, .int .i64 ab] ∧ LV WA s A3 c3 ∧ TV WA x B d ∧ Below w.heap.size w WA ∧ ErrAt WA a from ⟨blk_below H12.out.2.2.2.1 hb, MV.last _ _ _ _ hb H12.out.2.2.2.2.2.1, blk_below H12.out.2.2.2.2.2.2.1 hb, (LV.last _ _ _) _ _ hb H12.out.2.2.2.2.2.2.2.1, TV.last _ _ _ _ _ hb H12.out.2.2.2.2.2.2.2.2.2.2.1, Below.trans H12.out.2.2.2.2.2.2.2.2.2.2.2.1 (hb.mono H12.out.2.2.2.2.2.2.2.2.2.2.2.1.size), (ErrAt.lasts _) _ _ hb H12.out.2.2.2.2.2.2.2.2.2.2.2.2⟩)
 clear H12 hb
 obtain ⟨X, cc, lf, hV⟩ : ∃ X cc lf, stRunV m s 50 = (X, cc, lf) := ⟨_, _, _, rfl⟩
 have HV := Aside0.mk hV
 clear hV
 have lb0 := H13.out.1
 go_wp2_with (first | ((with_reducible refine gate_dst (N := 94) rfl ?_); refine getM_ rfl rfl rfl rfl lb0 ?_))
 clear lb0
 refine (runI_any HV.out p A3 c3 a WA H13.out.2.2.2.2.2.2 H13.out.2.1 H13.out.2.2.2.1).mono ?_
 rintro e wB ⟨q, rfl, hM, hb⟩
 have H14 := Aside0.mk (show MV wB X q ∧ Box wB g11 30 (mA m p) ∧ MV wB m p ∧ Box wB g8 24 #[.int .i64 kb, .int .i64 ab] ∧ TV wB x B d ∧ Below w.heap.size w wB from ⟨hM, blk_below H13.out.1 hb, MV.last _ _ _ _ hb H13.out.2.1, blk_below H13.out.2.2.1 hb, TV.last _ _ _ _ _ hb H13.out.2.2.2.2.1, Below.trans H13.out.2.2.2.2.2.1 (hb.mono H13.out.2.2.2.2.2.1.size)⟩)
 clear H13 hM hb
 go_wp2_with ((with_reducible refine gate_dst (N := 16) rfl ?_); refine new1_ (N := 16) (x := 97) (T := 30) (mA X q) (zs := #[.slice none 0 0, .slice none 0 0, .slice none 0 0]) (mA_one _ _) ?_ ?_ ?_ ?_ ?_ ?_ ?_ ?_ ?_ ?_ ?_ ?_ ?_)
 all_goals (first | rfl | decide | (intro _ _; go_simp; done) | kernel_rfl | skip)
 intro g16 WB hg16 bg16 hb
 simp only [Act.put, List.setIfInBounds_toArray, List.set_cons_zero, List.set_cons_succ]
 clear hg16
 have H15 := Aside0.mk (show Box WB g16 30 (mA X q) ∧ MV WB X q ∧ Box WB g11 30 (mA m p) ∧ MV WB m p ∧ Box WB g8 24 #[.int .i64 kb, .int .i64 ab] ∧ TV WB x B d ∧ Below w.heap.size w WB from ⟨bg16, MV.last _ _ _ _ hb H14.out.1, blk_below H14.out.2.1 hb, MV.last _ _ _ _ hb H14.out.2.2.1, blk_below H14.out.2.2.2.1 hb, TV.last _ _ _ _ _ hb H14.out.2.2.2.2.1, Below.trans H14.out.2.2.2.2.2 (hb.mono H14.out.2.2.2.2.2.size)⟩)
 clear H14 bg16 hb
 go_wp2_with fail
 refine region_res [(100, 0), (101, 1), (102, 2), (103, 3), (104, 4), (105, 5), (106, 6), (107, 7), (108, 8), (109, 9), (110, 10), (111, 11), (112, 12), (113, 13), (4, 14)] 14 (.bool true) ?_ ?_
 ·by_cases h0 : cc = 2
  ·have b0 : (cc == 2) = true := by simp [h0]
   clear h0
   refine weaveB_ (fun W => Below WB.heap.size WB W) (Lasts.below WB) (Below.refl _ _) [(100, 0), (101, 1), (102, 2), (103, 3), (104, 4), (105, 5), (106, 6), (107, 7), (108, 8), (109, 9), (110, 10), (111, 11), (112, 12), (113, 13), (4, 14)] [fun v _ => v = .int .i64 cc, fun v _ => v = .bool true, fun v _ => v = .bool true, fun v _ => True, fun v _ => v = .bool true, fun v _ => v = .bool true, fun v _ => True, fun v _ => True, fun v _ => True, fun v _ => True, fun v _ => True, fun v _ => True, fun v _ => True, fun v _ => v = .bool true, fun v _ => v = .bool true] rfl (by kernel_rfl) ⟨fun _ => Lasts.const _, fun _ => Lasts.const _, fun _ => Lasts.const _, fun _ => Lasts.const _, fun _ => Lasts.const _, fun _ => Lasts.const _, fun _ => Lasts.const _, fun _ => Lasts.const _, fun _ => Lasts.const _, fun _ => Lasts.const _, fun _ => Lasts.const _, fun _ => Lasts.const _, fun _ => Lasts.const _, fun _ => Lasts.const _, fun _ => Lasts.const _, trivial⟩ ?_ ?_
   ·refine ⟨?_, ?_, ?_, ?_, ?_, ?_, ?_, ?_, ?_, ?_, ?_, ?_, ?_, ?_, ?_, trivial⟩
    ·intro vs W hp hv b hs
     have t17 : b.tmps[(17 : Nat)]? = some (.int .i64 cc) := (hs.oldtm 17 rfl).trans rfl
     exact stepVal rfl (by go_simp) ⟨Below.refl _ _, rfl⟩
    ·intro vs W hp hv b hs
     have h0 : vs 0 = .int .i64 cc := hv 0 (by decide)
     have t100 := (hs.tm 100 0 rfl).trans (congrArg some h0)
     exact stepVal rfl (by go_simp) ⟨Below.refl _ _, rfl⟩
    ·intro vs W hp hv b hs
     have h1 : vs 1 = .bool true := hv 1 (by decide)
     have t101 := (hs.tm 101 1 rfl).trans (congrArg some h1)
     exact stepVal rfl (by go_simp) ⟨Below.refl _ _, rfl⟩
    ·intro vs W hp hv b hs
     have h2 : vs 2 = .bool true := hv 2 (by decide)
     exact stepOff (wanted_off rfl rfl ((hs.tm 102 2 rfl).trans (congrArg some h2)) (by decide)) ⟨Below.refl _ _, trivial⟩
    ·intro vs W hp hv b hs
     have h2 : vs 2 = .bool true := hv 2 (by decide)
     have t102 := (hs.tm 102 2 rfl).trans (congrArg some h2)
     exact stepVal rfl (by go_simp) ⟨Below.refl _ _, rfl⟩
    ·intro vs W hp hv b hs
     have h4 : vs 4 = .bool true := hv 4 (by decide)
     have t104 := (hs.tm 104 4 rfl).trans (congrArg some h4)
     exact stepVal rfl (by go_simp) ⟨Below.refl _ _, rfl⟩
    ·intro vs W hp hv b hs
     have h5 : vs 5 = .bool true := hv 5 (by decide)
     exact stepOff (wanted_off rfl rfl ((hs.tm 105 5 rfl).trans (congrArg some h5)) (by decide)) ⟨Below.refl _ _, trivial⟩
    ·intro vs W hp hv b hs
     have h5 : vs 5 = .bool true := hv 5 (by decide)
     exact stepOff (wanted_off rfl rfl ((hs.tm 105 5 rfl).trans (congrArg some h5)) (by decide)) ⟨Below.refl _ _, trivial⟩
    ·intro vs W hp hv b hs
     have h5 : vs 5 = .bool true := hv 5 (by decide)
     exact stepOff (wanted_off rfl rfl ((hs.tm 105 5 rfl).trans (congrArg some h5)) (by decide)) ⟨Below.refl _ _, trivial⟩
    ·intro vs W hp hv b hs
     have h5 : vs 5 = .bool true := hv 5 (by decide)
     exact stepOff (wanted_off rfl rfl ((hs.tm 105 5 rfl).trans (congrArg some h5)) (by decide)) ⟨Below.refl _ _, trivial⟩
    ·intro vs W hp hv b hs
     have h5 : vs 5 = .bool true := hv 5 (by decide)
     exact stepOff (wanted_off rfl rfl ((hs.tm 105 5 rfl).trans (congrArg some h5)) (by decide)) ⟨Below.refl _ _, trivial⟩
    ·intro vs W hp hv b hs
     have h5 : vs 5 = .bool true := hv 5 (by decide)
     exact stepOff (wanted_off rfl rfl ((hs.tm 105 5 rfl).trans (congrArg some h5)) (by decide)) ⟨Below.refl _ _, trivial⟩
    ·intro vs W hp hv b hs
     have h5 : vs 5 = .bool true := hv 5 (by decide)
     exact stepOff (wanted_off rfl rfl ((hs.tm 105 5 rfl).trans (congrArg some h5)) (by decide)) ⟨Below.refl _ _, trivial⟩
    ·intro vs W hp hv b hs
     have h5 : vs 5 = .bool true := hv 5 (by decide)
     have t105 := (hs.tm 105 5 rfl).trans (congrArg some h5)
     exact stepVal rfl (by go_simp) ⟨Below.refl _ _, rfl⟩
    ·intro vs W hp hv b hs
     have h13 : vs 13 = .bool true := hv 13 (by decide)
     have t113 := (hs.tm 113 13 rfl).trans (congrArg some h13)
     exact stepVal rfl (by go_simp) ⟨Below.refl _ _, rfl⟩
   intro vs W' hb hv
   exact ⟨vs, rfl, rfl, hv 14 (by decide), hb⟩
  have b0 : (cc == 2) = false := by simp [h0]
  have H00 := Aside0.mk h0
  clear h0
  cases wb
  rotate_left
  ·skip
   refine weaveB_ (fun W => Below WB.heap.size WB W) (Lasts.below WB) (Below.refl _ _) [(100, 0), (101, 1), (102, 2), (103, 3), (104, 4), (105, 5), (106, 6), (107, 7), (108, 8), (109, 9), (110, 10), (111, 11), (112, 12), (113, 13), (4, 14)] [fun v _ => v = .int .i64 cc, fun v _ => v = .bool false, fun v _ => v = .bool false, fun v _ => v = .bool true, fun v _ => v = .bool true, fun v _ => v = .bool true, fun v _ => True, fun v _ => True, fun v _ => True, fun v _ => True, fun v _ => True, fun v _ => True, fun v _ => True, fun v _ => v = .bool true, fun v _ => v = .bool true] rfl (by kernel_rfl) ⟨fun _ => Lasts.const _, fun _ => Lasts.const _, fun _ => Lasts.const _, fun _ => Lasts.const _, fun _ => Lasts.const _, fun _ => Lasts.const _, fun _ => Lasts.const _, fun _ => Lasts.const _, fun _ => Lasts.const _, fun _ => Lasts.const _, fun _ => Lasts.const _, fun _ => Lasts.const _, fun _ => Lasts.const _, fun _ => Lasts.const _, fun _ => Lasts.const _, trivial⟩ ?_ ?_
   ·refine ⟨?_, ?_, ?_, ?_, ?_, ?_, ?_, ?_, ?_, ?_, ?_, ?_, ?_, ?_, ?_, trivial⟩
    ·intro vs W hp hv b hs
     have t17 : b.tmps[(17 : Nat)]? = some (.int .i64 cc) := (hs.oldtm 17 rfl).trans rfl
     exact stepVal rfl (by go_simp) ⟨Below.refl _ _, rfl⟩
    ·intro vs W hp hv b hs
     have h0 : vs 0 = .int .i64 cc := hv 0 (by decide)
     have t100 := (hs.tm 100 0 rfl).trans (congrArg some h0)
     exact stepVal rfl (by go_simp) ⟨Below.refl _ _, rfl⟩
    ·intro vs W hp hv b hs
     have h1 : vs 1 = .bool false := hv 1 (by decide)
     have t101 := (hs.tm 101 1 rfl).trans (congrArg some h1)
     exact stepVal rfl (by go_simp) ⟨Below.refl _ _, rfl⟩
    ·intro vs W hp hv b hs
     have h2 : vs 2 = .bool false := hv 2 (by decide)
     have t10 : b.tmps[(10 : Nat)]? = some (.bool true) := (hs.oldtm 10 rfl).trans rfl
     exact stepVal (wanted_on rfl rfl ((hs.tm 102 2 rfl).trans (congrArg some h2))) (by go_simp) ⟨Below.refl _ _, rfl⟩
    ·intro vs W hp hv b hs
     have h2 : vs 2 = .bool false := hv 2 (by decide)
     have t102 := (hs.tm 102 2 rfl).trans (congrArg some h2)
     have h3 : vs 3 = .bool true := hv 3 (by decide)
     have t103 := (hs.tm 103 3 rfl).trans (congrArg some h3)
     exact stepVal rfl (by go_simp) ⟨Below.refl _ _, rfl⟩
    ·intro vs W hp hv b hs
     have h4 : vs 4 = .bool true := hv 4 (by decide)
     have t104 := (hs.tm 104 4 rfl).trans (congrArg some h4)
     exact stepVal rfl (by go_simp) ⟨Below.refl _ _, rfl⟩
    ·intro vs W hp hv b hs
     have h5 : vs 5 = .bool true := hv 5 (by decide)
     exact stepOff (wanted_off rfl rfl ((hs.tm 105 5 rfl).trans (congrArg some h5)) (by decide)) ⟨Below.refl _ _, trivial⟩
    ·intro vs W hp hv b hs
     have h5 : vs 5 = .bool true := hv 5 (by decide)
     exact stepOff (wanted_off rfl rfl ((hs.tm 105 5 rfl).trans (congrArg some h5)) (by decide)) ⟨Below.refl _ _, trivial⟩
    ·intro vs W hp hv b hs
     have h5 : vs 5 = .bool true := hv 5 (by decide)
     exact stepOff (wanted_off rfl rfl ((hs.tm 105 5 rfl).trans (congrArg some h5)) (by decide)) ⟨Below.refl _ _, trivial⟩
    ·intro vs W hp hv b hs
     have h5 : vs 5 = .bool true := hv 5 (by decide)
     exact stepOff (wanted_off rfl rfl ((hs.tm 105 5 rfl).trans (congrArg some h5)) (by decide)) ⟨Below.refl _ _, trivial⟩
    ·intro vs W hp hv b hs
     have h5 : vs 5 = .bool true := hv 5 (by decide)
     exact stepOff (wanted_off rfl rfl ((hs.tm 105 5 rfl).trans (congrArg some h5)) (by decide)) ⟨Below.refl _ _, trivial⟩
    ·intro vs W hp hv b hs
     have h5 : vs 5 = .bool true := hv 5 (by decide)
     exact stepOff (wanted_off rfl rfl ((hs.tm 105 5 rfl).trans (congrArg some h5)) (by decide)) ⟨Below.refl _ _, trivial⟩
    ·intro vs W hp hv b hs
     have h5 : vs 5 = .bool true := hv 5 (by decide)
     exact stepOff (wanted_off rfl rfl ((hs.tm 105 5 rfl).trans (congrArg some h5)) (by decide)) ⟨Below.refl _ _, trivial⟩
    ·intro vs W hp hv b hs
     have h5 : vs 5 = .bool true := hv 5 (by decide)
     have t105 := (hs.tm 105 5 rfl).trans (congrArg some h5)
     exact stepVal rfl (by go_simp) ⟨Below.refl _ _, rfl⟩
    ·intro vs W hp hv b hs
     have h13 : vs 13 = .bool true := hv 13 (by decide)
     have t113 := (hs.tm 113 13 rfl).trans (congrArg some h13)
     exact stepVal rfl (by go_simp) ⟨Below.refl _ _, rfl⟩
   intro vs W' hb hv
   exact ⟨vs, rfl, rfl, hv 14 (by decide), hb⟩
  have HGE := Aside0.mk (writes_keeps HV.out H00.out (show (stOkL s && s.any (wrSt kb ab)) = false from HWB.out.symm))
  obtain ⟨gx, hgx⟩ : ∃ gx, gx = memGetV m.1 m.2.1 m.2.2 kb ab := ⟨_, rfl⟩
  have HGX := Aside0.mk hgx
  clear hgx
  refine weaveB_ (fun W => Below WB.heap.size WB W) (Lasts.below WB) (Below.refl _ _) [(100, 0), (101, 1), (102, 2), (103, 3), (104, 4), (105, 5), (106, 6), (107, 7), (108, 8), (109, 9), (110, 10), (111, 11), (112, 12), (113, 13), (4, 14)] [fun v _ => v = .int .i64 cc, fun v _ => v = .bool false, fun v _ => v = .bool false, fun v _ => v = .bool false, fun v _ => v = .bool false, fun v _ => v = .bool false, fun v _ => v = .agg (mA X q), fun v _ => v = .agg #[.int .i64 kb, .int .i64 ab], fun v _ => v = .int .i64 gx, fun v _ => v = .agg (mA m p), fun v _ => v = .agg #[.int .i64 kb, .int .i64 ab], fun v _ => v = .int .i64 gx, fun v _ => v = .bool true, fun v _ => v = .bool true, fun v _ => v = .bool true] rfl (by kernel_rfl) ⟨fun _ => Lasts.const _, fun _ => Lasts.const _, fun _ => Lasts.const _, fun _ => Lasts.const _, fun _ => Lasts.const _, fun _ => Lasts.const _, fun _ => Lasts.const _, fun _ => Lasts.const _, fun _ => Lasts.const _, fun _ => Lasts.const _, fun _ => Lasts.const _, fun _ => Lasts.const _, fun _ => Lasts.const _, fun _ => Lasts.const _, fun _ => Lasts.const _, trivial⟩ ?_ ?_
  ·refine ⟨?_, ?_, ?_, ?_, ?_, ?_, ?_, ?_, ?_, ?_, ?_, ?_, ?_, ?_, ?_, trivial⟩
   ·intro vs W hp hv b hs
    have t17 : b.tmps[(17 : Nat)]? = some (.int .i64 cc) := (hs.oldtm 17 rfl).trans rfl
    exact stepVal rfl (by go_simp) ⟨Below.refl _ _, rfl⟩
   ·intro vs W hp hv b hs
    have h0 : vs 0 = .int .i64 cc := hv 0 (by decide)
    have t100 := (hs.tm 100 0 rfl).trans (congrArg some h0)
    exact stepVal rfl (by go_simp) ⟨Below.refl _ _, rfl⟩
   ·intro vs W hp hv b hs
    have h1 : vs 1 = .bool false := hv 1 (by decide)
    have t101 := (hs.tm 101 1 rfl).trans (congrArg some h1)
    exact stepVal rfl (by go_simp) ⟨Below.refl _ _, rfl⟩
   ·intro vs W hp hv b hs
    have h2 : vs 2 = .bool false := hv 2 (by decide)
    have t10 : b.tmps[(10 : Nat)]? = some (.bool false) := (hs.oldtm 10 rfl).trans rfl
    exact stepVal (wanted_on rfl rfl ((hs.tm 102 2 rfl).trans (congrArg some h2))) (by go_simp) ⟨Below.refl _ _, rfl⟩
   ·intro vs W hp hv b hs
    have h2 : vs 2 = .bool false := hv 2 (by decide)
    have t102 := (hs.tm 102 2 rfl).trans (congrArg some h2)
    have h3 : vs 3 = .bool false := hv 3 (by decide)
    have t103 := (hs.tm 103 3 rfl).trans (congrArg some h3)
    exact stepVal rfl (by go_simp) ⟨Below.refl _ _, rfl⟩
   ·intro vs W hp hv b hs
    have h4 : vs 4 = .bool false := hv 4 (by decide)
    have t104 := (hs.tm 104 4 rfl).trans (congrArg some h4)
    exact stepVal rfl (by go_simp) ⟨Below.refl _ _, rfl⟩
   ·intro vs W hp hv b hs
    have h5 : vs 5 = .bool false := hv 5 (by decide)
    exact stepGet (wanted_on rfl rfl ((hs.tm 105 5 rfl).trans (congrArg some h5))) rfl ((hs.old 16 rfl).trans rfl) (blk_below H15.out.1 hp) Tryz.underlying30 rfl (by kernel_rfl) ⟨Below.refl _ _, rfl⟩
   ·intro vs W hp hv b hs
    have h5 : vs 5 = .bool false := hv 5 (by decide)
    exact stepGet (wanted_on rfl rfl ((hs.tm 105 5 rfl).trans (congrArg some h5))) rfl ((hs.old 8 rfl).trans rfl) (blk_below H15.out.2.2.2.2.1 hp) Tryz.underlying24 rfl (by kernel_rfl) ⟨Below.refl _ _, rfl⟩
   ·intro vs W hp hv b hs
    have h5 : vs 5 = .bool false := hv 5 (by decide)
    have h6 : vs 6 = .agg (mA X q) := hv 6 (by decide)
    have t106 := (hs.tm 106 6 rfl).trans (congrArg some h6)
    have h7 : vs 7 = .agg #[.int .i64 kb, .int .i64 ab] := hv 7 (by decide)
    have t107 := (hs.tm 107 7 rfl).trans (congrArg some h7)
    refine stepCall (wanted_on rfl rfl ((hs.tm 105 5 rfl).trans (congrArg some h5))) Tryz.func31 (by kernel_rfl) rfl #[vs 6, vs 7] rfl (by simp [Act.eval, hs.tm 106 6 rfl, hs.tm 107 7 rfl]) (by rw [h6, h7]; exact memGetI_any X kb ab q W (MV.last _ _ _ _ hp H15.out.2.1)) ?_
    rintro e W' ⟨rfl, hb'⟩
    exact ⟨_, rfl, hb', congrArg (Value.int .i64) (HGE.out.trans HGX.out.symm)⟩
   ·intro vs W hp hv b hs
    have h5 : vs 5 = .bool false := hv 5 (by decide)
    exact stepGet (wanted_on rfl rfl ((hs.tm 105 5 rfl).trans (congrArg some h5))) rfl ((hs.old 11 rfl).trans rfl) (blk_below H15.out.2.2.1 hp) Tryz.underlying30 rfl (by kernel_rfl) ⟨Below.refl _ _, rfl⟩
   ·intro vs W hp hv b hs
    have h5 : vs 5 = .bool false := hv 5 (by decide)
    exact stepGet (wanted_on rfl rfl ((hs.tm 105 5 rfl).trans (congrArg some h5))) rfl ((hs.old 8 rfl).trans rfl) (blk_below H15.out.2.2.2.2.1 hp) Tryz.underlying24 rfl (by kernel_rfl) ⟨Below.refl _ _, rfl⟩
   ·intro vs W hp hv b hs
    have h5 : vs 5 = .bool false := hv 5 (by decide)
    have h9 : vs 9 = .agg (mA m p) := hv 9 (by decide)
    have t109 := (hs.tm 109 9 rfl).trans (congrArg some h9)
    have h10 : vs 10 = .agg #[.int .i64 kb, .int .i64 ab] := hv 10 (by decide)
    have t110 := (hs.tm 110 10 rfl).trans (congrArg some h10)
    refine stepCall (wanted_on rfl rfl ((hs.tm 105 5 rfl).trans (congrArg some h5))) Tryz.func31 (by kernel_rfl) rfl #[vs 9, vs 10] rfl (by simp [Act.eval, hs.tm 109 9 rfl, hs.tm 110 10 rfl]) (by rw [h9, h10]; exact memGetI_any m kb ab p W (MV.last _ _ _ _ hp H15.out.2.2.2.1)) ?_
    rintro e W' ⟨rfl, hb'⟩
    exact ⟨_, rfl, hb', congrArg (Value.int .i64) HGX.out.symm⟩
   ·intro vs W hp hv b hs
    have h5 : vs 5 = .bool false := hv 5 (by decide)
    have h8 : vs 8 = .int .i64 gx := hv 8 (by decide)
    have t108 := (hs.tm 108 8 rfl).trans (congrArg some h8)
    have h11 : vs 11 = .int .i64 gx := hv 11 (by decide)
    have t111 := (hs.tm 111 11 rfl).trans (congrArg some h11)
    exact stepVal (wanted_on rfl rfl ((hs.tm 105 5 rfl).trans (congrArg some h5))) (by go_simp) ⟨Below.refl _ _, rfl⟩
   ·intro vs W hp hv b hs
    have h5 : vs 5 = .bool false := hv 5 (by decide)
    have t105 := (hs.tm 105 5 rfl).trans (congrArg some h5)
    have h12 : vs 12 = .bool true := hv 12 (by decide)
    have t112 := (hs.tm 112 12 rfl).trans (congrArg some h12)
    exact stepVal rfl (by go_simp) ⟨Below.refl _ _, rfl⟩
   ·intro vs W hp hv b hs
    have h13 : vs 13 = .bool true := hv 13 (by decide)
    have t113 := (hs.tm 113 13 rfl).trans (congrArg some h13)
    exact stepVal rfl (by go_simp) ⟨Below.refl _ _, rfl⟩
  intro vs W' hb hv
  exact ⟨vs, rfl, rfl, hv 14 (by decide), hb⟩
 intro vs WE hres hb
 simp only [List.map_cons, List.map_nil, putL, Act.put, List.setIfInBounds_toArray, List.set_cons_zero, List.set_cons_succ, hres]
 clear hres
 have H16 := Aside0.mk (show Box WE g16 30 (mA X q) ∧ MV WE X q ∧ Box WE g11 30 (mA m p) ∧ MV WE m p ∧ Box WE g8 24 #[.int .i64 kb, .int .i64 ab] ∧ TV WE x B d ∧ Below w.heap.size w WE from ⟨blk_below H15.out.1 hb, MV.last _ _ _ _ hb H15.out.2.1, blk_below H15.out.2.2.1 hb, MV.last _ _ _ _ hb H15.out.2.2.2.1, blk_below H15.out.2.2.2.2.1 hb, TV.last _ _ _ _ _ hb H15.out.2.2.2.2.2.1, Below.trans H15.out.2.2.2.2.2.2 (hb.mono H15.out.2.2.2.2.2.2.size)⟩)
 clear H15 hb
 go_wp2
 go_ret
 exact ⟨rfl, H16.out.2.2.2.2.2.2⟩
end Go.Proofs.YtendbgedpjcocaaGreatDoor.B
