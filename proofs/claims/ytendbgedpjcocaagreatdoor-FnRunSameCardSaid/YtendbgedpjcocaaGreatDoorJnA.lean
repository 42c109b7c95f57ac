import Derived.Test.YtendbgedpjcocaaGreatDoorJnB
import Derived.Test.YtendbgedpjcocaaGreatDoorRows
import Derived.LaidMore
import Derived.LaidLaws
import Derived.Stop.LaidErr
import Derived.MakeChecks
import Derived.Test.YtendbgedpjcocaaGreatDoorJnJ
import Derived.Test.YtendbgedpjcocaaGreatDoorJnG
import Derived.Test.YtendbgedpjcocaaGreatDoorJnC
import Derived.Test.YtendbgedpjcocaaGreatDoorPkC
import Derived.Test.YtendbgedpjcocaaGreatDoorJnI
/- What the row lists of errLong gives the walks. -/
namespace Go.Proofs.YtendbgedpjcocaaGreatDoor.B
open Go Go.RowKit Go.Proofs.YtendbgedpjcocaaGreatDoorW.PrintWords Go.Proofs.YtendbgedpjcocaaGreatDoorW.PrintLast Go.Proofs.YtendbgedpjcocaaGreatDoorW.PrintMore
set_option linter.unusedVariables false
theorem star_err : "*" ++ "errors.errorString" = "*errors.errorString" := by decide +kernel
theorem row_err (u : TypeId) (hu : Tryz.prog.typeName? 3 u = some "*errors.errorString") : u = 156 :=
 typeName_ptr_named (nm := "errors.errorString") (by rw [star_err]; kernel_rfl) (by kernel_rfl) (by decide) u (by rw [star_err]; exact hu)
theorem tab_of_laid {W : World} (h : laidMetH Tryz.prog [("loop.example/stopgate/impl.errLong", Rows.laid_loop_example_stopgate_impl_errLong)] W) : ∃ a, ErrAt W a := by
 rw [MakeChecks.laidMetH_plain _ _ _ (by kernel_rfl)] at h
 have hg : Tryz.prog.globalNamed "loop.example/stopgate/impl.errLong" = some 0 := by kernel_rfl
 obtain ⟨a, s, hv, -, -, -⟩ := laid_sentinel h hg (by kernel_rfl) Tryz.underlying71 row_err Tryz.underlying156 Tryz.underlying185 rfl rfl Tryz.underlying9 (by kernel_rfl) (by kernel_rfl)
 exact ⟨a, by have h0 := World.var?_cell hg hv 0; simpa [ErrAt] using h0⟩
end Go.Proofs.YtendbgedpjcocaaGreatDoor.B
/- spec.StmtsRun says what impl.StmtsRun says. -/
namespace Go.Proofs.YtendbgedpjcocaaGreatDoor.B
open Go Go.RowKit Go.Shelf Go.Proofs.YtendbgedpjcocaaGreatDoorW.PrintWords Go.Proofs.YtendbgedpjcocaaGreatDoorW.PrintLast Go.Proofs.YtendbgedpjcocaaGreatDoorW.PrintMore
set_option linter.unusedVariables false
/-- Statements that the specification's own StmtsOk comes to an end of. -/
def StFit (l : List St) : Prop := manyT 4 l ≤ 1048576 ∧ ∀ s ∈ l, istOk s
theorem stOkS_any (l : List St) (hl : StFit l) (A : Option Addr) (c : Nat) (w : World) (hC : Kd.C stK w A l.length l) (hc : l.length ≤ c) : Calls Tryz.prog 16 #[.slice A l.length c] w fun e w' => e = .returned (.bool (stOkL l)) ∧ Below w.heap.size w w' := by
 obtain ⟨K, hK⟩ := spec_stOk l hl.1 hl.2
 exact spec_StmtsOk.calls K A c l _ w hC hc (hK K (Nat.le_refl _))
theorem mOk_len {m : Mem3} (h : mOk m = true) : m.1.length = 6 ∧ m.2.1.length = 6 ∧ m.2.2.length = 6 := by
 unfold mOk memOkL at h
 simp only [Bool.and_eq_true] at h
 exact ⟨listOk_len h.1, listOk_len h.2.1, listOk_len h.2.2⟩
set_option maxRecDepth 100000 in
set_option maxHeartbeats 8000000 in
theorem spRun_any (m : Mem3) (hm : Mini m.1 m.2.1 m.2.2) (l : List St) (hl : StFit l) (f : Int) (p : Caps3) (A : Option Addr) (c : Nat) (w : World) (hM : MV w m p) (hC : Kd.C stK w A l.length l) (hc : l.length ≤ c) :
  Calls Tryz.prog 12 #[.agg (mA m p), .slice A l.length c, .int .i64 f] w fun e w' => ∃ q : Caps3, e = .returned (.tuple #[.agg (mA (stRunV m l f).1 q), .int .i64 (stRunV m l f).2.1, .int .i64 (stRunV m l f).2.2]) ∧ MV w' (stRunV m l f).1 q ∧ Below w.heap.size w w' := by
 obtain ⟨w1, hw1⟩ : ∃ W, W = (w.alloc (.cells (mA m p) 30 (0, 0))).alloc (.cells #[.slice none 0 0, .slice none 0 0, .slice none 0 0] 30 (0, 0)) := ⟨_, rfl⟩
 obtain ⟨hs, k1, k2, hB⟩ := two_blocks' w (.cells (mA m p) 30 (0, 0)) (.cells #[.slice none 0 0, .slice none 0 0, .slice none 0 0] 30 (0, 0))
 rw [← hw1] at hs k1 k2 hB
 have H1 := Aside0.mk (show Box w1 w.heap.size 30 (mA m p) ∧ Box w1 (w.heap.size + 1) 30 mZ ∧ Below w.heap.size w w1 ∧ MV w m p ∧ Kd.C stK w A l.length l ∧ l.length ≤ c from ⟨k1, k2, hB, hM, hC, hc⟩)
 clear hs k1 k2 hB hM hC hc
 unfold mA at hw1
 unfold mA
 obtain ⟨V, hV⟩ : ∃ V, V = stRunV m l f := ⟨_, rfl⟩
 rw [← hV]
 have HV0 := Aside0.mk hV
 clear hV
 have leave : ∀ W : World, Below w.heap.size w W → runOk m l f = false → ∃ q : Caps3, (Ending.returned (.tuple #[.agg mZ, .int .i64 2, .int .i64 0])) = .returned (.tuple #[.agg (mA V.1 q), .int .i64 V.2.1, .int .i64 V.2.2]) ∧ MV W V.1 q ∧ Below w.heap.size w W := by
  intro W hW h
  have e : V = (([], [], []), 2, 0) := by rw [HV0.out, stRunV, h]; rfl
  rw [e]
  exact ⟨((none, 0), (none, 0), (none, 0)), rfl, mV_none W, hW⟩
 have HL := Aside0.mk leave
 clear leave
 go_enter Tryz.func12, Tryz.ntmps12
 go_upto_region 1 with fail
 rw [← hw1]
 clear hw1
 have lb0 := H1.out.1
 go_wp2_with ((with_reducible refine gate_dst (N := 9) rfl ?_); refine getM_ rfl rfl rfl rfl lb0 ?_)
 clear lb0
 obtain ⟨b1, hb1⟩ : ∃ b, b = mOk m := ⟨_, rfl⟩
 refine (specMem_any m hm p w1 (MV.last _ _ _ _ H1.out.2.2.1 H1.out.2.2.2.1)).mono ?_
 rw [← hb1]
 rintro e w2 ⟨rfl, hb2⟩
 have B1 := Aside0.mk hb1
 have H2 := Aside0.mk (show Box w2 w.heap.size 30 (mA m p) ∧ Box w2 (w.heap.size + 1) 30 mZ ∧ Below w.heap.size w w2 from ⟨blk_below H1.out.1 hb2, blk_below H1.out.2.1 hb2, H1.out.2.2.1.trans (hb2.mono H1.out.2.2.1.size)⟩)
 clear hb2 hb1
 have lb := H2.out.2.1
 cases b1 with
 | false =>
  have HV := Aside0.mk (show runOk m l f = false by unfold runOk; rw [← B1.out]; rfl)
  go_wp2_with (refine boxPut_ rfl rfl rfl rfl mZ rfl lb rfl (by kernel_rfl) (by simp [mZ, Value.oneCell']) ?_; intro w4 hbx hput)
  refine bodyPost_ret (results_ctt rfl _ _ (w.heap.size + 1) 30 mZ (0, 0) _ rfl hbx Tryz.underlying30 rfl (by kernel_rfl)) rfl ?_
  exact HL.out w4 (hput.below H2.out.2.2 (Nat.le_succ _)) HV.out
 | true =>
  clear lb
  go_wp2_with fail
  refine (stOkS_any l hl A c w2 (Kd.C_below H1.out.2.2.2.2.1 H2.out.2.2) H1.out.2.2.2.2.2).mono ?_
  rintro e w3 ⟨rfl, hb3⟩
  have H3 := Aside0.mk (show Box w3 w.heap.size 30 (mA m p) ∧ Box w3 (w.heap.size + 1) 30 mZ ∧ Below w.heap.size w w3 from ⟨blk_below H2.out.1 hb3, blk_below H2.out.2.1 hb3, H2.out.2.2.trans (hb3.mono H2.out.2.2.size)⟩)
  clear hb3
  obtain ⟨ok, hok⟩ : ∃ ok, ok = stOkL l := ⟨_, rfl⟩
  rw [← hok]
  have HO := Aside0.mk hok
  clear hok
  have lb := H3.out.2.1
  cases ok with
  | false =>
   have HV := Aside0.mk (show runOk m l f = false by unfold runOk; rw [← HO.out]; simp)
   go_wp2_with (refine boxPut_ rfl rfl rfl rfl mZ rfl lb rfl (by kernel_rfl) (by simp [mZ, Value.oneCell']) ?_; intro w4 hbx hput)
   refine bodyPost_ret (results_ctt rfl _ _ (w.heap.size + 1) 30 mZ (0, 0) _ rfl hbx Tryz.underlying30 rfl (by kernel_rfl)) rfl ?_
   exact HL.out w4 (hput.below H3.out.2.2 (Nat.le_succ _)) HV.out
  | true =>
   by_cases h0 : f < 0
   ·have HV := Aside0.mk (show runOk m l f = false by unfold runOk; rw [decide_eq_false (by omega : ¬ (0 ≤ f ∧ f ≤ 100))]; simp)
    have b0 : decide (f < 0) = true := decide_eq_true h0
    go_wp2_with (refine boxPut_ rfl rfl rfl rfl mZ rfl lb rfl (by kernel_rfl) (by simp [mZ, Value.oneCell']) ?_; intro w4 hbx hput)
    refine bodyPost_ret (results_ctt rfl _ _ (w.heap.size + 1) 30 mZ (0, 0) _ rfl hbx Tryz.underlying30 rfl (by kernel_rfl)) rfl ?_
    exact HL.out w4 (hput.below H3.out.2.2 (Nat.le_succ _)) HV.out
   have b0 : decide (f < 0) = false := decide_eq_false h0
   by_cases h1 : 100 < f
   ·have HV := Aside0.mk (show runOk m l f = false by unfold runOk; rw [decide_eq_false (by omega : ¬ (0 ≤ f ∧ f ≤ 100))]; simp)
    have b1 : decide (100 < f) = true := decide_eq_true h1
    go_wp2_with (refine boxPut_ rfl rfl rfl rfl mZ rfl lb rfl (by kernel_rfl) (by simp [mZ, Value.oneCell']) ?_; intro w4 hbx hput)
    refine bodyPost_ret (results_ctt rfl _ _ (w.heap.size + 1) 30 mZ (0, 0) _ rfl hbx Tryz.underlying30 rfl (by kernel_rfl)) rfl ?_
    exact HL.out w4 (hput.below H3.out.2.2 (Nat.le_succ _)) HV.out
   have b1 : decide (100 < f) = false := decide_eq_false h1
   have hok : runOk m l f = true := by
    unfold runOk
    rw [← B1.out, ← HO.out, decide_eq_true (by omega : 0 ≤ f ∧ f ≤ 100)]; rfl
   obtain ⟨n0, n1, n2⟩ := mOk_len B1.out.symm
   obtain ⟨⟨kk, hk⟩, hF⟩ := runR_run HO.out.symm (m.1 ++ m.2.1 ++ m.2.2) (show 0 ≤ f by omega)
   obtain ⟨r, hr⟩ : ∃ r, r = runR (m.1 ++ m.2.1 ++ m.2.2) l f := ⟨_, rfl⟩
   have he : V = (cut3 r.1, r.2.1, r.2.2) := by rw [HV0.out, stRunV, hok, hr]; rfl
   rw [← hr] at hk hF
   have HVV := Aside0.mk he
   have HF := Aside0.mk (And.intro hk (And.intro (show 0 ≤ f by omega) (And.intro (show f ≤ 100 by omega) (show (m.1 ++ m.2.1 ++ m.2.2).length = 18 by simp only [List.length_append]; omega))))
   have HFO := Aside0.mk (stOk_form HO.out.symm)
   have HN := Aside0.mk (And.intro n0 (And.intro n1 n2))
   have lb0 := H3.out.1
   clear hok hk hF hr he h0 h1 lb HL n0 n1 n2
   go_wp2_with ((with_reducible refine gate_dst (N := 26) rfl ?_); refine getM_ rfl rfl rfl rfl lb0 ?_)
   clear lb0
   refine (copy_at m p HN.out.1 HN.out.2.1 HN.out.2.2 w3 (MV.last _ _ _ _ H3.out.2.2 H1.out.2.2.2.1)).mono ?_
   rintro e w4 ⟨u0, u1, u2, rfl, hR4, hb4⟩
   have hB4 : Below w.heap.size w w4 := H3.out.2.2.trans (hb4.mono H3.out.2.2.size)
   have H4 := Aside0.mk (show Box w4 (w.heap.size + 1) 30 mZ ∧ SpEnv w w4 u0 u1 u2 (m.1 ++ m.2.1 ++ m.2.2) from ⟨blk_below H3.out.2.1 hb4, ⟨hR4.weaken H3.out.2.2.size, hB4, HF.out.2.2.2⟩⟩)
   have HA := Aside0.mk (sp_con kk 4 l HFO.out (m.1 ++ m.2.1 ++ m.2.2) f r HF.out.1 HF.out.2.1 HF.out.2.2.1 w w4 u0 u1 u2 A c H4.out.2 H1.out.2.2.2.2.1 H1.out.2.2.2.2.2)
   clear hR4 hb4 hB4
   go_wp2_with fail
   refine HA.out.mono ?_
   clear HA
   rintro e w5 ⟨z0, z1, z2, rfl, hE5, hK5⟩
   obtain ⟨g0, d0, rfl, _⟩ := own_blk hE5.m.r0
   obtain ⟨g1, d1, rfl, _⟩ := own_blk hE5.m.r1
   obtain ⟨g2, d2, rfl, _⟩ := own_blk hE5.m.r2
   have lb := hK5.keep _ _ _ (by decide) H4.out.1
   have H5 := Aside0.mk hE5
   clear hE5 hK5
   go_wp2_with (refine boxPut_ rfl rfl rfl rfl #[.slice (some ⟨g0, 0, none⟩) 6 d0, .slice (some ⟨g1, 0, none⟩) 6 d1, .slice (some ⟨g2, 0, none⟩) 6 d2] rfl lb rfl (by kernel_rfl) (by simp [Value.oneCell']) ?_; intro w7 hbx hput)
   refine bodyPost_ret (results_ctt rfl _ _ (w.heap.size + 1) 30 #[.slice (some ⟨g0, 0, none⟩) 6 d0, .slice (some ⟨g1, 0, none⟩) 6 d1, .slice (some ⟨g2, 0, none⟩) 6 d2] (0, 0) _ rfl hbx Tryz.underlying30 rfl (by kernel_rfl)) rfl ?_
   obtain ⟨q, hq, hMV⟩ := MV.ofRows H5.out.n (H5.out.m.put1 lb (by decide) hput)
   rw [HVV.out, hq]
   exact ⟨q, rfl, hMV, hput.below H5.out.b (Nat.le_succ _)⟩
end Go.Proofs.YtendbgedpjcocaaGreatDoor.B
/- The run group's words: memories told apart, a number put, the draws, statements as they are read. -/
namespace Go.Proofs.YtendbgedpjcocaaGreatDoor.B
open Go Go.RowKit Go.Shelf Go.Proofs.YtendbgedpjcocaaGreatDoorW.PrintWords Go.Proofs.YtendbgedpjcocaaGreatDoorW.PrintLast Go.Proofs.YtendbgedpjcocaaGreatDoorW.PrintMore
set_option linter.unusedVariables false
theorem eqL_loop (a b : List Int) (h : a.length = b.length) (hl : a.length ≤ 1000) : ∀ (n j : Nat), n + j = a.length → ∃ K, ∀ k, K ≤ k → slices_Equal_int_int.l0 k a b (a.length : Int) (j : Int) = some (decide (a.drop j = b.drop j)) := by
 intro n
 induction n with
 | zero =>
  intro j hj
  refine ⟨1, fun k hk => ?_⟩
  obtain ⟨k', rfl⟩ : ∃ k', k = k' + 1 := ⟨k - 1, by omega⟩
  rw [slices_Equal_int_int.l0, if_neg (by omega), List.drop_eq_nil_of_le (by omega), List.drop_eq_nil_of_le (by omega)]
  simp
 | succ n ih =>
  intro j hj
  obtain ⟨K, hK⟩ := ih (j + 1) (by omega)
  refine ⟨K + 1, fun k hk => ?_⟩
  obtain ⟨k', rfl⟩ : ∃ k', k = k' + 1 := ⟨k - 1, by omega⟩
  have h1 : j < a.length := by omega
  have h2 : j < b.length := by omega
  have := hK k' (by omega)
  rw [slices_Equal_int_int.l0, if_pos (by omega), if_pos (by omega), if_pos (by omega), if_pos (by omega), show wrap64 ((j : Int) + 1) = ((j + 1 : Nat) : Int) by unfold wrap64; omega, this]
  rw [List.drop_eq_getElem_cons h1, List.drop_eq_getElem_cons h2]
  have e1 : rd a (j : Int) = a[j] := by simp [rd, h1]
  have e2 : rd b (j : Int) = b[j] := by simp [rd, h2]
  rw [e1, e2]
  by_cases he : a[j] = b[j]
  ·rw [if_pos he]
   congr 1
   rw [decide_eq_decide]
   exact ⟨fun h' => by rw [he, h'], fun h' => (List.cons.inj h').2⟩
  ·rw [if_neg he]
   congr 1
   symm
   rw [decide_eq_false_iff_not]
   intro h'
   exact he (List.cons.inj h').1
theorem eqL_ends (a b : List Int) (hl : a.length ≤ 1000) : ∃ K, ∀ k, K ≤ k → slices_Equal_int_int.f k a b = some (decide (a = b)) := by
 by_cases h : a.length = b.length
 ·obtain ⟨K, hK⟩ := eqL_loop a b h hl a.length 0 (by omega)
  refine ⟨K, fun k hk => ?_⟩
  rw [slices_Equal_int_int.f, if_pos (by omega)]
  have := hK k hk
  simpa using this
 ·refine ⟨0, fun k _ => ?_⟩
  rw [slices_Equal_int_int.f, if_neg (by omega)]
  congr 1
  symm
  rw [decide_eq_false_iff_not]
  rintro rfl
  exact h rfl
/-- Two memories are the same. -/
def sameV (m n : Mem3) : Bool := decide (m.1 = n.1) && (decide (m.2.1 = n.2.1) && decide (m.2.2 = n.2.2))
theorem sameV_refl (m : Mem3) : sameV m m = true := by simp [sameV]
def ShortM (m : Mem3) : Prop := m.1.length ≤ 1000 ∧ m.2.1.length ≤ 1000 ∧ m.2.2.length ≤ 1000
theorem same_any (m n : Mem3) (hs : ShortM m) (p q : Caps3) (w : World) (hm : MV w m p) (hn : MV w n q) : Calls Tryz.prog 14 #[.agg (mA m p), .agg (mA n q)] w fun e w' => e = .returned (.bool (sameV m n)) ∧ Below w.heap.size w w' := by
 obtain ⟨K0, h0⟩ := eqL_ends m.1 n.1 hs.1
 obtain ⟨K1, h1⟩ := eqL_ends m.2.1 n.2.1 hs.2.1
 obtain ⟨K2, h2⟩ := eqL_ends m.2.2 n.2.2 hs.2.2
 refine impl_MemSame.calls (K0 + K1 + K2) _ _ m.1 _ _ m.2.1 _ _ m.2.2 _ _ n.1 _ _ n.2.1 _ _ n.2.2 (sameV m n) w hm.c0 hm.l0 hm.c1 hm.l1 hm.c2 hm.l2 hn.c0 hn.l0 hn.c1 hn.l1 hn.c2 hn.l2 ?_
 rw [impl_MemSame.f, h0 _ (by omega), h1 _ (by omega), h2 _ (by omega)]
 unfold sameV
 by_cases e0 : m.1 = n.1 <;> by_cases e1 : m.2.1 = n.2.1 <;> simp [e0, e1]
/-- A draw that is tiny. -/
theorem drawTiny_any (l : List Int) (hw : ∀ x ∈ l, (Lit.int .u8 x).wf = true) : ∃ (x : Ex) (m : List Int × List Int × List Int), Tiny x ∧ Mini m.1 m.2.1 m.2.2 ∧ ∀ A c W, Kd.C (Kd.int .u8) W A l.length l → l.length ≤ c →
  Calls Tryz.prog 10 #[.slice A l.length c] W fun e W' => ∃ B d p, e = .returned (.tuple #[.agg (eA x B d), .agg (mA m p)]) ∧ TV W' x B d ∧ MV W' m p ∧ Below W.heap.size W W' := by
 obtain ⟨x, m0, m1, m2, K, hx, hm, h⟩ := drawOf_total l hw
 refine ⟨x, (m0, m1, m2), hx, hm, fun A c W hC hc => ?_⟩
 refine (spec_DrawExprOf.calls K A c l _ _ _ _ _ _ _ _ W hC hc (h K (Nat.le_refl _))).mono ?_
 rintro e W' ⟨v, u0, u1, u2, rfl, hN, h0, h1, h2, hb⟩
 obtain ⟨B, d, rfl⟩ := Kd.N_slice hN
 obtain ⟨A0, c0, rfl⟩ := Kd.R_slice h0
 obtain ⟨A1, c1, rfl⟩ := Kd.R_slice h1
 obtain ⟨A2, c2, rfl⟩ := Kd.R_slice h2
 have r0 := Kd.R_reads' h0
 have r1 := Kd.R_reads' h1
 have r2 := Kd.R_reads' h2
 exact ⟨B, d, ((A0, c0), (A1, c1), (A2, c2)), rfl, TV.ofN hN (fun _ _ => trivial), ⟨r0.2.1, r0.2.2, r1.2.1, r1.2.2, r2.2.1, r2.2.2⟩, hb⟩
/-- A list of statements as a value that is only read. -/
structure LV (W : World) (l : List St) (A : Option Addr) (c : Nat) : Prop where
 v : Kd.V stK 35 W 0 (fun _ => True) (.slice A l.length c) l
theorem LV.reads {W : World} {l : List St} {A : Option Addr} {c : Nat} (h : LV W l A c) : l.length ≤ c ∧ Kd.C stK W A l.length l := (Kd.V_reads' h.v).2
end Go.Proofs.YtendbgedpjcocaaGreatDoor.B
/- impl.MemPut. -/
namespace Go.Proofs.YtendbgedpjcocaaGreatDoor.B
open Go Go.RowKit Go.Shelf Go.Proofs.YtendbgedpjcocaaGreatDoorW.PrintWords Go.Proofs.YtendbgedpjcocaaGreatDoorW.PrintLast Go.Proofs.YtendbgedpjcocaaGreatDoorW.PrintMore
set_option linter.unusedVariables false
end Go.Proofs.YtendbgedpjcocaaGreatDoor.B
/- The run group's facts: contracts with their results named, plain facts about runs. -/
namespace Go.Proofs.YtendbgedpjcocaaGreatDoor.B
open Go Go.RowKit Go.Shelf Go.Proofs.YtendbgedpjcocaaGreatDoorW.PrintWords Go.Proofs.YtendbgedpjcocaaGreatDoorW.PrintLast Go.Proofs.YtendbgedpjcocaaGreatDoorW.PrintMore
set_option linter.unusedVariables false
theorem ErrAt.lasts (a : Addr) : Lasts fun W => ErrAt W a := fun _ _ hb h => h.below hb
theorem runI_any {m : Mem3} {l : List St} {f : Int} {X : Mem3} {v r : Int} (hV : stRunV m l f = (X, v, r)) (p : Caps3) (A : Option Addr) (c : Nat) (a : Addr) (w : World) (hE : ErrAt w a) (hM : MV w m p) (hL : LV w l A c) :
  Calls Tryz.prog 11 #[.agg (mA m p), .slice A l.length c, .int .i64 f] w fun e w' => ∃ q : Caps3, e = .returned (.tuple #[.agg (mA X q), .int .i64 v, .int .i64 r]) ∧ MV w' X q ∧ Below w.heap.size w w' := by
 have h := stRun_any m l f p A c a w hE hM hL.reads.2 hL.reads.1
 rw [hV] at h
 exact h
theorem runS_any {m : Mem3} {l : List St} {f : Int} {X : Mem3} {v r : Int} (hV : stRunV m l f = (X, v, r)) (hm : Mini m.1 m.2.1 m.2.2) (hl : StFit l) (p : Caps3) (A : Option Addr) (c : Nat) (w : World) (hM : MV w m p) (hL : LV w l A c) :
  Calls Tryz.prog 12 #[.agg (mA m p), .slice A l.length c, .int .i64 f] w fun e w' => ∃ q : Caps3, e = .returned (.tuple #[.agg (mA X q), .int .i64 v, .int .i64 r]) ∧ MV w' X q ∧ Below w.heap.size w w' := by
 have h := spRun_any m hm l hl f p A c w hM hL.reads.2 hL.reads.1
 rw [hV] at h
 exact h
theorem cut3_short (bs : List Int) : ShortM (cut3 bs) := by
 refine ⟨?_, ?_, ?_⟩ <;> (simp [cut3]; try omega)
theorem runV_short {m : Mem3} {l : List St} {f : Int} {X : Mem3} {v r : Int} (hV : stRunV m l f = (X, v, r)) : ShortM X := by
 unfold stRunV at hV
 split at hV
 ·obtain rfl := (Prod.mk.inj hV).1
  exact cut3_short _
 ·obtain rfl := (Prod.mk.inj hV).1
  exact ⟨by simp, by simp, by simp⟩
/-- What a run says, told apart. -/
theorem runV_cases {m : Mem3} {l : List St} {f : Int} {X : Mem3} {v r : Int} (hV : stRunV m l f = (X, v, r)) : (runOk m l f = true ∧ ∃ bs, X = cut3 bs ∧ Run (m.1 ++ m.2.1 ++ m.2.2) l f (bs, v, r) ∧ Fits f (bs, v, r)) ∨ (runOk m l f = false ∧ X = ([], [], []) ∧ v = 2 ∧ r = 0) := by
 unfold stRunV at hV
 split at hV
 ·rename_i h
  have h' := h
  unfold runOk at h'
  simp only [Bool.and_eq_true, decide_eq_true_eq] at h'
  obtain ⟨h1, h2⟩ := runR_run h'.1.2 (m.1 ++ m.2.1 ++ m.2.2) h'.2.1
  simp only [Prod.mk.injEq] at hV
  obtain ⟨rfl, rfl, rfl⟩ := hV
  exact .inl ⟨h, _, rfl, h1, h2⟩
 ·rename_i h
  simp only [Prod.mk.injEq] at hV
  obtain ⟨rfl, rfl, rfl⟩ := hV
  exact .inr ⟨by simpa using h, rfl, rfl, rfl⟩
theorem fit_one {k : Int} {b : S24} {x : Ex} (hx : Tiny x) : Fit 1 [(⟨k, b, x, [], []⟩ : St)] := by
 have h := Fit.mk1 (n := 0) (m := 0) (k := k) (a := b) hx (Fit.nil 0) (Fit.nil 0) (by omega) (by omega)
 exact Fit.mono (by simpa using (Fit.nil 0).snoc h.1 h.2) (by omega)
/-- A statement without lists, as it lies in a literal. -/
theorem stLit_F (k a b : Int) (x : Ex) (B : Option Addr) (d : Nat) (W : World) (h : TV W x B d) : Kd.FK stK W (fun _ => True) (⟨k, ⟨a, b⟩, x, [], []⟩ : St) [.int .i64 k, .int .i64 a, .int .i64 b, .int .i64 x.f0, .int .i64 x.f1, .int .i64 x.f2.f0, .int .i64 x.f2.f1, .slice B x.f3.length d, .slice none 0 0, .slice none 0 0] :=
 k35_mkF W _ (⟨k, ⟨a, b⟩, x, [], []⟩ : St) h.reads.1 (Kd.V_F h.v) (Nat.le_refl _) (fun W' _ => (Kd.R_reads' (Kd.R_nil stK 35 W' 0 (fun _ => True))).2.2) (Nat.le_refl _) (fun W' _ => (Kd.R_reads' (Kd.R_nil stK 35 W' 0 (fun _ => True))).2.2)
end Go.Proofs.YtendbgedpjcocaaGreatDoor.B
/- What a tree reads; assignments that do not meet commute. -/
namespace Go.Proofs.YtendbgedpjcocaaGreatDoor.B
open Go Go.RowKit Go.Shelf Go.Proofs.YtendbgedpjcocaaGreatDoorW.PrintWords Go.Proofs.YtendbgedpjcocaaGreatDoorW.PrintLast Go.Proofs.YtendbgedpjcocaaGreatDoorW.PrintMore
set_option linter.unusedVariables false
/-- A tree reads a place. -/
def readsE (p q : Int) : Ex → Bool
 | ⟨k, n, a, l⟩ => (k == 2 && (a.f0 == p && a.f1 == q)) || (l.attach.any fun x => readsE p q x.1)
termination_by e => SizeOf.sizeOf e
decreasing_by all_goals have := List.sizeOf_lt_of_mem x.2; simp; omega
theorem readsE_eq (p q : Int) (e : Ex) : readsE p q e = ((e.f0 == 2 && (e.f2.f0 == p && e.f2.f1 == q)) || e.f3.any (readsE p q)) := by
 cases e with
 | mk k n a l => rw [readsE]; simp
theorem getL_put (bs : List Int) (p q n k a : Int) (h : ¬ (k = p ∧ a = q)) : getL (putB bs p q n) k a = getL bs k a := by
 unfold getL
 by_cases hk : addrOkL k a = true
 ·rw [if_pos hk, if_pos hk]
  unfold putB
  by_cases hp : putsL p q = true
  ·rw [if_pos hp]
   have hne : ((p - 1) * 6 + q).toNat ≠ ((k - 1) * 6 + a).toNat := by
    unfold addrOkL at hk
    unfold putsL addrOkL at hp
    simp only [Bool.and_eq_true, decide_eq_true_eq] at hk hp
    omega
   rw [List.getD_eq_getElem?_getD, List.getD_eq_getElem?_getD, List.getElem?_set_ne hne]
  ·rw [if_neg hp]
 ·rw [if_neg hk, if_neg hk]
theorem evalI_put (bs : List Int) (p q n : Int) (e : Ex) (h : readsE p q e = false) : evalI (putB bs p q n) e = evalI bs e := by
 rw [readsE_eq, Bool.or_eq_false_iff] at h
 have hk : e.f3.map (evalI (putB bs p q n)) = e.f3.map (evalI bs) := List.map_congr_left fun x hx => evalI_put bs p q n x (by
  have := h.2
  rw [List.any_eq_false] at this
  simpa using this x hx)
 rw [evalI_eq, evalI_eq bs, hk]
 by_cases h2 : e.f0 = 2
 ·have hne : ¬ (e.f2.f0 = p ∧ e.f2.f1 = q) := by
   have := h.1
   simp only [h2, beq_self_eq_true, Bool.true_and, Bool.and_eq_false_iff, beq_eq_false_iff_ne] at this
   intro hh
   rcases this with h | h
   ·exact h hh.1
   ·exact h hh.2
  rw [getL_put bs p q n _ _ hne]
 ·rw [if_neg h2, if_neg h2]
termination_by SizeOf.sizeOf e
decreasing_by
 have := List.sizeOf_lt_of_mem hx
 cases e
 simp at this ⊢
 omega
theorem putB_comm (bs : List Int) (p q n p' q' n' : Int) (h : ¬ (p = p' ∧ q = q')) : putB (putB bs p q n) p' q' n' = putB (putB bs p' q' n') p q n := by
 unfold putB
 by_cases h1 : putsL p q = true
 ·by_cases h2 : putsL p' q' = true
  ·rw [if_pos h1, if_pos h2, if_pos h2, if_pos h1]
   refine List.set_comm _ _ ?_
   unfold putsL addrOkL at h1 h2
   simp only [Bool.and_eq_true, decide_eq_true_eq] at h1 h2
   omega
  ·rw [if_pos h1, if_neg h2, if_neg h2, if_pos h1]
 ·rw [if_neg h1, if_neg h1]
theorem reads_total (p q : Int) (e : Ex) (he : Tiny e) : ∃ K, ∀ k, K ≤ k → laws_wsReads.f k e.f0 e.f1 e.f2.f0 e.f2.f1 e.f3 p q = some (readsE p q e) := by
 induction he with
 | mk e hl hk ih =>
  have loop : ∀ (m j : Nat), m + j = e.f3.length → ∃ K, ∀ k, K ≤ k → laws_wsReads.l0 k j e.f0 e.f1 e.f2.f0 e.f2.f1 e.f3 p q = some ((e.f3.drop j).any (readsE p q)) := by
   intro m
   induction m with
   | zero =>
    intro j hj
    refine ⟨1, fun k hk => ?_⟩
    obtain ⟨k', rfl⟩ : ∃ k', k = k' + 1 := ⟨k - 1, by omega⟩
    rw [laws_wsReads.l0, if_neg (by omega), List.drop_eq_nil_of_le (by omega)]; rfl
   | succ m ihm =>
    intro j hj
    have hlt : j < e.f3.length := by omega
    obtain ⟨K1, h1⟩ := ih e.f3[j] (List.getElem_mem hlt)
    obtain ⟨K2, h2⟩ := ihm (j + 1) (by omega)
    refine ⟨K1 + K2 + 1, fun k hk => ?_⟩
    obtain ⟨k', rfl⟩ : ∃ k', k = k' + 1 := ⟨k - 1, by omega⟩
    have e1 : rd_T27 e.f3 (j : Int) = e.f3[j] := by simp [rd_T27, hlt]
    rw [laws_wsReads.l0, if_pos (by omega), if_pos (by omega), e1, h1 k' (by omega), Option.bind_some, show wrap64 ((j : Int) + 1) = ((j + 1 : Nat) : Int) by unfold wrap64; omega, h2 k' (by omega), List.drop_eq_getElem_cons hlt, List.any_cons]
    cases readsE p q e.f3[j] <;> simp
  obtain ⟨K, hK⟩ := loop e.f3.length 0 (by omega)
  refine ⟨K + 2, fun k hk => ?_⟩
  obtain ⟨k', rfl⟩ : ∃ k', k = k' + 2 := ⟨k - 2, by omega⟩
  have h0 := hK k' (by omega)
  rw [List.drop_zero] at h0
  rw [readsE_eq]
  by_cases h2 : e.f0 = 2
  ·rw [laws_wsReads.f, if_pos h2, laws_wsReads.j0]
   have hb : (e.f0 == 2) = true := by simp [h2]
   rw [hb, Bool.true_and]
   by_cases hc : (e.f2.f0 == p && e.f2.f1 == q) = true
   ·rw [if_pos hc, hc, Bool.true_or]
   ·rw [if_neg hc]
    have hc' : (e.f2.f0 == p && e.f2.f1 == q) = false := by simpa using hc
    rw [hc', Bool.false_or]
    exact h0
  ·have hb : (e.f0 == 2) = false := by simp [h2]
   rw [laws_wsReads.f, if_neg h2, laws_wsReads.j0, if_neg (by simp), hb, Bool.false_and, Bool.false_or]
   exact h0
theorem reads_any (x : Ex) (hx : Tiny x) (p q : Int) (A : Option Addr) (c : Nat) (W : World) (h : TV W x A c) :
  Calls Tryz.prog 13 #[.agg (eA x A c), .agg #[.int .i64 p, .int .i64 q]] W fun e W' => e = .returned (.bool (readsE p q x)) ∧ Below W.heap.size W W' := by
 obtain ⟨K, hK⟩ := reads_total p q x hx
 exact laws_wsReads.calls K x.f0 x.f1 x.f2.f0 x.f2.f1 A c x.f3 p q _ W h.reads.2 h.reads.1 (hK K (Nat.le_refl _))
/-- Two assignments, either way. -/
theorem pair_facts {e f : Ex} {m : Mem3} {p q p' q' : Int} (hpq : ¬ (p = p' ∧ q = q')) {L L' : List St} (hL : L = [⟨1, ⟨p, q⟩, e, [], []⟩, ⟨1, ⟨p', q'⟩, f, [], []⟩]) (hL' : L' = [⟨1, ⟨p', q'⟩, f, [], []⟩, ⟨1, ⟨p, q⟩, e, [], []⟩])
  {X Y : Mem3} {c r c' r' : Int} (hV : stRunV m L 3 = (X, c, r)) (hV' : stRunV m L' 3 = (Y, c', r')) :
  c = c' ∧ r = r' ∧ (c = 0 → readsE p' q' e = false → readsE p q f = false → sameV X Y = true) := by
 have hst : stOkL L' = stOkL L := by
  unfold stOkL
  rw [stOk_is, stOk_is]
  congr 1
  ·rw [formT, formT, hL, hL']
   simp only [List.all_cons, List.all_nil, Bool.and_true]
   rw [Bool.and_comm]
  ·rw [hL, hL', manyT, manyT]
   simp only [List.map_cons, List.map_nil, List.sum_cons, List.sum_nil, List.length_cons, List.length_nil]
 have hok : runOk m L' 3 = runOk m L 3 := by unfold runOk; rw [hst]
 rcases runV_cases hV with ⟨h, bs, rfl, hr, _⟩ | ⟨h, rfl, rfl, rfl⟩
 ·rcases runV_cases hV' with ⟨h', bs', rfl, hr', _⟩ | ⟨h', _⟩
  ·subst hL hL'
   have o1 := hr.one (Run.cons (r := (putB (putB (m.1 ++ m.2.1 ++ m.2.2) p q (evalI (m.1 ++ m.2.1 ++ m.2.2) e)) p' q' (evalI (putB (m.1 ++ m.2.1 ++ m.2.2) p q (evalI (m.1 ++ m.2.1 ++ m.2.2) e)) f), 0, 3)) (RunS.set rfl) (by rw [if_pos rfl]; exact Run.single.2 (RunS.set rfl)))
   have o2 := hr'.one (Run.cons (r := (putB (putB (m.1 ++ m.2.1 ++ m.2.2) p' q' (evalI (m.1 ++ m.2.1 ++ m.2.2) f)) p q (evalI (putB (m.1 ++ m.2.1 ++ m.2.2) p' q' (evalI (m.1 ++ m.2.1 ++ m.2.2) f)) e), 0, 3)) (RunS.set rfl) (by rw [if_pos rfl]; exact Run.single.2 (RunS.set rfl)))
   simp only [Prod.mk.injEq] at o1 o2
   obtain ⟨rfl, rfl, rfl⟩ := o1
   obtain ⟨rfl, rfl, rfl⟩ := o2
   refine ⟨rfl, rfl, fun _ h1 h2 => ?_⟩
   rw [evalI_put _ _ _ _ _ h2, evalI_put _ _ _ _ _ h1, putB_comm _ _ _ _ _ _ _ hpq]
   exact sameV_refl _
  ·rw [hok, h] at h'; cases h'
 ·rcases runV_cases hV' with ⟨h', _⟩ | ⟨_, rfl, rfl, rfl⟩
  ·rw [hok, h] at h'; cases h'
  ·exact ⟨rfl, rfl, fun hc => absurd hc (by decide)⟩
end Go.Proofs.YtendbgedpjcocaaGreatDoor.B
/- The law FnRunSame, walked by hand. -/
namespace Go.Proofs.YtendbgedpjcocaaGreatDoor.B
open Go Go.RowKit Go.Proofs.YtendbgedpjcocaaGreatDoorW.PrintWords Go.Proofs.YtendbgedpjcocaaGreatDoorW.PrintLast Go.Proofs.YtendbgedpjcocaaGreatDoorW.PrintMore
set_option linter.unusedVariables false
theorem fit_two {k : Int} {b b' : S24} {x y : Ex} (hx : Tiny x) (hy : Tiny y) : Fit 2 [(⟨k, b, x, [], []⟩ : St), ⟨k, b', y, [], []⟩] := by
 have h := Fit.mk1 (n := 0) (m := 0) (k := k) (a := b') hy (Fit.nil 0) (Fit.nil 0) (by omega) (by omega)
 exact (fit_one hx).snoc h.1 h.2
set_option maxRecDepth 100000 in
set_option maxHeartbeats 4000000 in
theorem law_RunSame (l0 l1 : List Int) (hw0 : ∀ x ∈ l0, (Lit.int .u8 x).wf = true) (hw1 : ∀ x ∈ l1, (Lit.int .u8 x).wf = true) (A0 : Option Addr) (c0 : Nat) (A1 : Option Addr) (c1 : Nat) (w : World) (r0 : Kd.C (Kd.int .u8) w A0 l0.length l0) (h0 : l0.length ≤ c0) (r1 : Kd.C (Kd.int .u8) w A1 l1.length l1) (h1 : l1.length ≤ c1) (a : Addr) (HT : ErrAt w a) :
  Calls Tryz.prog 3 #[.slice A0 l0.length c0, .slice A1 l1.length c1] w fun e w' => e = .returned (.bool true) ∧ Below w.heap.size w w' := by
 obtain ⟨x, m, hx, hm, hd0⟩ := drawTiny_any l0 hw0
 obtain ⟨y, m2, hy, hm2, hd1⟩ := drawTiny_any l1 hw1
 have D0 := Aside0.mk (hd0 A0 c0 w r0 h0)
 have D1 := Aside0.mk (fun W (hb : Below w.heap.size w W) => hd1 A1 c1 W (Kd.C_below r1 hb) h1)
 have HX := Aside0.mk (And.intro hx (And.intro hm hy))
 have HTT := Aside0.mk HT
 clear hd0 hd1 r0 r1 h0 h1 hx hm hy hm2 hw0 hw1 HT
 by_cases hlenl0 : (1048576 : Int) < (l0.length : Int)
 ·go_enter Tryz.func3, Tryz.ntmps3
  go_wp2
  go_ret
  exact ⟨rfl, Below.refl _ _⟩
 by_cases hlenl1 : (1048576 : Int) < (l1.length : Int)
 ·go_enter Tryz.func3, Tryz.ntmps3
  go_wp2
  go_ret
  exact ⟨rfl, Below.refl _ _⟩
 go_enter Tryz.func3, Tryz.ntmps3
 go_wp2_with fail
 refine D0.out.mono ?_
 clear D0
 rintro e w1 ⟨B, d, p, rfl, hT, hM, hb⟩
 have H1 := Aside0.mk (show TV w1 x B d ∧ MV w1 m p ∧ Below w.heap.size w w1 ∧ ErrAt w1 a from ⟨hT, hM, hb, HTT.out.below hb⟩)
 clear hT hM hb HTT
 go_wp2_with ((with_reducible refine gate_dst (N := 5) rfl ?_); refine new2_ (N := 5) (M := 6) (x := 33) (y := 34) (T := 27) (U := 30) (eA x B d) (mA m p) (zs := #[.int .i64 0, .int .i64 0, .int .i64 0, .int .i64 0, .slice none 0 0]) (ys := #[.slice none 0 0, .slice none 0 0, .slice none 0 0]) (eA_one _ _ _) (mA_one _ _) ?_ ?_ ?_ ?_ ?_ ?_ ?_ ?_ ?_ ?_ ?_ ?_ ?_ ?_ ?_ ?_ ?_ ?_ ?_ ?_ ?_ ?_ ?_ ?_ ?_ ?_ ?_ ?_)
 all_goals (first | rfl | decide | (intro _ _; go_simp; done) | kernel_rfl | skip)
 intro g5 g6 W1 hg5 hg6 hne bg5 bg6 hb
 simp only [Act.put, List.setIfInBounds_toArray, List.set_cons_zero, List.set_cons_succ]
 clear hg5 hg6 hne
 have H2 := Aside0.mk (show Box W1 g5 27 (eA x B d) ∧ Box W1 g6 30 (mA m p) ∧ TV W1 x B d ∧ MV W1 m p ∧ Below w.heap.size w W1 ∧ ErrAt W1 a from ⟨bg5, bg6, TV.last _ _ _ _ _ hb H1.out.1, MV.last _ _ _ _ hb H1.out.2.1, Below.trans H1.out.2.2.1 (hb.mono H1.out.2.2.1.size), (ErrAt.lasts _) _ _ hb H1.out.2.2.2⟩)
 clear H1 bg5 bg6 hb
 go_wp2_with fail
 refine (D1.out W1 H2.out.2.2.2.2.1).mono ?_
 clear D1
 rintro e w2 ⟨B2, d2, p2, rfl, hT, hM, hb⟩
 have H3 := Aside0.mk (show TV w2 y B2 d2 ∧ Box w2 g5 27 (eA x B d) ∧ Box w2 g6 30 (mA m p) ∧ TV w2 x B d ∧ MV w2 m p ∧ Below w.heap.size w w2 ∧ ErrAt w2 a from ⟨hT, blk_below H2.out.1 hb, blk_below H2.out.2.1 hb, TV.last _ _ _ _ _ hb H2.out.2.2.1, MV.last _ _ _ _ hb H2.out.2.2.2.1, Below.trans H2.out.2.2.2.2.1 (hb.mono H2.out.2.2.2.2.1.size), (ErrAt.lasts _) _ _ hb H2.out.2.2.2.2.2⟩)
 clear H2 hT hM hb
 go_wp2_with ((with_reducible refine gate_dst (N := 7) rfl ?_); refine new2_ (N := 7) (M := 8) (x := 38) (y := 39) (T := 27) (U := 30) (eA y B2 d2) (mA m2 p2) (zs := #[.int .i64 0, .int .i64 0, .int .i64 0, .int .i64 0, .slice none 0 0]) (ys := #[.slice none 0 0, .slice none 0 0, .slice none 0 0]) (eA_one _ _ _) (mA_one _ _) ?_ ?_ ?_ ?_ ?_ ?_ ?_ ?_ ?_ ?_ ?_ ?_ ?_ ?_ ?_ ?_ ?_ ?_ ?_ ?_ ?_ ?_ ?_ ?_ ?_ ?_ ?_ ?_)
 all_goals (first | rfl | decide | (intro _ _; go_simp; done) | kernel_rfl | skip)
 intro g7 g8 W2 hg7 hg8 hne bg7 bg8 hb
 simp only [Act.put, List.setIfInBounds_toArray, List.set_cons_zero, List.set_cons_succ]
 clear hg7 hg8 hne
 have H4 := Aside0.mk (show Box W2 g7 27 (eA y B2 d2) ∧ TV W2 y B2 d2 ∧ Box W2 g5 27 (eA x B d) ∧ Box W2 g6 30 (mA m p) ∧ TV W2 x B d ∧ MV W2 m p ∧ Below w.heap.size w W2 ∧ ErrAt W2 a from ⟨bg7, TV.last _ _ _ _ _ hb H3.out.1, blk_below H3.out.2.1 hb, blk_below H3.out.2.2.1 hb, TV.last _ _ _ _ _ hb H3.out.2.2.2.1, MV.last _ _ _ _ hb H3.out.2.2.2.2.1, Below.trans H3.out.2.2.2.2.2.1 (hb.mono H3.out.2.2.2.2.2.1.size), (ErrAt.lasts _) _ _ hb H3.out.2.2.2.2.2.2⟩)
 clear H3 bg7 bg8 hb
 go_wp2_with ((with_reducible refine gate_dst (N := 9) rfl ?_); refine new1_ (N := 9) (x := 40) (T := 24) (#[.int .i64 3, .int .i64 5]) (zs := #[.int .i64 0, .int .i64 0]) (by simp [Value.oneCell']) ?_ ?_ ?_ ?_ ?_ ?_ ?_ ?_ ?_ ?_ ?_ ?_ ?_)
 all_goals (first | rfl | decide | (intro _ _; go_simp; done) | kernel_rfl | skip)
 intro g9 W3 hg9 bg9 hb
 simp only [Act.put, List.setIfInBounds_toArray, List.set_cons_zero, List.set_cons_succ]
 clear hg9
 have H5 := Aside0.mk (show Box W3 g9 24 #[.int .i64 3, .int .i64 5] ∧ Box W3 g7 27 (eA y B2 d2) ∧ TV W3 y B2 d2 ∧ Box W3 g5 27 (eA x B d) ∧ Box W3 g6 30 (mA m p) ∧ TV W3 x B d ∧ MV W3 m p ∧ Below w.heap.size w W3 ∧ ErrAt W3 a from ⟨bg9, blk_below H4.out.1 hb, TV.last _ _ _ _ _ hb H4.out.2.1, blk_below H4.out.2.2.1 hb, blk_below H4.out.2.2.2.1 hb, TV.last _ _ _ _ _ hb H4.out.2.2.2.2.1, MV.last _ _ _ _ hb H4.out.2.2.2.2.2.1, Below.trans H4.out.2.2.2.2.2.2.1 (hb.mono H4.out.2.2.2.2.2.2.1.size), (ErrAt.lasts _) _ _ hb H4.out.2.2.2.2.2.2.2⟩)
 clear H4 bg9 hb
 go_wp2_with ((with_reducible refine gate_dst (N := 10) rfl ?_); refine new1_ (N := 10) (x := 41) (T := 24) (#[.int .i64 2, .int .i64 5]) (zs := #[.int .i64 0, .int .i64 0]) (by simp [Value.oneCell']) ?_ ?_ ?_ ?_ ?_ ?_ ?_ ?_ ?_ ?_ ?_ ?_ ?_)
 all_goals (first | rfl | decide | (intro _ _; go_simp; done) | kernel_rfl | skip)
 intro g10 W4 hg10 bg10 hb
 simp only [Act.put, List.setIfInBounds_toArray, List.set_cons_zero, List.set_cons_succ]
 clear hg10
 have H6 := Aside0.mk (show Box W4 g10 24 #[.int .i64 2, .int .i64 5] ∧ Box W4 g9 24 #[.int .i64 3, .int .i64 5] ∧ Box W4 g7 27 (eA y B2 d2) ∧ TV W4 y B2 d2 ∧ Box W4 g5 27 (eA x B d) ∧ Box W4 g6 30 (mA m p) ∧ TV W4 x B d ∧ MV W4 m p ∧ Below w.heap.size w W4 ∧ ErrAt W4 a from ⟨bg10, blk_below H5.out.1 hb, blk_below H5.out.2.1 hb, TV.last _ _ _ _ _ hb H5.out.2.2.1, blk_below H5.out.2.2.2.1 hb, blk_below H5.out.2.2.2.2.1 hb, TV.last _ _ _ _ _ hb H5.out.2.2.2.2.2.1, MV.last _ _ _ _ hb H5.out.2.2.2.2.2.2.1, Below.trans H5.out.2.2.2.2.2.2.2.1 (hb.mono H5.out.2.2.2.2.2.2.2.1.size), (ErrAt.lasts _) _ _ hb H5.out.2.2.2.2.2.2.2.2⟩)
 clear H5 bg10 hb
 have lb0 := H6.out.2.1
 have lb1 : Box W4 g5 27 #[.int .i64 x.f0, .int .i64 x.f1, .int .i64 x.f2.f0, .int .i64 x.f2.f1, .slice B x.f3.length d] := H6.out.2.2.2.2.1
 go_wp2_with (first | ((with_reducible refine gate_dst (N := 42) rfl ?_); refine boxGet_ rfl rfl rfl rfl lb0 Tryz.underlying24 rfl (by kernel_rfl) ?_) | ((with_reducible refine gate_dst (N := 43) rfl ?_); refine boxGet_ rfl rfl rfl rfl lb1 Tryz.underlying27 rfl (by kernel_rfl) ?_) | ((with_reducible refine gate_dst (N := 11) rfl ?_); refine new1_ (N := 11) (x := 44) (T := 35) (#[.int .i64 1, .int .i64 3, .int .i64 5, .int .i64 x.f0, .int .i64 x.f1, .int .i64 x.f2.f0, .int .i64 x.f2.f1, .slice B x.f3.length d, .slice none 0 0, .slice none 0 0]) (zs := #[.int .i64 0, .int .i64 0, .int .i64 0, .int .i64 0, .int .i64 0, .int .i64 0, .int .i64 0, .slice none 0 0, .slice none 0 0, .slice none 0 0]) (by simp [Value.oneCell']) ?_ ?_ ?_ ?_ ?_ ?_ ?_ ?_ ?_ ?_ ?_ ?_ ?_))
 all_goals (first | rfl | decide | (intro _ _; go_simp; done) | kernel_rfl | skip)
 intro g11 W5 hg11 bg11 hb
 simp only [Act.put, List.setIfInBounds_toArray, List.set_cons_zero, List.set_cons_succ]
 clear hg11 lb0 lb1
 have H7 := Aside0.mk (show Box W5 g11 35 #[.int .i64 1, .int .i64 3, .int .i64 5, .int .i64 x.f0, .int .i64 x.f1, .int .i64 x.f2.f0, .int .i64 x.f2.f1, .slice B x.f3.length d, .slice none 0 0, .slice none 0 0] ∧ Box W5 g10 24 #[.int .i64 2, .int .i64 5] ∧ Box W5 g9 24 #[.int .i64 3, .int .i64 5] ∧ Box W5 g7 27 (eA y B2 d2) ∧ TV W5 y B2 d2 ∧ Box W5 g5 27 (eA x B d) ∧ Box W5 g6 30 (mA m p) ∧ TV W5 x B d ∧ MV W5 m p ∧ Below w.heap.size w W5 ∧ ErrAt W5 a from ⟨bg11, blk_below H6.out.1 hb, blk_below H6.out.2.1 hb, blk_below H6.out.2.2.1 hb, TV.last _ _ _ _ _ hb H6.out.2.2.2.1, blk_below H6.out.2.2.2.2.1 hb, blk_below H6.out.2.2.2.2.2.1 hb, TV.last _ _ _ _ _ hb H6.out.2.2.2.2.2.2.1, MV.last _ _ _ _ hb H6.out.2.2.2.2.2.2.2.1, Below.trans H6.out.2.2.2.2.2.2.2.2.1 (hb.mono H6.out.2.2.2.2.2.2.2.2.1.size), (ErrAt.lasts _) _ _ hb H6.out.2.2.2.2.2.2.2.2.2⟩)
 clear H6 bg11 hb
 have lb0 := H7.out.2.1
 have lb1 : Box W5 g7 27 #[.int .i64 y.f0, .int .i64 y.f1, .int .i64 y.f2.f0, .int .i64 y.f2.f1, .slice B2 y.f3.length d2] := H7.out.2.2.2.1
 go_wp2_with (first | ((with_reducible refine gate_dst (N := 45) rfl ?_); refine boxGet_ rfl rfl rfl rfl lb0 Tryz.underlying24 rfl (by kernel_rfl) ?_) | ((with_reducible refine gate_dst (N := 46) rfl ?_); refine boxGet_ rfl rfl rfl rfl lb1 Tryz.underlying27 rfl (by kernel_rfl) ?_) | ((with_reducible refine gate_dst (N := 12) rfl ?_); refine new1_ (N := 12) (x := 47) (T := 35) (#[.int .i64 1, .int .i64 2, .int .i64 5, .int .i64 y.f0, .int .i64 y.f1, .int .i64 y.f2.f0, .int .i64 y.f2.f1, .slice B2 y.f3.length d2, .slice none 0 0, .slice none 0 0]) (zs := #[.int .i64 0, .int .i64 0, .int .i64 0, .int .i64 0, .int .i64 0, .int .i64 0, .int .i64 0, .slice none 0 0, .slice none 0 0, .slice none 0 0]) (by simp [Value.oneCell']) ?_ ?_ ?_ ?_ ?_ ?_ ?_ ?_ ?_ ?_ ?_ ?_ ?_))
 all_goals (first | rfl | decide | (intro _ _; go_simp; done) | kernel_rfl | skip)
 intro g12 W6 hg12 bg12 hb
 simp only [Act.put, List.setIfInBounds_toArray, List.set_cons_zero, List.set_cons_succ]
 clear hg12 lb0 lb1
 have H8 := Aside0.mk (show Box W6 g12 35 #[.int .i64 1, .int .i64 2, .int .i64 5, .int .i64 y.f0, .int .i64 y.f1, .int .i64 y.f2.f0, .int .i64 y.f2.f1, .slice B2 y.f3.length d2, .slice none 0 0, .slice none 0 0] ∧ Box W6 g11 35 #[.int .i64 1, .int .i64 3, .int .i64 5, .int .i64 x.f0, .int .i64 x.f1, .int .i64 x.f2.f0, .int .i64 x.f2.f1, .slice B x.f3.length d, .slice none 0 0, .slice none 0 0] ∧ Box W6 g10 24 #[.int .i64 2, .int .i64 5] ∧ Box W6 g9 24 #[.int .i64 3, .int .i64 5] ∧ Box W6 g7 27 (eA y B2 d2) ∧ TV W6 y B2 d2 ∧ Box W6 g5 27 (eA x B d) ∧ Box W6 g6 30 (mA m p) ∧ TV W6 x B d ∧ MV W6 m p ∧ Below w.heap.size w W6 ∧ ErrAt W6 a from ⟨bg12, blk_below H7.out.1 hb, blk_below H7.out.2.1 hb, blk_below H7.out.2.2.1 hb, blk_below H7.out.2.2.2.1 hb, TV.last _ _ _ _ _ hb H7.out.2.2.2.2.1, blk_below H7.out.2.2.2.2.2.1 hb, blk_below H7.out.2.2.2.2.2.2.1 hb, TV.last _ _ _ _ _ hb H7.out.2.2.2.2.2.2.2.1, MV.last _ _ _ _ hb H7.out.2.2.2.2.2.2.2.2.1, Below.trans H7.out.2.2.2.2.2.2.2.2.2.1 (hb.mono H7.out.2.2.2.2.2.2.2.2.2.1.size), (ErrAt.lasts _) _ _ hb H7.out.2.2.2.2.2.2.2.2.2.2⟩)
 clear H7 bg12 hb
 obtain ⟨L, hL⟩ : ∃ L : List St, L = [⟨1, ⟨3, 5⟩, x, [], []⟩, ⟨1, ⟨2, 5⟩, y, [], []⟩] := ⟨_, rfl⟩
 obtain ⟨L', hL'⟩ : ∃ L : List St, L = [⟨1, ⟨2, 5⟩, y, [], []⟩, ⟨1, ⟨3, 5⟩, x, [], []⟩] := ⟨_, rfl⟩
 have HL := Aside0.mk (And.intro hL hL')
 obtain ⟨X, cc, lf, hV⟩ : ∃ X cc lf, stRunV m L 3 = (X, cc, lf) := ⟨_, _, _, rfl⟩
 obtain ⟨Y, cc', lf', hV'⟩ : ∃ X cc lf, stRunV m L' 3 = (X, cc, lf) := ⟨_, _, _, rfl⟩
 obtain ⟨hcc, hlf, hXY⟩ := pair_facts (by decide) hL hL' hV hV'
 subst hcc hlf
 have HV := Aside0.mk (And.intro hV (And.intro hV' hXY))
 have hfit : StFit L := by rw [hL]; exact (fit_two HX.out.1 HX.out.2.2).ok (by omega)
 have HFI := Aside0.mk hfit
 have HSH := Aside0.mk (runV_short hV)
 clear hL hL' hV hV' hXY hfit
 have lb0 := H8.out.2.2.2.2.2.2.2.1
 have lb1 := H8.out.2.1
 have lb2 := H8.out.1
 have ltx := H8.out.2.2.2.2.2.2.2.2.1
 have lty := H8.out.2.2.2.2.2.1
 go_wp2_with (first | ((with_reducible refine gate_dst (N := 49) rfl ?_); refine getM_ rfl rfl rfl rfl lb0 ?_) | ((with_reducible refine gate_dst (N := 50) rfl ?_); refine boxGet_ rfl rfl rfl rfl lb1 Tryz.underlying35 rfl (by kernel_rfl) ?_) | ((with_reducible refine gate_dst (N := 51) rfl ?_); refine boxGet_ rfl rfl rfl rfl lb2 Tryz.underlying35 rfl (by kernel_rfl) ?_) | ((with_reducible refine gate_dst (N := 52) rfl ?_); refine Kd.N_lit stK _ 35 rfl (N' := 52) rfl (xs := L) (inner := [.int .i64 1, .int .i64 3, .int .i64 5, .int .i64 x.f0, .int .i64 x.f1, .int .i64 x.f2.f0, .int .i64 x.f2.f1, .slice B x.f3.length d, .slice none 0 0, .slice none 0 0, .int .i64 1, .int .i64 2, .int .i64 5, .int .i64 y.f0, .int .i64 y.f1, .int .i64 y.f2.f0, .int .i64 y.f2.f1, .slice B2 y.f3.length d2, .slice none 0 0, .slice none 0 0]) (ok := fun _ => True) (okp := fun _ => True) (by rw [HL.out.1]; go_simp; try rfl) (by rw [HL.out.1]; exact Reps.c10 (stLit_F 1 3 5 x B d _ ltx) (Reps.c10 (stLit_F 1 2 5 y B2 d2 _ lty) (Reps.none _ _))) (fun _ hk => hk) trivial (Below.refl W6.heap.size W6) (Nat.le_refl _) (by rw [HL.out.1]; simp) ?_; intro vL wL0 ho hb hgL hnL; clear hgL hnL; obtain ⟨A90, c90, eL⟩ := Kd.N_slice ho; subst eL))
 have hLV : LV wL0 L A90 c90 := ⟨Kd.V_mono (Kd.N_V (base' := 0) ho) fun _ _ => trivial⟩
 clear lb0 lb1 lb2 ltx lty ho
 have H9 := Aside0.mk (show LV wL0 L A90 c90 ∧ Box wL0 g12 35 #[.int .i64 1, .int .i64 2, .int .i64 5, .int .i64 y.f0, .int .i64 y.f1, .int .i64 y.f2.f0, .int .i64 y.f2.f1, .slice B2 y.f3.length d2, .slice none 0 0, .slice none 0 0] ∧ Box wL0 g11 35 #[.int .i64 1, .int .i64 3, .int .i64 5, .int .i64 x.f0, .int .i64 x.f1, .int .i64 x.f2.f0, .int .i64 x.f2.f1, .slice B x.f3.length d, .slice none 0 0, .slice none 0 0] ∧ Box wL0 g10 24 #[.int .i64 2, .int .i64 5] ∧ Box wL0 g9 24 #[.int .i64 3, .int .i64 5] ∧ Box wL0 g7 27 (eA y B2 d2) ∧ TV wL0 y B2 d2 ∧ Box wL0 g5 27 (eA x B d) ∧ Box wL0 g6 30 (mA m p) ∧ TV wL0 x B d ∧ MV wL0 m p ∧ Below w.heap.size w wL0 ∧ ErrAt wL0 a from ⟨hLV, blk_below H8.out.1 hb, blk_below H8.out.2.1 hb, blk_below H8.out.2.2.1 hb, blk_below H8.out.2.2.2.1 hb, blk_below H8.out.2.2.2.2.1 hb, TV.last _ _ _ _ _ hb H8.out.2.2.2.2.2.1, blk_below H8.out.2.2.2.2.2.2.1 hb, blk_below H8.out.2.2.2.2.2.2.2.1 hb, TV.last _ _ _ _ _ hb H8.out.2.2.2.2.2.2.2.2.1, MV.last _ _ _ _ hb H8.out.2.2.2.2.2.2.2.2.2.1, Below.trans H8.out.2.2.2.2.2.2.2.2.2.2.1 (hb.mono H8.out.2.2.2.2.2.2.2.2.2.2.1.size), (ErrAt.lasts _) _ _ hb H8.out.2.2.2.2.2.2.2.2.2.2.2⟩)
 clear H8 hLV hb
 refine (runI_any HV.out.1 p A90 c90 a wL0 H9.out.2.2.2.2.2.2.2.2.2.2.2.2 H9.out.2.2.2.2.2.2.2.2.2.2.1 H9.out.1).mono ?_
 rintro e wqa ⟨qa, rfl, hM, hb⟩
 have H10 := Aside0.mk (show MV wqa X qa ∧ Box wqa g12 35 #[.int .i64 1, .int .i64 2, .int .i64 5, .int .i64 y.f0, .int .i64 y.f1, .int .i64 y.f2.f0, .int .i64 y.f2.f1, .slice B2 y.f3.length d2, .slice none 0 0, .slice none 0 0] ∧ Box wqa g11 35 #[.int .i64 1, .int .i64 3, .int .i64 5, .int .i64 x.f0, .int .i64 x.f1, .int .i64 x.f2.f0, .int .i64 x.f2.f1, .slice B x.f3.length d, .slice none 0 0, .slice none 0 0] ∧ Box wqa g10 24 #[.int .i64 2, .int .i64 5] ∧ Box wqa g9 24 #[.int .i64 3, .int .i64 5] ∧ Box wqa g7 27 (eA y B2 d2) ∧ TV wqa y B2 d2 ∧ Box wqa g5 27 (eA x B d) ∧ Box wqa g6 30 (mA m p) ∧ TV wqa x B d ∧ MV wqa m p ∧ Below w.heap.size w wqa ∧ ErrAt wqa a from ⟨hM, blk_below H9.out.2.1 hb, blk_below H9.out.2.2.1 hb, blk_below H9.out.2.2.2.1 hb, blk_below H9.out.2.2.2.2.1 hb, blk_below H9.out.2.2.2.2.2.1 hb, TV.last _ _ _ _ _ hb H9.out.2.2.2.2.2.2.1, blk_below H9.out.2.2.2.2.2.2.2.1 hb, blk_below H9.out.2.2.2.2.2.2.2.2.1 hb, TV.last _ _ _ _ _ hb H9.out.2.2.2.2.2.2.2.2.2.1, MV.last _ _ _ _ hb H9.out.2.2.2.2.2.2.2.2.2.2.1, Below.trans H9.out.2.2.2.2.2.2.2.2.2.2.2.1 (hb.mono H9.out.2.2.2.2.2.2.2.2.2.2.2.1.size), (ErrAt.lasts _) _ _ hb H9.out.2.2.2.2.2.2.2.2.2.2.2.2⟩)
 clear H9 hM hb
 go_wp2_with ((with_reducible refine gate_dst (N := 13) rfl ?_); refine new1_ (N := 13) (x := 54) (T := 30) (mA X qa) (zs := #[.slice none 0 0, .slice none 0 0, .slice none 0 0]) (mA_one _ _) ?_ ?_ ?_ ?_ ?_ ?_ ?_ ?_ ?_ ?_ ?_ ?_ ?_)
 all_goals (first | rfl | decide | (intro _ _; go_simp; done) | kernel_rfl | skip)
 intro g13 Wqa hg13 bg13 hb
 simp only [Act.put, List.setIfInBounds_toArray, List.set_cons_zero, List.set_cons_succ]
 clear hg13
 have H11 := Aside0.mk (show Box Wqa g13 30 (mA X qa) ∧ MV Wqa X qa ∧ Box Wqa g12 35 #[.int .i64 1, .int .i64 2, .int .i64 5, .int .i64 y.f0, .int .i64 y.f1, .int .i64 y.f2.f0, .int .i64 y.f2.f1, .slice B2 y.f3.length d2, .slice none 0 0, .slice none 0 0] ∧ Box Wqa g11 35 #[.int .i64 1, .int .i64 3, .int .i64 5, .int .i64 x.f0, .int .i64 x.f1, .int .i64 x.f2.f0, .int .i64 x.f2.f1, .slice B x.f3.length d, .slice none 0 0, .slice none 0 0] ∧ Box Wqa g10 24 #[.int .i64 2, .int .i64 5] ∧ Box Wqa g9 24 #[.int .i64 3, .int .i64 5] ∧ Box Wqa g7 27 (eA y B2 d2) ∧ TV Wqa y B2 d2 ∧ Box Wqa g5 27 (eA x B d) ∧ Box Wqa g6 30 (mA m p) ∧ TV Wqa x B d ∧ MV Wqa m p ∧ Below w.heap.size w Wqa ∧ ErrAt Wqa a from ⟨bg13, MV.last _ _ _ _ hb H10.out.1, blk_below H10.out.2.1 hb, blk_below H10.out.2.2.1 hb, blk_below H10.out.2.2.2.1 hb, blk_below H10.out.2.2.2.2.1 hb, blk_below H10.out.2.2.2.2.2.1 hb, TV.last _ _ _ _ _ hb H10.out.2.2.2.2.2.2.1, blk_below H10.out.2.2.2.2.2.2.2.1 hb, blk_below H10.out.2.2.2.2.2.2.2.2.1 hb, TV.last _ _ _ _ _ hb H10.out.2.2.2.2.2.2.2.2.2.1, MV.last _ _ _ _ hb H10.out.2.2.2.2.2.2.2.2.2.2.1, Below.trans H10.out.2.2.2.2.2.2.2.2.2.2.2.1 (hb.mono H10.out.2.2.2.2.2.2.2.2.2.2.2.1.size), (ErrAt.lasts _) _ _ hb H10.out.2.2.2.2.2.2.2.2.2.2.2.2⟩)
 clear H10 bg13 hb
 have lb0 := H11.out.2.2.2.2.2.2.2.2.2.1
 have lb1 := H11.out.2.2.1
 have lb2 := H11.out.2.2.2.1
 have ltx := H11.out.2.2.2.2.2.2.2.2.2.2.1
 have lty := H11.out.2.2.2.2.2.2.2.1
 go_wp2_with (first | ((with_reducible refine gate_dst (N := 58) rfl ?_); refine getM_ rfl rfl rfl rfl lb0 ?_) | ((with_reducible refine gate_dst (N := 59) rfl ?_); refine boxGet_ rfl rfl rfl rfl lb1 Tryz.underlying35 rfl (by kernel_rfl) ?_) | ((with_reducible refine gate_dst (N := 60) rfl ?_); refine boxGet_ rfl rfl rfl rfl lb2 Tryz.underlying35 rfl (by kernel_rfl) ?_) | ((with_reducible refine gate_dst (N := 61) rfl ?_); refine Kd.N_lit stK _ 35 rfl (N' := 61) rfl (xs := L') (inner := [.int .i64 1, .int .i64 2, .int .i64 5, .int .i64 y.f0, .int .i64 y.f1, .int .i64 y.f2.f0, .int .i64 y.f2.f1, .slice B2 y.f3.length d2, .slice none 0 0, .slice none 0 0, .int .i64 1, .int .i64 3, .int .i64 5, .int .i64 x.f0, .int .i64 x.f1, .int .i64 x.f2.f0, .int .i64 x.f2.f1, .slice B x.f3.length d, .slice none 0 0, .slice none 0 0]) (ok := fun _ => True) (okp := fun _ => True) (by rw [HL.out.2]; go_simp; try rfl) (by rw [HL.out.2]; exact Reps.c10 (stLit_F 1 2 5 y B2 d2 _ lty) (Reps.c10 (stLit_F 1 3 5 x B d _ ltx) (Reps.none _ _))) (fun _ hk => hk) trivial (Below.refl Wqa.heap.size Wqa) (Nat.le_refl _) (by rw [HL.out.2]; simp) ?_; intro vL wL1 ho hb hgL hnL; clear hgL hnL; obtain ⟨A91, c91, eL⟩ := Kd.N_slice ho; subst eL))
 have hLV : LV wL1 L' A91 c91 := ⟨Kd.V_mono (Kd.N_V (base' := 0) ho) fun _ _ => trivial⟩
 clear lb0 lb1 lb2 ltx lty ho
 have H12 := Aside0.mk (show LV wL1 L' A91 c91 ∧ Box wL1 g13 30 (mA X qa) ∧ MV wL1 X qa ∧ Box wL1 g12 35 #[.int .i64 1, .int .i64 2, .int .i64 5, .int .i64 y.f0, .int .i64 y.f1, .int .i64 y.f2.f0, .int .i64 y.f2.f1, .slice B2 y.f3.length d2, .slice none 0 0, .slice none 0 0] ∧ Box wL1 g11 35 #[.int .i64 1, .int .i64 3, .int .i64 5, .int .i64 x.f0, .int .i64 x.f1, .int .i64 x.f2.f0, .int .i64 x.f2.f1, .slice B x.f3.length d, .slice none 0 0, .slice none 0 0] ∧ Box wL1 g10 24 #[.int .i64 2, .int .i64 5] ∧ Box wL1 g9 24 #[.int .i64 3, .int .i64 5] ∧ Box wL1 g7 27 (eA y B2 d2) ∧ TV wL1 y B2 d2 ∧ Box wL1 g5 27 (eA x B d) ∧ Box wL1 g6 30 (mA m p) ∧ TV wL1 x B d ∧ MV wL1 m p ∧ Below w.heap.size w wL1 ∧ ErrAt wL1 a from ⟨hLV, blk_below H11.out.1 hb, MV.last _ _ _ _ hb H11.out.2.1, blk_below H11.out.2.2.1 hb, blk_below H11.out.2.2.2.1 hb, blk_below H11.out.2.2.2.2.1 hb, blk_below H11.out.2.2.2.2.2.1 hb, blk_below H11.out.2.2.2.2.2.2.1 hb, TV.last _ _ _ _ _ hb H11.out.2.2.2.2.2.2.2.1, blk_below H11.out.2.2.2.2.2.2.2.2.1 hb, blk_below H11.out.2.2.2.2.2.2.2.2.2.1 hb, TV.last _ _ _ _ _ hb H11.out.2.2.2.2.2.2.2.2.2.2.1, MV.last _ _ _ _ hb H11.out.2.2.2.2.2.2.2.2.2.2.2.1, Below.trans H11.out.2.2.2.2.2.2.2.2.2.2.2.2.1 (hb.mono H11.out.2.2.2.2.2.2.2.2.2.2.2.2.1.size), (ErrAt.lasts _) _ _ hb H11.out.2.2.2.2.2.2.2.2.2.2.2.2.2⟩)
 clear H11 hLV hb
 refine (runI_any HV.out.2.1 p A91 c91 a wL1 H12.out.2.2.2.2.2.2.2.2.2.2.2.2.2.2 H12.out.2.2.2.2.2.2.2.2.2.2.2.2.1 H12.out.1).mono ?_
 rintro e wqb ⟨qb, rfl, hM, hb⟩
 have H13 := Aside0.mk (show MV wqb Y qb ∧ Box wqb g13 30 (mA X qa) ∧ MV wqb X qa ∧ Box wqb g12 35 #[.int .i64 1, .int .i64 2, .int .i64 5, .int .i64 y.f0, .int .i64 y.f1, .int .i64 y.f2.f0, .int .i64 y.f2.f1, .slice B2 y.f3.length d2, .slice none 0 0, .slice none 0 0] ∧ Box wqb g11 35 #[.int .i64 1, .int .i64 3, .int .i64 5, .int .i64 x.f0, .int .i64 x.f1, .int .i64 x.f2.f0, .int .i64 x.f2.f1, .slice B x.f3.length d, .slice none 0 0, .slice none 0 0] ∧ Box wqb g10 24 #[.int .i64 2, .int .i64 5] ∧ Box wqb g9 24 #[.int .i64 3, .int .i64 5] ∧ Box wqb g7 27 (eA y B2 d2) ∧ TV wqb y B2 d2 ∧ Box wqb g5 27 (eA x B d) ∧ Box wqb g6 30 (mA m p) ∧ TV wqb x B d ∧ MV wqb m p ∧ Below w.heap.size w wqb ∧ ErrAt wqb a from ⟨hM, blk_below H12.out.2.1 hb, MV.last _ _ _ _ hb H12.out.2.2.1, blk_below H12.out.2.2.2.1 hb, blk_below H12.out.2.2.2.2.1 hb, blk_below H12.out.2.2.2.2.2.1 hb, blk_below H12.out.2.2.2.2.2.2.1 hb, blk_below H12.out.2.2.2.2.2.2.2.1 hb, TV.last _ _ _ _ _ hb H12.out.2.2.2.2.2.2.2.2.1, blk_below H12.out.2.2.2.2.2.2.2.2.2.1 hb, blk_below H12.out.2.2.2.2.2.2.2.2.2.2.1 hb, TV.last _ _ _ _ _ hb H12.out.2.2.2.2.2.2.2.2.2.2.2.1, MV.last _ _ _ _ hb H12.out.2.2.2.2.2.2.2.2.2.2.2.2.1, Below.trans H12.out.2.2.2.2.2.2.2.2.2.2.2.2.2.1 (hb.mono H12.out.2.2.2.2.2.2.2.2.2.2.2.2.2.1.size), (ErrAt.lasts _) _ _ hb H12.out.2.2.2.2.2.2.2.2.2.2.2.2.2.2⟩)
 clear H12 hM hb
 go_wp2_with ((with_reducible refine gate_dst (N := 16) rfl ?_); refine new1_ (N := 16) (x := 63) (T := 30) (mA Y qb) (zs := #[.slice none 0 0, .slice none 0 0, .slice none 0 0]) (mA_one _ _) ?_ ?_ ?_ ?_ ?_ ?_ ?_ ?_ ?_ ?_ ?_ ?_ ?_)
 all_goals (first | rfl | decide | (intro _ _; go_simp; done) | kernel_rfl | skip)
 intro g16 Wqb hg16 bg16 hb
 simp only [Act.put, List.setIfInBounds_toArray, List.set_cons_zero, List.set_cons_succ]
 clear hg16
 have H14 := Aside0.mk (show Box Wqb g16 30 (mA Y qb) ∧ MV Wqb Y qb ∧ Box Wqb g13 30 (mA X qa) ∧ MV Wqb X qa ∧ Box Wqb g12 35 #[.int .i64 1, .int .i64 2, .int .i64 5, .int .i64 y.f0, .int .i64 y.f1, .int .i64 y.f2.f0, .int .i64 y.f2.f1, .slice B2 y.f3.length d2, .slice none 0 0, .slice none 0 0] ∧ Box Wqb g11 35 #[.int .i64 1, .int .i64 3, .int .i64 5, .int .i64 x.f0, .int .i64 x.f1, .int .i64 x.f2.f0, .int .i64 x.f2.f1, .slice B x.f3.length d, .slice none 0 0, .slice none 0 0] ∧ Box Wqb g10 24 #[.int .i64 2, .int .i64 5] ∧ Box Wqb g9 24 #[.int .i64 3, .int .i64 5] ∧ Box Wqb g7 27 (eA y B2 d2) ∧ TV Wqb y B2 d2 ∧ Box Wqb g5 27 (eA x B d) ∧ Box Wqb g6 30 (mA m p) ∧ TV Wqb x B d ∧ MV Wqb m p ∧ Below w.heap.size w Wqb ∧ ErrAt Wqb a from ⟨bg16, MV.last _ _ _ _ hb H13.out.1, blk_below H13.out.2.1 hb, MV.last _ _ _ _ hb H13.out.2.2.1, blk_below H13.out.2.2.2.1 hb, blk_below H13.out.2.2.2.2.1 hb, blk_below H13.out.2.2.2.2.2.1 hb, blk_below H13.out.2.2.2.2.2.2.1 hb, blk_below H13.out.2.2.2.2.2.2.2.1 hb, TV.last _ _ _ _ _ hb H13.out.2.2.2.2.2.2.2.2.1, blk_below H13.out.2.2.2.2.2.2.2.2.2.1 hb, blk_below H13.out.2.2.2.2.2.2.2.2.2.2.1 hb, TV.last _ _ _ _ _ hb H13.out.2.2.2.2.2.2.2.2.2.2.2.1, MV.last _ _ _ _ hb H13.out.2.2.2.2.2.2.2.2.2.2.2.2.1, Below.trans H13.out.2.2.2.2.2.2.2.2.2.2.2.2.2.1 (hb.mono H13.out.2.2.2.2.2.2.2.2.2.2.2.2.2.1.size), (ErrAt.lasts _) _ _ hb H13.out.2.2.2.2.2.2.2.2.2.2.2.2.2.2⟩)
 clear H13 bg16 hb
 have lb0 := H14.out.2.2.2.2.2.2.2.2.2.2.2.1
 have lb1 := H14.out.2.2.2.2.2.1
 have lb2 := H14.out.2.2.2.2.1
 have ltx := H14.out.2.2.2.2.2.2.2.2.2.2.2.2.1
 have lty := H14.out.2.2.2.2.2.2.2.2.2.1
 go_wp2_with (first | ((with_reducible refine gate_dst (N := 67) rfl ?_); refine getM_ rfl rfl rfl rfl lb0 ?_) | ((with_reducible refine gate_dst (N := 68) rfl ?_); refine boxGet_ rfl rfl rfl rfl lb1 Tryz.underlying35 rfl (by kernel_rfl) ?_) | ((with_reducible refine gate_dst (N := 69) rfl ?_); refine boxGet_ rfl rfl rfl rfl lb2 Tryz.underlying35 rfl (by kernel_rfl) ?_) | ((with_reducible refine gate_dst (N := 70) rfl ?_); refine Kd.N_lit stK _ 35 rfl (N' := 70) rfl (xs := L) (inner := [.int .i64 1, .int .i64 3, .int .i64 5, .int .i64 x.f0, .int .i64 x.f1, .int .i64 x.f2.f0, .int .i64 x.f2.f1, .slice B x.f3.length d, .slice none 0 0, .slice none 0 0, .int .i64 1, .int .i64 2, .int .i64 5, .int .i64 y.f0, .int .i64 y.f1, .int .i64 y.f2.f0, .int .i64 y.f2.f1, .slice B2 y.f3.length d2, .slice none 0 0, .slice none 0 0]) (ok := fun _ => True) (okp := fun _ => True) (by rw [HL.out.1]; go_simp; try rfl) (by rw [HL.out.1]; exact Reps.c10 (stLit_F 1 3 5 x B d _ ltx) (Reps.c10 (stLit_F 1 2 5 y B2 d2 _ lty) (Reps.none _ _))) (fun _ hk => hk) trivial (Below.refl Wqb.heap.size Wqb) (Nat.le_refl _) (by rw [HL.out.1]; simp) ?_; intro vL wL2 ho hb hgL hnL; clear hgL hnL; obtain ⟨A92, c92, eL⟩ := Kd.N_slice ho; subst eL))
 have hLV : LV wL2 L A92 c92 := ⟨Kd.V_mono (Kd.N_V (base' := 0) ho) fun _ _ => trivial⟩
 clear lb0 lb1 lb2 ltx lty ho
 have H15 := Aside0.mk (show LV wL2 L A92 c92 ∧ Box wL2 g16 30 (mA Y qb) ∧ MV wL2 Y qb ∧ Box wL2 g13 30 (mA X qa) ∧ MV wL2 X qa ∧ Box wL2 g12 35 #[.int .i64 1, .int .i64 2, .int .i64 5, .int .i64 y.f0, .int .i64 y.f1, .int .i64 y.f2.f0, .int .i64 y.f2.f1, .slice B2 y.f3.length d2, .slice none 0 0, .slice none 0 0] ∧ Box wL2 g11 35 #[.int .i64 1, .int .i64 3, .int .i64 5, .int .i64 x.f0, .int .i64 x.f1, .int .i64 x.f2.f0, .int .i64 x.f2.f1, .slice B x.f3.length d, .slice none 0 0, .slice none 0 0] ∧ Box wL2 g10 24 #[.int .i64 2, .int .i64 5] ∧ Box wL2 g9 24 #[.int .i64 3, .int .i64 5] ∧ Box wL2 g7 27 (eA y B2 d2) ∧ TV wL2 y B2 d2 ∧ Box wL2 g5 27 (eA x B d) ∧ Box wL2 g6 30 (mA m p) ∧ TV wL2 x B d ∧ MV wL2 m p ∧ Below w.heap.size w wL2 ∧ ErrAt wL2 a from ⟨hLV, blk_below H14.out.1 hb, MV.last _ _ _ _ hb H14.out.2.1, blk_below H14.out.2.2.1 hb, MV.last _ _ _ _ hb H14.out.2.2.2.1, blk_below H14.out.2.2.2.2.1 hb, blk_below H14.out.2.2.2.2.2.1 hb, blk_below H14.out.2.2.2.2.2.2.1 hb, blk_below H14.out.2.2.2.2.2.2.2.1 hb, blk_below H14.out.2.2.2.2.2.2.2.2.1 hb, TV.last _ _ _ _ _ hb H14.out.2.2.2.2.2.2.2.2.2.1, blk_below H14.out.2.2.2.2.2.2.2.2.2.2.1 hb, blk_below H14.out.2.2.2.2.2.2.2.2.2.2.2.1 hb, TV.last _ _ _ _ _ hb H14.out.2.2.2.2.2.2.2.2.2.2.2.2.1, MV.last _ _ _ _ hb H14.out.2.2.2.2.2.2.2.2.2.2.2.2.2.1, Below.trans H14.out.2.2.2.2.2.2.2.2.2.2.2.2.2.2.1 (hb.mono H14.out.2.2.2.2.2.2.2.2.2.2.2.2.2.2.1.size), (ErrAt.lasts _) _ _ hb H14.out.2.2.2.2.2.2.2.2.2.2.2.2.2.2.2⟩)
 clear H14 hLV hb
 refine (runS_any HV.out.1 HX.out.2.1 HFI.out p A92 c92 wL2 H15.out.2.2.2.2.2.2.2.2.2.2.2.2.2.2.1 H15.out.1).mono ?_
 rintro e wqc ⟨qc, rfl, hM, hb⟩
 have H16 := Aside0.mk (show MV wqc X qc ∧ Box wqc g16 30 (mA Y qb) ∧ MV wqc Y qb ∧ Box wqc g13 30 (mA X qa) ∧ MV wqc X qa ∧ Box wqc g12 35 #[.int .i64 1, .int .i64 2, .int .i64 5, .int .i64 y.f0, .int .i64 y.f1, .int .i64 y.f2.f0, .int .i64 y.f2.f1, .slice B2 y.f3.length d2, .slice none 0 0, .slice none 0 0] ∧ Box wqc g11 35 #[.int .i64 1, .int .i64 3, .int .i64 5, .int .i64 x.f0, .int .i64 x.f1, .int .i64 x.f2.f0, .int .i64 x.f2.f1, .slice B x.f3.length d, .slice none 0 0, .slice none 0 0] ∧ Box wqc g10 24 #[.int .i64 2, .int .i64 5] ∧ Box wqc g9 24 #[.int .i64 3, .int .i64 5] ∧ Box wqc g7 27 (eA y B2 d2) ∧ TV wqc y B2 d2 ∧ Box wqc g5 27 (eA x B d) ∧ Box wqc g6 30 (mA m p) ∧ TV wqc x B d ∧ MV wqc m p ∧ Below w.heap.size w wqc ∧ ErrAt wqc a from ⟨hM, blk_below H15.out.2.1 hb, MV.last _ _ _ _ hb H15.out.2.2.1, blk_below H15.out.2.2.2.1 hb, MV.last _ _ _ _ hb H15.out.2.2.2.2.1, blk_below H15.out.2.2.2.2.2.1 hb, blk_below H15.out.2.2.2.2.2.2.1 hb, blk_below H15.out.2.2.2.2.2.2.2.1 hb, blk_below H15.out.2.2.2.2.2.2.2.2.1 hb, blk_below H15.out.2.2.2.2.2.2.2.2.2.1 hb, TV.last _ _ _ _ _ hb H15.out.2.2.2.2.2.2.2.2.2.2.1, blk_below H15.out.2.2.2.2.2.2.2.2.2.2.2.1 hb, blk_below H15.out.2.2.2.2.2.2.2.2.2.2.2.2.1 hb, TV.last _ _ _ _ _ hb H15.out.2.2.2.2.2.2.2.2.2.2.2.2.2.1, MV.last _ _ _ _ hb H15.out.2.2.2.2.2.2.2.2.2.2.2.2.2.2.1, Below.trans H15.out.2.2.2.2.2.2.2.2.2.2.2.2.2.2.2.1 (hb.mono H15.out.2.2.2.2.2.2.2.2.2.2.2.2.2.2.2.1.size), (ErrAt.lasts _) _ _ hb H15.out.2.2.2.2.2.2.2.2.2.2.2.2.2.2.2.2⟩)
 clear H15 hM hb
 go_wp2_with ((with_reducible refine gate_dst (N := 19) rfl ?_); refine new1_ (N := 19) (x := 72) (T := 30) (mA X qc) (zs := #[.slice none 0 0, .slice none 0 0, .slice none 0 0]) (mA_one _ _) ?_ ?_ ?_ ?_ ?_ ?_ ?_ ?_ ?_ ?_ ?_ ?_ ?_)
 all_goals (first | rfl | decide | (intro _ _; go_simp; done) | kernel_rfl | skip)
 intro g19 Wqc hg19 bg19 hb
 simp only [Act.put, List.setIfInBounds_toArray, List.set_cons_zero, List.set_cons_succ]
 clear hg19
 have H17 := Aside0.mk (show Box Wqc g19 30 (mA X qc) ∧ MV Wqc X qc ∧ Box Wqc g16 30 (mA Y qb) ∧ MV Wqc Y qb ∧ Box Wqc g13 30 (mA X qa) ∧ MV Wqc X qa ∧ Box Wqc g12 35 #[.int .i64 1, .int .i64 2, .int .i64 5, .int .i64 y.f0, .int .i64 y.f1, .int .i64 y.f2.f0, .int .i64 y.f2.f1, .slice B2 y.f3.length d2, .slice none 0 0, .slice none 0 0] ∧ Box Wqc g11 35 #[.int .i64 1, .int .i64 3, .int .i64 5, .int .i64 x.f0, .int .i64 x.f1, .int .i64 x.f2.f0, .int .i64 x.f2.f1, .slice B x.f3.length d, .slice none 0 0, .slice none 0 0] ∧ Box Wqc g10 24 #[.int .i64 2, .int .i64 5] ∧ Box Wqc g9 24 #[.int .i64 3, .int .i64 5] ∧ Box Wqc g7 27 (eA y B2 d2) ∧ TV Wqc y B2 d2 ∧ Box Wqc g5 27 (eA x B d) ∧ Box Wqc g6 30 (mA m p) ∧ TV Wqc x B d ∧ MV Wqc m p ∧ Below w.heap.size w Wqc ∧ ErrAt Wqc a from ⟨bg19, MV.last _ _ _ _ hb H16.out.1, blk_below H16.out.2.1 hb, MV.last _ _ _ _ hb H16.out.2.2.1, blk_below H16.out.2.2.2.1 hb, MV.last _ _ _ _ hb H16.out.2.2.2.2.1, blk_below H16.out.2.2.2.2.2.1 hb, blk_below H16.out.2.2.2.2.2.2.1 hb, blk_below H16.out.2.2.2.2.2.2.2.1 hb, blk_below H16.out.2.2.2.2.2.2.2.2.1 hb, blk_below H16.out.2.2.2.2.2.2.2.2.2.1 hb, TV.last _ _ _ _ _ hb H16.out.2.2.2.2.2.2.2.2.2.2.1, blk_below H16.out.2.2.2.2.2.2.2.2.2.2.2.1 hb, blk_below H16.out.2.2.2.2.2.2.2.2.2.2.2.2.1 hb, TV.last _ _ _ _ _ hb H16.out.2.2.2.2.2.2.2.2.2.2.2.2.2.1, MV.last _ _ _ _ hb H16.out.2.2.2.2.2.2.2.2.2.2.2.2.2.2.1, Below.trans H16.out.2.2.2.2.2.2.2.2.2.2.2.2.2.2.2.1 (hb.mono H16.out.2.2.2.2.2.2.2.2.2.2.2.2.2.2.2.1.size), (ErrAt.lasts _) _ _ hb H16.out.2.2.2.2.2.2.2.2.2.2.2.2.2.2.2.2⟩)
 clear H16 bg19 hb
 have hn1 : (cc != cc) = false := by simp
 have hn2 : (lf != lf) = false := by simp
 by_cases h0 : cc = 0
 rotate_left
 ·have hn0 : (cc != 0) = true := by simp [h0]
  go_wp2
  go_ret
  exact ⟨rfl, H17.out.2.2.2.2.2.2.2.2.2.2.2.2.2.2.2.2.1⟩
 have hn0 : (cc != 0) = false := by simp [h0]
 have H0 := Aside0.mk h0
 clear h0
 have lb0 := H17.out.2.2.2.2.2.2.2.2.2.2.2.2.1
 have lb1 := H17.out.2.2.2.2.2.2.2.2.1
 go_wp2_with (first | ((with_reducible refine gate_dst (N := 91) rfl ?_); refine gate_guard rfl ?_; refine getE_ rfl rfl rfl rfl lb0 ?_) | ((with_reducible refine gate_dst (N := 92) rfl ?_); refine gate_guard rfl ?_; refine boxGet_ rfl rfl rfl rfl lb1 Tryz.underlying24 rfl (by kernel_rfl) ?_))
 clear lb0 lb1
 obtain ⟨b1, hb1⟩ : ∃ b, b = readsE 2 5 x := ⟨_, rfl⟩
 have Rb1 := Aside0.mk hb1
 clear hb1
 refine (reads_any x HX.out.1 2 5 B d Wqc H17.out.2.2.2.2.2.2.2.2.2.2.2.2.2.2.1).mono ?_
 rw [← Rb1.out]
 rintro e w7 ⟨rfl, hb⟩
 have H18 := Aside0.mk (show Box w7 g19 30 (mA X qc) ∧ MV w7 X qc ∧ Box w7 g16 30 (mA Y qb) ∧ MV w7 Y qb ∧ Box w7 g13 30 (mA X qa) ∧ MV w7 X qa ∧ Box w7 g12 35 #[.int .i64 1, .int .i64 2, .int .i64 5, .int .i64 y.f0, .int .i64 y.f1, .int .i64 y.f2.f0, .int .i64 y.f2.f1, .slice B2 y.f3.length d2, .slice none 0 0, .slice none 0 0] ∧ Box w7 g11 35 #[.int .i64 1, .int .i64 3, .int .i64 5, .int .i64 x.f0, .int .i64 x.f1, .int .i64 x.f2.f0, .int .i64 x.f2.f1, .slice B x.f3.length d, .slice none 0 0, .slice none 0 0] ∧ Box w7 g10 24 #[.int .i64 2, .int .i64 5] ∧ Box w7 g9 24 #[.int .i64 3, .int .i64 5] ∧ Box w7 g7 27 (eA y B2 d2) ∧ TV w7 y B2 d2 ∧ Box w7 g5 27 (eA x B d) ∧ Box w7 g6 30 (mA m p) ∧ TV w7 x B d ∧ MV w7 m p ∧ Below w.heap.size w w7 ∧ ErrAt w7 a from ⟨blk_below H17.out.1 hb, MV.last _ _ _ _ hb H17.out.2.1, blk_below H17.out.2.2.1 hb, MV.last _ _ _ _ hb H17.out.2.2.2.1, blk_below H17.out.2.2.2.2.1 hb, MV.last _ _ _ _ hb H17.out.2.2.2.2.2.1, blk_below H17.out.2.2.2.2.2.2.1 hb, blk_below H17.out.2.2.2.2.2.2.2.1 hb, blk_below H17.out.2.2.2.2.2.2.2.2.1 hb, blk_below H17.out.2.2.2.2.2.2.2.2.2.1 hb, blk_below H17.out.2.2.2.2.2.2.2.2.2.2.1 hb, TV.last _ _ _ _ _ hb H17.out.2.2.2.2.2.2.2.2.2.2.2.1, blk_below H17.out.2.2.2.2.2.2.2.2.2.2.2.2.1 hb, blk_below H17.out.2.2.2.2.2.2.2.2.2.2.2.2.2.1 hb, TV.last _ _ _ _ _ hb H17.out.2.2.2.2.2.2.2.2.2.2.2.2.2.2.1, MV.last _ _ _ _ hb H17.out.2.2.2.2.2.2.2.2.2.2.2.2.2.2.2.1, Below.trans H17.out.2.2.2.2.2.2.2.2.2.2.2.2.2.2.2.2.1 (hb.mono H17.out.2.2.2.2.2.2.2.2.2.2.2.2.2.2.2.2.1.size), (ErrAt.lasts _) _ _ hb H17.out.2.2.2.2.2.2.2.2.2.2.2.2.2.2.2.2.2⟩)
 clear H17 hb
 cases b1
 rotate_left
 ·go_wp2
  go_ret
  exact ⟨rfl, H18.out.2.2.2.2.2.2.2.2.2.2.2.2.2.2.2.2.1⟩
 have lb0 := H18.out.2.2.2.2.2.2.2.2.2.2.1
 have lb1 := H18.out.2.2.2.2.2.2.2.2.2.1
 go_wp2_with (first | ((with_reducible refine gate_dst (N := 96) rfl ?_); refine gate_guard rfl ?_; refine getE_ rfl rfl rfl rfl lb0 ?_) | ((with_reducible refine gate_dst (N := 97) rfl ?_); refine gate_guard rfl ?_; refine boxGet_ rfl rfl rfl rfl lb1 Tryz.underlying24 rfl (by kernel_rfl) ?_))
 clear lb0 lb1
 obtain ⟨b2, hb2⟩ : ∃ b, b = readsE 3 5 y := ⟨_, rfl⟩
 have Rb2 := Aside0.mk hb2
 clear hb2
 refine (reads_any y HX.out.2.2 3 5 B2 d2 w7 H18.out.2.2.2.2.2.2.2.2.2.2.2.1).mono ?_
 rw [← Rb2.out]
 rintro e w8 ⟨rfl, hb⟩
 have H19 := Aside0.mk (show Box w8 g19 30 (mA X qc) ∧ MV w8 X qc ∧ Box w8 g16 30 (mA Y qb) ∧ MV w8 Y qb ∧ Box w8 g13 30 (mA X qa) ∧ MV w8 X qa ∧ Box w8 g12 35 #[.int .i64 1, .int .i64 2, .int .i64 5, .int .i64 y.f0, .int .i64 y.f1, .int .i64 y.f2.f0, .int .i64 y.f2.f1, .slice B2 y.f3.length d2, .slice none 0 0, .slice none 0 0] ∧ Box w8 g11 35 #[.int .i64 1, .int .i64 3, .int .i64 5, .int .i64 x.f0, .int .i64 x.f1, .int .i64 x.f2.f0, .int .i64 x.f2.f1, .slice B x.f3.length d, .slice none 0 0, .slice none 0 0] ∧ Box w8 g10 24 #[.int .i64 2, .int .i64 5] ∧ Box w8 g9 24 #[.int .i64 3, .int .i64 5] ∧ Box w8 g7 27 (eA y B2 d2) ∧ TV w8 y B2 d2 ∧ Box w8 g5 27 (eA x B d) ∧ Box w8 g6 30 (mA m p) ∧ TV w8 x B d ∧ MV w8 m p ∧ Below w.heap.size w w8 ∧ ErrAt w8 a from ⟨blk_below H18.out.1 hb, MV.last _ _ _ _ hb H18.out.2.1, blk_below H18.out.2.2.1 hb, MV.last _ _ _ _ hb H18.out.2.2.2.1, blk_below H18.out.2.2.2.2.1 hb, MV.last _ _ _ _ hb H18.out.2.2.2.2.2.1, blk_below H18.out.2.2.2.2.2.2.1 hb, blk_below H18.out.2.2.2.2.2.2.2.1 hb, blk_below H18.out.2.2.2.2.2.2.2.2.1 hb, blk_below H18.out.2.2.2.2.2.2.2.2.2.1 hb, blk_below H18.out.2.2.2.2.2.2.2.2.2.2.1 hb, TV.last _ _ _ _ _ hb H18.out.2.2.2.2.2.2.2.2.2.2.2.1, blk_below H18.out.2.2.2.2.2.2.2.2.2.2.2.2.1 hb, blk_below H18.out.2.2.2.2.2.2.2.2.2.2.2.2.2.1 hb, TV.last _ _ _ _ _ hb H18.out.2.2.2.2.2.2.2.2.2.2.2.2.2.2.1, MV.last _ _ _ _ hb H18.out.2.2.2.2.2.2.2.2.2.2.2.2.2.2.2.1, Below.trans H18.out.2.2.2.2.2.2.2.2.2.2.2.2.2.2.2.2.1 (hb.mono H18.out.2.2.2.2.2.2.2.2.2.2.2.2.2.2.2.2.1.size), (ErrAt.lasts _) _ _ hb H18.out.2.2.2.2.2.2.2.2.2.2.2.2.2.2.2.2.2⟩)
 clear H18 hb
 cases b2
 rotate_left
 ·go_wp2
  go_ret
  exact ⟨rfl, H19.out.2.2.2.2.2.2.2.2.2.2.2.2.2.2.2.2.1⟩
 have lb0 := H19.out.2.2.2.2.1
 have lb1 := H19.out.2.2.1
 go_wp2_with (first | ((with_reducible refine gate_dst (N := 100) rfl ?_); refine getM_ rfl rfl rfl rfl lb0 ?_) | ((with_reducible refine gate_dst (N := 101) rfl ?_); refine getM_ rfl rfl rfl rfl lb1 ?_))
 clear lb0 lb1
 have hs := HV.out.2.2 H0.out Rb1.out.symm Rb2.out.symm
 refine (same_any X Y HSH.out qa qb w8 H19.out.2.2.2.2.2.1 H19.out.2.2.2.1).mono ?_
 rw [hs]
 clear hs
 rintro e w9 ⟨rfl, hb⟩
 have H20 := Aside0.mk (show Box w9 g19 30 (mA X qc) ∧ MV w9 X qc ∧ Box w9 g16 30 (mA Y qb) ∧ MV w9 Y qb ∧ Box w9 g13 30 (mA X qa) ∧ MV w9 X qa ∧ Box w9 g12 35 #[.int .i64 1, .int .i64 2, .int .i64 5, .int .i64 y.f0, .int .i64 y.f1, .int .i64 y.f2.f0, .int .i64 y.f2.f1, .slice B2 y.f3.length d2, .slice none 0 0, .slice none 0 0] ∧ Box w9 g11 35 #[.int .i64 1, .int .i64 3, .int .i64 5, .int .i64 x.f0, .int .i64 x.f1, .int .i64 x.f2.f0, .int .i64 x.f2.f1, .slice B x.f3.length d, .slice none 0 0, .slice none 0 0] ∧ Box w9 g10 24 #[.int .i64 2, .int .i64 5] ∧ Box w9 g9 24 #[.int .i64 3, .int .i64 5] ∧ Box w9 g7 27 (eA y B2 d2) ∧ TV w9 y B2 d2 ∧ Box w9 g5 27 (eA x B d) ∧ Box w9 g6 30 (mA m p) ∧ TV w9 x B d ∧ MV w9 m p ∧ Below w.heap.size w w9 ∧ ErrAt w9 a from ⟨blk_below H19.out.1 hb, MV.last _ _ _ _ hb H19.out.2.1, blk_below H19.out.2.2.1 hb, MV.last _ _ _ _ hb H19.out.2.2.2.1, blk_below H19.out.2.2.2.2.1 hb, MV.last _ _ _ _ hb H19.out.2.2.2.2.2.1, blk_below H19.out.2.2.2.2.2.2.1 hb, blk_below H19.out.2.2.2.2.2.2.2.1 hb, blk_below H19.out.2.2.2.2.2.2.2.2.1 hb, blk_below H19.out.2.2.2.2.2.2.2.2.2.1 hb, blk_below H19.out.2.2.2.2.2.2.2.2.2.2.1 hb, TV.last _ _ _ _ _ hb H19.out.2.2.2.2.2.2.2.2.2.2.2.1, blk_below H19.out.2.2.2.2.2.2.2.2.2.2.2.2.1 hb, blk_below H19.out.2.2.2.2.2.2.2.2.2.2.2.2.2.1 hb, TV.last _ _ _ _ _ hb H19.out.2.2.2.2.2.2.2.2.2.2.2.2.2.2.1, MV.last _ _ _ _ hb H19.out.2.2.2.2.2.2.2.2.2.2.2.2.2.2.2.1, Below.trans H19.out.2.2.2.2.2.2.2.2.2.2.2.2.2.2.2.2.1 (hb.mono H19.out.2.2.2.2.2.2.2.2.2.2.2.2.2.2.2.2.1.size), (ErrAt.lasts _) _ _ hb H19.out.2.2.2.2.2.2.2.2.2.2.2.2.2.2.2.2.2⟩)
 clear H19 hb
 go_wp2
 go_ret
 exact ⟨rfl, H20.out.2.2.2.2.2.2.2.2.2.2.2.2.2.2.2.2.1⟩
end Go.Proofs.YtendbgedpjcocaaGreatDoor.B
