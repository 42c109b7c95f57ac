import Derived.Test.YtendbgedpjcocaaGreatDoorJnI
import Derived.Test.YtendbgedpjcocaaGreatDoorJnB
import Derived.Test.YtendbgedpjcocaaGreatDoorJnD
import Derived.Test.YtendbgedpjcocaaGreatDoorPkC
import Derived.Test.YtendbgedpjcocaaGreatDoorF15
import Derived.Test.YtendbgedpjcocaaGreatDoorJnC
/- spec.StmtsRun says what impl.StmtsRun says. -/
namespace Go.Proofs.YtendbgedpjcocaaGreatDoor.B
open Go Go.RowKit Go.Shelf Go.Proofs.YtendbgedpjcocaaGreatDoorW.PrintWords Go.Proofs.YtendbgedpjcocaaGreatDoorW.PrintLast Go.Proofs.YtendbgedpjcocaaGreatDoorW.PrintMore
set_option linter.unusedVariables false
/-- Statements that the specification's own StmtsOk comes to an end of. -/
def StFit (l : List St) : Prop := manyT 4 l ≤ 1048576 ∧ ∀ s ∈ l, istOk s
theorem stOkS_any (l : List St) (hl : StFit l) (A : Option Addr) (c : Nat) (w : World) (hC : Kd.C stK w A l.length l) (hc : l.length ≤ c) : Calls Tryz.prog 16 #[.slice A l.length c] w fun e w' => e = .returned (.bool (stOkL l)) ∧ Below w.heap.size w w' := by
 obtain ⟨K, hK⟩ := spec_stOk l hl.1 hl.2
 exact spec_StmtsOk.calls K A c l _ w hC hc (hK K (Nat.le_refl _))
theorem mOk_len {m : Mem3} (h : mOk m = true) : m.1.length = 6 ∧ m.2.1.length = 6 ∧ m.2.2.length = 6 := by
 unfold mOk memOkL at h
 simp only [Bool.and_eq_true] at h
 exact ⟨listOk_len h.1, listOk_len h.2.1, listOk_len h.2.2⟩
set_option maxRecDepth 100000 in
set_option maxHeartbeats 8000000 in
theorem spRun_any (m : Mem3) (hm : Mini m.1 m.2.1 m.2.2) (l : List St) (hl : StFit l) (f : Int) (p : Caps3) (A : Option Addr) (c : Nat) (w : World) (hM : MV w m p) (hC : Kd.C stK w A l.length l) (hc : l.length ≤ c) :
  Calls Tryz.prog 12 #[.agg (mA m p), .slice A l.length c, .int .i64 f] w fun e w' => ∃ q : Caps3, e = .returned (.tuple #[.agg (mA (stRunV m l f).1 q), .int .i64 (stRunV m l f).2.1, .int .i64 (stRunV m l f).2.2]) ∧ MV w' (stRunV m l f).1 q ∧ Below w.heap.size w w' := by
 obtain ⟨w1, hw1⟩ : ∃ W, W = (w.alloc (.cells (mA m p) 30 (0, 0))).alloc (.cells #[.slice none 0 0, .slice none 0 0, .slice none 0 0] 30 (0, 0)) := ⟨_, rfl⟩
 obtain ⟨hs, k1, k2, hB⟩ := two_blocks' w (.cells (mA m p) 30 (0, 0)) (.cells #[.slice none 0 0, .slice none 0 0, .slice none 0 0] 30 (0, 0))
 rw [← hw1] at hs k1 k2 hB
 have H1 := Aside0.mk (show Box w1 w.heap.size 30 (mA m p) ∧ Box w1 (w.heap.size + 1) 30 mZ ∧ Below w.heap.size w w1 ∧ MV w m p ∧ Kd.C stK w A l.length l ∧ l.length ≤ c from ⟨k1, k2, hB, hM, hC, hc⟩)
 clear hs k1 k2 hB hM hC hc
 unfold mA at hw1
 unfold mA
 obtain ⟨V, hV⟩ : ∃ V, V = stRunV m l f := ⟨_, rfl⟩
 rw [← hV]
 have HV0 := Aside0.mk hV
 clear hV
 have leave : ∀ W : World, Below w.heap.size w W → runOk m l f = false → ∃ q : Caps3, (Ending.returned (.tuple #[.agg mZ, .int .i64 2, .int .i64 0])) = .returned (.tuple #[.agg (mA V.1 q), .int .i64 V.2.1, .int .i64 V.2.2]) ∧ MV W V.1 q ∧ Below w.heap.size w W := by
  intro W hW h
  have e : V = (([], [], []), 2, 0) := by rw [HV0.out, stRunV, h]; rfl
  rw [e]
  exact ⟨((none, 0), (none, 0), (none, 0)), rfl, mV_none W, hW⟩
 have HL := Aside0.mk leave
 clear leave
 go_enter Tryz.func12, Tryz.ntmps12
 go_upto_region 1 with fail
 rw [← hw1]
 clear hw1
 have lb0 := H1.out.1
 go_wp2_with ((with_reducible refine gate_dst (N := 9) rfl ?_); refine getM_ rfl rfl rfl rfl lb0 ?_)
 clear lb0
 obtain ⟨b1, hb1⟩ : ∃ b, b = mOk m := ⟨_, rfl⟩
 refine (specMem_any m hm p w1 (MV.last _ _ _ _ H1.out.2.2.1 H1.out.2.2.2.1)).mono ?_
 rw [← hb1]
 rintro e w2 ⟨rfl, hb2⟩
 have B1 := Aside0.mk hb1
 have H2 := Aside0.mk (show Box w2 w.heap.size 30 (mA m p) ∧ Box w2 (w.heap.size + 1) 30 mZ ∧ Below w.heap.size w w2 from ⟨blk_below H1.out.1 hb2, blk_below H1.out.2.1 hb2, H1.out.2.2.1.trans (hb2.mono H1.out.2.2.1.size)⟩)
 clear hb2 hb1
 have lb := H2.out.2.1
 cases b1 with
 | false =>
  have HV := Aside0.mk (show runOk m l f = false by unfold runOk; rw [← B1.out]; rfl)
  go_wp2_with (refine boxPut_ rfl rfl rfl rfl mZ rfl lb rfl (by kernel_rfl) (by simp [mZ, Value.oneCell']) ?_; intro w4 hbx hput)
  refine bodyPost_ret (results_ctt rfl _ _ (w.heap.size + 1) 30 mZ (0, 0) _ rfl hbx Tryz.underlying30 rfl (by kernel_rfl)) rfl ?_
  exact HL.out w4 (hput.below H2.out.2.2 (Nat.le_succ _)) HV.out
 | true =>
  clear lb
  go_wp2_with fail
  refine (stOkS_any l hl A c w2 (Kd.C_below H1.out.2.2.2.2.1 H2.out.2.2) H1.out.2.2.2.2.2).mono ?_
  rintro e w3 ⟨rfl, hb3⟩
  have H3 := Aside0.mk (show Box w3 w.heap.size 30 (mA m p) ∧ Box w3 (w.heap.size + 1) 30 mZ ∧ Below w.heap.size w w3 from ⟨blk_below H2.out.1 hb3, blk_below H2.out.2.1 hb3, H2.out.2.2.trans (hb3.mono H2.out.2.2.size)⟩)
  clear hb3
  obtain ⟨ok, hok⟩ : ∃ ok, ok = stOkL l := ⟨_, rfl⟩
  rw [← hok]
  have HO := Aside0.mk hok
  clear hok
  have lb := H3.out.2.1
  cases ok with
  | false =>
   have HV := Aside0.mk (show runOk m l f = false by unfold runOk; rw [← HO.out]; simp)
   go_wp2_with (refine boxPut_ rfl rfl rfl rfl mZ rfl lb rfl (by kernel_rfl) (by simp [mZ, Value.oneCell']) ?_; intro w4 hbx hput)
   refine bodyPost_ret (results_ctt rfl _ _ (w.heap.size + 1) 30 mZ (0, 0) _ rfl hbx Tryz.underlying30 rfl (by kernel_rfl)) rfl ?_
   exact HL.out w4 (hput.below H3.out.2.2 (Nat.le_succ _)) HV.out
  | true =>
   by_cases h0 : f < 0
   ·have HV := Aside0.mk (show runOk m l f = false by unfold runOk; rw [decide_eq_false (by omega : ¬ (0 ≤ f ∧ f ≤ 100))]; simp)
    have b0 : decide (f < 0) = true := decide_eq_true h0
    go_wp2_with (refine boxPut_ rfl rfl rfl rfl mZ rfl lb rfl (by kernel_rfl) (by simp [mZ, Value.oneCell']) ?_; intro w4 hbx hput)
    refine bodyPost_ret (results_ctt rfl _ _ (w.heap.size + 1) 30 mZ (0, 0) _ rfl hbx Tryz.underlying30 rfl (by kernel_rfl)) rfl ?_
    exact HL.out w4 (hput.below H3.out.2.2 (Nat.le_succ _)) HV.out
   have b0 : decide (f < 0) = false := decide_eq_false h0
   by_cases h1 : 100 < f
   ·have HV := Aside0.mk (show runOk m l f = false by unfold runOk; rw [decide_eq_false (by omega : ¬ (0 ≤ f ∧ f ≤ 100))]; simp)
    have b1 : decide (100 < f) = true := decide_eq_true h1
    go_wp2_with (refine boxPut_ rfl rfl rfl rfl mZ rfl lb rfl (by kernel_rfl) (by simp [mZ, Value.oneCell']) ?_; intro w4 hbx hput)
    refine bodyPost_ret (results_ctt rfl _ _ (w.heap.size + 1) 30 mZ (0, 0) _ rfl hbx Tryz.underlying30 rfl (by kernel_rfl)) rfl ?_
    exact HL.out w4 (hput.below H3.out.2.2 (Nat.le_succ _)) HV.out
   have b1 : decide (100 < f) = false := decide_eq_false h1
   have hok : runOk m l f = true := by
    unfold runOk
    rw [← B1.out, ← HO.out, decide_eq_true (by omega : 0 ≤ f ∧ f ≤ 100)]; rfl
   obtain ⟨n0, n1, n2⟩ := mOk_len B1.out.symm
   obtain ⟨⟨kk, hk⟩, hF⟩ := runR_run HO.out.symm (m.1 ++ m.2.1 ++ m.2.2) (show 0 ≤ f by omega)
   obtain ⟨r, hr⟩ : ∃ r, r = runR (m.1 ++ m.2.1 ++ m.2.2) l f := ⟨_, rfl⟩
   have he : V = (cut3 r.1, r.2.1, r.2.2) := by rw [HV0.out, stRunV, hok, hr]; rfl
   rw [← hr] at hk hF
   have HVV := Aside0.mk he
   have HF := Aside0.mk (And.intro hk (And.intro (show 0 ≤ f by omega) (And.intro (show f ≤ 100 by omega) (show (m.1 ++ m.2.1 ++ m.2.2).length = 18 by simp only [List.length_append]; omega))))
   have HFO := Aside0.mk (stOk_form HO.out.symm)
   have HN := Aside0.mk (And.intro n0 (And.intro n1 n2))
   have lb0 := H3.out.1
   clear hok hk hF hr he h0 h1 lb HL n0 n1 n2
   go_wp2_with ((with_reducible refine gate_dst (N := 26) rfl ?_); refine getM_ rfl rfl rfl rfl lb0 ?_)
   clear lb0
   refine (copy_at m p HN.out.1 HN.out.2.1 HN.out.2.2 w3 (MV.last _ _ _ _ H3.out.2.2 H1.out.2.2.2.1)).mono ?_
   rintro e w4 ⟨u0, u1, u2, rfl, hR4, hb4⟩
   have hB4 : Below w.heap.size w w4 := H3.out.2.2.trans (hb4.mono H3.out.2.2.size)
   have H4 := Aside0.mk (show Box w4 (w.heap.size + 1) 30 mZ ∧ SpEnv w w4 u0 u1 u2 (m.1 ++ m.2.1 ++ m.2.2) from ⟨blk_below H3.out.2.1 hb4, ⟨hR4.weaken H3.out.2.2.size, hB4, HF.out.2.2.2⟩⟩)
   have HA := Aside0.mk (sp_con kk 4 l HFO.out (m.1 ++ m.2.1 ++ m.2.2) f r HF.out.1 HF.out.2.1 HF.out.2.2.1 w w4 u0 u1 u2 A c H4.out.2 H1.out.2.2.2.2.1 H1.out.2.2.2.2.2)
   clear hR4 hb4 hB4
   go_wp2_with fail
   refine HA.out.mono ?_
   clear HA
   rintro e w5 ⟨z0, z1, z2, rfl, hE5, hK5⟩
   obtain ⟨g0, d0, rfl, _⟩ := own_blk hE5.m.r0
   obtain ⟨g1, d1, rfl, _⟩ := own_blk hE5.m.r1
   obtain ⟨g2, d2, rfl, _⟩ := own_blk hE5.m.r2
   have lb := hK5.keep _ _ _ (by decide) H4.out.1
   have H5 := Aside0.mk hE5
   clear hE5 hK5
   go_wp2_with (refine boxPut_ rfl rfl rfl rfl #[.slice (some ⟨g0, 0, none⟩) 6 d0, .slice (some ⟨g1, 0, none⟩) 6 d1, .slice (some ⟨g2, 0, none⟩) 6 d2] rfl lb rfl (by kernel_rfl) (by simp [Value.oneCell']) ?_; intro w7 hbx hput)
   refine bodyPost_ret (results_ctt rfl _ _ (w.heap.size + 1) 30 #[.slice (some ⟨g0, 0, none⟩) 6 d0, .slice (some ⟨g1, 0, none⟩) 6 d1, .slice (some ⟨g2, 0, none⟩) 6 d2] (0, 0) _ rfl hbx Tryz.underlying30 rfl (by kernel_rfl)) rfl ?_
   obtain ⟨q, hq, hMV⟩ := MV.ofRows H5.out.n (H5.out.m.put1 lb (by decide) hput)
   rw [HVV.out, hq]
   exact ⟨q, rfl, hMV, hput.below H5.out.b (Nat.le_succ _)⟩
end Go.Proofs.YtendbgedpjcocaaGreatDoor.B
/- The run group's words: memories told apart, a number put, the draws, statements as they are read. -/
namespace Go.Proofs.YtendbgedpjcocaaGreatDoor.B
open Go Go.RowKit Go.Shelf Go.Proofs.YtendbgedpjcocaaGreatDoorW.PrintWords Go.Proofs.YtendbgedpjcocaaGreatDoorW.PrintLast Go.Proofs.YtendbgedpjcocaaGreatDoorW.PrintMore
set_option linter.unusedVariables false
theorem eqL_loop (a b : List Int) (h : a.length = b.length) (hl : a.length ≤ 1000) : ∀ (n j : Nat), n + j = a.length → ∃ K, ∀ k, K ≤ k → slices_Equal_int_int.l0 k a b (a.length : Int) (j : Int) = some (decide (a.drop j = b.drop j)) := by
 intro n
 induction n with
 | zero =>
  intro j hj
  refine ⟨1, fun k hk => ?_⟩
  obtain ⟨k', rfl⟩ : ∃ k', k = k' + 1 := ⟨k - 1, by omega⟩
  rw [slices_Equal_int_int.l0, if_neg (by omega), List.drop_eq_nil_of_le (by omega), List.drop_eq_nil_of_le (by omega)]
  simp
 | succ n ih =>
  intro j hj
  obtain ⟨K, hK⟩ := ih (j + 1) (by omega)
  refine ⟨K + 1, fun k hk => ?_⟩
  obtain ⟨k', rfl⟩ : ∃ k', k = k' + 1 := ⟨k - 1, by omega⟩
  have h1 : j < a.length := by omega
  have h2 : j < b.length := by omega
  have := hK k' (by omega)
  rw [slices_Equal_int_int.l0, if_pos (by omega), if_pos (by omega), if_pos (by omega), if_pos (by omega), show wrap64 ((j : Int) + 1) = ((j + 1 : Nat) : Int) by unfold wrap64; omega, this]
  rw [List.drop_eq_getElem_cons h1, List.drop_eq_getElem_cons h2]
  have e1 : rd a (j : Int) = a[j] := by simp [rd, h1]
  have e2 : rd b (j : Int) = b[j] := by simp [rd, h2]
  rw [e1, e2]
  by_cases he : a[j] = b[j]
  ·rw [if_pos he]
   congr 1
   rw [decide_eq_decide]
   exact ⟨fun h' => by rw [he, h'], fun h' => (List.cons.inj h').2⟩
  ·rw [if_neg he]
   congr 1
   symm
   rw [decide_eq_false_iff_not]
   intro h'
   exact he (List.cons.inj h').1
theorem eqL_ends (a b : List Int) (hl : a.length ≤ 1000) : ∃ K, ∀ k, K ≤ k → slices_Equal_int_int.f k a b = some (decide (a = b)) := by
 by_cases h : a.length = b.length
 ·obtain ⟨K, hK⟩ := eqL_loop a b h hl a.length 0 (by omega)
  refine ⟨K, fun k hk => ?_⟩
  rw [slices_Equal_int_int.f, if_pos (by omega)]
  have := hK k hk
  simpa using this
 ·refine ⟨0, fun k _ => ?_⟩
  rw [slices_Equal_int_int.f, if_neg (by omega)]
  congr 1
  symm
  rw [decide_eq_false_iff_not]
  rintro rfl
  exact h rfl
/-- Two memories are the same. -/
def sameV (m n : Mem3) : Bool := decide (m.1 = n.1) && (decide (m.2.1 = n.2.1) && decide (m.2.2 = n.2.2))
theorem sameV_refl (m : Mem3) : sameV m m = true := by simp [sameV]
def ShortM (m : Mem3) : Prop := m.1.length ≤ 1000 ∧ m.2.1.length ≤ 1000 ∧ m.2.2.length ≤ 1000
theorem same_any (m n : Mem3) (hs : ShortM m) (p q : Caps3) (w : World) (hm : MV w m p) (hn : MV w n q) : Calls Tryz.prog 14 #[.agg (mA m p), .agg (mA n q)] w fun e w' => e = .returned (.bool (sameV m n)) ∧ Below w.heap.size w w' := by
 obtain ⟨K0, h0⟩ := eqL_ends m.1 n.1 hs.1
 obtain ⟨K1, h1⟩ := eqL_ends m.2.1 n.2.1 hs.2.1
 obtain ⟨K2, h2⟩ := eqL_ends m.2.2 n.2.2 hs.2.2
 refine impl_MemSame.calls (K0 + K1 + K2) _ _ m.1 _ _ m.2.1 _ _ m.2.2 _ _ n.1 _ _ n.2.1 _ _ n.2.2 (sameV m n) w hm.c0 hm.l0 hm.c1 hm.l1 hm.c2 hm.l2 hn.c0 hn.l0 hn.c1 hn.l1 hn.c2 hn.l2 ?_
 rw [impl_MemSame.f, h0 _ (by omega), h1 _ (by omega), h2 _ (by omega)]
 unfold sameV
 by_cases e0 : m.1 = n.1 <;> by_cases e1 : m.2.1 = n.2.1 <;> simp [e0, e1]
/-- A memory with a number put. -/
def putV (m : Mem3) (k a n : Int) : Mem3 := if mOk m = true then cut3 (putB (m.1 ++ m.2.1 ++ m.2.2) k a n) else ([], [], [])
/-- A draw that is tiny. -/
theorem drawTiny_any (l : List Int) (hw : ∀ x ∈ l, (Lit.int .u8 x).wf = true) : ∃ (x : Ex) (m : List Int × List Int × List Int), Tiny x ∧ Mini m.1 m.2.1 m.2.2 ∧ ∀ A c W, Kd.C (Kd.int .u8) W A l.length l → l.length ≤ c →
  Calls Tryz.prog 10 #[.slice A l.length c] W fun e W' => ∃ B d p, e = .returned (.tuple #[.agg (eA x B d), .agg (mA m p)]) ∧ TV W' x B d ∧ MV W' m p ∧ Below W.heap.size W W' := by
 obtain ⟨x, m0, m1, m2, K, hx, hm, h⟩ := drawOf_total l hw
 refine ⟨x, (m0, m1, m2), hx, hm, fun A c W hC hc => ?_⟩
 refine (spec_DrawExprOf.calls K A c l _ _ _ _ _ _ _ _ W hC hc (h K (Nat.le_refl _))).mono ?_
 rintro e W' ⟨v, u0, u1, u2, rfl, hN, h0, h1, h2, hb⟩
 obtain ⟨B, d, rfl⟩ := Kd.N_slice hN
 obtain ⟨A0, c0, rfl⟩ := Kd.R_slice h0
 obtain ⟨A1, c1, rfl⟩ := Kd.R_slice h1
 obtain ⟨A2, c2, rfl⟩ := Kd.R_slice h2
 have r0 := Kd.R_reads' h0
 have r1 := Kd.R_reads' h1
 have r2 := Kd.R_reads' h2
 exact ⟨B, d, ((A0, c0), (A1, c1), (A2, c2)), rfl, TV.ofN hN (fun _ _ => trivial), ⟨r0.2.1, r0.2.2, r1.2.1, r1.2.2, r2.2.1, r2.2.2⟩, hb⟩
/-- A list of statements as a value that is only read. -/
structure LV (W : World) (l : List St) (A : Option Addr) (c : Nat) : Prop where
 v : Kd.V stK 35 W 0 (fun _ => True) (.slice A l.length c) l
theorem LV.last (l : List St) (A : Option Addr) (c : Nat) : Lasts fun W => LV W l A c := fun _ _ hb h => ⟨Kd.V_below h.v hb⟩
theorem LV.reads {W : World} {l : List St} {A : Option Addr} {c : Nat} (h : LV W l A c) : l.length ≤ c ∧ Kd.C stK W A l.length l := (Kd.V_reads' h.v).2
end Go.Proofs.YtendbgedpjcocaaGreatDoor.B
/- impl.MemPut. -/
namespace Go.Proofs.YtendbgedpjcocaaGreatDoor.B
open Go Go.RowKit Go.Shelf Go.Proofs.YtendbgedpjcocaaGreatDoorW.PrintWords Go.Proofs.YtendbgedpjcocaaGreatDoorW.PrintLast Go.Proofs.YtendbgedpjcocaaGreatDoorW.PrintMore
set_option linter.unusedVariables false
set_option maxRecDepth 100000 in
set_option maxHeartbeats 8000000 in
theorem putM_any (m : Mem3) (k a n : Int) (p : Caps3) (w : World) (hM : MV w m p) :
  Calls Tryz.prog 18 #[.agg (mA m p), .agg #[.int .i64 k, .int .i64 a], .int .i64 n] w fun e w' => ∃ q : Caps3, e = .returned (.agg (mA (putV m k a n) q)) ∧ MV w' (putV m k a n) q ∧ Below w.heap.size w w' := by
 obtain ⟨w1, hw1⟩ : ∃ W, W = ((w.alloc (.cells (mA m p) 30 (0, 0))).alloc (.cells #[.int .i64 k, .int .i64 a] 24 (0, 0))).alloc (.cells #[.slice none 0 0, .slice none 0 0, .slice none 0 0] 30 (0, 0)) := ⟨_, rfl⟩
 obtain ⟨hs, k1, k2, k3, hB⟩ := three_blocks' w (.cells (mA m p) 30 (0, 0)) (.cells #[.int .i64 k, .int .i64 a] 24 (0, 0)) (.cells #[.slice none 0 0, .slice none 0 0, .slice none 0 0] 30 (0, 0))
 rw [← hw1] at hs k1 k2 k3 hB
 have H1 := Aside0.mk (show Box w1 w.heap.size 30 (mA m p) ∧ Box w1 (w.heap.size + 1) 24 #[.int .i64 k, .int .i64 a] ∧ Box w1 (w.heap.size + 1 + 1) 30 mZ ∧ Below w.heap.size w w1 ∧ MV w m p from ⟨k1, k2, k3, hB, hM⟩)
 clear hs k1 k2 k3 hB hM
 unfold mA at hw1
 unfold mA
 obtain ⟨V, hV⟩ : ∃ V, V = putV m k a n := ⟨_, rfl⟩
 rw [← hV]
 have HV0 := Aside0.mk hV
 clear hV
 go_enter Tryz.func18, Tryz.ntmps18
 go_upto_region 1 with fail
 rw [← hw1]
 clear hw1
 have lb0 := H1.out.1
 go_wp2_with ((with_reducible refine gate_dst (N := 10) rfl ?_); refine getM_ rfl rfl rfl rfl lb0 ?_)
 clear lb0
 have hmv := MV.last _ _ _ _ H1.out.2.2.2.1 H1.out.2.2.2.2
 refine (readMem_new m.1 m.2.1 m.2.2 p.1.1 p.2.1.1 p.2.2.1 p.1.2 p.2.1.2 p.2.2.2 w1 hmv.c0 hmv.c1 hmv.c2 hmv.l0 hmv.l1 hmv.l2).mono ?_
 clear hmv
 rintro e w2 ⟨hr, hb2⟩
 have H2 := Aside0.mk (show Box w2 (w.heap.size + 1 + 1) 30 mZ ∧ Box w2 (w.heap.size + 1) 24 #[.int .i64 k, .int .i64 a] ∧ Below w.heap.size w w2 ∧ w.heap.size + 1 + 1 < w1.heap.size from ⟨blk_below H1.out.2.2.1 hb2, blk_below H1.out.2.1 hb2, H1.out.2.2.2.1.trans (hb2.mono H1.out.2.2.2.1.size), blk_lt H1.out.2.2.1⟩)
 clear hb2
 rcases hr with ⟨hv, g, hg, rfl, hm⟩ | ⟨hv, rfl⟩
 rotate_left
 ·have HV := Aside0.mk (show V = ([], [], []) by rw [HV0.out, putV, mOk, memOkL, hv]; rfl)
  have lb := H2.out.1
  clear hv
  go_wp2_with (refine boxPut_ rfl rfl rfl rfl mZ rfl lb rfl (by kernel_rfl) (by simp [mZ, Value.oneCell']) ?_; intro w4 hbx hput)
  refine bodyPost_ret (results_cell_row rfl _ _ (w.heap.size + 1 + 1) 30 mZ (0, 0) _ rfl hbx Tryz.underlying30 rfl (by kernel_rfl)) rfl ?_
  rw [HV.out]
  exact ⟨((none, 0), (none, 0), (none, 0)), rfl, mV_none _, hput.below H2.out.2.2.1 (Nat.le_trans (Nat.le_succ _) (Nat.le_succ _))⟩
 ·have HVV := Aside0.mk (show V = cut3 (putB (m.1 ++ m.2.1 ++ m.2.2) k a n) by rw [HV0.out, putV, mOk, memOkL, hv]; rfl)
  have HM := Aside0.mk (And.intro hg hm)
  clear hv hg hm
  have lb0 := H2.out.2.1
  go_wp2_with ((with_reducible refine gate_dst (N := 18) rfl ?_); refine boxGet_ rfl rfl rfl rfl lb0 Tryz.underlying24 rfl (by kernel_rfl) ?_)
  clear lb0
  refine (put_any (fun b => b = g) g rfl (m.1 ++ m.2.1 ++ m.2.2) k a n w2 HM.out.2).mono ?_
  rintro e w3 ⟨rfl, hm3, hE⟩
  obtain ⟨bs, hbs⟩ : ∃ bs, bs = putB (m.1 ++ m.2.1 ++ m.2.2) k a n := ⟨_, rfl⟩
  rw [← hbs] at hm3
  have HW := Aside0.mk (show V = cut3 bs by rw [hbs]; exact HVV.out)
  clear HVV hbs
  have H3 := Aside0.mk (show Box w3 (w.heap.size + 1 + 1) 30 mZ ∧ Below w.heap.size w w3 ∧ MemAt w3 g bs from
   ⟨blk_ed H2.out.1 hE (fun e => by have := HM.out.1; have := H2.out.2.2.2; omega), H2.out.2.2.1.trans (hE.below (fun b hb => by have := HM.out.1; have := H2.out.2.2.2; subst hb; omega) H2.out.2.2.1.size), hm3⟩)
  clear hm3 hE
  go_wp2_with fail
  refine (mem_any g _ w3 H3.out.2.2).mono ?_
  rintro e w4 ⟨v0, v1, v2, rfl, hR, hb⟩
  have hlen := H3.out.2.2.n
  obtain ⟨q, hq, hMV⟩ := MV.ofRows hlen hR
  rw [hq]
  have H4 := Aside0.mk (show MV w4 (cut3 bs) q ∧ Below w.heap.size w w4 from ⟨hMV, H3.out.2.1.trans (hb.mono H3.out.2.1.size)⟩)
  have lb := blk_below H3.out.1 hb
  clear hR hb hq hMV hlen
  go_wp2_with (refine boxPut_ rfl rfl rfl rfl (mA (cut3 bs) q) rfl lb rfl (by kernel_rfl) (mA_one _ _) ?_; intro w5 hbx hput)
  refine bodyPost_ret (results_cell_row rfl _ _ (w.heap.size + 1 + 1) 30 (mA (cut3 bs) q) (0, 0) _ rfl hbx Tryz.underlying30 rfl (by kernel_rfl)) rfl ?_
  rw [HW.out]
  exact ⟨q, rfl, MV.put1 H4.out.1 lb hput, hput.below H4.out.2 (Nat.le_trans (Nat.le_succ _) (Nat.le_succ _))⟩
end Go.Proofs.YtendbgedpjcocaaGreatDoor.B
/- The run group's facts: contracts with their results named, plain facts about runs. -/
namespace Go.Proofs.YtendbgedpjcocaaGreatDoor.B
open Go Go.RowKit Go.Shelf Go.Proofs.YtendbgedpjcocaaGreatDoorW.PrintWords Go.Proofs.YtendbgedpjcocaaGreatDoorW.PrintLast Go.Proofs.YtendbgedpjcocaaGreatDoorW.PrintMore
set_option linter.unusedVariables false
theorem ErrAt.lasts (a : Addr) : Lasts fun W => ErrAt W a := fun _ _ hb h => h.below hb
theorem runI_any {m : Mem3} {l : List St} {f : Int} {X : Mem3} {v r : Int} (hV : stRunV m l f = (X, v, r)) (p : Caps3) (A : Option Addr) (c : Nat) (a : Addr) (w : World) (hE : ErrAt w a) (hM : MV w m p) (hL : LV w l A c) :
  Calls Tryz.prog 11 #[.agg (mA m p), .slice A l.length c, .int .i64 f] w fun e w' => ∃ q : Caps3, e = .returned (.tuple #[.agg (mA X q), .int .i64 v, .int .i64 r]) ∧ MV w' X q ∧ Below w.heap.size w w' := by
 have h := stRun_any m l f p A c a w hE hM hL.reads.2 hL.reads.1
 rw [hV] at h
 exact h
theorem runS_any {m : Mem3} {l : List St} {f : Int} {X : Mem3} {v r : Int} (hV : stRunV m l f = (X, v, r)) (hm : Mini m.1 m.2.1 m.2.2) (hl : StFit l) (p : Caps3) (A : Option Addr) (c : Nat) (w : World) (hM : MV w m p) (hL : LV w l A c) :
  Calls Tryz.prog 12 #[.agg (mA m p), .slice A l.length c, .int .i64 f] w fun e w' => ∃ q : Caps3, e = .returned (.tuple #[.agg (mA X q), .int .i64 v, .int .i64 r]) ∧ MV w' X q ∧ Below w.heap.size w w' := by
 have h := spRun_any m hm l hl f p A c w hM hL.reads.2 hL.reads.1
 rw [hV] at h
 exact h
theorem okS_any (l : List St) (hl : StFit l) (A : Option Addr) (c : Nat) (w : World) (hL : LV w l A c) : Calls Tryz.prog 16 #[.slice A l.length c] w fun e w' => e = .returned (.bool (stOkL l)) ∧ Below w.heap.size w w' :=
 stOkS_any l hl A c w hL.reads.2 hL.reads.1
theorem cut3_short (bs : List Int) : ShortM (cut3 bs) := by
 refine ⟨?_, ?_, ?_⟩ <;> (simp [cut3]; try omega)
theorem runV_short {m : Mem3} {l : List St} {f : Int} {X : Mem3} {v r : Int} (hV : stRunV m l f = (X, v, r)) : ShortM X := by
 unfold stRunV at hV
 split at hV
 ·obtain rfl := (Prod.mk.inj hV).1
  exact cut3_short _
 ·obtain rfl := (Prod.mk.inj hV).1
  exact ⟨by simp, by simp, by simp⟩
/-- What a run says, told apart. -/
theorem runV_cases {m : Mem3} {l : List St} {f : Int} {X : Mem3} {v r : Int} (hV : stRunV m l f = (X, v, r)) : (runOk m l f = true ∧ ∃ bs, X = cut3 bs ∧ Run (m.1 ++ m.2.1 ++ m.2.2) l f (bs, v, r) ∧ Fits f (bs, v, r)) ∨ (runOk m l f = false ∧ X = ([], [], []) ∧ v = 2 ∧ r = 0) := by
 unfold stRunV at hV
 split at hV
 ·rename_i h
  have h' := h
  unfold runOk at h'
  simp only [Bool.and_eq_true, decide_eq_true_eq] at h'
  obtain ⟨h1, h2⟩ := runR_run h'.1.2 (m.1 ++ m.2.1 ++ m.2.2) h'.2.1
  simp only [Prod.mk.injEq] at hV
  obtain ⟨rfl, rfl, rfl⟩ := hV
  exact .inl ⟨h, _, rfl, h1, h2⟩
 ·rename_i h
  simp only [Prod.mk.injEq] at hV
  obtain ⟨rfl, rfl, rfl⟩ := hV
  exact .inr ⟨by simpa using h, rfl, rfl, rfl⟩
theorem runOk_of {m : Mem3} {l : List St} {f : Int} (h : runOk m l f = true) : mOk m = true ∧ stOkL l = true ∧ 0 ≤ f ∧ f ≤ 100 := by
 unfold runOk at h
 simp only [Bool.and_eq_true, decide_eq_true_eq] at h
 exact ⟨h.1.1, h.1.2, h.2.1, h.2.2⟩
theorem runOk_mk {m : Mem3} {l : List St} {f : Int} (h1 : mOk m = true) (h2 : stOkL l = true) (h3 : 0 ≤ f) (h4 : f ≤ 100) : runOk m l f = true := by
 unfold runOk
 rw [h1, h2, decide_eq_true ⟨h3, h4⟩]; rfl
theorem stOk_head {l : List St} (h : stOkL l = true) {s : St} (hs : s ∈ l) : okE s.f2 = true := by
 have := stOk_form h
 rw [formT, List.all_eq_true] at this
 have h1 := this s hs
 simp only [Bool.and_eq_true, headSt] at h1
 rw [okE, ← okL_eq]
 exact h1.1.2
theorem oV_is {x : Ex} {m : Mem3} (h1 : mOk m = true) (h2 : okE x = true) : oV x m = evalI (m.1 ++ m.2.1 ++ m.2.2) x := by
 rw [oV, ofV_eq, show memOkL m.1 m.2.1 m.2.2 = true from h1, h2]; rfl
/-- What has to do with a list's own memory: a memory as values. -/
def memF (Y : Mem3) : Value → World → Prop := fun v W => ∃ r, v = .agg (mA Y r) ∧ MV W Y r
theorem memF_last (Y : Mem3) (v : Value) : Lasts (memF Y v) := fun W W' hb ⟨r, h, k⟩ => ⟨r, h, MV.last _ _ _ _ hb k⟩
theorem fit_one {k : Int} {b : S24} {x : Ex} (hx : Tiny x) : Fit 1 [(⟨k, b, x, [], []⟩ : St)] := by
 have h := Fit.mk1 (n := 0) (m := 0) (k := k) (a := b) hx (Fit.nil 0) (Fit.nil 0) (by omega) (by omega)
 exact Fit.mono (by simpa using (Fit.nil 0).snoc h.1 h.2) (by omega)
/-- A statement without lists, as it lies in a literal. -/
theorem stLit_F (k a b : Int) (x : Ex) (B : Option Addr) (d : Nat) (W : World) (h : TV W x B d) : Kd.FK stK W (fun _ => True) (⟨k, ⟨a, b⟩, x, [], []⟩ : St) [.int .i64 k, .int .i64 a, .int .i64 b, .int .i64 x.f0, .int .i64 x.f1, .int .i64 x.f2.f0, .int .i64 x.f2.f1, .slice B x.f3.length d, .slice none 0 0, .slice none 0 0] :=
 k35_mkF W _ (⟨k, ⟨a, b⟩, x, [], []⟩ : St) h.reads.1 (Kd.V_F h.v) (Nat.le_refl _) (fun W' _ => (Kd.R_reads' (Kd.R_nil stK 35 W' 0 (fun _ => True))).2.2) (Nat.le_refl _) (fun W' _ => (Kd.R_reads' (Kd.R_nil stK 35 W' 0 (fun _ => True))).2.2)
/-- An assignment alone. -/
theorem set_facts {x : Ex} {m : Mem3} {k a : Int} {L : List St} (hL : L = [⟨1, ⟨k, a⟩, x, [], []⟩]) {X : Mem3} {c f : Int} (hV : stRunV m L 7 = (X, c, f)) :
  (c ≠ 0 → stOkL L = true → mOk m = false) ∧ (c = 0 → f = 7 ∧ sameV X (putV m k a (oV x m)) = true) := by
 rcases runV_cases hV with ⟨h, bs, rfl, hr, _⟩ | ⟨h, rfl, rfl, rfl⟩
 ·obtain ⟨h1, h2, _, _⟩ := runOk_of h
  have he := stOk_head h2 (s := ⟨1, ⟨k, a⟩, x, [], []⟩) (by rw [hL]; simp)
  subst hL
  have hone := hr.one (Run.single.2 (RunS.set rfl))
  simp only [Prod.mk.injEq] at hone
  obtain ⟨rfl, rfl, rfl⟩ := hone
  refine ⟨fun h => absurd rfl h, fun _ => ⟨rfl, ?_⟩⟩
  rw [putV, if_pos h1, oV_is h1 he]
  exact sameV_refl _
 ·refine ⟨fun _ h2 => ?_, fun h => absurd h (by decide)⟩
  by_cases h1 : mOk m = true
  ·rw [runOk_mk h1 h2 (by decide) (by decide)] at h; cases h
  ·simpa using h1
end Go.Proofs.YtendbgedpjcocaaGreatDoor.B
/- The draw of a memory and a place. -/
namespace Go.Proofs.YtendbgedpjcocaaGreatDoor.B
open Go Go.RowKit Go.Shelf Go.Proofs.YtendbgedpjcocaaGreatDoorW.PrintWords Go.Proofs.YtendbgedpjcocaaGreatDoorW.PrintLast Go.Proofs.YtendbgedpjcocaaGreatDoorW.PrintMore
set_option linter.unusedVariables false
theorem drawGet_any (l : List Int) (hw : ∀ x ∈ l, (Lit.int .u8 x).wf = true) : ∃ (m : List Int × List Int × List Int) (k a : Int), Mini m.1 m.2.1 m.2.2 ∧ ∀ A c W, Kd.C (Kd.int .u8) W A l.length l → l.length ≤ c →
  Calls Tryz.prog 15 #[.slice A l.length c] W fun e W' => ∃ p, e = .returned (.tuple #[.agg (mA m p), .agg #[.int .i64 k, .int .i64 a]]) ∧ MV W' m p ∧ Below W.heap.size W W' := by
 obtain ⟨s, hs, hl, ho⟩ := open_total l hw
 obtain ⟨m0, m1, m2, p1, hm, q1, q2, h1⟩ := memBent_total s hs hl 0 (by omega) (by omega)
 obtain ⟨a, b, p2, q3, q4, h2⟩ := addrBent_total s hs hl p1 (by omega) (by omega)
 refine ⟨(m0, m1, m2), a, b, hm, fun A c W hC hc => ?_⟩
 refine (spec_DrawMemGet.calls 7 A c l m0 m1 m2 a b W hC hc ?_).mono ?_
 ·rw [spec_DrawMemGet.f, ho]
  simp only [Option.bind_some]
  rw [h1 7 (by omega)]
  simp only [Option.bind_some]
  rw [h2 6]; rfl
 rintro e W' ⟨u0, u1, u2, rfl, h0, h1, h2, hb⟩
 obtain ⟨A0, c0, rfl⟩ := Kd.R_slice h0
 obtain ⟨A1, c1, rfl⟩ := Kd.R_slice h1
 obtain ⟨A2, c2, rfl⟩ := Kd.R_slice h2
 have r0 := Kd.R_reads' h0
 have r1 := Kd.R_reads' h1
 have r2 := Kd.R_reads' h2
 exact ⟨((A0, c0), (A1, c1), (A2, c2)), rfl, ⟨r0.2.1, r0.2.2, r1.2.1, r1.2.2, r2.2.1, r2.2.2⟩, hb⟩
end Go.Proofs.YtendbgedpjcocaaGreatDoor.B
/- The law FnRunSet, walked by hand. -/
namespace Go.Proofs.YtendbgedpjcocaaGreatDoor.B
open Go Go.RowKit Go.Proofs.YtendbgedpjcocaaGreatDoorW.PrintWords Go.Proofs.YtendbgedpjcocaaGreatDoorW.PrintLast Go.Proofs.YtendbgedpjcocaaGreatDoorW.PrintMore
set_option linter.unusedVariables false
set_option maxRecDepth 100000 in
set_option maxHeartbeats 4000000 in
theorem law_RunSet (l0 l1 : List Int) (hw0 : ∀ x ∈ l0, (Lit.int .u8 x).wf = true) (hw1 : ∀ x ∈ l1, (Lit.int .u8 x).wf = true) (A0 : Option Addr) (c0 : Nat) (A1 : Option Addr) (c1 : Nat) (w : World) (r0 : Kd.C (Kd.int .u8) w A0 l0.length l0) (h0 : l0.length ≤ c0) (r1 : Kd.C (Kd.int .u8) w A1 l1.length l1) (h1 : l1.length ≤ c1) (a : Addr) (HT : ErrAt w a) :
  Calls Tryz.prog 4 #[.slice A0 l0.length c0, .slice A1 l1.length c1] w fun e w' => e = .returned (.bool true) ∧ Below w.heap.size w w' := by
 obtain ⟨x, m, hx, hm, hd0⟩ := drawTiny_any l0 hw0
 obtain ⟨m', ka, aa, hm', hd1⟩ := drawGet_any l1 hw1
 have D0 := Aside0.mk (hd0 A0 c0 w r0 h0)
 have D1 := Aside0.mk (fun W (hb : Below w.heap.size w W) => hd1 A1 c1 W (Kd.C_below r1 hb) h1)
 have HX := Aside0.mk (And.intro hx hm)
 have HTT := Aside0.mk HT
 clear hd0 hd1 r0 r1 h0 h1 hx hm hm' hw0 hw1 HT
 by_cases hlenl0 : (1048576 : Int) < (l0.length : Int)
 ·go_enter Tryz.func4, Tryz.ntmps4
  go_wp2
  go_ret
  exact ⟨rfl, Below.refl _ _⟩
 by_cases hlenl1 : (1048576 : Int) < (l1.length : Int)
 ·go_enter Tryz.func4, Tryz.ntmps4
  go_wp2
  go_ret
  exact ⟨rfl, Below.refl _ _⟩
 go_enter Tryz.func4, Tryz.ntmps4
 go_wp2_with fail
 refine D0.out.mono ?_
 clear D0
 rintro e w1 ⟨B, d, p, rfl, hT, hM, hb⟩
 have H1 := Aside0.mk (show TV w1 x B d ∧ MV w1 m p ∧ Below w.heap.size w w1 ∧ ErrAt w1 a from ⟨hT, hM, hb, HTT.out.below hb⟩)
 clear hT hM hb HTT
 go_wp2_with ((with_reducible refine gate_dst (N := 5) rfl ?_); refine new2_ (N := 5) (M := 6) (x := 27) (y := 28) (T := 27) (U := 30) (eA x B d) (mA m p) (zs := #[.int .i64 0, .int .i64 0, .int .i64 0, .int .i64 0, .slice none 0 0]) (ys := #[.slice none 0 0, .slice none 0 0, .slice none 0 0]) (eA_one _ _ _) (mA_one _ _) ?_ ?_ ?_ ?_ ?_ ?_ ?_ ?_ ?_ ?_ ?_ ?_ ?_ ?_ ?_ ?_ ?_ ?_ ?_ ?_ ?_ ?_ ?_ ?_ ?_ ?_ ?_ ?_)
 all_goals (first | rfl | decide | (intro _ _; go_simp; done) | kernel_rfl | skip)
 intro g5 g6 W1 hg5 hg6 hne bg5 bg6 hb
 simp only [Act.put, List.setIfInBounds_toArray, List.set_cons_zero, List.set_cons_succ]
 clear hg5 hg6 hne
 have H2 := Aside0.mk (show Box W1 g5 27 (eA x B d) ∧ Box W1 g6 30 (mA m p) ∧ TV W1 x B d ∧ MV W1 m p ∧ Below w.heap.size w W1 ∧ ErrAt W1 a from ⟨bg5, bg6, TV.last _ _ _ _ _ hb H1.out.1, MV.last _ _ _ _ hb H1.out.2.1, Below.trans H1.out.2.2.1 (hb.mono H1.out.2.2.1.size), (ErrAt.lasts _) _ _ hb H1.out.2.2.2⟩)
 clear H1 bg5 bg6 hb
 go_wp2_with fail
 refine (D1.out W1 H2.out.2.2.2.2.1).mono ?_
 clear D1
 rintro e w2 ⟨p', rfl, hM, hb⟩
 have H3 := Aside0.mk (show Box w2 g5 27 (eA x B d) ∧ Box w2 g6 30 (mA m p) ∧ TV w2 x B d ∧ MV w2 m p ∧ Below w.heap.size w w2 ∧ ErrAt w2 a from ⟨blk_below H2.out.1 hb, blk_below H2.out.2.1 hb, TV.last _ _ _ _ _ hb H2.out.2.2.1, MV.last _ _ _ _ hb H2.out.2.2.2.1, Below.trans H2.out.2.2.2.2.1 (hb.mono H2.out.2.2.2.2.1.size), (ErrAt.lasts _) _ _ hb H2.out.2.2.2.2.2⟩)
 clear H2 hM hb
 go_wp2_with ((with_reducible refine gate_dst (N := 7) rfl ?_); refine new2_ (N := 7) (M := 8) (x := 32) (y := 33) (T := 30) (U := 24) (mA m' p') (#[.int .i64 ka, .int .i64 aa]) (zs := #[.slice none 0 0, .slice none 0 0, .slice none 0 0]) (ys := #[.int .i64 0, .int .i64 0]) (mA_one _ _) (by simp [Value.oneCell']) ?_ ?_ ?_ ?_ ?_ ?_ ?_ ?_ ?_ ?_ ?_ ?_ ?_ ?_ ?_ ?_ ?_ ?_ ?_ ?_ ?_ ?_ ?_ ?_ ?_ ?_ ?_ ?_)
 all_goals (first | rfl | decide | (intro _ _; go_simp; done) | kernel_rfl | skip)
 intro g7 g8 W2 hg7 hg8 hne bg7 bg8 hb
 simp only [Act.put, List.setIfInBounds_toArray, List.set_cons_zero, List.set_cons_succ]
 clear hg7 hg8 hne
 have H4 := Aside0.mk (show Box W2 g8 24 #[.int .i64 ka, .int .i64 aa] ∧ Box W2 g5 27 (eA x B d) ∧ Box W2 g6 30 (mA m p) ∧ TV W2 x B d ∧ MV W2 m p ∧ Below w.heap.size w W2 ∧ ErrAt W2 a from ⟨bg8, blk_below H3.out.1 hb, blk_below H3.out.2.1 hb, TV.last _ _ _ _ _ hb H3.out.2.2.1, MV.last _ _ _ _ hb H3.out.2.2.2.1, Below.trans H3.out.2.2.2.2.1 (hb.mono H3.out.2.2.2.2.1.size), (ErrAt.lasts _) _ _ hb H3.out.2.2.2.2.2⟩)
 clear H3 bg7 bg8 hb
 obtain ⟨L, hL⟩ : ∃ L : List St, L = [⟨1, ⟨ka, aa⟩, x, [], []⟩] := ⟨_, rfl⟩
 have HL := Aside0.mk hL
 clear hL
 have lb0 := H4.out.1
 have lb1 : Box W2 g5 27 #[.int .i64 x.f0, .int .i64 x.f1, .int .i64 x.f2.f0, .int .i64 x.f2.f1, .slice B x.f3.length d] := H4.out.2.1
 have lt := H4.out.2.2.2.1
 go_upto_region 6 with (first | ((with_reducible refine gate_dst (N := 34) rfl ?_); refine boxGet_ rfl rfl rfl rfl lb0 Tryz.underlying24 rfl (by kernel_rfl) ?_) | ((with_reducible refine gate_dst (N := 35) rfl ?_); refine boxGet_ rfl rfl rfl rfl lb1 Tryz.underlying27 rfl (by kernel_rfl) ?_) | ((with_reducible refine gate_dst (N := 37) rfl ?_); refine Kd.N_lit stK _ 35 rfl (N' := 37) rfl (xs := L) (inner := [.int .i64 1, .int .i64 ka, .int .i64 aa, .int .i64 x.f0, .int .i64 x.f1, .int .i64 x.f2.f0, .int .i64 x.f2.f1, .slice B x.f3.length d, .slice none 0 0, .slice none 0 0]) (ok := fun _ => True) (okp := fun _ => True) (by rw [HL.out]; go_simp; try rfl) (by rw [HL.out]; exact Reps.c10 (stLit_F 1 ka aa x B d W2 lt) (Reps.none _ _)) (fun _ hk => hk) trivial (Below.refl W2.heap.size W2) (Nat.le_refl _) (by rw [HL.out]; simp) ?_; intro vL wL ho hbL hgL hnL; clear hgL hnL; obtain ⟨A9, c9, eL⟩ := Kd.N_slice ho; subst eL))
 have hLV : LV wL L A9 c9 := ⟨Kd.V_mono (Kd.N_V (base' := 0) ho) fun _ _ => trivial⟩
 clear lb0 lb1 lt ho
 have H5 := Aside0.mk (show LV wL L A9 c9 ∧ Box wL g8 24 #[.int .i64 ka, .int .i64 aa] ∧ Box wL g5 27 (eA x B d) ∧ Box wL g6 30 (mA m p) ∧ TV wL x B d ∧ MV wL m p ∧ Below w.heap.size w wL ∧ ErrAt wL a from ⟨hLV, blk_below H4.out.1 hbL, blk_below H4.out.2.1 hbL, blk_below H4.out.2.2.1 hbL, TV.last _ _ _ _ _ hbL H4.out.2.2.2.1, MV.last _ _ _ _ hbL H4.out.2.2.2.2.1, Below.trans H4.out.2.2.2.2.2.1 (hbL.mono H4.out.2.2.2.2.2.1.size), (ErrAt.lasts _) _ _ hbL H4.out.2.2.2.2.2.2⟩)
 clear H4 hLV hbL
 obtain ⟨X, cc, lf, hV⟩ : ∃ X cc lf, stRunV m L 7 = (X, cc, lf) := ⟨_, _, _, rfl⟩
 have HV := Aside0.mk hV
 have FF := Aside0.mk (set_facts HL.out hV)
 have hfit : StFit L := by rw [HL.out]; exact (fit_one HX.out.1).ok (by omega)
 have HFI := Aside0.mk hfit
 have HSH := Aside0.mk (runV_short hV)
 clear hV hfit
 have lb0 := H5.out.2.2.2.1
 go_wp2_with (first | ((with_reducible refine gate_dst (N := 39) rfl ?_); refine getM_ rfl rfl rfl rfl lb0 ?_))
 clear lb0
 refine (runI_any HV.out p A9 c9 a wL H5.out.2.2.2.2.2.2.2 H5.out.2.2.2.2.2.1 H5.out.1).mono ?_
 rintro e w3 ⟨qa, rfl, hM, hb⟩
 have H6 := Aside0.mk (show MV w3 X qa ∧ LV w3 L A9 c9 ∧ Box w3 g8 24 #[.int .i64 ka, .int .i64 aa] ∧ Box w3 g5 27 (eA x B d) ∧ Box w3 g6 30 (mA m p) ∧ TV w3 x B d ∧ MV w3 m p ∧ Below w.heap.size w w3 ∧ ErrAt w3 a from ⟨hM, (LV.last _ _ _) _ _ hb H5.out.1, blk_below H5.out.2.1 hb, blk_below H5.out.2.2.1 hb, blk_below H5.out.2.2.2.1 hb, TV.last _ _ _ _ _ hb H5.out.2.2.2.2.1, MV.last _ _ _ _ hb H5.out.2.2.2.2.2.1, Below.trans H5.out.2.2.2.2.2.2.1 (hb.mono H5.out.2.2.2.2.2.2.1.size), (ErrAt.lasts _) _ _ hb H5.out.2.2.2.2.2.2.2⟩)
 clear H5 hM hb
 go_wp2_with ((with_reducible refine gate_dst (N := 10) rfl ?_); refine new1_ (N := 10) (x := 42) (T := 30) (mA X qa) (zs := #[.slice none 0 0, .slice none 0 0, .slice none 0 0]) (mA_one _ _) ?_ ?_ ?_ ?_ ?_ ?_ ?_ ?_ ?_ ?_ ?_ ?_ ?_)
 all_goals (first | rfl | decide | (intro _ _; go_simp; done) | kernel_rfl | skip)
 intro g10 W3 hg10 bg10 hb
 simp only [Act.put, List.setIfInBounds_toArray, List.set_cons_zero, List.set_cons_succ]
 clear hg10
 have H7 := Aside0.mk (show Box W3 g10 30 (mA X qa) ∧ MV W3 X qa ∧ LV W3 L A9 c9 ∧ Box W3 g8 24 #[.int .i64 ka, .int .i64 aa] ∧ Box W3 g5 27 (eA x B d) ∧ Box W3 g6 30 (mA m p) ∧ TV W3 x B d ∧ MV W3 m p ∧ Below w.heap.size w W3 ∧ ErrAt W3 a from ⟨bg10, MV.last _ _ _ _ hb H6.out.1, (LV.last _ _ _) _ _ hb H6.out.2.1, blk_below H6.out.2.2.1 hb, blk_below H6.out.2.2.2.1 hb, blk_below H6.out.2.2.2.2.1 hb, TV.last _ _ _ _ _ hb H6.out.2.2.2.2.2.1, MV.last _ _ _ _ hb H6.out.2.2.2.2.2.2.1, Below.trans H6.out.2.2.2.2.2.2.2.1 (hb.mono H6.out.2.2.2.2.2.2.2.1.size), (ErrAt.lasts _) _ _ hb H6.out.2.2.2.2.2.2.2.2⟩)
 clear H6 bg10 hb
 have lb0 := H7.out.2.2.2.2.2.1
 go_wp2_with (first | ((with_reducible refine gate_dst (N := 46) rfl ?_); refine getM_ rfl rfl rfl rfl lb0 ?_))
 clear lb0
 refine (runS_any HV.out HX.out.2 HFI.out p A9 c9 W3 H7.out.2.2.2.2.2.2.2.1 H7.out.2.2.1).mono ?_
 rintro e w4 ⟨qb, rfl, hM, hb⟩
 have H8 := Aside0.mk (show MV w4 X qb ∧ Box w4 g10 30 (mA X qa) ∧ MV w4 X qa ∧ LV w4 L A9 c9 ∧ Box w4 g8 24 #[.int .i64 ka, .int .i64 aa] ∧ Box w4 g5 27 (eA x B d) ∧ Box w4 g6 30 (mA m p) ∧ TV w4 x B d ∧ MV w4 m p ∧ Below w.heap.size w w4 ∧ ErrAt w4 a from ⟨hM, blk_below H7.out.1 hb, MV.last _ _ _ _ hb H7.out.2.1, (LV.last _ _ _) _ _ hb H7.out.2.2.1, blk_below H7.out.2.2.2.1 hb, blk_below H7.out.2.2.2.2.1 hb, blk_below H7.out.2.2.2.2.2.1 hb, TV.last _ _ _ _ _ hb H7.out.2.2.2.2.2.2.1, MV.last _ _ _ _ hb H7.out.2.2.2.2.2.2.2.1, Below.trans H7.out.2.2.2.2.2.2.2.2.1 (hb.mono H7.out.2.2.2.2.2.2.2.2.1.size), (ErrAt.lasts _) _ _ hb H7.out.2.2.2.2.2.2.2.2.2⟩)
 clear H7 hM hb
 go_wp2_with ((with_reducible refine gate_dst (N := 13) rfl ?_); refine new1_ (N := 13) (x := 49) (T := 30) (mA X qb) (zs := #[.slice none 0 0, .slice none 0 0, .slice none 0 0]) (mA_one _ _) ?_ ?_ ?_ ?_ ?_ ?_ ?_ ?_ ?_ ?_ ?_ ?_ ?_)
 all_goals (first | rfl | decide | (intro _ _; go_simp; done) | kernel_rfl | skip)
 intro g13 W4 hg13 bg13 hb
 simp only [Act.put, List.setIfInBounds_toArray, List.set_cons_zero, List.set_cons_succ]
 clear hg13
 have H9 := Aside0.mk (show Box W4 g13 30 (mA X qb) ∧ MV W4 X qb ∧ Box W4 g10 30 (mA X qa) ∧ MV W4 X qa ∧ LV W4 L A9 c9 ∧ Box W4 g8 24 #[.int .i64 ka, .int .i64 aa] ∧ Box W4 g5 27 (eA x B d) ∧ Box W4 g6 30 (mA m p) ∧ TV W4 x B d ∧ MV W4 m p ∧ Below w.heap.size w W4 ∧ ErrAt W4 a from ⟨bg13, MV.last _ _ _ _ hb H8.out.1, blk_below H8.out.2.1 hb, MV.last _ _ _ _ hb H8.out.2.2.1, (LV.last _ _ _) _ _ hb H8.out.2.2.2.1, blk_below H8.out.2.2.2.2.1 hb, blk_below H8.out.2.2.2.2.2.1 hb, blk_below H8.out.2.2.2.2.2.2.1 hb, TV.last _ _ _ _ _ hb H8.out.2.2.2.2.2.2.2.1, MV.last _ _ _ _ hb H8.out.2.2.2.2.2.2.2.2.1, Below.trans H8.out.2.2.2.2.2.2.2.2.2.1 (hb.mono H8.out.2.2.2.2.2.2.2.2.2.1.size), (ErrAt.lasts _) _ _ hb H8.out.2.2.2.2.2.2.2.2.2.2⟩)
 clear H8 bg13 hb
 have hn1 : (cc != cc) = false := by simp
 have hn2 : (lf != lf) = false := by simp
 have lb0 := H9.out.2.2.1
 have lb1 := H9.out.1
 go_wp2_with (first | ((with_reducible refine gate_dst (N := 61) rfl ?_); refine gate_guard rfl ?_; refine getM_ rfl rfl rfl rfl lb0 ?_) | ((with_reducible refine gate_dst (N := 62) rfl ?_); refine gate_guard rfl ?_; refine getM_ rfl rfl rfl rfl lb1 ?_))
 clear lb0 lb1 hn1 hn2
 refine (same_any X X HSH.out qa qb W4 H9.out.2.2.2.1 H9.out.2.1).mono ?_
 rw [sameV_refl]
 rintro e w5 ⟨rfl, hb⟩
 have H10 := Aside0.mk (show Box w5 g13 30 (mA X qb) ∧ MV w5 X qb ∧ Box w5 g10 30 (mA X qa) ∧ MV w5 X qa ∧ LV w5 L A9 c9 ∧ Box w5 g8 24 #[.int .i64 ka, .int .i64 aa] ∧ Box w5 g5 27 (eA x B d) ∧ Box w5 g6 30 (mA m p) ∧ TV w5 x B d ∧ MV w5 m p ∧ Below w.heap.size w w5 ∧ ErrAt w5 a from ⟨blk_below H9.out.1 hb, MV.last _ _ _ _ hb H9.out.2.1, blk_below H9.out.2.2.1 hb, MV.last _ _ _ _ hb H9.out.2.2.2.1, (LV.last _ _ _) _ _ hb H9.out.2.2.2.2.1, blk_below H9.out.2.2.2.2.2.1 hb, blk_below H9.out.2.2.2.2.2.2.1 hb, blk_below H9.out.2.2.2.2.2.2.2.1 hb, TV.last _ _ _ _ _ hb H9.out.2.2.2.2.2.2.2.2.1, MV.last _ _ _ _ hb H9.out.2.2.2.2.2.2.2.2.2.1, Below.trans H9.out.2.2.2.2.2.2.2.2.2.2.1 (hb.mono H9.out.2.2.2.2.2.2.2.2.2.2.1.size), (ErrAt.lasts _) _ _ hb H9.out.2.2.2.2.2.2.2.2.2.2.2⟩)
 clear H9 hb
 by_cases h0 : cc = 0
 rotate_left
 ·have hn0 : (cc != 0) = true := by simp [h0]
  have HC := Aside0.mk (FF.out.1 h0)
  clear h0
  go_wp2_with fail
  obtain ⟨b1, hb1⟩ : ∃ b, b = stOkL L := ⟨_, rfl⟩
  have B1 := Aside0.mk hb1
  clear hb1
  refine (okS_any L HFI.out A9 c9 w5 H10.out.2.2.2.2.1).mono ?_
  rw [← B1.out]
  rintro e w6 ⟨rfl, hb⟩
  have H11 := Aside0.mk (show Box w6 g13 30 (mA X qb) ∧ MV w6 X qb ∧ Box w6 g10 30 (mA X qa) ∧ MV w6 X qa ∧ LV w6 L A9 c9 ∧ Box w6 g8 24 #[.int .i64 ka, .int .i64 aa] ∧ Box w6 g5 27 (eA x B d) ∧ Box w6 g6 30 (mA m p) ∧ TV w6 x B d ∧ MV w6 m p ∧ Below w.heap.size w w6 ∧ ErrAt w6 a from ⟨blk_below H10.out.1 hb, MV.last _ _ _ _ hb H10.out.2.1, blk_below H10.out.2.2.1 hb, MV.last _ _ _ _ hb H10.out.2.2.2.1, (LV.last _ _ _) _ _ hb H10.out.2.2.2.2.1, blk_below H10.out.2.2.2.2.2.1 hb, blk_below H10.out.2.2.2.2.2.2.1 hb, blk_below H10.out.2.2.2.2.2.2.2.1 hb, TV.last _ _ _ _ _ hb H10.out.2.2.2.2.2.2.2.2.1, MV.last _ _ _ _ hb H10.out.2.2.2.2.2.2.2.2.2.1, Below.trans H10.out.2.2.2.2.2.2.2.2.2.2.1 (hb.mono H10.out.2.2.2.2.2.2.2.2.2.2.1.size), (ErrAt.lasts _) _ _ hb H10.out.2.2.2.2.2.2.2.2.2.2.2⟩)
  clear H10 hb
  cases b1
  ·go_wp2
   go_ret
   exact ⟨rfl, H11.out.2.2.2.2.2.2.2.2.2.2.1⟩
  have lb0 := H11.out.2.2.2.2.2.2.2.1
  go_wp2_with (first | ((with_reducible refine gate_dst (N := 72) rfl ?_); refine gate_guard rfl ?_; refine getM_ rfl rfl rfl rfl lb0 ?_))
  clear lb0
  have hf := HC.out B1.out.symm
  refine (specMem_any m HX.out.2 p w6 H11.out.2.2.2.2.2.2.2.2.2.1).mono ?_
  rw [hf]
  rintro e w7 ⟨rfl, hb⟩
  clear hf
  have H12 := Aside0.mk (show Box w7 g13 30 (mA X qb) ∧ MV w7 X qb ∧ Box w7 g10 30 (mA X qa) ∧ MV w7 X qa ∧ LV w7 L A9 c9 ∧ Box w7 g8 24 #[.int .i64 ka, .int .i64 aa] ∧ Box w7 g5 27 (eA x B d) ∧ Box w7 g6 30 (mA m p) ∧ TV w7 x B d ∧ MV w7 m p ∧ Below w.heap.size w w7 ∧ ErrAt w7 a from ⟨blk_below H11.out.1 hb, MV.last _ _ _ _ hb H11.out.2.1, blk_below H11.out.2.2.1 hb, MV.last _ _ _ _ hb H11.out.2.2.2.1, (LV.last _ _ _) _ _ hb H11.out.2.2.2.2.1, blk_below H11.out.2.2.2.2.2.1 hb, blk_below H11.out.2.2.2.2.2.2.1 hb, blk_below H11.out.2.2.2.2.2.2.2.1 hb, TV.last _ _ _ _ _ hb H11.out.2.2.2.2.2.2.2.2.1, MV.last _ _ _ _ hb H11.out.2.2.2.2.2.2.2.2.2.1, Below.trans H11.out.2.2.2.2.2.2.2.2.2.2.1 (hb.mono H11.out.2.2.2.2.2.2.2.2.2.2.1.size), (ErrAt.lasts _) _ _ hb H11.out.2.2.2.2.2.2.2.2.2.2.2⟩)
  clear H11 hb
  go_wp2
  go_ret
  exact ⟨rfl, H12.out.2.2.2.2.2.2.2.2.2.2.1⟩
 have hn0 : (cc != 0) = false := by simp [h0]
 obtain ⟨hf7, hs⟩ := FF.out.2 h0
 subst hf7
 have HS := Aside0.mk hs
 obtain ⟨n, hn⟩ : ∃ n, n = oV x m := ⟨_, rfl⟩
 have HN := Aside0.mk hn
 obtain ⟨Y, hY⟩ : ∃ Y, Y = putV m ka aa n := ⟨_, rfl⟩
 have HY := Aside0.mk hY
 have HSY := Aside0.mk (show sameV X Y = true by rw [hY, hn]; exact hs)
 clear hs hn hY HS h0
 go_wp2_with fail
 clear hn0
 refine weaveB_ (fun W => Below w5.heap.size w5 W) (Lasts.below w5) (Below.refl _ _) [(76, 0), (77, 1), (78, 2), (79, 3), (80, 4), (81, 5), (82, 6), (83, 7), (84, 8), (85, 9), (86, 10), (87, 11), (4, 12)] [fun v _ => v = .int .i64 7, fun v _ => v = .bool true, fun v _ => v = .bool true, fun v _ => v = .agg (mA X qa), fun v _ => v = .agg (mA m p), fun v _ => v = .agg #[.int .i64 ka, .int .i64 aa], fun v _ => v = .agg (eA x B d), fun v _ => v = .agg (mA m p), fun v _ => v = .int .i64 n, memF Y, fun v _ => v = .bool true, fun v _ => v = .bool true, fun v _ => v = .bool true] rfl (by kernel_rfl) ⟨fun _ => Lasts.const _, fun _ => Lasts.const _, fun _ => Lasts.const _, fun _ => Lasts.const _, fun _ => Lasts.const _, fun _ => Lasts.const _, fun _ => Lasts.const _, fun _ => Lasts.const _, fun _ => Lasts.const _, fun v => memF_last Y v, fun _ => Lasts.const _, fun _ => Lasts.const _, fun _ => Lasts.const _, trivial⟩ ?_ ?_
 ·refine ⟨?_, ?_, ?_, ?_, ?_, ?_, ?_, ?_, ?_, ?_, ?_, ?_, ?_, trivial⟩
  ·intro vs W hp hv b hs
   have t12 : b.tmps[(12 : Nat)]? = some (.int .i64 7) := (hs.oldtm 12 rfl).trans rfl
   exact stepVal rfl (by go_simp) ⟨Below.refl _ _, rfl⟩
  ·intro vs W hp hv b hs
   have h0 : vs 0 = .int .i64 7 := hv 0 (by decide)
   have t76 := (hs.tm 76 0 rfl).trans (congrArg some h0)
   exact stepVal rfl (by go_simp) ⟨Below.refl _ _, rfl⟩
  ·intro vs W hp hv b hs
   have h1 : vs 1 = .bool true := hv 1 (by decide)
   have t77 := (hs.tm 77 1 rfl).trans (congrArg some h1)
   exact stepVal rfl (by go_simp) ⟨Below.refl _ _, rfl⟩
  ·intro vs W hp hv b hs
   have h2 : vs 2 = .bool true := hv 2 (by decide)
   exact stepGet (wanted_on rfl rfl ((hs.tm 78 2 rfl).trans (congrArg some h2))) rfl ((hs.old 10 rfl).trans rfl) (blk_below H10.out.2.2.1 hp) Tryz.underlying30 rfl (by kernel_rfl) ⟨Below.refl _ _, rfl⟩
  ·intro vs W hp hv b hs
   have h2 : vs 2 = .bool true := hv 2 (by decide)
   exact stepGet (wanted_on rfl rfl ((hs.tm 78 2 rfl).trans (congrArg some h2))) rfl ((hs.old 6 rfl).trans rfl) (blk_below H10.out.2.2.2.2.2.2.2.1 hp) Tryz.underlying30 rfl (by kernel_rfl) ⟨Below.refl _ _, rfl⟩
  ·intro vs W hp hv b hs
   have h2 : vs 2 = .bool true := hv 2 (by decide)
   exact stepGet (wanted_on rfl rfl ((hs.tm 78 2 rfl).trans (congrArg some h2))) rfl ((hs.old 8 rfl).trans rfl) (blk_below H10.out.2.2.2.2.2.1 hp) Tryz.underlying24 rfl (by kernel_rfl) ⟨Below.refl _ _, rfl⟩
  ·intro vs W hp hv b hs
   have h2 : vs 2 = .bool true := hv 2 (by decide)
   exact stepGet (wanted_on rfl rfl ((hs.tm 78 2 rfl).trans (congrArg some h2))) rfl ((hs.old 5 rfl).trans rfl) (blk_below H10.out.2.2.2.2.2.2.1 hp) Tryz.underlying27 rfl (by kernel_rfl) ⟨Below.refl _ _, rfl⟩
  ·intro vs W hp hv b hs
   have h2 : vs 2 = .bool true := hv 2 (by decide)
   exact stepGet (wanted_on rfl rfl ((hs.tm 78 2 rfl).trans (congrArg some h2))) rfl ((hs.old 6 rfl).trans rfl) (blk_below H10.out.2.2.2.2.2.2.2.1 hp) Tryz.underlying30 rfl (by kernel_rfl) ⟨Below.refl _ _, rfl⟩
  ·intro vs W hp hv b hs
   have h2 : vs 2 = .bool true := hv 2 (by decide)
   have h6 : vs 6 = .agg (eA x B d) := hv 6 (by decide)
   have t82 := (hs.tm 82 6 rfl).trans (congrArg some h6)
   have h7 : vs 7 = .agg (mA m p) := hv 7 (by decide)
   have t83 := (hs.tm 83 7 rfl).trans (congrArg some h7)
   refine stepCall (wanted_on rfl rfl ((hs.tm 78 2 rfl).trans (congrArg some h2))) Tryz.func19 (by kernel_rfl) rfl #[vs 6, vs 7] rfl (by simp [Act.eval, hs.tm 82 6 rfl, hs.tm 83 7 rfl]) (by rw [h6, h7]; exact implOf_any x B d m p W (TV.last _ _ _ _ _ hp H10.out.2.2.2.2.2.2.2.2.1) (MV.last _ _ _ _ hp H10.out.2.2.2.2.2.2.2.2.2.1)) ?_
   rintro e W' ⟨rfl, hb'⟩
   exact ⟨_, rfl, hb', congrArg (Value.int .i64) HN.out.symm⟩
  ·intro vs W hp hv b hs
   have h2 : vs 2 = .bool true := hv 2 (by decide)
   have h4 : vs 4 = .agg (mA m p) := hv 4 (by decide)
   have t80 := (hs.tm 80 4 rfl).trans (congrArg some h4)
   have h5 : vs 5 = .agg #[.int .i64 ka, .int .i64 aa] := hv 5 (by decide)
   have t81 := (hs.tm 81 5 rfl).trans (congrArg some h5)
   have h8 : vs 8 = .int .i64 n := hv 8 (by decide)
   have t84 := (hs.tm 84 8 rfl).trans (congrArg some h8)
   refine stepCall (wanted_on rfl rfl ((hs.tm 78 2 rfl).trans (congrArg some h2))) Tryz.func18 (by kernel_rfl) rfl #[vs 4, vs 5, vs 8] rfl (by simp [Act.eval, hs.tm 80 4 rfl, hs.tm 81 5 rfl, hs.tm 84 8 rfl]) (by rw [h4, h5, h8]; exact putM_any m ka aa n p W (MV.last _ _ _ _ hp H10.out.2.2.2.2.2.2.2.2.2.1)) ?_
   rw [← HY.out]
   rintro e W' ⟨r, rfl, hM, hb'⟩
   exact ⟨_, rfl, hb', r, rfl, hM⟩
  ·intro vs W hp hv b hs
   have h2 : vs 2 = .bool true := hv 2 (by decide)
   have h3 : vs 3 = .agg (mA X qa) := hv 3 (by decide)
   have t79 := (hs.tm 79 3 rfl).trans (congrArg some h3)
   obtain ⟨r9, h9, m9⟩ : (memF Y) (vs 9) W := hv 9 (by decide)
   have t85 := (hs.tm 85 9 rfl).trans (congrArg some h9)
   refine stepCall (wanted_on rfl rfl ((hs.tm 78 2 rfl).trans (congrArg some h2))) Tryz.func14 (by kernel_rfl) rfl #[vs 3, vs 9] rfl (by simp [Act.eval, hs.tm 79 3 rfl, hs.tm 85 9 rfl]) (by rw [h3, h9]; exact same_any X Y HSH.out qa r9 W (MV.last _ _ _ _ hp H10.out.2.2.2.1) m9) ?_
   rintro e W' ⟨rfl, hb'⟩
   exact ⟨_, rfl, hb', congrArg Value.bool HSY.out⟩
  ·intro vs W hp hv b hs
   have h2 : vs 2 = .bool true := hv 2 (by decide)
   have t78 := (hs.tm 78 2 rfl).trans (congrArg some h2)
   have h10 : vs 10 = .bool true := hv 10 (by decide)
   have t86 := (hs.tm 86 10 rfl).trans (congrArg some h10)
   exact stepVal rfl (by go_simp) ⟨Below.refl _ _, rfl⟩
  ·intro vs W hp hv b hs
   have h11 : vs 11 = .bool true := hv 11 (by decide)
   have t87 := (hs.tm 87 11 rfl).trans (congrArg some h11)
   exact stepVal rfl (by go_simp) ⟨Below.refl _ _, rfl⟩
 intro vs WB hb hv
 have hres : vs 12 = .bool true := hv 12 (by decide)
 simp only [List.map_cons, List.map_nil, putL, Act.put, List.setIfInBounds_toArray, List.set_cons_zero, List.set_cons_succ, hres]
 clear hv hres
 have H11 := Aside0.mk (show Box WB g13 30 (mA X qb) ∧ MV WB X qb ∧ Box WB g10 30 (mA X qa) ∧ MV WB X qa ∧ LV WB L A9 c9 ∧ Box WB g8 24 #[.int .i64 ka, .int .i64 aa] ∧ Box WB g5 27 (eA x B d) ∧ Box WB g6 30 (mA m p) ∧ TV WB x B d ∧ MV WB m p ∧ Below w.heap.size w WB ∧ ErrAt WB a from ⟨blk_below H10.out.1 hb, MV.last _ _ _ _ hb H10.out.2.1, blk_below H10.out.2.2.1 hb, MV.last _ _ _ _ hb H10.out.2.2.2.1, (LV.last _ _ _) _ _ hb H10.out.2.2.2.2.1, blk_below H10.out.2.2.2.2.2.1 hb, blk_below H10.out.2.2.2.2.2.2.1 hb, blk_below H10.out.2.2.2.2.2.2.2.1 hb, TV.last _ _ _ _ _ hb H10.out.2.2.2.2.2.2.2.2.1, MV.last _ _ _ _ hb H10.out.2.2.2.2.2.2.2.2.2.1, Below.trans H10.out.2.2.2.2.2.2.2.2.2.2.1 (hb.mono H10.out.2.2.2.2.2.2.2.2.2.2.1.size), (ErrAt.lasts _) _ _ hb H10.out.2.2.2.2.2.2.2.2.2.2.2⟩)
 clear H10 hb
 go_wp2
 go_ret
 exact ⟨rfl, H11.out.2.2.2.2.2.2.2.2.2.2.1⟩
end Go.Proofs.YtendbgedpjcocaaGreatDoor.B
