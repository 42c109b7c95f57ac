import Derived.Test.YtacbbpbopmdpeaaReadMem
import Derived.Test.YtacbbpbopmdpeaaExprOf
import Derived.Test.YtacbbpbopmdpeaaWordsAll
import Derived.Test.YtacbbpbopmdpeaaLawOk2
import Derived.Test.YtacbbpbopmdpeaaValAll
import Derived.Test.YtacbbpbopmdpeaaPkC
import Derived.Test.YtacbbpbopmdpeaaPkA
/- impl.MemGet, in the print's form. -/
namespace Go.Proofs.Ytacbbpbopmdpeaa.B
open Go.RowKit Go.Proofs.YtacbbpbopmdpeaaW.PrintWords Go.Proofs.YtacbbpbopmdpeaaW.PrintLast Go.Proofs.YtacbbpbopmdpeaaW.PrintMore
set_option linter.unusedVariables false

def memGetV (l0 l1 l2 : List Int) (k a : Int) : Int := if memOkL l0 l1 l2 then getL (l0 ++ l1 ++ l2) k a else 0
set_option maxRecDepth 100000 in
set_option maxHeartbeats 4000000 in
theorem memGet_any (l0 l1 l2 : List Int) (k a : Int) (A0 A1 A2 : Option Addr) (c0 c1 c2 : Nat) (w : World)
  (h0 : Kd.C (Kd.int .i64) w A0 l0.length l0) (h1 : Kd.C (Kd.int .i64) w A1 l1.length l1) (h2 : Kd.C (Kd.int .i64) w A2 l2.length l2) (m0 : l0.length ≤ c0) (m1 : l1.length ≤ c1) (m2 : l2.length ≤ c2) :
  Calls Try.prog 12 #[.agg #[.slice A0 l0.length c0, .slice A1 l1.length c1, .slice A2 l2.length c2], .agg #[.int .i64 k, .int .i64 a]] w fun en w' => en = .returned (.int .i64 (memGetV l0 l1 l2 k a)) ∧ Below w.heap.size w w' := by
 obtain ⟨hs, k1, k2, hB0⟩ := two_blocks' w (.cells #[.slice A0 l0.length c0, .slice A1 l1.length c1, .slice A2 l2.length c2] 30 (0, 0)) (.cells #[.int .i64 k, .int .i64 a] 24 (0, 0))
 have HK := Aside0.mk (And.intro k2 hB0)
 have HM := Aside0.mk (fun (W : World) (h : Below w.heap.size w W) => readMem_any l0 l1 l2 A0 A1 A2 c0 c1 c2 W (Kd.C_below h0 h) (Kd.C_below h1 h) (Kd.C_below h2 h) m0 m1 m2)
 clear hs k1 k2 hB0 h0 h1 h2 m0 m1 m2
 go_enter Try.func12, Try.ntmps12
 go_wp2_with fail
 refine (HM.out _ HK.out.2).mono ?_
 rintro en w1 ⟨hr, hb1⟩
 have HB1 := Aside0.mk (HK.out.2.trans (hb1.mono HK.out.2.size))
 have k1 := (hb1.block _ (blk_lt HK.out.1)).trans HK.out.1
 clear hb1 HM HK
 have q0 : w1.cell? ⟨w.heap.size + 1, 0, none⟩ = some (.int .i64 k) := by rw [blk_cell k1]; rfl
 have q1 : w1.cell? ⟨w.heap.size + 1, 1, none⟩ = some (.int .i64 a) := by rw [blk_cell k1]; rfl
 clear k1
 rcases hr with ⟨hv, g, rfl, hm⟩ | ⟨hv, rfl⟩
 ·have HV := Aside0.mk (show memOkL l0 l1 l2 = true from hv)
  have HM := Aside0.mk hm
  clear hv hm
  go_wp2_with fail
  refine (get_any g (l0 ++ l1 ++ l2) k a w1 HM.out).mono ?_
  rintro en w2 ⟨rfl, hb2⟩
  have HB2 := Aside0.mk (HB1.out.trans (hb2.mono HB1.out.size))
  clear hb2 q0 q1
  go_wp2
  go_ret
  exact ⟨by rw [memGetV, HV.out, List.append_assoc]; rfl, HB2.out⟩
 ·have HV := Aside0.mk (show memOkL l0 l1 l2 = false from hv)
  clear hv q0 q1
  go_wp2
  go_ret
  exact ⟨by rw [memGetV, HV.out]; rfl, HB1.out⟩
def impl_MemGet.f (l0_0 : List Int) (l0_1 : List Int) (l0_2 : List Int) (a1_0 : Int) (a1_1 : Int) : Option Int :=
 some (memGetV l0_0 l0_1 l0_2 a1_0 a1_1)
theorem impl_MemGet.calls (A0_0 : Option Addr) (c0_0 : Nat) (l0_0 : List Int) (A0_1 : Option Addr) (c0_1 : Nat) (l0_1 : List Int) (A0_2 : Option Addr) (c0_2 : Nat) (l0_2 : List Int) (a1_0 : Int) (a1_1 : Int) (r : Int) (w : World)
  (hr0_0 : Kd.C (Kd.int .i64) w A0_0 l0_0.length l0_0) (hc0_0 : l0_0.length ≤ c0_0) (hr0_1 : Kd.C (Kd.int .i64) w A0_1 l0_1.length l0_1) (hc0_1 : l0_1.length ≤ c0_1) (hr0_2 : Kd.C (Kd.int .i64) w A0_2 l0_2.length l0_2) (hc0_2 : l0_2.length ≤ c0_2)
  (h : impl_MemGet.f l0_0 l0_1 l0_2 a1_0 a1_1 = some r) :
  Calls Try.prog 12 #[.agg #[.slice A0_0 l0_0.length c0_0, .slice A0_1 l0_1.length c0_1, .slice A0_2 l0_2.length c0_2], .agg #[.int .i64 a1_0, .int .i64 a1_1]] w fun e w' => e = .returned (.int .i64 r) ∧ Below w.heap.size w w' := by
 obtain rfl := Option.some.inj h
 exact memGet_any l0_0 l0_1 l0_2 a1_0 a1_1 A0_0 A0_1 A0_2 c0_0 c0_1 c0_2 w hr0_0 hr0_1 hr0_2 hc0_0 hc0_1 hc0_2
end Go.Proofs.Ytacbbpbopmdpeaa.B
/- Over trees as values: a number put for each reading of a place; the number at a place; how many parts; the draw of a memory and a place. -/
namespace Go.Proofs.Ytacbbpbopmdpeaa.B
open Go Go.RowKit Go.Proofs.YtacbbpbopmdpeaaW.PrintWords Go.Proofs.YtacbbpbopmdpeaaW.PrintLast Go.Proofs.YtacbbpbopmdpeaaW.PrintMore
set_option linter.unusedVariables false
theorem manyV_ok (e : Ex) : manyV e = if okE e = true then (manyS 6 e : Int) else 0 := by
 unfold manyV
 rw [okL_eq]
 show (if okE e = true then _ else _) = _
 split
 ·rename_i h
  have := ((walk_ok 6 (Nat.le_refl _) e [] (by simp) rfl).2 (by rw [show okL 0 (walkP 6 e []).1 = okL 0 (partsL e) from rfl, okL_eq]; exact h)).2
  rw [show (partsL e).length = manyS 6 e by simpa [partsL] using this]
 ·rfl
theorem manyI_any (x : Ex) (A : Option Addr) (c : Nat) (W : World) (HT : TabW W) (h : TV W x A c) : Calls Try.prog 14 #[.agg (eA x A c)] W fun e W' => e = .returned (.int .i64 (manyV x)) ∧ Below W.heap.size W W' :=
 manyImpl_any okCon x A c W h.reads.2 h.reads.1 HT
theorem mono_put (a b c d : Int) (l : List Ex) (p q n : Int) : ∀ k, LeO (laws_wqPut.f k a b c d l p q n) (laws_wqPut.f (k + 1) a b c d l p q n) := fun k => (laws_wqPut.mono_l k).1 a b c d l p q n
theorem put_total (p q n : Int) (e : Ex) (he : Tiny e) : ∃ K, ∀ k, K ≤ k → laws_wqPut.f k e.f0 e.f1 e.f2.f0 e.f2.f1 e.f3 p q n = some ((putE p q n e).f0, (putE p q n e).f1, (putE p q n e).f2.f0, (putE p q n e).f2.f1, (putE p q n e).f3) := by
 induction he with
 | mk e hl hk ih =>
  have loop : ∀ (m j : Nat), m + j = e.f3.length → ∃ K, ∀ k, K ≤ k → laws_wqPut.l0 k n j e.f0 e.f1 e.f2.f0 e.f2.f1 e.f3 p q e.f0 e.f1 e.f2.f0 e.f2.f1 ((e.f3.take j).map (putE p q n)) = some (e.f0, e.f1, e.f2.f0, e.f2.f1, e.f3.map (putE p q n)) := by
   intro m
   induction m with
   | zero =>
    intro j hj
    refine ⟨1, fun k hk => ?_⟩
    obtain ⟨k', rfl⟩ : ∃ k', k = k' + 1 := ⟨k - 1, by omega⟩
    rw [laws_wqPut.l0, if_neg (by omega), List.take_of_length_le (by omega)]
   | succ m ihm =>
    intro j hj
    have hlt : j < e.f3.length := by omega
    obtain ⟨K1, h1⟩ := ih e.f3[j] (List.getElem_mem hlt)
    obtain ⟨K2, h2⟩ := ihm (j + 1) (by omega)
    refine ⟨K1 + K2 + 1, fun k hk => ?_⟩
    obtain ⟨k', rfl⟩ : ∃ k', k = k' + 1 := ⟨k - 1, by omega⟩
    have e1 : rd_T27 e.f3 (j : Int) = e.f3[j] := by simp [rd_T27, hlt]
    rw [laws_wqPut.l0, if_pos (by omega), if_pos (by omega), e1, h1 k' (by omega), Option.bind_some, if_pos (by simp; omega), show wrap64 ((j : Int) + 1) = ((j + 1 : Nat) : Int) by unfold wrap64; omega]
    have := h2 k' (by omega)
    rw [List.take_succ_eq_append_getElem hlt, List.map_append, List.map_cons, List.map_nil] at this
    have e2 := ex_eta (putE p q n e.f3[j])
    generalize putE p q n e.f3[j] = z at this e2 ⊢
    rw [← e2] at this
    exact this
  obtain ⟨K, hK⟩ := loop e.f3.length 0 (by omega)
  refine ⟨K + 2, fun k hk => ?_⟩
  obtain ⟨k', rfl⟩ : ∃ k', k = k' + 2 := ⟨k - 2, by omega⟩
  have h0 := hK k' (by omega)
  rw [List.take_zero, List.map_nil] at h0
  rw [putE_eq]
  by_cases h2 : e.f0 = 2
  ·rw [laws_wqPut.f, if_pos h2, laws_wqPut.j0]
   by_cases ha : e.f2.f0 = p
   ·by_cases hb : e.f2.f1 = q
    ·rw [if_pos (by simp [ha, hb]), if_pos ⟨h2, ha, hb⟩]
    ·rw [if_neg (by simp [ha, hb]), if_neg (fun h => hb h.2.2)]
     exact h0
   ·rw [if_neg (by simp [ha]), if_neg (fun h => ha h.2.1)]
    exact h0
  ·rw [laws_wqPut.f, if_neg h2, laws_wqPut.j0, if_neg (by simp), if_neg (fun h => h2 h.1)]
   exact h0
theorem wqPut_o (x : Ex) (hx : Tiny x) (p q n : Int) (A : Option Addr) (c : Nat) (W : World) (ok : Nat → Prop) (hok : ∀ k, W.heap.size ≤ k → ok k) (h : TV W x A c) :
  Calls Try.prog 11 #[.agg (eA x A c), .agg #[.int .i64 p, .int .i64 q], .int .i64 n] W fun e W' => ∃ y B d, y = putE p q n x ∧ e = .returned (.agg (eA y B d)) ∧ TVo W' ok y B d ∧ Below W.heap.size W W' := by
 obtain ⟨K, hK⟩ := put_total p q n x hx
 refine (laws_wqPut.calls K x.f0 x.f1 x.f2.f0 x.f2.f1 A c x.f3 p q n _ _ _ _ _ W h.reads.2 h.reads.1 (hK K (Nat.le_refl _))).mono ?_
 rintro e W' ⟨v, rfl, hR, hb⟩
 obtain ⟨B, d, rfl⟩ := Kd.R_slice hR
 exact ⟨_, B, d, rfl, rfl, ⟨Kd.V_mono (Kd.R_V (base' := 0) (Kd.R_bound hR)) fun k hk => hok k hk.2.1⟩, hb⟩
theorem getV_any (m : List Int × List Int × List Int) (k a : Int) (p : (Option Addr × Nat) × (Option Addr × Nat) × (Option Addr × Nat)) (W : World) (hm : MV W m p) :
  Calls Try.prog 12 #[.agg (mA m p), .agg #[.int .i64 k, .int .i64 a]] W fun e W' => e = .returned (.int .i64 (memGetV m.1 m.2.1 m.2.2 k a)) ∧ Below W.heap.size W W' :=
 impl_MemGet.calls _ _ m.1 _ _ m.2.1 _ _ m.2.2 k a _ W hm.c0 hm.l0 hm.c1 hm.l1 hm.c2 hm.l2 rfl
theorem addrS_any (k a : Int) (W : World) : Calls Try.prog 10 #[.agg #[.int .i64 k, .int .i64 a]] W fun e W' => e = .returned (.bool (addrOkL k a)) ∧ Below W.heap.size W W' :=
 (spec_AddrOk.calls k a (addrOkL k a) W (addrOk_is k a)).mono fun e W' h => ⟨h.1, h.2⟩
theorem drawGet_any (l : List Int) (hw : ∀ x ∈ l, (Lit.int .u8 x).wf = true) : ∃ (m : List Int × List Int × List Int) (k a : Int), Mini m.1 m.2.1 m.2.2 ∧ ∀ A c W, Kd.C (Kd.int .u8) W A l.length l → l.length ≤ c →
  Calls Try.prog 5 #[.slice A l.length c] W fun e W' => ∃ p, e = .returned (.tuple #[.agg (mA m p), .agg #[.int .i64 k, .int .i64 a]]) ∧ MV W' m p ∧ Below W.heap.size W W' := by
 obtain ⟨s, hs, hl, ho⟩ := open_total l hw
 obtain ⟨m0, m1, m2, p1, hm, q1, q2, h1⟩ := memBent_total s hs hl 0 (by omega) (by omega)
 obtain ⟨a, b, p2, q3, q4, h2⟩ := addrBent_total s hs hl p1 (by omega) (by omega)
 refine ⟨(m0, m1, m2), a, b, hm, fun A c W hC hc => ?_⟩
 refine (spec_DrawMemGet.calls 7 A c l m0 m1 m2 a b W hC hc ?_).mono ?_
 ·rw [spec_DrawMemGet.f, ho]
  simp only [Option.bind_some]
  rw [h1 7 (by omega)]
  simp only [Option.bind_some]
  rw [h2 6]; rfl
 rintro e W' ⟨u0, u1, u2, rfl, h0, h1, h2, hb⟩
 obtain ⟨A0, c0, rfl⟩ := Kd.R_slice h0
 obtain ⟨A1, c1, rfl⟩ := Kd.R_slice h1
 obtain ⟨A2, c2, rfl⟩ := Kd.R_slice h2
 have r0 := Kd.R_reads' h0
 have r1 := Kd.R_reads' h1
 have r2 := Kd.R_reads' h2
 exact ⟨((A0, c0), (A1, c1), (A2, c2)), rfl, ⟨r0.2.1, r0.2.2, r1.2.1, r1.2.2, r2.2.1, r2.2.2⟩, hb⟩
/-- A draw that is tiny. -/
theorem drawTiny_any (l : List Int) (hw : ∀ x ∈ l, (Lit.int .u8 x).wf = true) : ∃ (x : Ex) (m : List Int × List Int × List Int), Tiny x ∧ Mini m.1 m.2.1 m.2.2 ∧ ∀ A c W, Kd.C (Kd.int .u8) W A l.length l → l.length ≤ c →
  Calls Try.prog 4 #[.slice A l.length c] W fun e W' => ∃ B d p, e = .returned (.tuple #[.agg (eA x B d), .agg (mA m p)]) ∧ TV W' x B d ∧ MV W' m p ∧ Below W.heap.size W W' := by
 obtain ⟨x, m0, m1, m2, K, hx, hm, h⟩ := drawOf_total l hw
 refine ⟨x, (m0, m1, m2), hx, hm, fun A c W hC hc => ?_⟩
 refine (spec_DrawExprOf.calls K A c l _ _ _ _ _ _ _ _ W hC hc (h K (Nat.le_refl _))).mono ?_
 rintro e W' ⟨v, u0, u1, u2, rfl, hN, h0, h1, h2, hb⟩
 obtain ⟨B, d, rfl⟩ := Kd.N_slice hN
 obtain ⟨A0, c0, rfl⟩ := Kd.R_slice h0
 obtain ⟨A1, c1, rfl⟩ := Kd.R_slice h1
 obtain ⟨A2, c2, rfl⟩ := Kd.R_slice h2
 have r0 := Kd.R_reads' h0
 have r1 := Kd.R_reads' h1
 have r2 := Kd.R_reads' h2
 exact ⟨B, d, ((A0, c0), (A1, c1), (A2, c2)), rfl, TV.ofN hN (fun _ _ => trivial), ⟨r0.2.1, r0.2.2, r1.2.1, r1.2.2, r2.2.1, r2.2.2⟩, hb⟩
end Go.Proofs.Ytacbbpbopmdpeaa.B
/- The law FnExprPut, walked by hand. -/
namespace Go.Proofs.Ytacbbpbopmdpeaa.B
open Go Go.RowKit Go.Proofs.YtacbbpbopmdpeaaW.PrintWords Go.Proofs.YtacbbpbopmdpeaaW.PrintLast Go.Proofs.YtacbbpbopmdpeaaW.PrintMore
set_option linter.unusedVariables false
theorem put_facts (x : Ex) (m : List Int × List Int × List Int) (k a : Int) (h1 : okE x = true) (h2 : mOk m = true) (h3 : addrOkL k a = true) :
  okE (putE k a (memGetV m.1 m.2.1 m.2.2 k a) x) = true ∧ oV (putE k a (memGetV m.1 m.2.1 m.2.2 k a) x) m = oV x m ∧ manyV (putE k a (memGetV m.1 m.2.1 m.2.2 k a) x) = manyV x := by
 have hm : memOkL m.1 m.2.1 m.2.2 = true := h2
 have hg : memGetV m.1 m.2.1 m.2.2 k a = getL (m.1 ++ m.2.1 ++ m.2.2) k a := by rw [memGetV, if_pos hm]
 have hn : isNumL (memGetV m.1 m.2.1 m.2.2 k a) = true := by
  rw [hg]
  unfold getL
  rw [if_pos h3]
  have hin := memOk_in hm
  have hget : ∀ i : Nat, -1000000 ≤ (m.1 ++ m.2.1 ++ m.2.2).getD i 0 ∧ (m.1 ++ m.2.1 ++ m.2.2).getD i 0 ≤ 1000000 := by
   intro i
   by_cases hi : i < (m.1 ++ m.2.1 ++ m.2.2).length
   ·rw [List.getD_eq_getElem?_getD, List.getElem?_eq_getElem hi]; exact hin _ (List.getElem_mem hi)
   ·rw [List.getD_eq_getElem?_getD, List.getElem?_eq_none (by omega)]; simp
  have := hget ((k - 1) * 6 + a).toNat
  unfold isNumL
  simp only [decide_eq_true_eq]
  omega
 obtain ⟨p1, p2, p3⟩ := okE_put hn hg.symm h1
 refine ⟨p1, ?_, ?_⟩
 ·rw [oV, oV, ofV_eq, ofV_eq, hm, p1, h1, p3]
 ·rw [manyV_ok, manyV_ok, p1, h1, p2]
set_option maxRecDepth 100000 in
set_option maxHeartbeats 4000000 in
theorem law_Put (l0 l1 : List Int) (hw0 : ∀ x ∈ l0, (Lit.int .u8 x).wf = true) (hw1 : ∀ x ∈ l1, (Lit.int .u8 x).wf = true) (A0 : Option Addr) (c0 : Nat) (A1 : Option Addr) (c1 : Nat) (w : World) (r0 : Kd.C (Kd.int .u8) w A0 l0.length l0) (h0 : l0.length ≤ c0) (r1 : Kd.C (Kd.int .u8) w A1 l1.length l1) (h1 : l1.length ≤ c1) (HT : TabW w) :
  Calls Try.prog 3 #[.slice A0 l0.length c0, .slice A1 l1.length c1] w fun e w' => e = .returned (.bool true) ∧ Below w.heap.size w w' := by
 obtain ⟨x, m, hx, hm, hd0⟩ := drawTiny_any l0 hw0
 obtain ⟨m', ka, aa, hm', hd1⟩ := drawGet_any l1 hw1
 have D0 := Aside0.mk (hd0 A0 c0 w r0 h0)
 have D1 := Aside0.mk (fun W (hb : Below w.heap.size w W) => hd1 A1 c1 W (Kd.C_below r1 hb) h1)
 have HX := Aside0.mk (And.intro hx hm)
 have HTT := Aside0.mk HT
 clear hd0 hd1 r0 r1 h0 h1 hx hm hm' hw0 hw1 HT
 by_cases hlenl0 : (1048576 : Int) < (l0.length : Int)
 ·go_enter Try.func3, Try.ntmps3
  go_wp2
  go_ret
  exact ⟨rfl, Below.refl _ _⟩
 by_cases hlenl1 : (1048576 : Int) < (l1.length : Int)
 ·go_enter Try.func3, Try.ntmps3
  go_wp2
  go_ret
  exact ⟨rfl, Below.refl _ _⟩
 go_enter Try.func3, Try.ntmps3
 go_wp2_with fail
 refine D0.out.mono ?_
 clear D0
 rintro e w1 ⟨B, d, p, rfl, hT, hM, hb⟩
 have H1 := Aside0.mk (show TV w1 x B d ∧ MV w1 m p ∧ Below w.heap.size w w1 ∧ TabW w1  from ⟨hT, hM, hb, HTT.out.below hb⟩)
 clear hT hM hb HTT
 go_wp2_with ((with_reducible refine gate_dst (N := 5) rfl ?_); refine new2_ (N := 5) (M := 6) (x := 22) (y := 23) (T := 27) (U := 30) (eA x B d) (mA m p) (zs := #[.int .i64 0, .int .i64 0, .int .i64 0, .int .i64 0, .slice none 0 0]) (ys := #[.slice none 0 0, .slice none 0 0, .slice none 0 0]) (eA_one _ _ _) (mA_one _ _) ?_ ?_ ?_ ?_ ?_ ?_ ?_ ?_ ?_ ?_ ?_ ?_ ?_ ?_ ?_ ?_ ?_ ?_ ?_ ?_ ?_ ?_ ?_ ?_ ?_ ?_ ?_ ?_)
 all_goals (first | rfl | decide | (intro _ _; go_simp; done) | kernel_rfl | skip)
 intro g5 g6 W1 hg5 hg6 hne bg5 bg6 hb
 simp only [Act.put, List.setIfInBounds_toArray, List.set_cons_zero, List.set_cons_succ]
 clear hg5 hg6 hne
 have H2 := Aside0.mk (show Box W1 g5 27 (eA x B d) ∧ Box W1 g6 30 (mA m p) ∧ TV W1 x B d ∧ MV W1 m p ∧ Below w.heap.size w W1 ∧ TabW W1  from ⟨bg5, bg6, TV.last _ _ _ _ _ hb H1.out.1, MV.last _ _ _ _ hb H1.out.2.1, Below.trans H1.out.2.2.1 (hb.mono H1.out.2.2.1.size), TabW.lasts _ _ hb H1.out.2.2.2⟩)
 clear H1 bg5 bg6 hb
 go_wp2_with fail
 refine (D1.out W1 H2.out.2.2.2.2.1).mono ?_
 clear D1
 rintro e w2 ⟨p', rfl, hM, hb⟩
 have H3 := Aside0.mk (show Box w2 g5 27 (eA x B d) ∧ Box w2 g6 30 (mA m p) ∧ TV w2 x B d ∧ MV w2 m p ∧ Below w.heap.size w w2 ∧ TabW w2  from ⟨blk_below H2.out.1 hb, blk_below H2.out.2.1 hb, TV.last _ _ _ _ _ hb H2.out.2.2.1, MV.last _ _ _ _ hb H2.out.2.2.2.1, Below.trans H2.out.2.2.2.2.1 (hb.mono H2.out.2.2.2.2.1.size), TabW.lasts _ _ hb H2.out.2.2.2.2.2⟩)
 clear H2 hM hb
 go_wp2_with ((with_reducible refine gate_dst (N := 7) rfl ?_); refine new2_ (N := 7) (M := 8) (x := 27) (y := 28) (T := 30) (U := 24) (mA m' p') (#[.int .i64 ka, .int .i64 aa]) (zs := #[.slice none 0 0, .slice none 0 0, .slice none 0 0]) (ys := #[.int .i64 0, .int .i64 0]) (mA_one _ _) (by simp [Value.oneCell']) ?_ ?_ ?_ ?_ ?_ ?_ ?_ ?_ ?_ ?_ ?_ ?_ ?_ ?_ ?_ ?_ ?_ ?_ ?_ ?_ ?_ ?_ ?_ ?_ ?_ ?_ ?_ ?_)
 all_goals (first | rfl | decide | (intro _ _; go_simp; done) | kernel_rfl | skip)
 intro g7 g8 W2 hg7 hg8 hne bg7 bg8 hb
 simp only [Act.put, List.setIfInBounds_toArray, List.set_cons_zero, List.set_cons_succ]
 clear hg7 hg8 hne
 have H4 := Aside0.mk (show Box W2 g8 24 #[.int .i64 ka, .int .i64 aa] ∧ Box W2 g5 27 (eA x B d) ∧ Box W2 g6 30 (mA m p) ∧ TV W2 x B d ∧ MV W2 m p ∧ Below w.heap.size w W2 ∧ TabW W2  from ⟨bg8, blk_below H3.out.1 hb, blk_below H3.out.2.1 hb, TV.last _ _ _ _ _ hb H3.out.2.2.1, MV.last _ _ _ _ hb H3.out.2.2.2.1, Below.trans H3.out.2.2.2.2.1 (hb.mono H3.out.2.2.2.2.1.size), TabW.lasts _ _ hb H3.out.2.2.2.2.2⟩)
 clear H3 bg7 bg8 hb
 obtain ⟨n, hn⟩ : ∃ n, n = oV x m := ⟨_, rfl⟩
 have HN := Aside0.mk hn
 clear hn
 have lb0 := H4.out.2.1
 have lb1 := H4.out.2.2.1
 go_wp2_with (first | ((with_reducible refine gate_dst (N := 29) rfl ?_); refine getE_ rfl rfl rfl rfl lb0 ?_) | ((with_reducible refine gate_dst (N := 30) rfl ?_); refine getM_ rfl rfl rfl rfl lb1 ?_))
 clear lb0 lb1
 refine (implOf_any x B d m p W2 H4.out.2.2.2.1 H4.out.2.2.2.2.1).mono ?_
 rw [← HN.out]
 rintro e w3 ⟨rfl, hb⟩
 have H5 := Aside0.mk (show Box w3 g8 24 #[.int .i64 ka, .int .i64 aa] ∧ Box w3 g5 27 (eA x B d) ∧ Box w3 g6 30 (mA m p) ∧ TV w3 x B d ∧ MV w3 m p ∧ Below w.heap.size w w3 ∧ TabW w3  from ⟨blk_below H4.out.1 hb, blk_below H4.out.2.1 hb, blk_below H4.out.2.2.1 hb, TV.last _ _ _ _ _ hb H4.out.2.2.2.1, MV.last _ _ _ _ hb H4.out.2.2.2.2.1, Below.trans H4.out.2.2.2.2.2.1 (hb.mono H4.out.2.2.2.2.2.1.size), TabW.lasts _ _ hb H4.out.2.2.2.2.2.2⟩)
 clear H4 hb
 have lb0 := H5.out.2.1
 have lb1 := H5.out.2.2.1
 go_wp2_with (first | ((with_reducible refine gate_dst (N := 33) rfl ?_); refine getE_ rfl rfl rfl rfl lb0 ?_) | ((with_reducible refine gate_dst (N := 34) rfl ?_); refine getM_ rfl rfl rfl rfl lb1 ?_))
 clear lb0 lb1
 refine (specOf_any x HX.out.1.short B d m HX.out.2 p w3 H5.out.2.2.2.1 H5.out.2.2.2.2.1).mono ?_
 rw [← HN.out]
 rintro e w3' ⟨rfl, hb⟩
 have H6 := Aside0.mk (show Box w3' g8 24 #[.int .i64 ka, .int .i64 aa] ∧ Box w3' g5 27 (eA x B d) ∧ Box w3' g6 30 (mA m p) ∧ TV w3' x B d ∧ MV w3' m p ∧ Below w.heap.size w w3' ∧ TabW w3'  from ⟨blk_below H5.out.1 hb, blk_below H5.out.2.1 hb, blk_below H5.out.2.2.1 hb, TV.last _ _ _ _ _ hb H5.out.2.2.2.1, MV.last _ _ _ _ hb H5.out.2.2.2.2.1, Below.trans H5.out.2.2.2.2.2.1 (hb.mono H5.out.2.2.2.2.2.1.size), TabW.lasts _ _ hb H5.out.2.2.2.2.2.2⟩)
 clear H5 hb
 have hnn : (n != n) = false := by simp
 have lb0 := H6.out.2.1
 go_wp2_with (first | ((with_reducible refine gate_dst (N := 38) rfl ?_); refine gate_guard rfl ?_; refine getE_ rfl rfl rfl rfl lb0 ?_))
 clear lb0 hnn
 obtain ⟨b1, hb1⟩ : ∃ b, b = okE x := ⟨_, rfl⟩
 have B1 := Aside0.mk hb1
 clear hb1
 refine (specOk_any x HX.out.1.short B d w3' H6.out.2.2.2.1).mono ?_
 rw [← B1.out]
 rintro e w4 ⟨rfl, hb⟩
 have H7 := Aside0.mk (show Box w4 g8 24 #[.int .i64 ka, .int .i64 aa] ∧ Box w4 g5 27 (eA x B d) ∧ Box w4 g6 30 (mA m p) ∧ TV w4 x B d ∧ MV w4 m p ∧ Below w.heap.size w w4 ∧ TabW w4  from ⟨blk_below H6.out.1 hb, blk_below H6.out.2.1 hb, blk_below H6.out.2.2.1 hb, TV.last _ _ _ _ _ hb H6.out.2.2.2.1, MV.last _ _ _ _ hb H6.out.2.2.2.2.1, Below.trans H6.out.2.2.2.2.2.1 (hb.mono H6.out.2.2.2.2.2.1.size), TabW.lasts _ _ hb H6.out.2.2.2.2.2.2⟩)
 clear H6 hb
 cases b1
 ·skip
  have lb0 := H7.out.2.1
  have lb1 := H7.out.2.2.1
  go_wp2_with (first | ((with_reducible refine gate_dst (N := 53) rfl ?_); refine getE_ rfl rfl rfl rfl lb0 ?_) | ((with_reducible refine gate_dst (N := 54) rfl ?_); refine getM_ rfl rfl rfl rfl lb1 ?_))
  clear lb0 lb1
  refine (specOf_any x HX.out.1.short B d m HX.out.2 p w4 H7.out.2.2.2.1 H7.out.2.2.2.2.1).mono ?_
  rw [← HN.out]
  rintro e w4' ⟨rfl, hb⟩
  have H8 := Aside0.mk (show Box w4' g8 24 #[.int .i64 ka, .int .i64 aa] ∧ Box w4' g5 27 (eA x B d) ∧ Box w4' g6 30 (mA m p) ∧ TV w4' x B d ∧ MV w4' m p ∧ Below w.heap.size w w4' ∧ TabW w4'  from ⟨blk_below H7.out.1 hb, blk_below H7.out.2.1 hb, blk_below H7.out.2.2.1 hb, TV.last _ _ _ _ _ hb H7.out.2.2.2.1, MV.last _ _ _ _ hb H7.out.2.2.2.2.1, Below.trans H7.out.2.2.2.2.2.1 (hb.mono H7.out.2.2.2.2.2.1.size), TabW.lasts _ _ hb H7.out.2.2.2.2.2.2⟩)
  clear H7 hb
  go_wp2
  go_ret
  exact ⟨by simp [results, go_sem], H8.out.2.2.2.2.2.1⟩
 have lb0 := H7.out.2.2.1
 go_wp2_with (first | ((with_reducible refine gate_dst (N := 43) rfl ?_); refine gate_guard rfl ?_; refine getM_ rfl rfl rfl rfl lb0 ?_))
 clear lb0
 obtain ⟨b2, hb2⟩ : ∃ b, b = mOk m := ⟨_, rfl⟩
 have B2 := Aside0.mk hb2
 clear hb2
 refine (specMem_any m HX.out.2 p w4 H7.out.2.2.2.2.1).mono ?_
 rw [← B2.out]
 rintro e w5 ⟨rfl, hb⟩
 have H9 := Aside0.mk (show Box w5 g8 24 #[.int .i64 ka, .int .i64 aa] ∧ Box w5 g5 27 (eA x B d) ∧ Box w5 g6 30 (mA m p) ∧ TV w5 x B d ∧ MV w5 m p ∧ Below w.heap.size w w5 ∧ TabW w5  from ⟨blk_below H7.out.1 hb, blk_below H7.out.2.1 hb, blk_below H7.out.2.2.1 hb, TV.last _ _ _ _ _ hb H7.out.2.2.2.1, MV.last _ _ _ _ hb H7.out.2.2.2.2.1, Below.trans H7.out.2.2.2.2.2.1 (hb.mono H7.out.2.2.2.2.2.1.size), TabW.lasts _ _ hb H7.out.2.2.2.2.2.2⟩)
 clear H7 hb
 cases b2
 ·skip
  have lb0 := H9.out.2.1
  have lb1 := H9.out.2.2.1
  go_wp2_with (first | ((with_reducible refine gate_dst (N := 53) rfl ?_); refine getE_ rfl rfl rfl rfl lb0 ?_) | ((with_reducible refine gate_dst (N := 54) rfl ?_); refine getM_ rfl rfl rfl rfl lb1 ?_))
  clear lb0 lb1
  refine (specOf_any x HX.out.1.short B d m HX.out.2 p w5 H9.out.2.2.2.1 H9.out.2.2.2.2.1).mono ?_
  rw [← HN.out]
  rintro e w5' ⟨rfl, hb⟩
  have H10 := Aside0.mk (show Box w5' g8 24 #[.int .i64 ka, .int .i64 aa] ∧ Box w5' g5 27 (eA x B d) ∧ Box w5' g6 30 (mA m p) ∧ TV w5' x B d ∧ MV w5' m p ∧ Below w.heap.size w w5' ∧ TabW w5'  from ⟨blk_below H9.out.1 hb, blk_below H9.out.2.1 hb, blk_below H9.out.2.2.1 hb, TV.last _ _ _ _ _ hb H9.out.2.2.2.1, MV.last _ _ _ _ hb H9.out.2.2.2.2.1, Below.trans H9.out.2.2.2.2.2.1 (hb.mono H9.out.2.2.2.2.2.1.size), TabW.lasts _ _ hb H9.out.2.2.2.2.2.2⟩)
  clear H9 hb
  go_wp2
  go_ret
  exact ⟨by simp [results, go_sem], H10.out.2.2.2.2.2.1⟩
 have lb0 := H9.out.1
 go_wp2_with ((with_reducible refine gate_dst (N := 48) rfl ?_); refine gate_guard rfl ?_; refine boxGet_ rfl rfl rfl rfl lb0 Try.underlying24 rfl (by kernel_rfl) ?_)
 clear lb0
 obtain ⟨b3, hb3⟩ : ∃ b, b = addrOkL ka aa := ⟨_, rfl⟩
 have B3 := Aside0.mk hb3
 clear hb3
 refine (addrS_any ka aa w5).mono ?_
 rw [← B3.out]
 rintro e w6 ⟨rfl, hb⟩
 have H11 := Aside0.mk (show Box w6 g8 24 #[.int .i64 ka, .int .i64 aa] ∧ Box w6 g5 27 (eA x B d) ∧ Box w6 g6 30 (mA m p) ∧ TV w6 x B d ∧ MV w6 m p ∧ Below w.heap.size w w6 ∧ TabW w6  from ⟨blk_below H9.out.1 hb, blk_below H9.out.2.1 hb, blk_below H9.out.2.2.1 hb, TV.last _ _ _ _ _ hb H9.out.2.2.2.1, MV.last _ _ _ _ hb H9.out.2.2.2.2.1, Below.trans H9.out.2.2.2.2.2.1 (hb.mono H9.out.2.2.2.2.2.1.size), TabW.lasts _ _ hb H9.out.2.2.2.2.2.2⟩)
 clear H9 hb
 cases b3
 ·skip
  have lb0 := H11.out.2.1
  have lb1 := H11.out.2.2.1
  go_wp2_with (first | ((with_reducible refine gate_dst (N := 53) rfl ?_); refine getE_ rfl rfl rfl rfl lb0 ?_) | ((with_reducible refine gate_dst (N := 54) rfl ?_); refine getM_ rfl rfl rfl rfl lb1 ?_))
  clear lb0 lb1
  refine (specOf_any x HX.out.1.short B d m HX.out.2 p w6 H11.out.2.2.2.1 H11.out.2.2.2.2.1).mono ?_
  rw [← HN.out]
  rintro e w6' ⟨rfl, hb⟩
  have H12 := Aside0.mk (show Box w6' g8 24 #[.int .i64 ka, .int .i64 aa] ∧ Box w6' g5 27 (eA x B d) ∧ Box w6' g6 30 (mA m p) ∧ TV w6' x B d ∧ MV w6' m p ∧ Below w.heap.size w w6' ∧ TabW w6'  from ⟨blk_below H11.out.1 hb, blk_below H11.out.2.1 hb, blk_below H11.out.2.2.1 hb, TV.last _ _ _ _ _ hb H11.out.2.2.2.1, MV.last _ _ _ _ hb H11.out.2.2.2.2.1, Below.trans H11.out.2.2.2.2.2.1 (hb.mono H11.out.2.2.2.2.2.1.size), TabW.lasts _ _ hb H11.out.2.2.2.2.2.2⟩)
  clear H11 hb
  go_wp2
  go_ret
  exact ⟨by simp [results, go_sem], H12.out.2.2.2.2.2.1⟩
 go_wp2_with fail
 obtain ⟨z, hz⟩ : ∃ z, z = memGetV m.1 m.2.1 m.2.2 ka aa := ⟨_, rfl⟩
 obtain ⟨y, hy⟩ : ∃ y, y = putE ka aa z x := ⟨_, rfl⟩
 have Y := Aside0.mk (And.intro hz hy)
 have FF := Aside0.mk (put_facts x m ka aa B1.out.symm B2.out.symm B3.out.symm)
 have hf := FF.out
 rw [← hz, ← hy, ← HN.out] at hf
 have F1 := Aside0.mk hf
 clear hz hy hf FF
 refine weaveNew_ 6 5 10 62 27 #[.int .i64 0, .int .i64 0, .int .i64 0, .int .i64 0, .slice none 0 0] aggOf [(57, 0), (58, 1), (59, 2), (60, 3), (61, 4), (62, 5), (10, 6)] [fun v _ _ => v = .agg (eA x B d), fun v _ _ => v = .agg #[.int .i64 ka, .int .i64 aa], fun v _ _ => v = .agg (mA m p), fun v _ _ => v = .agg #[.int .i64 ka, .int .i64 aa], fun v _ _ => v = .int .i64 z, treeF y] rfl (by kernel_rfl) ⟨Good.const _, Good.const _, Good.const _, Good.const _, Good.const _, treeF_good _, trivial⟩ _ _ rfl rfl rfl rfl rfl rfl rfl rfl ?_ rfl rfl (by kernel_rfl) (by kernel_rfl) (fun v W ok h => treeF_cs y v W ok h) (by kernel_rfl) ?_ (by kernel_rfl) ?_
 ·intro _ _
  go_simp
 ·refine ⟨?_, ?_, ?_, ?_, ?_, ?_, ?_, ?_, trivial⟩
  ·intro _ vs W ok hp hn ho hv b hs
   exact stepGet rfl rfl ((hs.old 5 rfl).trans rfl) (blk_below H11.out.2.1 hp) Try.underlying27 rfl (by kernel_rfl) ⟨Below.refl _ _, rfl⟩
  ·intro _ vs W ok hp hn ho hv b hs
   exact stepGet rfl rfl ((hs.old 8 rfl).trans rfl) (blk_below H11.out.1 hp) Try.underlying24 rfl (by kernel_rfl) ⟨Below.refl _ _, rfl⟩
  ·intro _ vs W ok hp hn ho hv b hs
   exact stepGet rfl rfl ((hs.old 6 rfl).trans rfl) (blk_below H11.out.2.2.1 hp) Try.underlying30 rfl (by kernel_rfl) ⟨Below.refl _ _, rfl⟩
  ·intro _ vs W ok hp hn ho hv b hs
   exact stepGet rfl rfl ((hs.old 8 rfl).trans rfl) (blk_below H11.out.1 hp) Try.underlying24 rfl (by kernel_rfl) ⟨Below.refl _ _, rfl⟩
  ·intro _ vs W ok hp hn ho hv b hs
   have h2 : vs 2 = .agg (mA m p) := hv 2 (by decide) (by decide)
   have t59 := (hs.tm 59 2 rfl).trans (congrArg some h2)
   have h3 : vs 3 = .agg #[.int .i64 ka, .int .i64 aa] := hv 3 (by decide) (by decide)
   have t60 := (hs.tm 60 3 rfl).trans (congrArg some h3)
   refine stepCall rfl Try.func12 (by kernel_rfl) rfl #[vs 2, vs 3] rfl (by simp [Act.eval, hs.tm 59 2 rfl, hs.tm 60 3 rfl]) (by rw [h2, h3]; exact getV_any m ka aa p W (MV.last _ _ _ _ hp H11.out.2.2.2.2.1)) ?_
   rintro e W' ⟨rfl, hb'⟩
   exact ⟨_, rfl, hb', congrArg (Value.int .i64) Y.out.1.symm⟩
  ·intro _ vs W ok hp hn ho hv b hs
   have h0 : vs 0 = .agg (eA x B d) := hv 0 (by decide) (by decide)
   have t57 := (hs.tm 57 0 rfl).trans (congrArg some h0)
   have h1 : vs 1 = .agg #[.int .i64 ka, .int .i64 aa] := hv 1 (by decide) (by decide)
   have t58 := (hs.tm 58 1 rfl).trans (congrArg some h1)
   have h4 : vs 4 = .int .i64 z := hv 4 (by decide) (by decide)
   have t61 := (hs.tm 61 4 rfl).trans (congrArg some h4)
   refine stepCall rfl Try.func11 (by kernel_rfl) rfl #[vs 0, vs 1, vs 4] rfl (by simp [Act.eval, hs.tm 57 0 rfl, hs.tm 58 1 rfl, hs.tm 61 4 rfl]) (by rw [h0, h1, h4]; exact wqPut_o x HX.out.1 ka aa z B d W ok hn (TV.last _ _ _ _ _ hp H11.out.2.2.2.1)) ?_
   rintro e W' ⟨z', A, c, hz, rfl, hT, hb'⟩
   obtain rfl : z' = y := hz.trans Y.out.2.symm
   exact ⟨_, rfl, hb', A, c, rfl, hT⟩
  ·intro h
   exact absurd h (by decide)
  ·intro h
   exact absurd h (by decide)
 intro vs g10 W4 hb hg hv hn5 bg10
 obtain ⟨C3, e3, h4, T3⟩ : treeF y (vs 5) W4 (fun k => k ≠ g10) := hv 5 (by decide)
 rw [h4] at bg10
 simp only [List.map_cons, List.map_nil, putL, Act.put, List.setIfInBounds_toArray, List.set_cons_zero, List.set_cons_succ, hn5, h4]
 clear hv hn5 h4
 have H13 := Aside0.mk (show TV W4 y C3 e3 ∧ Box W4 g10 27 (eA y C3 e3) ∧ Box W4 g8 24 #[.int .i64 ka, .int .i64 aa] ∧ Box W4 g5 27 (eA x B d) ∧ Box W4 g6 30 (mA m p) ∧ TV W4 x B d ∧ MV W4 m p ∧ Below w.heap.size w W4 ∧ TabW W4  from ⟨T3.all, bg10, blk_below H11.out.1 hb, blk_below H11.out.2.1 hb, blk_below H11.out.2.2.1 hb, TV.last _ _ _ _ _ hb H11.out.2.2.2.1, MV.last _ _ _ _ hb H11.out.2.2.2.2.1, Below.trans H11.out.2.2.2.2.2.1 (hb.mono H11.out.2.2.2.2.2.1.size), TabW.lasts _ _ hb H11.out.2.2.2.2.2.2⟩)
 clear H11 bg10 T3 hb hg
 obtain ⟨k, hk⟩ : ∃ k, k = manyV x := ⟨_, rfl⟩
 have K := Aside0.mk hk
 clear hk
 go_wp2_with fail
 refine weaveB_ (fun W => Below W4.heap.size W4 W) (Lasts.below W4) (Below.refl _ _) [(63, 0), (64, 1), (65, 2), (66, 3), (67, 4), (68, 5), (69, 6), (70, 7), (71, 8), (72, 9), (73, 10), (74, 11), (75, 12), (76, 13), (77, 14), (78, 15), (4, 16)] [fun v _ => v = .agg (eA y C3 e3), fun v _ => v = .bool true, fun v _ => v = .bool true, fun v _ => v = .agg (eA y C3 e3), fun v _ => v = .agg (mA m p), fun v _ => v = .int .i64 n, fun v _ => v = .int .i64 n, fun v _ => v = .bool true, fun v _ => v = .bool true, fun v _ => v = .bool true, fun v _ => v = .agg (eA y C3 e3), fun v _ => v = .int .i64 k, fun v _ => v = .agg (eA x B d), fun v _ => v = .int .i64 k, fun v _ => v = .bool true, fun v _ => v = .bool true, fun v _ => v = .bool true] rfl (by kernel_rfl) ⟨fun _ => Lasts.const _, fun _ => Lasts.const _, fun _ => Lasts.const _, fun _ => Lasts.const _, fun _ => Lasts.const _, fun _ => Lasts.const _, fun _ => Lasts.const _, fun _ => Lasts.const _, fun _ => Lasts.const _, fun _ => Lasts.const _, fun _ => Lasts.const _, fun _ => Lasts.const _, fun _ => Lasts.const _, fun _ => Lasts.const _, fun _ => Lasts.const _, fun _ => Lasts.const _, fun _ => Lasts.const _, trivial⟩ ?_ ?_
 ·refine ⟨?_, ?_, ?_, ?_, ?_, ?_, ?_, ?_, ?_, ?_, ?_, ?_, ?_, ?_, ?_, ?_, ?_, trivial⟩
  ·intro vs W hp hv b hs
   exact stepGet rfl rfl ((hs.old 10 rfl).trans rfl) (blk_below H13.out.2.1 hp) Try.underlying27 rfl (by kernel_rfl) ⟨Below.refl _ _, rfl⟩
  ·intro vs W hp hv b hs
   have h0 : vs 0 = .agg (eA y C3 e3) := hv 0 (by decide)
   have t63 := (hs.tm 63 0 rfl).trans (congrArg some h0)
   refine stepCall rfl Try.func13 (by kernel_rfl) rfl #[vs 0] rfl (by simp [Act.eval, hs.tm 63 0 rfl]) (by rw [h0]; exact implOk_any y C3 e3 W (TV.last _ _ _ _ _ hp H13.out.1)) ?_
   rintro e W' ⟨rfl, hb'⟩
   exact ⟨_, rfl, hb', congrArg Value.bool F1.out.1⟩
  ·intro vs W hp hv b hs
   have h1 : vs 1 = .bool true := hv 1 (by decide)
   have t64 := (hs.tm 64 1 rfl).trans (congrArg some h1)
   exact stepVal rfl (by go_simp) ⟨Below.refl _ _, rfl⟩
  ·intro vs W hp hv b hs
   have h2 : vs 2 = .bool true := hv 2 (by decide)
   exact stepGet (wanted_on rfl rfl ((hs.tm 65 2 rfl).trans (congrArg some h2))) rfl ((hs.old 10 rfl).trans rfl) (blk_below H13.out.2.1 hp) Try.underlying27 rfl (by kernel_rfl) ⟨Below.refl _ _, rfl⟩
  ·intro vs W hp hv b hs
   have h2 : vs 2 = .bool true := hv 2 (by decide)
   exact stepGet (wanted_on rfl rfl ((hs.tm 65 2 rfl).trans (congrArg some h2))) rfl ((hs.old 6 rfl).trans rfl) (blk_below H13.out.2.2.2.2.1 hp) Try.underlying30 rfl (by kernel_rfl) ⟨Below.refl _ _, rfl⟩
  ·intro vs W hp hv b hs
   have h2 : vs 2 = .bool true := hv 2 (by decide)
   have h3 : vs 3 = .agg (eA y C3 e3) := hv 3 (by decide)
   have t66 := (hs.tm 66 3 rfl).trans (congrArg some h3)
   have h4 : vs 4 = .agg (mA m p) := hv 4 (by decide)
   have t67 := (hs.tm 67 4 rfl).trans (congrArg some h4)
   refine stepCall (wanted_on rfl rfl ((hs.tm 65 2 rfl).trans (congrArg some h2))) Try.func6 (by kernel_rfl) rfl #[vs 3, vs 4] rfl (by simp [Act.eval, hs.tm 66 3 rfl, hs.tm 67 4 rfl]) (by rw [h3, h4]; exact implOf_any y C3 e3 m p W (TV.last _ _ _ _ _ hp H13.out.1) (MV.last _ _ _ _ hp H13.out.2.2.2.2.2.2.1)) ?_
   rintro e W' ⟨rfl, hb'⟩
   exact ⟨_, rfl, hb', congrArg (Value.int .i64) F1.out.2.1⟩
  ·intro vs W hp hv b hs
   have h2 : vs 2 = .bool true := hv 2 (by decide)
   have t9 : b.tmps[(9 : Nat)]? = some (.int .i64 n) := (hs.oldtm 9 rfl).trans rfl
   exact stepVal (wanted_on rfl rfl ((hs.tm 65 2 rfl).trans (congrArg some h2))) (by go_simp) ⟨Below.refl _ _, rfl⟩
  ·intro vs W hp hv b hs
   have h2 : vs 2 = .bool true := hv 2 (by decide)
   have h5 : vs 5 = .int .i64 n := hv 5 (by decide)
   have t68 := (hs.tm 68 5 rfl).trans (congrArg some h5)
   have h6 : vs 6 = .int .i64 n := hv 6 (by decide)
   have t69 := (hs.tm 69 6 rfl).trans (congrArg some h6)
   exact stepVal (wanted_on rfl rfl ((hs.tm 65 2 rfl).trans (congrArg some h2))) (by go_simp) ⟨Below.refl _ _, rfl⟩
  ·intro vs W hp hv b hs
   have h2 : vs 2 = .bool true := hv 2 (by decide)
   have t65 := (hs.tm 65 2 rfl).trans (congrArg some h2)
   have h7 : vs 7 = .bool true := hv 7 (by decide)
   have t70 := (hs.tm 70 7 rfl).trans (congrArg some h7)
   exact stepVal rfl (by go_simp) ⟨Below.refl _ _, rfl⟩
  ·intro vs W hp hv b hs
   have h8 : vs 8 = .bool true := hv 8 (by decide)
   have t71 := (hs.tm 71 8 rfl).trans (congrArg some h8)
   exact stepVal rfl (by go_simp) ⟨Below.refl _ _, rfl⟩
  ·intro vs W hp hv b hs
   have h9 : vs 9 = .bool true := hv 9 (by decide)
   exact stepGet (wanted_on rfl rfl ((hs.tm 72 9 rfl).trans (congrArg some h9))) rfl ((hs.old 10 rfl).trans rfl) (blk_below H13.out.2.1 hp) Try.underlying27 rfl (by kernel_rfl) ⟨Below.refl _ _, rfl⟩
  ·intro vs W hp hv b hs
   have h9 : vs 9 = .bool true := hv 9 (by decide)
   have h10 : vs 10 = .agg (eA y C3 e3) := hv 10 (by decide)
   have t73 := (hs.tm 73 10 rfl).trans (congrArg some h10)
   refine stepCall (wanted_on rfl rfl ((hs.tm 72 9 rfl).trans (congrArg some h9))) Try.func14 (by kernel_rfl) rfl #[vs 10] rfl (by simp [Act.eval, hs.tm 73 10 rfl]) (by rw [h10]; exact manyI_any y C3 e3 W (TabW.lasts _ _ hp H13.out.2.2.2.2.2.2.2.2) (TV.last _ _ _ _ _ hp H13.out.1)) ?_
   rintro e W' ⟨rfl, hb'⟩
   exact ⟨_, rfl, hb', congrArg (Value.int .i64) (F1.out.2.2.trans K.out.symm)⟩
  ·intro vs W hp hv b hs
   have h9 : vs 9 = .bool true := hv 9 (by decide)
   exact stepGet (wanted_on rfl rfl ((hs.tm 72 9 rfl).trans (congrArg some h9))) rfl ((hs.old 5 rfl).trans rfl) (blk_below H13.out.2.2.2.1 hp) Try.underlying27 rfl (by kernel_rfl) ⟨Below.refl _ _, rfl⟩
  ·intro vs W hp hv b hs
   have h9 : vs 9 = .bool true := hv 9 (by decide)
   have h12 : vs 12 = .agg (eA x B d) := hv 12 (by decide)
   have t75 := (hs.tm 75 12 rfl).trans (congrArg some h12)
   refine stepCall (wanted_on rfl rfl ((hs.tm 72 9 rfl).trans (congrArg some h9))) Try.func14 (by kernel_rfl) rfl #[vs 12] rfl (by simp [Act.eval, hs.tm 75 12 rfl]) (by rw [h12]; exact manyI_any x B d W (TabW.lasts _ _ hp H13.out.2.2.2.2.2.2.2.2) (TV.last _ _ _ _ _ hp H13.out.2.2.2.2.2.1)) ?_
   rintro e W' ⟨rfl, hb'⟩
   exact ⟨_, rfl, hb', congrArg (Value.int .i64) K.out.symm⟩
  ·intro vs W hp hv b hs
   have h9 : vs 9 = .bool true := hv 9 (by decide)
   have h11 : vs 11 = .int .i64 k := hv 11 (by decide)
   have t74 := (hs.tm 74 11 rfl).trans (congrArg some h11)
   have h13 : vs 13 = .int .i64 k := hv 13 (by decide)
   have t76 := (hs.tm 76 13 rfl).trans (congrArg some h13)
   exact stepVal (wanted_on rfl rfl ((hs.tm 72 9 rfl).trans (congrArg some h9))) (by go_simp) ⟨Below.refl _ _, rfl⟩
  ·intro vs W hp hv b hs
   have h9 : vs 9 = .bool true := hv 9 (by decide)
   have t72 := (hs.tm 72 9 rfl).trans (congrArg some h9)
   have h14 : vs 14 = .bool true := hv 14 (by decide)
   have t77 := (hs.tm 77 14 rfl).trans (congrArg some h14)
   exact stepVal rfl (by go_simp) ⟨Below.refl _ _, rfl⟩
  ·intro vs W hp hv b hs
   have h15 : vs 15 = .bool true := hv 15 (by decide)
   have t78 := (hs.tm 78 15 rfl).trans (congrArg some h15)
   exact stepVal rfl (by go_simp) ⟨Below.refl _ _, rfl⟩
 intro vs WB hb hv
 have hres : vs 16 = .bool true := hv 16 (by decide)
 simp only [List.map_cons, List.map_nil, putL, Act.put, List.setIfInBounds_toArray, List.set_cons_zero, List.set_cons_succ, hres]
 clear hv hres
 have H14 := Aside0.mk (show TV WB y C3 e3 ∧ Box WB g10 27 (eA y C3 e3) ∧ Box WB g8 24 #[.int .i64 ka, .int .i64 aa] ∧ Box WB g5 27 (eA x B d) ∧ Box WB g6 30 (mA m p) ∧ TV WB x B d ∧ MV WB m p ∧ Below w.heap.size w WB ∧ TabW WB  from ⟨TV.last _ _ _ _ _ hb H13.out.1, blk_below H13.out.2.1 hb, blk_below H13.out.2.2.1 hb, blk_below H13.out.2.2.2.1 hb, blk_below H13.out.2.2.2.2.1 hb, TV.last _ _ _ _ _ hb H13.out.2.2.2.2.2.1, MV.last _ _ _ _ hb H13.out.2.2.2.2.2.2.1, Below.trans H13.out.2.2.2.2.2.2.2.1 (hb.mono H13.out.2.2.2.2.2.2.2.1.size), TabW.lasts _ _ hb H13.out.2.2.2.2.2.2.2.2⟩)
 clear H13 hb
 go_wp2
 go_ret
 exact ⟨rfl, H14.out.2.2.2.2.2.2.2.1⟩
end Go.Proofs.Ytacbbpbopmdpeaa.B
