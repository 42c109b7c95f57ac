/- The law FnExactChartNew. -/
import Derived.Test.YtlmchfcfkfegaaaChNewPure
import Derived.Test.YtlmchfcfkfegaaaShapeCh
import Derived.Test.YtlmchfcfkfegaaaOpensCh
import Derived.Deep.RegionHeld3
namespace Go.Proofs.Ytlmchfcfkfegaaa.B
open Go.RowKit Go.Shelf Go.Proofs.YtlmchfcfkfegaaaW.PrintWords Go.Proofs.YtlmchfcfkfegaaaW.PrintLast Go.Proofs.YtlmchfcfkfegaaaW.PrintMore
set_option linter.unusedVariables false

/-- Marks that are read. -/
structure MkR (w : World) (A0 : Option Addr) (c0 : Nat) (A1 : Option Addr) (c1 : Nat) (r : List Bool × List Bool) : Prop where
 m0 : r.1.length ≤ c0
 g0 : Kd.C Kd.bool w A0 r.1.length r.1
 m1 : r.2.length ≤ c1
 g1 : Kd.C Kd.bool w A1 r.2.length r.2
theorem MkR.below {w w' : World} {A0 : Option Addr} {c0 : Nat} {A1 : Option Addr} {c1 : Nat} {r : List Bool × List Bool} (h : MkR w A0 c0 A1 c1 r) (hb : Below w.heap.size w w') : MkR w' A0 c0 A1 c1 r := ⟨h.m0, Kd.C_below h.g0 hb, h.m1, Kd.C_below h.g1 hb⟩
/-- Marks of one's own, made from base on. -/
structure MkO (w : World) (base : Nat) (u0 u1 : Value) (r : List Bool × List Bool) : Prop where
 r0 : Kd.R Kd.bool 4 w base (fun k => u0.ownBlock = some k) u0 r.1
 r1 : Kd.R Kd.bool 4 w base (fun k => u1.ownBlock = some k) u1 r.2
 ne : ∀ k, u0.ownBlock = some k → ¬ u1.ownBlock = some k
theorem MkO.of {w : World} {base : Nat} {u0 u1 : Value} {r : List Bool × List Bool} {P : Nat → Prop} (h0 : Kd.R Kd.bool 4 w base (fun k => nB k u1) u0 r.1) (h1 : Kd.R Kd.bool 4 w base P u1 r.2) : MkO w base u0 u1 r :=
 ⟨⟨fun k hk => hk, h0.2⟩, ⟨fun k hk => hk, h1.2⟩, fun k hk he => h0.1 k hk he.symm⟩
theorem MkO.below {w w' : World} {base : Nat} {u0 u1 : Value} {r : List Bool × List Bool} (h : MkO w base u0 u1 r) (hb : Below w.heap.size w w') : MkO w' base u0 u1 r := ⟨Kd.R_below h.r0 hb, Kd.R_below h.r1 hb, h.ne⟩
theorem MkO.ed {F : Nat → Prop} {w w' : World} {base : Nat} {u0 u1 : Value} {r : List Bool × List Bool} (h : MkO w base u0 u1 r) (E : Ed F w w') (hF : ∀ b, F b → b < base) : MkO w' base u0 u1 r := ⟨R_ed h.r0 E hF, R_ed h.r1 E hF, h.ne⟩
theorem MkO.reads {w : World} {base : Nat} {G0 : Option Addr} {n0 y0 : Nat} {G1 : Option Addr} {n1 y1 : Nat} {r : List Bool × List Bool} (h : MkO w base (.slice G0 n0 y0) (.slice G1 n1 y1) r) : n0 = r.1.length ∧ n1 = r.2.length ∧ MkR w G0 y0 G1 y1 r := by
 obtain ⟨A, c, he, hl, hC⟩ := Kd.R_reads h.r0
 obtain ⟨A', c', he', hl', hC'⟩ := Kd.R_reads h.r1
 injection he with e1 e2 e3
 injection he' with e1' e2' e3'
 subst e1 e3 e1' e3'
 exact ⟨e2, e2', ⟨hl, hC, hl', hC'⟩⟩
theorem toCh_any (x : S25) (A1 : Option Addr) (c1 : Nat) (A2 : Option Addr) (c2 : Nat) (L : List ITr) (hL : L = x.f1.map trTo) (M : List IAc) (hM : M = x.f2.map acTo) (W : World) (hn : chN x.f1 x.f2 ≤ 1048576) (g1 : k151.C W A1 x.f1.length x.f1) (l1 : x.f1.length ≤ c1) (g2 : k155.C W A2 x.f2.length x.f2) (l2 : x.f2.length ≤ c2) :
  Calls Try.prog 10 #[.agg #[.int .i64 x.f0, .slice A1 x.f1.length c1, .slice A2 x.f2.length c2]] W fun e W' => ∃ B1 d1 B2 d2, e = .returned (.agg #[.int .i64 x.f0, .slice B1 L.length d1, .slice B2 M.length d2]) ∧ Kd.R k52 52 W' W.heap.size (fun _ => True) (.slice B1 L.length d1) L ∧ Kd.R k92 92 W' W.heap.size (fun _ => True) (.slice B2 M.length d2) M ∧ Below W.heap.size W W' := by
 subst hL hM
 obtain ⟨K, hK⟩ := toCh x.f0 x.f1 x.f2 hn
 refine (laws_toChart.calls K x.f0 A1 c1 x.f1 A2 c2 x.f2 x.f0 (x.f1.map trTo) (x.f2.map acTo) W g1 l1 g2 l2 (hK K (Nat.le_refl _))).mono ?_
 rintro e W' ⟨v1, v2, rfl, h1, h2, hb⟩
 obtain ⟨B1, d1, rfl⟩ := Kd.R_slice h1
 obtain ⟨B2, d2, rfl⟩ := Kd.R_slice h2
 exact ⟨B1, d1, B2, d2, rfl, h1, h2, hb⟩
theorem R_rd {α : Type} {d : Kd α} {e : Nat} {w : World} {base : Nat} {ok : Nat → Prop} {A : Option Addr} {n c : Nat} {xs : List α} (h : d.R e w base ok (.slice A n c) xs) : xs.length ≤ c ∧ d.C w A xs.length xs := by
 obtain ⟨A', c', he, hl, hC⟩ := Kd.R_reads h
 injection he with e1 e2 e3
 subst e1 e3
 exact ⟨hl, hC⟩
theorem MkO.down {w : World} {base base' : Nat} {u0 u1 : Value} {r : List Bool × List Bool} (h : MkO w base u0 u1 r) (hb : base' ≤ base) : MkO w base' u0 u1 r := ⟨Kd.R_lower h.r0 hb, Kd.R_lower h.r1 hb, h.ne⟩
theorem eqCh_any (s : Int) (L : List ITr) (M : List IAc) (ho : chOk L M) (B1 : Option Addr) (d1 : Nat) (B2 : Option Addr) (d2 : Nat) (D1 : Option Addr) (f1 : Nat) (D2 : Option Addr) (f2 : Nat) (W : World) (g1 : L.length ≤ d1 ∧ k52.C W B1 L.length L) (g2 : M.length ≤ d2 ∧ k92.C W B2 M.length M) (h1 : L.length ≤ f1 ∧ k52.C W D1 L.length L) (h2 : M.length ≤ f2 ∧ k92.C W D2 M.length M) :
  Calls Try.prog 12 #[.agg #[.int .i64 s, .slice B1 L.length d1, .slice B2 M.length d2], .agg #[.int .i64 s, .slice D1 L.length f1, .slice D2 M.length f2]] W fun e W' => e = .returned (.bool true) ∧ Below W.heap.size W W' := by
 obtain ⟨K, hK⟩ := eqCh s L M ho
 exact laws_eqChart.calls K s B1 d1 L B2 d2 M s D1 f1 L D2 f2 M true W g1.2 g1.1 g2.2 g2.1 h1.2 h1.1 h2.2 h2.1 (hK K (Nat.le_refl _))
theorem newOf_any (s : Int) (L : List ITr) (M : List IAc) (ho : chOk L M) (B1 : Option Addr) (d1 : Nat) (B2 : Option Addr) (d2 : Nat) (W : World) (g1 : k52.C W B1 L.length L) (l1 : L.length ≤ d1) (g2 : k92.C W B2 M.length M) (l2 : M.length ≤ d2) :
  Calls Try.prog 15 #[.agg #[.int .i64 s, .slice B1 L.length d1, .slice B2 M.length d2]] W fun e W' => ∃ U0 y0 U1 y1, e = .returned (.agg #[.slice U0 (newR s (chOkL s L M)).1.length y0, .slice U1 (newR s (chOkL s L M)).2.length y1]) ∧ MkR W' U0 y0 U1 y1 (newR s (chOkL s L M)) ∧ Below W.heap.size W W' := by
 obtain ⟨K, hK⟩ := specNew_is s L M ho
 refine (spec_ChartNew.calls K s B1 d1 L B2 d2 M _ _ W g1 l1 g2 l2 (hK K (Nat.le_refl _))).mono ?_
 rintro e W' ⟨v0, v1, rfl, h0, h1, hb⟩
 obtain ⟨U0, y0, rfl⟩ := Kd.R_slice h0
 obtain ⟨U1, y1, rfl⟩ := Kd.R_slice h1
 exact ⟨U0, y0, U1, y1, rfl, ⟨(R_rd h0).1, (R_rd h0).2, (R_rd h1).1, (R_rd h1).2⟩, hb⟩
theorem newIs_any (s : Int) (L : List ITr) (M : List IAc) (B1 : Option Addr) (d1 : Nat) (B2 : Option Addr) (d2 : Nat) (W : World) (g1 : k52.C W B1 L.length L) (l1 : L.length ≤ d1) (g2 : k92.C W B2 M.length M) (l2 : M.length ≤ d2) :
  Calls Try.prog 16 #[.agg #[.int .i64 s, .slice B1 L.length d1, .slice B2 M.length d2]] W fun e W' => ∃ U0 y0 U1 y1, e = .returned (.agg #[.slice U0 (newR s (chOkL s L M)).1.length y0, .slice U1 (newR s (chOkL s L M)).2.length y1]) ∧ MkO W' W.heap.size (.slice U0 (newR s (chOkL s L M)).1.length y0) (.slice U1 (newR s (chOkL s L M)).2.length y1) (newR s (chOkL s L M)) ∧ Below W.heap.size W W' := by
 refine (impl_ChartNew.calls s B1 d1 L B2 d2 M _ _ W g1 l1 g2 l2 (implNew_is s L M)).mono ?_
 rintro e W' ⟨v0, v1, rfl, h0, h1, hb⟩
 obtain ⟨U0, y0, rfl⟩ := Kd.R_slice h0
 obtain ⟨U1, y1, rfl⟩ := Kd.R_slice h1
 exact ⟨U0, y0, U1, y1, rfl, MkO.of h0 h1, hb⟩
theorem eqMk_any (r : List Bool × List Bool) (h0 : r.1.length ≤ 6) (h1 : r.2.length ≤ 6) {A0 : Option Addr} {c0 : Nat} {A1 : Option Addr} {c1 : Nat} {B0 : Option Addr} {d0 : Nat} {B1 : Option Addr} {d1 : Nat} (W : World) (h : MkR W A0 c0 A1 c1 r) (h' : MkR W B0 d0 B1 d1 r) :
  Calls Try.prog 17 #[.agg #[.slice A0 r.1.length c0, .slice A1 r.2.length c1], .agg #[.slice B0 r.1.length d0, .slice B1 r.2.length d1]] W fun e W' => e = .returned (.bool true) ∧ Below W.heap.size W W' := by
 obtain ⟨K, hK⟩ := eqMks r.1 r.2 h0 h1
 exact laws_eqMarks.calls K A0 c0 r.1 A1 c1 r.2 B0 d0 r.1 B1 d1 r.2 true W h.g0 h.m0 h.g1 h.m1 h'.g0 h'.m0 h'.g1 h'.m1 (hK K (Nat.le_refl _))
/-- What the marks of marks are. -/
def mkR (r : List Bool × List Bool) : List Bool × List Bool := (markedB 1 r.1.length, markedB (1 + r.1.length) r.2.length)
def mkV (r : List Bool × List Bool) : Int := 1 + (r.1.length : Int) + r.2.length
theorem markMk_any (r : List Bool × List Bool) (h0 : r.1.length ≤ 6) (h1 : r.2.length ≤ 6) (w0 : World) (u0 u1 : Value) (W : World) (hB : Below w0.heap.size w0 W) (h : MkO W w0.heap.size u0 u1 r) :
  Calls Try.prog 19 #[.agg #[u0, u1], .int .i64 1] W fun e W' => e = .returned (.int .i64 (mkV r)) ∧ MkO W' w0.heap.size u0 u1 (mkR r) ∧ Below w0.heap.size w0 W' ∧ (∀ i, i < W.heap.size → some i ≠ u0.ownBlock → some i ≠ u1.ownBlock → W'.heap[i]? = W.heap[i]?) := by
 obtain ⟨K, hK⟩ := markMarks_is r.1 r.2 h0 h1
 refine (laws_markMarks.calls K _ u0 r.1 _ u1 r.2 1 (mkV r) (mkR r).1 (mkR r).2 w0 W hB h.r0 h.ne h.r1 (fun k hk he => h.ne k he hk) (hK K (Nat.le_refl _))).mono ?_
 rintro e W' ⟨rfl, q0, q1, hb, hk⟩
 exact ⟨rfl, ⟨⟨fun k hk => hk, q0.2⟩, ⟨fun k hk => hk, q1.2⟩, h.ne⟩, hb, fun i hi n0 n1 => hk.2 i hi (fun hh => hh.elim (fun hh => n0 hh.symm) (fun hh => n1 hh.symm))⟩
theorem heldMk_any (r : List Bool × List Bool) (h0 : r.1.length ≤ 6) (h1 : r.2.length ≤ 6) {A0 : Option Addr} {c0 : Nat} {A1 : Option Addr} {c1 : Nat} (W : World) (h : MkR W A0 c0 A1 c1 (mkR r)) :
  Calls Try.prog 20 #[.agg #[.slice A0 r.1.length c0, .slice A1 r.2.length c1], .int .i64 1] W fun e W' => e = .returned (.int .i64 (mkV r)) ∧ Below W.heap.size W W' := by
 obtain ⟨K, hK⟩ := heldMarks_is r.1.length r.2.length h0 h1
 have := laws_heldMarks.calls K A0 c0 (mkR r).1 A1 c1 (mkR r).2 1 (mkV r) W h.g0 h.m0 h.g1 h.m1 (hK K (Nat.le_refl _))
 rw [show (mkR r).1.length = r.1.length from markedB_len _ _, show (mkR r).2.length = r.2.length from markedB_len _ _] at this
 exact this
set_option maxRecDepth 100000 in
set_option maxHeartbeats 8000000 in
theorem law_ChartNew (x : S25) (A1 : Option Addr) (c1 : Nat) (A2 : Option Addr) (c2 : Nat) (w : World) (g1 : k151.C w A1 x.f1.length x.f1) (l1 : x.f1.length ≤ c1) (g2 : k155.C w A2 x.f2.length x.f2) (l2 : x.f2.length ≤ c2) :
  Calls Try.prog 5 #[.agg #[.int .i64 x.f0, .slice A1 x.f1.length c1, .slice A2 x.f2.length c2]] w fun e w' => e = .returned (.bool true) ∧ Below w.heap.size w w' := by
 obtain ⟨p1, p2⟩ := trsOk_of g1
 obtain ⟨Ks, hKs⟩ := szCh x.f0 x.f1 x.f2 p1 p2 (acsOk_of g2) 1048576 ⟨by omega, by omega⟩
 have HSZ := Aside0.mk (fun (W : World) (hW : Below w.heap.size w W) => laws_szChart.calls Ks x.f0 A1 c1 x.f1 A2 c2 x.f2 1048576 _ W (Kd.C_below g1 hW) l1 (Kd.C_below g2 hW) l2 (hKs Ks (Nat.le_refl _)))
 obtain ⟨L, hL⟩ : ∃ L, L = x.f1.map trTo := ⟨_, rfl⟩
 obtain ⟨M, hM⟩ : ∃ M, M = x.f2.map acTo := ⟨_, rfl⟩
 have HTO := Aside0.mk (fun (hn : chN x.f1 x.f2 ≤ 1048576) (W : World) (hW : Below w.heap.size w W) => toCh_any x A1 c1 A2 c2 L hL M hM W hn (Kd.C_below g1 hW) l1 (Kd.C_below g2 hW) l2)
 clear g1 l1 g2 l2 p1 p2 hKs
 go_enter Try.func5, Try.ntmps5
 go_wp2_with fail
 have k0 := heap_alloc_new w (.cells #[.int .i64 x.f0, .slice A1 x.f1.length c1, .slice A2 x.f2.length c2] 25)
 have hB0 : Below w.heap.size w (w.alloc (.cells #[.int .i64 x.f0, .slice A1 x.f1.length c1, .slice A2 x.f2.length c2] 25)) := (Below.refl _ _).alloc (Nat.le_refl _) _
 generalize w.alloc (.cells #[.int .i64 x.f0, .slice A1 x.f1.length c1, .slice A2 x.f2.length c2] 25) = w0 at k0 hB0 ⊢
 refine (HSZ.out w0 hB0).mono ?_
 rintro e w1 ⟨rfl, hb1⟩
 have hB1 : Below w.heap.size w w1 := hB0.trans (hb1.mono hB0.size)
 have k1 := (hb1.block _ (blk_lt k0)).trans k0
 clear hb1 k0 hB0 HSZ
 obtain ⟨r, hr⟩ : ∃ r, r = szV (chN x.f1 x.f2) 1048576 := ⟨_, rfl⟩
 rw [← hr]
 by_cases hn : r < 0
 ·have b1 : decide (r < 0) = true := decide_eq_true hn
  have HB := Aside0.mk hB1
  clear hB1 k1 hr
  go_wp2
  go_ret
  exact ⟨rfl, HB.out⟩
 have b1 : decide (r < 0) = false := decide_eq_false hn
 have hcnt : chN x.f1 x.f2 ≤ 1048576 := by
  have := (szV_left (n := chN x.f1 x.f2) (m := 1048576) ⟨by omega, by omega⟩ (by rw [← hr]; exact hn)).2.1
  omega
 replace HTO := Aside0.mk (HTO.out hcnt)
 have HCH := Aside0.mk (show chN x.f1 x.f2 ≤ 1048576 ∧ chOk L M from ⟨hcnt, by rw [hL, hM]; exact chTo_ok x.f1 x.f2 hcnt⟩)
 have HLM := Aside0.mk (And.intro hL hM)
 clear hL hM
 have c0 : w1.cell? ⟨w.heap.size, 0, none⟩ = some (.int .i64 x.f0) := (blk_cell k1 0).trans rfl
 have c1x : w1.cell? ⟨w.heap.size, 1, none⟩ = some (.slice A1 x.f1.length c1) := (blk_cell k1 1).trans rfl
 have c2x : w1.cell? ⟨w.heap.size, 2, none⟩ = some (.slice A2 x.f2.length c2) := (blk_cell k1 2).trans rfl
 have HB1 := Aside0.mk (And.intro hB1 k1)
 clear hB1 k1 hcnt hr
 go_wp2_with fail
 refine (HTO.out w1 HB1.out.1).mono ?_
 rintro e w2 ⟨B1, d1, B2, d2, rfl, hR1, hR2, hb2⟩
 have HB2 := Aside0.mk (And.intro (HB1.out.1.trans (hb2.mono HB1.out.1.size)) ((hb2.block _ (blk_lt HB1.out.2)).trans HB1.out.2))
 have HR := Aside0.mk (And.intro (R_rd hR1) (R_rd hR2))
 clear hR1 hR2 hb2 HB1 c0 c1x c2x
 go_wp2_with fail
 refine (newOf_any x.f0 L M HCH.out.2 B1 d1 B2 d2 w2 HR.out.1.2 HR.out.1.1 HR.out.2.2 HR.out.2.1).mono ?_
 clear HR
 obtain ⟨rr, hrr⟩ : ∃ rr, rr = newR x.f0 (chOkL x.f0 L M) := ⟨_, rfl⟩
 have HLEN := Aside0.mk (newR_len x.f0 L M)
 have HNEW := Aside0.mk (newIs_any x.f0 L M)
 rw [← hrr] at HLEN HNEW ⊢
 clear hrr
 rintro e w3 ⟨U0, y0, U1, y1, rfl, hM, hb3⟩
 have k3 := (hb3.block _ (blk_lt HB2.out.2)).trans HB2.out.2
 have hB3 : Below w.heap.size w w3 := HB2.out.1.trans (hb3.mono HB2.out.1.size)
 clear hb3 HB2
 have c0 : w3.cell? ⟨w.heap.size, 0, none⟩ = some (.int .i64 x.f0) := (blk_cell k3 0).trans rfl
 have c1x : w3.cell? ⟨w.heap.size, 1, none⟩ = some (.slice A1 x.f1.length c1) := (blk_cell k3 1).trans rfl
 have c2x : w3.cell? ⟨w.heap.size, 2, none⟩ = some (.slice A2 x.f2.length c2) := (blk_cell k3 2).trans rfl
 go_upto_region 6 with (fail)
 have j4 := heap_alloc_new w3 (.cells #[.slice U0 rr.1.length y0, .slice U1 rr.2.length y1] 38)
 have hb4 : Below w3.heap.size w3 (w3.alloc (.cells #[.slice U0 rr.1.length y0, .slice U1 rr.2.length y1] 38)) := (Below.refl _ _).alloc (Nat.le_refl _) _
 have hs4 : (w3.alloc (.cells #[.slice U0 rr.1.length y0, .slice U1 rr.2.length y1] 38)).heap.size = w3.heap.size + 1 := by simp
 generalize w3.alloc (.cells #[.slice U0 rr.1.length y0, .slice U1 rr.2.length y1] 38) = w4 at j4 hb4 hs4 ⊢
 have H4 := Aside0.mk (And.intro (hB3.trans (hb4.mono hB3.size)) (And.intro ((hb4.block _ (blk_lt k3)).trans k3) (And.intro j4 (hM.below hb4))))
 clear hb4 k3 hB3 j4 hM c0 c1x c2x
 have k4 := H4.out.2.1
 have c0 : w4.cell? ⟨w.heap.size, 0, none⟩ = some (.int .i64 x.f0) := (blk_cell k4 0).trans rfl
 have c1x : w4.cell? ⟨w.heap.size, 1, none⟩ = some (.slice A1 x.f1.length c1) := (blk_cell k4 1).trans rfl
 have c2x : w4.cell? ⟨w.heap.size, 2, none⟩ = some (.slice A2 x.f2.length c2) := (blk_cell k4 2).trans rfl
 clear k4
 go_wp2_with fail
 refine (HTO.out w4 H4.out.1).mono ?_
 rintro e w5 ⟨X1, f1, X2, f2, rfl, hR1, hR2, hb5⟩
 have HS := Aside0.mk (And.intro (shTr_of (F := fun b => w4.heap.size ≤ b ∧ b < w5.heap.size) (fun b h1 h2 => ⟨h1, h2⟩) _ _ _ hR1) (shAc_of (F := fun b => w4.heap.size ≤ b ∧ b < w5.heap.size) (fun b h1 h2 => ⟨h1, h2⟩) _ _ _ hR2))
 have HR := Aside0.mk (And.intro (R_rd hR1) (And.intro (R_rd hR2) hb5))
 clear hR1 hR2 hb5 c0 c1x c2x
 go_upto_region 7 with (fail)
 have j5 := heap_alloc_new w5 (.cells #[.int .i64 x.f0, .slice X1 L.length f1, .slice X2 M.length f2] 31)
 have hb6 : Below w5.heap.size w5 (w5.alloc (.cells #[.int .i64 x.f0, .slice X1 L.length f1, .slice X2 M.length f2] 31)) := (Below.refl _ _).alloc (Nat.le_refl _) _
 generalize w5.alloc (.cells #[.int .i64 x.f0, .slice X1 L.length f1, .slice X2 M.length f2] 31) = w6 at j5 hb6 ⊢
 have H6 := Aside0.mk (show Below w4.heap.size w4 w6 ∧ w6.heap[w5.heap.size]? = some (.cells #[.int .i64 x.f0, .slice X1 L.length f1, .slice X2 M.length f2] 31 (0, 0)) ∧ Below w5.heap.size w5 w6 from ⟨HR.out.2.2.trans (hb6.mono HR.out.2.2.size), j5, hb6⟩)
 have p0 : w6.cell? ⟨w5.heap.size, 0, none⟩ = some (.int .i64 x.f0) := (blk_cell j5 0).trans rfl
 have p1 : w6.cell? ⟨w5.heap.size, 1, none⟩ = some (.slice X1 L.length f1) := (blk_cell j5 1).trans rfl
 have p2 : w6.cell? ⟨w5.heap.size, 2, none⟩ = some (.slice X2 M.length f2) := (blk_cell j5 2).trans rfl
 clear j5 hb6
 go_wp2_with fail
 refine (HNEW.out X1 f1 X2 f2 w6 (Kd.C_below HR.out.1.2 H6.out.2.2) HR.out.1.1 (Kd.C_below HR.out.2.1.2 H6.out.2.2) HR.out.2.1.1).mono ?_
 rintro e w7 ⟨G0, t0, G1, t1, rfl, hO, hb7⟩
 have H7 := Aside0.mk (And.intro (H6.out.1.trans (hb7.mono H6.out.1.size)) (And.intro ((hb7.block _ (blk_lt H6.out.2.1)).trans H6.out.2.1) (And.intro (H6.out.2.2.trans (hb7.mono H6.out.2.2.size)) (And.intro hO hb7.size))))
 clear hO hb7 p0 p1 p2
 go_upto_region 8 with (fail)
 have j6 := heap_alloc_new w7 (.cells #[.slice G0 rr.1.length t0, .slice G1 rr.2.length t1] 38)
 have hb8 : Below w7.heap.size w7 (w7.alloc (.cells #[.slice G0 rr.1.length t0, .slice G1 rr.2.length t1] 38)) := (Below.refl _ _).alloc (Nat.le_refl _) _
 generalize w7.alloc (.cells #[.slice G0 rr.1.length t0, .slice G1 rr.2.length t1] 38) = w8 at j6 hb8 ⊢
 have hlt57 : w5.heap.size < w6.heap.size ∧ w6.heap.size ≤ w7.heap.size := ⟨blk_lt H6.out.2.1, H7.out.2.2.2.2⟩
 have hb48 : Below w4.heap.size w4 w8 := H7.out.1.trans (hb8.mono H7.out.1.size)
 have H8 := Aside0.mk (show Below w4.heap.size w4 w8 ∧ w8.heap[w5.heap.size]? = some (.cells #[.int .i64 x.f0, .slice X1 L.length f1, .slice X2 M.length f2] 31 (0, 0)) ∧ Below w5.heap.size w5 w8 ∧ MkO w8 w6.heap.size (.slice G0 rr.1.length t0) (.slice G1 rr.2.length t1) rr ∧ w8.heap[w7.heap.size]? = some (.cells #[.slice G0 rr.1.length t0, .slice G1 rr.2.length t1] 38 (0, 0)) from
  ⟨hb48, (hb8.block _ (blk_lt H7.out.2.1)).trans H7.out.2.1, H7.out.2.2.1.trans (hb8.mono H7.out.2.2.1.size), H7.out.2.2.2.1.below hb8, j6⟩)
 have HLT := Aside0.mk hlt57
 clear hlt57 hb8
 have k8 := (hb48.block _ (blk_lt H4.out.2.2.1)).trans H4.out.2.2.1
 have o0 : w8.cell? ⟨w7.heap.size, 0, none⟩ = some (.slice G0 rr.1.length t0) := (blk_cell j6 0).trans rfl
 have o1 : w8.cell? ⟨w7.heap.size, 1, none⟩ = some (.slice G1 rr.2.length t1) := (blk_cell j6 1).trans rfl
 have n0 : w8.cell? ⟨w3.heap.size, 0, none⟩ = some (.slice U0 rr.1.length y0) := (blk_cell k8 0).trans rfl
 have n1 : w8.cell? ⟨w3.heap.size, 1, none⟩ = some (.slice U1 rr.2.length y1) := (blk_cell k8 1).trans rfl
 clear j6 k8 hb48
 go_wp2_with fail
 refine (eqMk_any rr HLEN.out.1 HLEN.out.2 w8 H8.out.2.2.2.1.reads.2.2 (H4.out.2.2.2.below H8.out.1)).mono ?_
 rintro e w9 ⟨rfl, hb9⟩
 have H9 := Aside0.mk (show Below w4.heap.size w4 w9 ∧ w9.heap[w5.heap.size]? = some (.cells #[.int .i64 x.f0, .slice X1 L.length f1, .slice X2 M.length f2] 31 (0, 0)) ∧ Below w5.heap.size w5 w9 ∧ MkO w9 w6.heap.size (.slice G0 rr.1.length t0) (.slice G1 rr.2.length t1) rr ∧ w9.heap[w7.heap.size]? = some (.cells #[.slice G0 rr.1.length t0, .slice G1 rr.2.length t1] 38 (0, 0)) from
  ⟨H8.out.1.trans (hb9.mono H8.out.1.size), (hb9.block _ (blk_lt H8.out.2.1)).trans H8.out.2.1, H8.out.2.2.1.trans (hb9.mono H8.out.2.2.1.size), H8.out.2.2.2.1.below hb9, (hb9.block _ (blk_lt H8.out.2.2.2.2)).trans H8.out.2.2.2.2⟩)
 clear hb9 o0 o1 n0 n1
 go_upto_region 10 with (fail)
 go_cut [31] from 27 to 31 (fun v wx => v = .bool false ∧ Aside0 (Below w9.heap.size w9 wx))
 case first =>
  have k9 := (H9.out.1.block _ (blk_lt H4.out.2.1)).trans H4.out.2.1
  have j9 := H9.out.2.1
  have c0 : w9.cell? ⟨w.heap.size, 0, none⟩ = some (.int .i64 x.f0) := (blk_cell k9 0).trans rfl
  have c1x : w9.cell? ⟨w.heap.size, 1, none⟩ = some (.slice A1 x.f1.length c1) := (blk_cell k9 1).trans rfl
  have c2x : w9.cell? ⟨w.heap.size, 2, none⟩ = some (.slice A2 x.f2.length c2) := (blk_cell k9 2).trans rfl
  have p0 : w9.cell? ⟨w5.heap.size, 0, none⟩ = some (.int .i64 x.f0) := (blk_cell j9 0).trans rfl
  have p1 : w9.cell? ⟨w5.heap.size, 1, none⟩ = some (.slice X1 L.length f1) := (blk_cell j9 1).trans rfl
  have p2 : w9.cell? ⟨w5.heap.size, 2, none⟩ = some (.slice X2 M.length f2) := (blk_cell j9 2).trans rfl
  have hold : ∀ W, Below w9.heap.size w9 W → W.cell? ⟨w.heap.size, 0, none⟩ = some (.int .i64 x.f0) ∧ W.cell? ⟨w.heap.size, 1, none⟩ = some (.slice A1 x.f1.length c1) ∧ W.cell? ⟨w.heap.size, 2, none⟩ = some (.slice A2 x.f2.length c2) ∧ W.cell? ⟨w5.heap.size, 0, none⟩ = some (.int .i64 x.f0) ∧ W.cell? ⟨w5.heap.size, 1, none⟩ = some (.slice X1 L.length f1) ∧ W.cell? ⟨w5.heap.size, 2, none⟩ = some (.slice X2 M.length f2) ∧ Below w9.heap.size w9 W := fun W h =>
   ⟨(h.cell (World.block_lt_of_cell? w9 _ c0)).trans c0, (h.cell (World.block_lt_of_cell? w9 _ c1x)).trans c1x, (h.cell (World.block_lt_of_cell? w9 _ c2x)).trans c2x, (h.cell (World.block_lt_of_cell? w9 _ p0)).trans p0, (h.cell (World.block_lt_of_cell? w9 _ p1)).trans p1, (h.cell (World.block_lt_of_cell? w9 _ p2)).trans p2, h⟩
  have HH := Aside0.mk hold
  have HB9 := Aside0.mk (H4.out.1.trans (H9.out.1.mono H4.out.1.size))
  clear hold c0 c1x c2x p0 p1 p2 k9 j9
  go_region_held3 (fun W => W.cell? ⟨w.heap.size, 0, none⟩ = some (.int .i64 x.f0) ∧ W.cell? ⟨w.heap.size, 1, none⟩ = some (.slice A1 x.f1.length c1) ∧ W.cell? ⟨w.heap.size, 2, none⟩ = some (.slice A2 x.f2.length c2) ∧ W.cell? ⟨w5.heap.size, 0, none⟩ = some (.int .i64 x.f0) ∧ W.cell? ⟨w5.heap.size, 1, none⟩ = some (.slice X1 L.length f1) ∧ W.cell? ⟨w5.heap.size, 2, none⟩ = some (.slice X2 M.length f2) ∧ Below w9.heap.size w9 W) (first | exact HH.out _ (below_drew (Below.refl _ _)) | exact HH.out _ HB10.out.2 | exact HH.out _ HB11.out.2)
   (first
   | (go_at_call 10; refine (HTO.out _ (below_drew HB9.out)).mono ?_; rintro e w10 ⟨Y1, q1, Y2, q2, rfl, hR1, hR2, hb10⟩; have HB10 := Aside0.mk (And.intro (And.intro (R_rd hR1) (R_rd hR2)) ((below_drew (Below.refl _ w9)).trans hb10)); clear hR1 hR2 hb10)
   | (go_at_call 12; refine (eqCh_any x.f0 L M HCH.out.2 X1 f1 X2 f2 Y1 q1 Y2 q2 w10 ⟨HR.out.1.1, Kd.C_below (Kd.C_below HR.out.1.2 H9.out.2.2.1) HB10.out.2⟩ ⟨HR.out.2.1.1, Kd.C_below (Kd.C_below HR.out.2.1.2 H9.out.2.2.1) HB10.out.2⟩ HB10.out.1.1 HB10.out.1.2).mono ?_; rintro e w11 ⟨rfl, hb11⟩; have HB11 := Aside0.mk (And.intro trivial (HB10.out.2.trans (hb11.mono HB10.out.2.size))); clear hb11))
  all_goals (go_wp2_with fail; go_meet; exact ⟨rfl, ⟨HB11.out.2⟩⟩)
 case rest =>
  obtain ⟨rfl, HX⟩ := hcut
  have hb := HX.out
  have H10 := Aside0.mk (show Below w4.heap.size w4 wc ∧ wc.heap[w5.heap.size]? = some (.cells #[.int .i64 x.f0, .slice X1 L.length f1, .slice X2 M.length f2] 31 (0, 0)) ∧ Below w5.heap.size w5 wc ∧ MkO wc w6.heap.size (.slice G0 rr.1.length t0) (.slice G1 rr.2.length t1) rr ∧ wc.heap[w7.heap.size]? = some (.cells #[.slice G0 rr.1.length t0, .slice G1 rr.2.length t1] 38 (0, 0)) from
   ⟨H9.out.1.trans (hb.mono H9.out.1.size), (hb.block _ (blk_lt H9.out.2.1)).trans H9.out.2.1, H9.out.2.2.1.trans (hb.mono H9.out.2.2.1.size), H9.out.2.2.2.1.below hb, (hb.block _ (blk_lt H9.out.2.2.2.2)).trans H9.out.2.2.2.2⟩)
  have j10 := H10.out.2.1
  have p0 : wc.cell? ⟨w5.heap.size, 0, none⟩ = some (.int .i64 x.f0) := (blk_cell j10 0).trans rfl
  have p1 : wc.cell? ⟨w5.heap.size, 1, none⟩ = some (.slice X1 L.length f1) := (blk_cell j10 1).trans rfl
  have p2 : wc.cell? ⟨w5.heap.size, 2, none⟩ = some (.slice X2 M.length f2) := (blk_cell j10 2).trans rfl
  have hN : ((L.map trM).sum + 4 * M.length : Nat) ≤ 5000000 := by
   have h1 := HLM.out.1; have h2 := HLM.out.2; have h3 := HCH.out.1
   subst h1 h2
   have h4 := trsM_to x.f1
   rw [chN] at h3
   rw [List.length_map]
   omega
  have HN := Aside0.mk hN
  clear hb j10 hN
  go_wp2_with fail
  refine (markCh_any (F := fun b => w4.heap.size ≤ b ∧ b < w5.heap.size) (w0 := w5) (fun b h => h.2) HS.out.1 HS.out.2 x.f0 1 wc (Ed.of_below H10.out.2.2.1) (by omega) (by have := HN.out; omega)).mono ?_
  rintro e w12 ⟨rfl, hE⟩
  obtain ⟨kk, hkk⟩ : ∃ kk : Int, kk = 1 + (((L.map trM).sum : Nat) : Int) + ((4 * M.length : Nat) : Int) := ⟨_, rfl⟩
  rw [← hkk]
  have b2 : decide (kk < 0) = false := decide_eq_false (by omega)
  have H12 := Aside0.mk (show Below w4.heap.size w4 w12 ∧ MkO w12 w6.heap.size (.slice G0 rr.1.length t0) (.slice G1 rr.2.length t1) rr ∧ w12.heap[w7.heap.size]? = some (.cells #[.slice G0 rr.1.length t0, .slice G1 rr.2.length t1] 38 (0, 0)) from
   ⟨H10.out.1.trans (hE.below (fun b h => h.1) H10.out.1.size), H10.out.2.2.2.1.ed hE (fun b h => by have := HLT.out.1; omega), (hE.far _ (blk_lt H10.out.2.2.2.2) (fun h => by have := HLT.out; omega)).trans H10.out.2.2.2.2⟩)
  clear hE hkk p0 p1 p2 HN
  have k12 := (H12.out.1.block _ (blk_lt H4.out.2.2.1)).trans H4.out.2.2.1
  have j12 := H12.out.2.2
  have o0 : w12.cell? ⟨w7.heap.size, 0, none⟩ = some (.slice G0 rr.1.length t0) := (blk_cell j12 0).trans rfl
  have o1 : w12.cell? ⟨w7.heap.size, 1, none⟩ = some (.slice G1 rr.2.length t1) := (blk_cell j12 1).trans rfl
  have n0 : w12.cell? ⟨w3.heap.size, 0, none⟩ = some (.slice U0 rr.1.length y0) := (blk_cell k12 0).trans rfl
  have n1 : w12.cell? ⟨w3.heap.size, 1, none⟩ = some (.slice U1 rr.2.length y1) := (blk_cell k12 1).trans rfl
  clear k12 j12
  go_wp2_with fail
  refine (eqMk_any rr HLEN.out.1 HLEN.out.2 w12 H12.out.2.1.reads.2.2 (H4.out.2.2.2.below H12.out.1)).mono ?_
  rintro e w13 ⟨rfl, hb13⟩
  have H13 := Aside0.mk (show Below w4.heap.size w4 w13 ∧ MkO w13 w4.heap.size (.slice G0 rr.1.length t0) (.slice G1 rr.2.length t1) rr ∧ w13.heap[w7.heap.size]? = some (.cells #[.slice G0 rr.1.length t0, .slice G1 rr.2.length t1] 38 (0, 0)) from
   ⟨H12.out.1.trans (hb13.mono H12.out.1.size), (H12.out.2.1.below hb13).down H6.out.1.size, (hb13.block _ (blk_lt H12.out.2.2)).trans H12.out.2.2⟩)
  clear hb13 o0 o1 n0 n1 b2
  have j13 := H13.out.2.2
  have o0 : w13.cell? ⟨w7.heap.size, 0, none⟩ = some (.slice G0 rr.1.length t0) := (blk_cell j13 0).trans rfl
  have o1 : w13.cell? ⟨w7.heap.size, 1, none⟩ = some (.slice G1 rr.2.length t1) := (blk_cell j13 1).trans rfl
  clear j13
  obtain ⟨mv, hmv⟩ : ∃ mv, mv = mkV rr := ⟨_, rfl⟩
  have HMK := Aside0.mk (markMk_any rr HLEN.out.1 HLEN.out.2 w4 _ _ w13 H13.out.1 H13.out.2.1)
  have HHD := Aside0.mk (fun (W : World) (h : MkR W G0 t0 G1 t1 (mkR rr)) => heldMk_any rr HLEN.out.1 HLEN.out.2 W h)
  rw [← hmv] at HMK HHD
  have b3 : decide (mv < 0) = false := decide_eq_false (by rw [hmv, mkV]; omega)
  have b4 : (mv != mv) = false := by simp
  clear hmv
  go_wp2_with fail
  refine HMK.out.mono ?_
  clear HMK
  rintro e w14 ⟨rfl, hO14, hb14, hk14⟩
  have H14 := Aside0.mk (show Below w4.heap.size w4 w14 ∧ MkR w14 G0 t0 G1 t1 (mkR rr) ∧ w14.heap[w7.heap.size]? = some (.cells #[.slice G0 rr.1.length t0, .slice G1 rr.2.length t1] 38 (0, 0)) from
   ⟨hb14, hO14.reads.2.2, (hk14 _ (blk_lt H13.out.2.2) (Kd.R_ne H13.out.2.1.r0 H13.out.2.2 (by decide)) (Kd.R_ne H13.out.2.1.r1 H13.out.2.2 (by decide))).trans H13.out.2.2⟩)
  clear hO14 hb14 hk14 o0 o1
  have j14 := H14.out.2.2
  have o0 : w14.cell? ⟨w7.heap.size, 0, none⟩ = some (.slice G0 rr.1.length t0) := (blk_cell j14 0).trans rfl
  have o1 : w14.cell? ⟨w7.heap.size, 1, none⟩ = some (.slice G1 rr.2.length t1) := (blk_cell j14 1).trans rfl
  clear j14
  go_wp2_with fail
  refine (HHD.out w14 H14.out.2.1).mono ?_
  rintro e w15 ⟨rfl, hb15⟩
  have H15 := Aside0.mk (show Below w4.heap.size w4 w15 ∧ MkR w15 G0 t0 G1 t1 (mkR rr) ∧ w15.heap[w7.heap.size]? = some (.cells #[.slice G0 rr.1.length t0, .slice G1 rr.2.length t1] 38 (0, 0)) from
   ⟨H14.out.1.trans (hb15.mono H14.out.1.size), H14.out.2.1.below hb15, (hb15.block _ (blk_lt H14.out.2.2)).trans H14.out.2.2⟩)
  clear hb15 o0 o1
  have k15 := (H15.out.1.block _ (blk_lt H4.out.2.1)).trans H4.out.2.1
  have c0 : w15.cell? ⟨w.heap.size, 0, none⟩ = some (.int .i64 x.f0) := (blk_cell k15 0).trans rfl
  have c1x : w15.cell? ⟨w.heap.size, 1, none⟩ = some (.slice A1 x.f1.length c1) := (blk_cell k15 1).trans rfl
  have c2x : w15.cell? ⟨w.heap.size, 2, none⟩ = some (.slice A2 x.f2.length c2) := (blk_cell k15 2).trans rfl
  clear k15
  go_wp2_with fail
  refine (HTO.out w15 (H4.out.1.trans (H15.out.1.mono H4.out.1.size))).mono ?_
  rintro e w16 ⟨Z1, v1, Z2, v2, rfl, hR1, hR2, hb16⟩
  have HZ := Aside0.mk (And.intro (R_rd hR1) (And.intro (R_rd hR2) hb16))
  clear hR1 hR2 hb16 c0 c1x c2x
  go_wp2_with fail
  refine (HNEW.out Z1 v1 Z2 v2 w16 HZ.out.1.2 HZ.out.1.1 HZ.out.2.1.2 HZ.out.2.1.1).mono ?_
  rintro e w17 ⟨I0, s0, I1, s1, rfl, hO17, hb17⟩
  have hb1517 : Below w15.heap.size w15 w17 := HZ.out.2.2.trans (hb17.mono HZ.out.2.2.size)
  go_upto_region 25 with (fail)
  have j18 := heap_alloc_new w17 (.cells #[.slice I0 rr.1.length s0, .slice I1 rr.2.length s1] 38)
  have hb18 : Below w17.heap.size w17 (w17.alloc (.cells #[.slice I0 rr.1.length s0, .slice I1 rr.2.length s1] 38)) := (Below.refl _ _).alloc (Nat.le_refl _) _
  generalize w17.alloc (.cells #[.slice I0 rr.1.length s0, .slice I1 rr.2.length s1] 38) = w18 at j18 hb18 ⊢
  have hb1518 : Below w15.heap.size w15 w18 := hb1517.trans (hb18.mono hb1517.size)
  have H18 := Aside0.mk (show Below w4.heap.size w4 w18 ∧ MkR w18 G0 t0 G1 t1 (mkR rr) ∧ w18.heap[w7.heap.size]? = some (.cells #[.slice G0 rr.1.length t0, .slice G1 rr.2.length t1] 38 (0, 0)) ∧ MkR w18 I0 s0 I1 s1 rr from
   ⟨H15.out.1.trans (hb1518.mono H15.out.1.size), H15.out.2.1.below hb1518, (hb1518.block _ (blk_lt H15.out.2.2)).trans H15.out.2.2, hO17.reads.2.2.below hb18⟩)
  have k18 := (H18.out.1.block _ (blk_lt H4.out.2.2.1)).trans H4.out.2.2.1
  have z0 : w18.cell? ⟨w17.heap.size, 0, none⟩ = some (.slice I0 rr.1.length s0) := (blk_cell j18 0).trans rfl
  have z1 : w18.cell? ⟨w17.heap.size, 1, none⟩ = some (.slice I1 rr.2.length s1) := (blk_cell j18 1).trans rfl
  have n0 : w18.cell? ⟨w3.heap.size, 0, none⟩ = some (.slice U0 rr.1.length y0) := (blk_cell k18 0).trans rfl
  have n1 : w18.cell? ⟨w3.heap.size, 1, none⟩ = some (.slice U1 rr.2.length y1) := (blk_cell k18 1).trans rfl
  clear hO17 hb17 hb1517 hb1518 hb18 j18 k18
  go_wp2_with fail
  refine (eqMk_any rr HLEN.out.1 HLEN.out.2 w18 H18.out.2.2.2 (H4.out.2.2.2.below H18.out.1)).mono ?_
  rintro e w19 ⟨rfl, hb19⟩
  have H19 := Aside0.mk (show Below w4.heap.size w4 w19 ∧ MkR w19 G0 t0 G1 t1 (mkR rr) from ⟨H18.out.1.trans (hb19.mono H18.out.1.size), H18.out.2.1.below hb19⟩)
  have j19 := (hb19.block _ (blk_lt H18.out.2.2.1)).trans H18.out.2.2.1
  have o0 : w19.cell? ⟨w7.heap.size, 0, none⟩ = some (.slice G0 rr.1.length t0) := (blk_cell j19 0).trans rfl
  have o1 : w19.cell? ⟨w7.heap.size, 1, none⟩ = some (.slice G1 rr.2.length t1) := (blk_cell j19 1).trans rfl
  clear hb19 j19 z0 z1 n0 n1
  go_wp2_with fail
  refine (HHD.out w19 H19.out.2).mono ?_
  rintro e w20 ⟨rfl, hb20⟩
  have H20 := Aside0.mk (H4.out.1.trans ((H19.out.1.trans (hb20.mono H19.out.1.size)).mono H4.out.1.size))
  clear hb20 o0 o1
  go_wp2
  go_ret
  exact ⟨rfl, H20.out⟩
end Go.Proofs.Ytlmchfcfkfegaaa.B
