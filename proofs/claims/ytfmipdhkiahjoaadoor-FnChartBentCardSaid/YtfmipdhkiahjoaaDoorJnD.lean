import Derived.Test.YtfmipdhkiahjoaaDoorPkA
import Derived.Test.YtfmipdhkiahjoaaDoorJnF
import Derived.Deep.RegionHeld3
import Derived.Test.YtfmipdhkiahjoaaDoorPkB
import Derived.Test.YtfmipdhkiahjoaaDoorJnE
/- What is drawn, told by its size alone: the reader, and a budget for its place. -/
namespace Go.Proofs.YtfmipdhkiahjoaaDoor.B
open Go Go.RowKit Go.Shelf Go.Proofs.YtfmipdhkiahjoaaDoorW.PrintWords Go.Proofs.YtfmipdhkiahjoaaDoorW.PrintLast Go.Proofs.YtfmipdhkiahjoaaDoorW.PrintMore
set_option linter.unusedVariables false
/-- The reader at block g, with N steps at least left; elder blocks of wb are as they were but for it. -/
structure At (w0 wb : World) (g : Nat) (s : List Int) (N : Nat) (W : World) : Prop where
 q : ∃ q : Int, 0 ≤ q ∧ q + N ≤ 1099000000000 ∧ IsS64 w0 W g s q
 b : Below w0.heap.size w0 W
 k : KeepBut wb W g none
 lt : g < wb.heap.size
 by_ : Bytes s
 sl : s.length ≤ 2000
section
variable {w0 wb W W' : World} {g N M c : Nat} {s : List Int}
theorem At.below (h : At w0 wb g s N W) (hb : Below W.heap.size W W') : At w0 wb g s N W' := by
 obtain ⟨q, q0, q1, hq⟩ := h.q
 exact ⟨⟨q, q0, q1, hq.below hb⟩, h.b.trans (hb.mono h.b.size), h.k.trans (KeepBut.of_below hb g none) (.inl rfl), h.lt, h.by_, h.sl⟩
theorem At.low (h : At w0 wb g s N W) (hb : Below wb.heap.size W W') : At w0 wb g s N W' := by
 obtain ⟨q, q0, q1, A, c, h1, h2, h3⟩ := h.q
 exact ⟨⟨q, q0, q1, A, c, (hb.block g h.lt).trans h1, h2, h3⟩, h.b.trans (hb.mono (Nat.le_of_lt (Nat.lt_of_le_of_lt h2 h.lt))), ⟨Nat.le_trans h.k.1 hb.size, fun i hi hg hr => (hb.block i hi).trans (h.k.2 i hi hg hr)⟩, h.lt, h.by_, h.sl⟩
theorem At.less (h : At w0 wb g s N W) (hn : M ≤ N) : At w0 wb g s M W := by
 obtain ⟨q, q0, q1, hq⟩ := h.q
 exact ⟨⟨q, q0, by omega, hq⟩, h.b, h.k, h.lt, h.by_, h.sl⟩
theorem At.here (h : At w0 wb g s N W) : At w0 W g s N W := ⟨h.q, h.b, KeepBut.refl W g none, Nat.lt_of_lt_of_le h.lt h.k.1, h.by_, h.sl⟩
/-- Back to the elder world. -/
theorem At.over (h : At w0 W g s N W') (k : At w0 wb g s M W) : At w0 wb g s N W' := ⟨h.q, h.b, k.k.trans h.k (.inl rfl), k.lt, h.by_, h.sl⟩
theorem At.after (h : At w0 wb g s (N + c) W) {q p : Int} (hq : 0 ≤ q) (hn : q + (N + c : Nat) ≤ 1099000000000) (hp : q ≤ p) (hpc : p ≤ q + c) (hi : IsS64 w0 W' g s p) (hb : Below w0.heap.size w0 W') (hk : KeepBut W W' g none) : At w0 wb g s N W' :=
 ⟨⟨p, by omega, by omega, hi⟩, hb, h.k.trans hk (.inl rfl), h.lt, h.by_, h.sl⟩
theorem At.put1 (h : At w0 wb g s N W) {b : Nat} (hp : Put1 b W W') (hbg : wb.heap.size ≤ b) : At w0 wb g s N W' := by
 obtain ⟨q, q0, q1, A, c, h1, h2, h3⟩ := h.q
 have hw : w0.heap.size ≤ wb.heap.size := Nat.le_of_lt (Nat.lt_of_le_of_lt h2 h.lt)
 exact ⟨⟨q, q0, q1, A, c, (hp.far g (by have := h.lt; omega)).trans h1, h2, h3⟩, hp.below h.b (by omega), ⟨by rw [hp.size]; exact h.k.1, fun i hi hg hr => (hp.far i (by omega)).trans (h.k.2 i hi hg hr)⟩, h.lt, h.by_, h.sl⟩
theorem At.lt' (h : At w0 wb g s N W) : g < W.heap.size := Nat.lt_of_lt_of_le h.lt h.k.1
theorem At.fresh (h : At w0 wb g s N W) : ∀ k, wb.heap.size ≤ k → k ≠ g := fun k hk => by have := h.lt; omega
theorem kb_below (hb : Below W.heap.size W W') : KeepBut W W' g none := KeepBut.of_below hb g none
theorem Box.keep {T : TypeId} {cs : Array Value} {b : Nat} (h : Box W b T cs) (hk : KeepBut W W' g none) (hb : b ≠ g) : Box W' b T cs := hk.blk h hb (by simp)
theorem TVo.keep {ok : Nat → Prop} {x : Ex} {A : Option Addr} {d : Nat} (h : TVo W ok x A d) (hk : KeepBut W W' g none) (hok : ∀ k, ok k → k ≠ g) : TVo W' ok x A d := ⟨Kd.V_keep h.v hk hok⟩
theorem TVo.mono {ok ok' : Nat → Prop} {x : Ex} {A : Option Addr} {d : Nat} (h : TVo W ok x A d) (hok : ∀ k, ok k → ok' k) : TVo W ok' x A d := ⟨Kd.V_mono h.v hok⟩
theorem pick_dr (h : At w0 wb g s (N + 1) W) (n : Int) (h1 : 1 ≤ n) (h2 : n < 2147483648) : Calls Tryd.prog 23 #[.pointer (some ⟨g, 0, none⟩), .int .i64 n] W fun e W' => ∃ r, e = .returned (.int .i64 r) ∧ 0 ≤ r ∧ r < n ∧ At w0 wb g s N W' ∧ KeepBut W W' g none := by
 obtain ⟨q, q0, q1, hq⟩ := h.q
 obtain ⟨r, r0, r1, hr⟩ := pick_total s h.by_ h.sl q n q0 (by omega) h1 h2
 refine (spec_l12Rd_pick.calls 1 g s q n r (q + 1) w0 W hq h.b (hr 0)).mono ?_
 rintro e W' ⟨rfl, hi, hb, hk⟩
 exact ⟨r, rfl, r0, r1, h.after q0 q1 (by omega) (by omega) hi hb hk, hk⟩
theorem num_dr (h : At w0 wb g s (N + 1) W) (l : List Int) (h1 : 1 ≤ l.length) (h2 : l.length < 1000) (A : Option Addr) (d : Nat) (hC : Kd.C (Kd.int .i64) W A l.length l) (hd : l.length ≤ d) (hA : ∀ ad, A = some ad → 0 < l.length → ad.block ≠ g) :
  Calls Tryd.prog 24 #[.pointer (some ⟨g, 0, none⟩), .slice A l.length d] W fun e W' => ∃ r, e = .returned (.int .i64 r) ∧ r ∈ l ∧ At w0 wb g s N W' ∧ KeepBut W W' g none := by
 obtain ⟨q, q0, q1, hq⟩ := h.q
 obtain ⟨r, r0, hr⟩ := num_total s h.by_ h.sl q q0 (by omega) l h1 h2
 refine (spec_l12Rd_num.calls 1 g s q A d l r (q + 1) w0 W hq h.b hC hd hA (hr 0)).mono ?_
 rintro e W' ⟨rfl, hi, hb, hk⟩
 exact ⟨r, rfl, r0, h.after q0 q1 (by omega) (by omega) hi hb hk, hk⟩
theorem addrBent_dr' (h : At w0 wb g s (N + 10) W) : Calls Tryd.prog 26 #[.pointer (some ⟨g, 0, none⟩)] W fun e W' => ∃ a b, e = .returned (.agg #[.int .i64 a, .int .i64 b]) ∧ At w0 wb g s N W' ∧ KeepBut W W' g none := by
 obtain ⟨q, q0, q1, hq⟩ := h.q
 obtain ⟨a, b, p, p0, p1, hr⟩ := addrBent_total s h.by_ h.sl q q0 (by omega)
 refine (spec_l2AddrBent.calls 1 g s q a b p w0 W hq h.b (hr 0)).mono ?_
 rintro e W' ⟨rfl, hi, hb, hk⟩
 exact ⟨_, _, rfl, h.after q0 q1 (by omega) (by omega) hi hb hk, hk⟩
theorem expr_dr (d : Nat) (hd : d ≤ 10) (h : At w0 wb g s (N + 100000) W) : Calls Tryd.prog 25 #[.pointer (some ⟨g, 0, none⟩), .int .i64 d] W fun e W' => ∃ (x : Ex) (A : Option Addr) (c : Nat), e = .returned (.agg #[.int .i64 x.f0, .int .i64 x.f1, .int .i64 x.f2.f0, .int .i64 x.f2.f1, .slice A x.f3.length c]) ∧ Tiny x ∧ TVo W' (fun k => W.heap.size ≤ k) x A c ∧ At w0 wb g s N W' ∧ KeepBut W W' g none := by
 obtain ⟨q, q0, q1, hq⟩ := h.q
 have hb := bnd_le d hd
 obtain ⟨x, p, k, hx, p0, p1, hr⟩ := expr_total s h.by_ h.sl d hd q q0 (by omega)
 refine (spec_l3Expr.calls k g s q d x.f0 x.f1 x.f2.f0 x.f2.f1 x.f3 p w0 W hq h.b hr).mono ?_
 rintro e W' ⟨v, rfl, hR, hi, hb, hk⟩
 have hN := Kd.R_N (Kd.R_bound hR)
 obtain ⟨B, c, rfl⟩ := Kd.N_slice hN
 exact ⟨x, B, c, rfl, hx, TV.ofN hN fun k hk => hk.2.1, h.after q0 q1 (by omega) (by omega) hi hb hk, hk⟩
end
end Go.Proofs.YtfmipdhkiahjoaaDoor.B
/- impl.chartOk: whether a chart is ok. -/
namespace Go.Proofs.YtfmipdhkiahjoaaDoor.B
open Go.RowKit Go.Shelf Go.Proofs.YtfmipdhkiahjoaaDoorW.PrintWords Go.Proofs.YtfmipdhkiahjoaaDoorW.PrintLast Go.Proofs.YtfmipdhkiahjoaaDoorW.PrintMore
set_option linter.unusedVariables false

/-- A place of a row of places is right: a step, and behind the one ahead of it. -/
def goodL (l : List Int) (s : Int) (j : Nat) : Bool := !(decide (rd l (j : Int) < 0)) && (!(decide (rd l (j : Int) ≥ s)) && (decide (j = 0) || !(decide (rd l (j : Int) ≤ rd l ((j : Int) - 1)))))
def placesL (l : List Int) (s : Int) : Bool := (List.range l.length).all (goodL l s) && decide ((l.length : Int) > 0)
theorem places_ends (l : List Int) (s : Int) (hl : l.length ≤ 9223372036854775807) : Ends (fun k => impl_stepsOk.f k l s) (placesL l s) := by
 have h := all_loop (L := fun k j => impl_stepsOk.l0 k l s l (l.length : Int) j) (p := goodL l s) (b := decide ((l.length : Int) > 0)) l.length (Ends.succ (fun k => by rw [impl_stepsOk.l0, if_neg (by omega)]) (Ends.const fun k => rfl)) (fun j r hj hr => ?_)
 ·exact h
 ·have hw : wrap64 ((j : Int) + 1) = ((j + 1 : Nat) : Int) := by rw [wrap_in (by omega) (by omega)]; omega
  have hm : wrap64 ((j : Int) - 1) = (j : Int) - 1 := wrap_in (by omega) (by omega)
  unfold goodL
  by_cases h0 : rd l (j : Int) < 0
  ·rw [decide_eq_true h0]
   exact Ends.succ (g := fun _ => some false) (fun k => by rw [impl_stepsOk.l0, if_pos (by omega), if_pos (by omega), if_pos (by omega), if_pos h0]) (Ends.const fun k => rfl)
  rw [decide_eq_false h0]
  by_cases h1 : rd l (j : Int) ≥ s
  ·rw [decide_eq_true h1]
   exact Ends.succ (g := fun _ => some false) (fun k => by rw [impl_stepsOk.l0, if_pos (by omega), if_pos (by omega), if_pos (by omega), if_neg h0, if_pos h1]) (Ends.const fun k => rfl)
  rw [decide_eq_false h1]
  by_cases h2 : j = 0
  ·rw [decide_eq_true h2]
   refine Ends.succ (fun k => by rw [impl_stepsOk.l0, if_pos (by omega), if_pos (by omega), if_pos (by omega), if_neg h0, if_neg h1, if_neg (by omega), hw]) ?_
   simpa using hr
  rw [decide_eq_false h2]
  by_cases h3 : rd l (j : Int) ≤ rd l ((j : Int) - 1)
  ·rw [decide_eq_true h3]
   exact Ends.succ (g := fun _ => some false) (fun k => by rw [impl_stepsOk.l0, if_pos (by omega), if_pos (by omega), if_pos (by omega), if_neg h0, if_neg h1, if_pos (by omega), hm, if_pos (by omega), if_pos (by omega), if_pos h3]) (Ends.const fun k => rfl)
  ·rw [decide_eq_false h3]
   refine Ends.succ (fun k => by rw [impl_stepsOk.l0, if_pos (by omega), if_pos (by omega), if_pos (by omega), if_neg h0, if_neg h1, if_pos (by omega), hm, if_pos (by omega), if_pos (by omega), if_neg h3, hw]) ?_
   simpa using hr
theorem places_any (l : List Int) (s : Int) (A : Option Addr) (c : Nat) (w : World) (hC : Kd.C (Kd.int .i64) w A l.length l) (hc : l.length ≤ c) :
  Calls Tryd.prog 28 #[.slice A l.length c, .int .i64 s] w fun e w' => e = .returned (.bool (placesL l s)) ∧ Drawn0 w w' := by
 obtain ⟨K, hK⟩ := places_ends l s hC.2.1
 exact impl_stepsOk.calls K A c l s _ w hC hc (hK K (Nat.le_refl _))
/-- What is done that is not right. -/
def acBadL (s : Int) (x : IAc) : Bool := decide (x.f0 < 1) || (decide (4 < x.f0) || (decide (x.f1 < 0) || (decide (s ≤ x.f1) || (!(addrOkL x.f2.f0 x.f2.f1) || x.f2.f0 != 2))))
set_option maxRecDepth 100000 in
set_option maxHeartbeats 4000000 in
theorem acClos (s : Int) (x : IAc) (cs : Array Value) (hs : cs[0]? = some (.int .i64 s)) (g : Nat) (w : World) (hg : w.heap[g]? = some (.cells cs 26 (0, 0))) :
  Calls Tryd.prog 31 #[.agg #[.int .i64 x.f0, .int .i64 x.f1, .int .i64 x.f2.f0, .int .i64 x.f2.f1], .pointer (some ⟨g, 0, none⟩)] w fun e w' => e = .returned (.bool (acBadL s x)) ∧ Below w.heap.size w w' := by
 have HG := Aside0.mk hg
 have HC0 := Aside0.mk (show w.cell? ⟨g, 0, none⟩ = some (.int .i64 s) from (blk_cell hg 0).trans hs)
 have HE := Aside0.mk (show acBadL s x = (decide (x.f0 < 1) || (decide (4 < x.f0) || (decide (x.f1 < 0) || (decide (s ≤ x.f1) || (!(addrOkL x.f2.f0 x.f2.f1) || x.f2.f0 != 2))))) from rfl)
 clear hg hs
 by_cases h0 : x.f0 < 1
 ·have b0 : decide (x.f0 < 1) = true := decide_eq_true h0
  have H0 := Aside0.mk b0; clear h0
  go_enter Tryd.func31, Tryd.ntmps31
  go_upto_region 1 with (fail)
  have j1 := heap_alloc_new w (.cells #[.int .i64 x.f0, .int .i64 x.f1, .int .i64 x.f2.f0, .int .i64 x.f2.f1] 39)
  have hb1 : Below w.heap.size w (w.alloc (.cells #[.int .i64 x.f0, .int .i64 x.f1, .int .i64 x.f2.f0, .int .i64 x.f2.f1] 39)) := (Below.refl _ _).alloc (Nat.le_refl _) _
  generalize w.alloc (.cells #[.int .i64 x.f0, .int .i64 x.f1, .int .i64 x.f2.f0, .int .i64 x.f2.f1] 39) = W1 at j1 hb1 ⊢
  have c0 := (hb1.cell (World.block_lt_of_cell? w _ HC0.out)).trans HC0.out
  have e0 : W1.cell? ⟨w.heap.size, 0, none⟩ = some (.int .i64 x.f0) := (blk_cell j1 0).trans rfl
  have e1 : W1.cell? ⟨w.heap.size, 1, none⟩ = some (.int .i64 x.f1) := (blk_cell j1 1).trans rfl
  have e2 : W1.cell? ⟨w.heap.size, 2, none⟩ = some (.int .i64 x.f2.f0) := (blk_cell j1 2).trans rfl
  have e3 : W1.cell? ⟨w.heap.size, 3, none⟩ = some (.int .i64 x.f2.f1) := (blk_cell j1 3).trans rfl
  have HB := Aside0.mk (And.intro hb1 j1)
  clear hb1 j1
  go_wp2
  go_ret
  exact ⟨by rw [HE.out, H0.out]; rfl, HB.out.1⟩
 have b0 : decide (x.f0 < 1) = false := decide_eq_false h0
 have H0 := Aside0.mk b0; clear h0
 by_cases h1 : 4 < x.f0
 ·have b1 : decide (4 < x.f0) = true := decide_eq_true h1
  have H1 := Aside0.mk b1; clear h1
  go_enter Tryd.func31, Tryd.ntmps31
  go_upto_region 1 with (fail)
  have j1 := heap_alloc_new w (.cells #[.int .i64 x.f0, .int .i64 x.f1, .int .i64 x.f2.f0, .int .i64 x.f2.f1] 39)
  have hb1 : Below w.heap.size w (w.alloc (.cells #[.int .i64 x.f0, .int .i64 x.f1, .int .i64 x.f2.f0, .int .i64 x.f2.f1] 39)) := (Below.refl _ _).alloc (Nat.le_refl _) _
  generalize w.alloc (.cells #[.int .i64 x.f0, .int .i64 x.f1, .int .i64 x.f2.f0, .int .i64 x.f2.f1] 39) = W1 at j1 hb1 ⊢
  have c0 := (hb1.cell (World.block_lt_of_cell? w _ HC0.out)).trans HC0.out
  have e0 : W1.cell? ⟨w.heap.size, 0, none⟩ = some (.int .i64 x.f0) := (blk_cell j1 0).trans rfl
  have e1 : W1.cell? ⟨w.heap.size, 1, none⟩ = some (.int .i64 x.f1) := (blk_cell j1 1).trans rfl
  have e2 : W1.cell? ⟨w.heap.size, 2, none⟩ = some (.int .i64 x.f2.f0) := (blk_cell j1 2).trans rfl
  have e3 : W1.cell? ⟨w.heap.size, 3, none⟩ = some (.int .i64 x.f2.f1) := (blk_cell j1 3).trans rfl
  have HB := Aside0.mk (And.intro hb1 j1)
  clear hb1 j1
  go_wp2
  go_ret
  exact ⟨by rw [HE.out, H0.out, H1.out]; rfl, HB.out.1⟩
 have b1 : decide (4 < x.f0) = false := decide_eq_false h1
 have H1 := Aside0.mk b1; clear h1
 by_cases h2 : x.f1 < 0
 ·have b2 : decide (x.f1 < 0) = true := decide_eq_true h2
  have H2 := Aside0.mk b2; clear h2
  go_enter Tryd.func31, Tryd.ntmps31
  go_upto_region 1 with (fail)
  have j1 := heap_alloc_new w (.cells #[.int .i64 x.f0, .int .i64 x.f1, .int .i64 x.f2.f0, .int .i64 x.f2.f1] 39)
  have hb1 : Below w.heap.size w (w.alloc (.cells #[.int .i64 x.f0, .int .i64 x.f1, .int .i64 x.f2.f0, .int .i64 x.f2.f1] 39)) := (Below.refl _ _).alloc (Nat.le_refl _) _
  generalize w.alloc (.cells #[.int .i64 x.f0, .int .i64 x.f1, .int .i64 x.f2.f0, .int .i64 x.f2.f1] 39) = W1 at j1 hb1 ⊢
  have c0 := (hb1.cell (World.block_lt_of_cell? w _ HC0.out)).trans HC0.out
  have e0 : W1.cell? ⟨w.heap.size, 0, none⟩ = some (.int .i64 x.f0) := (blk_cell j1 0).trans rfl
  have e1 : W1.cell? ⟨w.heap.size, 1, none⟩ = some (.int .i64 x.f1) := (blk_cell j1 1).trans rfl
  have e2 : W1.cell? ⟨w.heap.size, 2, none⟩ = some (.int .i64 x.f2.f0) := (blk_cell j1 2).trans rfl
  have e3 : W1.cell? ⟨w.heap.size, 3, none⟩ = some (.int .i64 x.f2.f1) := (blk_cell j1 3).trans rfl
  have HB := Aside0.mk (And.intro hb1 j1)
  clear hb1 j1
  go_wp2
  go_ret
  exact ⟨by rw [HE.out, H0.out, H1.out, H2.out]; rfl, HB.out.1⟩
 have b2 : decide (x.f1 < 0) = false := decide_eq_false h2
 have H2 := Aside0.mk b2; clear h2
 by_cases h3 : s ≤ x.f1
 ·have b3 : decide (s ≤ x.f1) = true := decide_eq_true h3
  have H3 := Aside0.mk b3; clear h3
  go_enter Tryd.func31, Tryd.ntmps31
  go_upto_region 1 with (fail)
  have j1 := heap_alloc_new w (.cells #[.int .i64 x.f0, .int .i64 x.f1, .int .i64 x.f2.f0, .int .i64 x.f2.f1] 39)
  have hb1 : Below w.heap.size w (w.alloc (.cells #[.int .i64 x.f0, .int .i64 x.f1, .int .i64 x.f2.f0, .int .i64 x.f2.f1] 39)) := (Below.refl _ _).alloc (Nat.le_refl _) _
  generalize w.alloc (.cells #[.int .i64 x.f0, .int .i64 x.f1, .int .i64 x.f2.f0, .int .i64 x.f2.f1] 39) = W1 at j1 hb1 ⊢
  have c0 := (hb1.cell (World.block_lt_of_cell? w _ HC0.out)).trans HC0.out
  have e0 : W1.cell? ⟨w.heap.size, 0, none⟩ = some (.int .i64 x.f0) := (blk_cell j1 0).trans rfl
  have e1 : W1.cell? ⟨w.heap.size, 1, none⟩ = some (.int .i64 x.f1) := (blk_cell j1 1).trans rfl
  have e2 : W1.cell? ⟨w.heap.size, 2, none⟩ = some (.int .i64 x.f2.f0) := (blk_cell j1 2).trans rfl
  have e3 : W1.cell? ⟨w.heap.size, 3, none⟩ = some (.int .i64 x.f2.f1) := (blk_cell j1 3).trans rfl
  have HB := Aside0.mk (And.intro hb1 j1)
  clear hb1 j1
  go_wp2
  go_ret
  exact ⟨by rw [HE.out, H0.out, H1.out, H2.out, H3.out]; rfl, HB.out.1⟩
 have b3 : decide (s ≤ x.f1) = false := decide_eq_false h3
 have H3 := Aside0.mk b3; clear h3
 obtain ⟨r, hr⟩ : ∃ r, r = addrOkL x.f2.f0 x.f2.f1 := ⟨_, rfl⟩
 have HR := Aside0.mk hr
 clear hr
 go_enter Tryd.func31, Tryd.ntmps31
 go_upto_region 1 with (fail)
 have j1 := heap_alloc_new w (.cells #[.int .i64 x.f0, .int .i64 x.f1, .int .i64 x.f2.f0, .int .i64 x.f2.f1] 39)
 have hb1 : Below w.heap.size w (w.alloc (.cells #[.int .i64 x.f0, .int .i64 x.f1, .int .i64 x.f2.f0, .int .i64 x.f2.f1] 39)) := (Below.refl _ _).alloc (Nat.le_refl _) _
 generalize w.alloc (.cells #[.int .i64 x.f0, .int .i64 x.f1, .int .i64 x.f2.f0, .int .i64 x.f2.f1] 39) = W1 at j1 hb1 ⊢
 have c0 := (hb1.cell (World.block_lt_of_cell? w _ HC0.out)).trans HC0.out
 have e0 : W1.cell? ⟨w.heap.size, 0, none⟩ = some (.int .i64 x.f0) := (blk_cell j1 0).trans rfl
 have e1 : W1.cell? ⟨w.heap.size, 1, none⟩ = some (.int .i64 x.f1) := (blk_cell j1 1).trans rfl
 have e2 : W1.cell? ⟨w.heap.size, 2, none⟩ = some (.int .i64 x.f2.f0) := (blk_cell j1 2).trans rfl
 have e3 : W1.cell? ⟨w.heap.size, 3, none⟩ = some (.int .i64 x.f2.f1) := (blk_cell j1 3).trans rfl
 have HB := Aside0.mk (And.intro hb1 j1)
 clear hb1 j1
 go_wp2_with fail
 refine (addrOk_any _ _ _).mono ?_
 rintro e w1 ⟨rfl, hb1⟩
 have j1 := (hb1.block _ (blk_lt HB.out.2)).trans HB.out.2
 have k2 : w1.cell? ⟨w.heap.size, 2, none⟩ = some (.int .i64 x.f2.f0) := (blk_cell j1 2).trans rfl
 have HBB := Aside0.mk (HB.out.1.trans (hb1.mono HB.out.1.size))
 clear hb1 j1 c0 e0 e1 e2 e3
 rw [← HR.out]
 cases r with
 | false =>
  go_wp2
  go_ret
  exact ⟨by rw [HE.out, H0.out, H1.out, H2.out, H3.out, ← HR.out]; rfl, HBB.out⟩
 | true =>
  go_wp2
  go_ret
  exact ⟨by rw [HE.out, H0.out, H1.out, H2.out, H3.out, ← HR.out]; rfl, HBB.out⟩
/-- A way that is right. -/
def trGoodL (s : Int) (x : ITr) : Bool := placesL x.f0 s && (placesL x.f1 s && okL 0 (partsL x.f2))
def chOkL (s : Int) (l : List ITr) (m : List IAc) : Bool := !(decide (s < 1) || (decide (6 < s) || (decide (6 < (l.length : Int)) || decide (6 < (m.length : Int))))) && (l.all (trGoodL s) && !(m.any (acBadL s)))
set_option maxRecDepth 100000 in
set_option maxHeartbeats 8000000 in
theorem chOk_of (hok : OkCon) (s : Int) (l : List ITr) (m : List IAc) (A1 : Option Addr) (c1 : Nat) (A2 : Option Addr) (c2 : Nat) (w : World) (h1 : Kd.C k37 w A1 l.length l) (n1 : l.length ≤ c1) (h2 : Kd.C k39 w A2 m.length m) (n2 : m.length ≤ c2) :
  Calls Tryd.prog 11 #[.agg #[.int .i64 s, .slice A1 l.length c1, .slice A2 m.length c2]] w fun e w' => e = .returned (.bool (chOkL s l m)) ∧ Below w.heap.size w w' := by
 have hb0 : Below w.heap.size w (w.alloc (.cells #[.int .i64 s, .slice A1 l.length c1, .slice A2 m.length c2] 26)) := (Below.refl _ _).alloc (Nat.le_refl _) _
 have hx0 : (w.alloc (.cells #[.int .i64 s, .slice A1 l.length c1, .slice A2 m.length c2] 26)).heap[w.heap.size]? = some (.cells #[.int .i64 s, .slice A1 l.length c1, .slice A2 m.length c2] 26 (0, 0)) := heap_alloc_new w _
 have HB := Aside0.mk hb0
 have HX := Aside0.mk hx0
 have HC1 := Aside0.mk h1
 have hmax : l.length ≤ 9223372036854775807 := h1.2.1
 have HCALL := Aside0.mk (fun (W : World) (hW : Below w.heap.size w W) (hg : W.heap[w.heap.size]? = some (.cells #[.int .i64 s, .slice A1 l.length c1, .slice A2 m.length c2] 26 (0, 0))) => (containsFuncAc_any 31 #[.pointer (some ⟨w.heap.size, 0, none⟩)] (acBadL s) (enters_of Tryd.func31 (by kernel_rfl) rfl) m A2 c2 W
  (fun x W' hx hW' => by simpa using acClos s x #[.int .i64 s, .slice A1 l.length c1, .slice A2 m.length c2] rfl w.heap.size W' ((hW'.block _ (blk_lt hg)).trans hg)) (Kd.C_below h2 hW) n2).mono (R' := fun e w' => e = .returned (.bool (m.any (acBadL s))) ∧ Below w.heap.size w w') (fun e w' h => ⟨h.1, hW.trans (h.2.mono hW.size)⟩))
 have HE := Aside0.mk (show chOkL s l m = (!(decide (s < 1) || (decide (6 < s) || (decide (6 < (l.length : Int)) || decide (6 < (m.length : Int))))) && (l.all (trGoodL s) && !(m.any (acBadL s)))) from rfl)
 clear hb0 hx0 h1 h2 n2
 by_cases z0 : s < 1
 ·have b0 : decide (s < 1) = true := decide_eq_true z0
  have H0 := Aside0.mk b0; clear z0
  go_enter Tryd.func11, Tryd.ntmps11
  go_wp2
  go_ret
  exact ⟨by rw [HE.out, H0.out]; rfl, HB.out⟩
 have b0 : decide (s < 1) = false := decide_eq_false z0
 have H0 := Aside0.mk b0; clear z0
 by_cases z1 : 6 < s
 ·have b1 : decide (6 < s) = true := decide_eq_true z1
  have H1 := Aside0.mk b1; clear z1
  go_enter Tryd.func11, Tryd.ntmps11
  go_wp2
  go_ret
  exact ⟨by rw [HE.out, H0.out, H1.out]; rfl, HB.out⟩
 have b1 : decide (6 < s) = false := decide_eq_false z1
 have H1 := Aside0.mk b1; clear z1
 by_cases z2 : 6 < (l.length : Int)
 ·have b2 : decide (6 < (l.length : Int)) = true := decide_eq_true z2
  have H2 := Aside0.mk b2; clear z2
  go_enter Tryd.func11, Tryd.ntmps11
  go_wp2
  go_ret
  exact ⟨by rw [HE.out, H0.out, H1.out, H2.out]; rfl, HB.out⟩
 have b2 : decide (6 < (l.length : Int)) = false := decide_eq_false z2
 have H2 := Aside0.mk b2; clear z2
 by_cases z3 : 6 < (m.length : Int)
 ·have b3 : decide (6 < (m.length : Int)) = true := decide_eq_true z3
  have H3 := Aside0.mk b3; clear z3
  go_enter Tryd.func11, Tryd.ntmps11
  go_wp2
  go_ret
  exact ⟨by rw [HE.out, H0.out, H1.out, H2.out, H3.out]; rfl, HB.out⟩
 have b3 : decide (6 < (m.length : Int)) = false := decide_eq_false z3
 have H3 := Aside0.mk b3; clear z3
 go_enter Tryd.func11, Tryd.ntmps11
 go_wp2
 go_loopw [4, 28] (fun _ i wr => ∃ (j : Nat), i = .int .i64 j ∧ Aside0 (j ≤ l.length ∧ (l.take j).all (trGoodL s) = true ∧ Below w.heap.size w wr ∧ wr.heap[w.heap.size]? = some (.cells #[.int .i64 s, .slice A1 l.length c1, .slice A2 m.length c2] 26 (0, 0)))) (fun _ i _ => l.length - (intOf i).toNat)
 case atStart => exact ⟨0, rfl, ⟨Nat.zero_le _, by simp, HB.out, HX.out⟩⟩
 case round =>
  obtain ⟨j, rfl, HR⟩ := hrel
  clear b0 b1 b2 b3
  have k0 : wr.cell? ⟨w.heap.size, 0, none⟩ = some (.int .i64 s) := (blk_cell HR.out.2.2.2 0).trans rfl
  have k2 : wr.cell? ⟨w.heap.size, 2, none⟩ = some (.slice A2 m.length c2) := (blk_cell HR.out.2.2.2 2).trans rfl
  by_cases hj : j < l.length
  ·obtain ⟨ad, D0, q0, D1, q1, D6, q6, hA, e0, e1, e2, e3, e4, e5, e6, hl0, hi0, hl1, hi1, hl6, hi6⟩ := at_T37 HC1.out (j : Int) (by omega) (by omega)
   cases hA
   have hkid : rd_T37 l (j : Int) = l[j] := by simp [rd_T37, hj]
   have hb := HR.out.2.2.1
   replace e0 := (hb.cell (World.block_lt_of_cell? w _ e0)).trans e0
   replace e1 := (hb.cell (World.block_lt_of_cell? w _ e1)).trans e1
   replace e2 := (hb.cell (World.block_lt_of_cell? w _ e2)).trans e2
   replace e3 := (hb.cell (World.block_lt_of_cell? w _ e3)).trans e3
   replace e4 := (hb.cell (World.block_lt_of_cell? w _ e4)).trans e4
   replace e5 := (hb.cell (World.block_lt_of_cell? w _ e5)).trans e5
   replace e6 := (hb.cell (World.block_lt_of_cell? w _ e6)).trans e6
   rw [hkid] at e0 e1 e2 e3 e4 e5 e6 hl0 hi0 hl1 hi1 hl6 hi6
   simp only [Int.toNat_natCast] at e0 e1 e2 e3 e4 e5 e6
   obtain ⟨x, hx⟩ : ∃ x, x = l[j] := ⟨_, rfl⟩
   rw [← hx] at e0 e1 e2 e3 e4 e5 e6 hl0 hi0 hl1 hi1 hl6 hi6
   have HXJ := Aside0.mk (And.intro hx (And.intro hj hmax))
   have HP0 := Aside0.mk (fun (W : World) (hW : Below w.heap.size w W) => places_any x.f0 s D0 q0 W (Kd.C_below hi0 hW) hl0)
   have HP1 := Aside0.mk (fun (W : World) (hW : Below w.heap.size w W) => places_any x.f1 s D1 q1 W (Kd.C_below hi1 hW) hl1)
   have HP6 := Aside0.mk (fun (W : World) (hW : Below w.heap.size w W) => (hok x.f2 D6 q6 W (Kd.C_below hi6 hW) hl6).mono (R' := fun e w' => e = .returned (.bool (okL 0 (partsL x.f2))) ∧ Below w.heap.size w w' ∧ Below W.heap.size W w') (fun e w' h => ⟨h.1, hW.trans (h.2.mono hW.size), h.2⟩))
   clear hb hkid hx hi0 hl0 hi1 hl1 hi6 hl6
   go_upto_region 6 with (fail)
   have j1 := heap_alloc_new wr (.cells #[.slice D0 x.f0.length q0, .slice D1 x.f1.length q1, .int .i64 x.f2.f0, .int .i64 x.f2.f1, .int .i64 x.f2.f2.f0, .int .i64 x.f2.f2.f1, .slice D6 x.f2.f3.length q6] 37)
   have hb1 : Below wr.heap.size wr (wr.alloc (.cells #[.slice D0 x.f0.length q0, .slice D1 x.f1.length q1, .int .i64 x.f2.f0, .int .i64 x.f2.f1, .int .i64 x.f2.f2.f0, .int .i64 x.f2.f2.f1, .slice D6 x.f2.f3.length q6] 37)) := (Below.refl _ _).alloc (Nat.le_refl _) _
   generalize wr.alloc (.cells #[.slice D0 x.f0.length q0, .slice D1 x.f1.length q1, .int .i64 x.f2.f0, .int .i64 x.f2.f1, .int .i64 x.f2.f2.f0, .int .i64 x.f2.f2.f1, .slice D6 x.f2.f3.length q6] 37) = W1 at j1 hb1 ⊢
   have k0 : W1.cell? ⟨w.heap.size, 0, none⟩ = some (.int .i64 s) := (blk_cell ((hb1.block _ (blk_lt HR.out.2.2.2)).trans HR.out.2.2.2) 0).trans rfl
   have HW1 := Aside0.mk (And.intro (HR.out.2.2.1.trans (hb1.mono HR.out.2.2.1.size)) ((hb1.block _ (blk_lt HR.out.2.2.2)).trans HR.out.2.2.2))
   clear e0 e1 e2 e3 e4 e5 e6 hb1 k2
   have e0 : W1.cell? ⟨wr.heap.size, 0, none⟩ = some (.slice D0 x.f0.length q0) := (blk_cell j1 0).trans rfl
   have e1 : W1.cell? ⟨wr.heap.size, 1, none⟩ = some (.slice D1 x.f1.length q1) := (blk_cell j1 1).trans rfl
   have e2 : W1.cell? ⟨wr.heap.size, 2, none⟩ = some (.int .i64 x.f2.f0) := (blk_cell j1 2).trans rfl
   have e3 : W1.cell? ⟨wr.heap.size, 3, none⟩ = some (.int .i64 x.f2.f1) := (blk_cell j1 3).trans rfl
   have e4 : W1.cell? ⟨wr.heap.size, 4, none⟩ = some (.int .i64 x.f2.f2.f0) := (blk_cell j1 4).trans rfl
   have e5 : W1.cell? ⟨wr.heap.size, 5, none⟩ = some (.int .i64 x.f2.f2.f1) := (blk_cell j1 5).trans rfl
   have e6 : W1.cell? ⟨wr.heap.size, 6, none⟩ = some (.slice D6 x.f2.f3.length q6) := (blk_cell j1 6).trans rfl
   clear j1
   have HBAD := Aside0.mk (show trGoodL s x = false → chOkL s l m = false from fun h => by
    rw [HE.out, show l.all (trGoodL s) = false from List.all_eq_false.2 ⟨l[j]'HXJ.out.2.1, List.getElem_mem _, by rw [← HXJ.out.1, h]; simp⟩, Bool.false_and, Bool.and_false])
   have HT := Aside0.mk (show trGoodL s x = (placesL x.f0 s && (placesL x.f1 s && okL 0 (partsL x.f2))) from rfl)
   go_wp2_with fail
   refine (HP0.out _ HW1.out.1).mono ?_
   rintro e w1 ⟨rfl, n1, rfl⟩
   cases r0 : placesL x.f0 s with
   | false =>
    have R0 := Aside0.mk r0; clear r0
    go_wp2
    go_ret
    exact ⟨by rw [HBAD.out (by rw [HT.out, R0.out]; rfl)]; rfl, by repeat (first | (with_reducible first | exact HW1.out.1 | apply below_alloc | apply pw_below_drewN | apply below_drew1) | exact HW1.out.1)⟩
   | true =>
    have R0 := Aside0.mk r0; clear r0
    go_wp2_with fail
    refine (HP1.out _ (by repeat (first | (with_reducible first | exact HW1.out.1 | apply below_alloc | apply pw_below_drewN | apply below_drew1) | exact HW1.out.1))).mono ?_
    rintro e w2 ⟨rfl, n2, rfl⟩
    cases r1 : placesL x.f1 s with
    | false =>
     have R1 := Aside0.mk r1; clear r1
     go_wp2
     go_ret
     exact ⟨by rw [HBAD.out (by rw [HT.out, R0.out, R1.out]; rfl)]; rfl, by repeat (first | (with_reducible first | exact HW1.out.1 | apply below_alloc | apply pw_below_drewN | apply below_drew1) | exact HW1.out.1)⟩
    | true =>
     have R1 := Aside0.mk r1; clear r1
     go_wp2_with fail
     refine (HP6.out _ (by repeat (first | (with_reducible first | exact HW1.out.1 | apply below_alloc | apply pw_below_drewN | apply below_drew1) | exact HW1.out.1))).mono ?_
     rintro e w3 ⟨rfl, hb3, hbW⟩
     have HB3 := Aside0.mk (And.intro hb3 ((hbW.block w.heap.size (blk_lt HW1.out.2)).trans HW1.out.2))
     clear hb3 hbW k0 e0 e1 e2 e3 e4 e5 e6
     cases r6 : okL 0 (partsL x.f2) with
     | false =>
      have R6 := Aside0.mk r6; clear r6
      go_wp2
      go_ret
      exact ⟨by rw [HBAD.out (by rw [HT.out, R0.out, R1.out, R6.out]; rfl)]; rfl, HB3.out.1⟩
     | true =>
      have R6 := Aside0.mk r6; clear r6
      go_wp2
      go_roundw
      case rel => exact ⟨j + 1, by go_num, ⟨HXJ.out.2.1, by rw [List.take_succ_eq_append_getElem HXJ.out.2.1, List.all_append, HR.out.2.1]; simp [← HXJ.out.1, HT.out, R0.out, R1.out, R6.out], HB3.out.1, HB3.out.2⟩⟩
      case measure => have := HXJ.out.2.1; simp [intOf]; omega
  ·have hjl : j = l.length := by have := HR.out.1; omega
   have hn := HR.out.2.1
   rw [hjl, List.take_of_length_le (Nat.le_refl _)] at hn
   have HN := Aside0.mk hn; clear hn hjl
   go_wp2_with fail
   refine (HCALL.out _ HR.out.2.2.1 HR.out.2.2.2).mono ?_
   rintro e w1 ⟨rfl, hb1⟩
   have HB1 := Aside0.mk hb1
   clear hb1 k0 k2
   go_wp2
   go_ret
   exact ⟨by rw [HE.out, H0.out, H1.out, H2.out, H3.out, HN.out]; rfl, HB1.out⟩
end Go.Proofs.YtfmipdhkiahjoaaDoor.B
/- Plain law: the specification's own ChartOk ends, and says what impl's says. -/
namespace Go.Proofs.YtfmipdhkiahjoaaDoor.B
open Go.RowKit Go.Proofs.YtfmipdhkiahjoaaDoorW.PrintWords Go.Proofs.YtfmipdhkiahjoaaDoorW.PrintLast Go.Proofs.YtfmipdhkiahjoaaDoorW.PrintMore
set_option linter.unusedVariables false

theorem Ends.of_up {α : Type} {f : Nat → Option α} {r : α} (hm : ∀ k, LeO (f k) (f (k + 1))) (h : ∃ k, f k = some r) : Ends f r := by
 obtain ⟨k, hk⟩ := h
 exact ⟨k, fun k' hk' => up_le hm hk' hk⟩
theorem short_of (e : S34) : iexOk e → Short e := by
 refine iexInd (P := fun e => iexOk e → Short e) ?_ e
 intro e ih ho
 rw [iexOk_eq] at ho
 exact Short.mk e (by omega) (fun x hx => ih x hx (ho.2 x hx))
theorem places_is (l : List Int) (s : Int) (hl : l.length ≤ 9223372036854775807) : Ends (fun k => spec_l8Places.f k l s) (placesL l s) := by
 have h := all_loop (L := fun k j => spec_l8Places.l0 k l s j) (p := goodL l s) (b := decide ((l.length : Int) > 0)) l.length (Ends.succ (fun k => by rw [spec_l8Places.l0, if_neg (by omega)]) (Ends.const fun k => rfl)) (fun j r hj hr => ?_)
 ·exact h.of fun k => by rw [spec_l8Places.f]
 ·have hw := next_in hl hj
  have hm : wrap64 ((j : Int) - 1) = (j : Int) - 1 := wrap_in (by omega) (by omega)
  unfold goodL
  by_cases h0 : rd l (j : Int) < 0
  ·rw [decide_eq_true h0]
   exact Ends.succ (g := fun _ => some false) (fun k => by rw [spec_l8Places.l0, if_pos (by omega), if_pos (by omega), if_pos h0]) (Ends.const fun k => rfl)
  rw [decide_eq_false h0]
  by_cases h1 : rd l (j : Int) ≥ s
  ·rw [decide_eq_true h1]
   exact Ends.succ (g := fun _ => some false) (fun k => by rw [spec_l8Places.l0, if_pos (by omega), if_pos (by omega), if_neg h0, if_pos h1]) (Ends.const fun k => rfl)
  rw [decide_eq_false h1]
  by_cases h2 : j = 0
  ·rw [decide_eq_true h2]
   refine Ends.succ (fun k => by rw [spec_l8Places.l0, if_pos (by omega), if_pos (by omega), if_neg h0, if_neg h1, if_neg (by omega), hw]) ?_
   simpa using hr
  rw [decide_eq_false h2]
  by_cases h3 : rd l (j : Int) ≤ rd l ((j : Int) - 1)
  ·rw [decide_eq_true h3]
   exact Ends.succ (g := fun _ => some false) (fun k => by rw [spec_l8Places.l0, if_pos (by omega), if_pos (by omega), if_neg h0, if_neg h1, if_pos (by omega), hm, if_pos (by omega), if_pos (by omega), if_pos h3]) (Ends.const fun k => rfl)
  ·rw [decide_eq_false h3]
   refine Ends.succ (fun k => by rw [spec_l8Places.l0, if_pos (by omega), if_pos (by omega), if_neg h0, if_neg h1, if_pos (by omega), hm, if_pos (by omega), if_pos (by omega), if_neg h3, hw]) ?_
   simpa using hr
theorem all_range {α : Type} {rd : List α → Int → α} (hrd : ∀ (l : List α) (j : Nat) (h : j < l.length), rd l (j : Int) = l[j]) (p : α → Bool) (l : List α) : l.all p = (List.range l.length).all fun j => p (rd l (j : Int)) := by
 rw [Bool.eq_iff_iff, List.all_eq_true, List.all_eq_true]
 constructor
 ·intro h j hj
  have hj' : j < l.length := List.mem_range.1 hj
  rw [hrd l j hj']
  exact h _ (List.getElem_mem _)
 ·intro h x hx
  obtain ⟨j, hj, rfl⟩ := List.getElem_of_mem hx
  have := h j (List.mem_range.2 hj)
  rwa [hrd l j hj] at this
theorem chOk_is (s : Int) (l : List ITr) (m : List IAc) (h : chOk l m) : Ends (fun k => spec_ChartOk.f k s l m) (chOkL s l m) := by
 have hj1 : Ends (fun k => spec_ChartOk.j0 k true s l m) false := Ends.succ (fun k => by rw [spec_ChartOk.j0, if_pos rfl]) (Ends.const fun k => rfl)
 unfold chOkL
 by_cases h0 : s < 1
 ·rw [decide_eq_true h0]
  exact hj1.of fun k => by rw [spec_ChartOk.f, if_pos h0]
 rw [decide_eq_false h0]
 by_cases h1 : 6 < s
 ·rw [decide_eq_true h1]
  exact hj1.of fun k => by rw [spec_ChartOk.f, if_neg h0, if_pos (by omega)]
 rw [decide_eq_false h1]
 by_cases h2 : 6 < (l.length : Int)
 ·rw [decide_eq_true h2]
  exact hj1.of fun k => by rw [spec_ChartOk.f, if_neg h0, if_neg (by omega), if_pos (by omega)]
 rw [decide_eq_false h2]
 by_cases h3 : 6 < (m.length : Int)
 ·rw [decide_eq_true h3]
  exact hj1.of fun k => by rw [spec_ChartOk.f, if_neg h0, if_neg (by omega), if_neg (by omega), decide_eq_true (show ((m.length : Int) > 6) by omega)]
 rw [decide_eq_false h3]
 have hacts : Ends (fun k => spec_ChartOk.l1 k 0 s l m) (!(m.any (acBadL s))) := by
  have hm : (!(m.any (acBadL s))) = m.all (fun x => !(acBadL s x)) := by rw [List.not_any_eq_all_not]
  rw [hm, all_range rdI_ac]
  have := all_loop (L := fun k j => spec_ChartOk.l1 k j s l m) (p := fun j => !(acBadL s (rd_T39 m j))) (b := true) m.length (Ends.succ (fun k => by rw [spec_ChartOk.l1, if_neg (by omega)]) (Ends.const fun k => rfl)) (fun j r hj hr => ?_)
  ·rw [Bool.and_true] at this
   exact this
  ·have hw := next_in (n := m.length) (by have := h.2; omega) hj
   show Ends _ (!(acBadL s (rd_T39 m (j : Int))) && r)
   generalize hx : rd_T39 m (j : Int) = x
   unfold acBadL
   by_cases a0 : x.f0 < 1
   ·rw [decide_eq_true a0]
    exact Ends.succ (g := fun _ => some false) (fun k => by rw [spec_ChartOk.l1, if_pos (by omega), if_pos (by omega), hx, if_pos a0]) (Ends.const fun k => rfl)
   rw [decide_eq_false a0]
   by_cases a1 : 4 < x.f0
   ·rw [decide_eq_true a1]
    exact Ends.succ (g := fun _ => some false) (fun k => by rw [spec_ChartOk.l1, if_pos (by omega), if_pos (by omega), hx, if_neg a0, if_pos a1]) (Ends.const fun k => rfl)
   rw [decide_eq_false a1]
   by_cases a2 : x.f1 < 0
   ·rw [decide_eq_true a2]
    exact Ends.succ (g := fun _ => some false) (fun k => by rw [spec_ChartOk.l1, if_pos (by omega), if_pos (by omega), hx, if_neg a0, if_neg a1, if_pos a2]) (Ends.const fun k => rfl)
   rw [decide_eq_false a2]
   by_cases a3 : s ≤ x.f1
   ·rw [decide_eq_true a3]
    exact Ends.succ (g := fun _ => some false) (fun k => by rw [spec_ChartOk.l1, if_pos (by omega), if_pos (by omega), hx, if_neg a0, if_neg a1, if_neg a2, if_pos a3]) (Ends.const fun k => rfl)
   rw [decide_eq_false a3]
   cases a4 : addrOkL x.f2.f0 x.f2.f1 with
   | false => exact Ends.succ (g := fun _ => some false) (fun k => by rw [spec_ChartOk.l1, if_pos (by omega), if_pos (by omega), hx, if_neg a0, if_neg a1, if_neg a2, if_neg a3, addrOk_is, Option.bind_some, a4, if_neg (by simp)]) (Ends.const fun k => rfl)
   | true =>
    by_cases a5 : x.f2.f0 = 2
    ·rw [show (x.f2.f0 != 2) = false by rw [a5]; rfl]
     exact Ends.succ (fun k => by rw [spec_ChartOk.l1, if_pos (by omega), if_pos (by omega), hx, if_neg a0, if_neg a1, if_neg a2, if_neg a3, addrOk_is, Option.bind_some, a4, if_pos rfl, if_pos a5, hw]) (by simpa using hr)
    ·rw [show (x.f2.f0 != 2) = true from bne_iff_ne.2 a5]
     exact Ends.succ (g := fun _ => some false) (fun k => by rw [spec_ChartOk.l1, if_pos (by omega), if_pos (by omega), hx, if_neg a0, if_neg a1, if_neg a2, if_neg a3, addrOk_is, Option.bind_some, a4, if_pos rfl, if_neg a5]) (Ends.const fun k => rfl)
 rw [all_range rdI_tr]
 have := all_loop (L := fun k j => spec_ChartOk.l0 k j s l m) (p := fun j => trGoodL s (rd_T37 l j)) l.length (Ends.succ (fun k => by rw [spec_ChartOk.l0, if_neg (by omega)]) hacts) (fun j r hj hr => ?_)
 ·refine Ends.of (Ends.succ (f := fun k => spec_ChartOk.j0 k false s l m) (fun k => by rw [spec_ChartOk.j0, if_neg (by simp)]) this) (fun k => ?_)
  rw [spec_ChartOk.f, if_neg h0, if_neg (by omega), if_neg (by omega), decide_eq_false (show ¬ ((m.length : Int) > 6) by omega)]
 ·have ho := h.1.2 (rd_T37 l j) (by rw [rdI_tr _ _ hj]; exact List.getElem_mem _)
  have he := Ends.of_up (f := fun k => spec_ExprOk.f k (rd_T37 l j).f2.f0 (rd_T37 l j).f2.f1 (rd_T37 l j).f2.f2.f0 (rd_T37 l j).f2.f2.f1 (rd_T37 l j).f2.f3) (fun k => spec_ExprOk.mono _ _ _ _ _ k) (exprOk_spec (rd_T37 l j).f2 (short_of _ ho.2.2))
  rw [← okL_eq] at he
  show Ends _ (trGoodL s (rd_T37 l (j : Int)) && r)
  rw [trGoodL, Bool.and_assoc, Bool.and_assoc]
  refine Ends.succ (fun k => ?_) (and_part (places_is (rd_T37 l j).f0 s (by have := ho.1; omega)) (and_part (places_is (rd_T37 l j).f1 s (by have := ho.2.1; omega)) (and_part he hr)))
  rw [spec_ChartOk.l0, if_pos (by omega), if_pos (by omega), next_in (n := l.length) (by have := h.1.1; omega) hj]
end Go.Proofs.YtfmipdhkiahjoaaDoor.B
/- impl.chartOk, in the print's form. -/
namespace Go.Proofs.YtfmipdhkiahjoaaDoor.B
open Go.RowKit Go.Shelf Go.Proofs.YtfmipdhkiahjoaaDoorW.PrintWords Go.Proofs.YtfmipdhkiahjoaaDoorW.PrintLast Go.Proofs.YtfmipdhkiahjoaaDoorW.PrintMore
set_option linter.unusedVariables false
def impl_chartOk.f (a0_0 : Int) (l0_1 : List S37) (l0_2 : List S39) : Option Bool := some (chOkL a0_0 l0_1 l0_2)
theorem impl_chartOk.calls (a0_0 : Int) (A0_1 : Option Addr) (c0_1 : Nat) (l0_1 : List S37) (A0_2 : Option Addr) (c0_2 : Nat) (l0_2 : List S39) (r : Bool) (w : World) (hr0_1 : Kd.C k37 w A0_1 l0_1.length l0_1) (hc0_1 : l0_1.length ≤ c0_1) (hr0_2 : Kd.C k39 w A0_2 l0_2.length l0_2) (hc0_2 : l0_2.length ≤ c0_2) (h : impl_chartOk.f a0_0 l0_1 l0_2 = some r) :
  Calls Tryd.prog 11 #[.agg #[.int .i64 a0_0, .slice A0_1 l0_1.length c0_1, .slice A0_2 l0_2.length c0_2]] w fun e w' => e = .returned (.bool r) ∧ Below w.heap.size w w' := by
 obtain rfl := Option.some.inj h
 exact chOk_of (fun e A c w hC hc => exprOk_any e A c w hC hc) a0_0 l0_1 l0_2 A0_1 c0_1 A0_2 c0_2 w hr0_1 hc0_1 hr0_2 hc0_2
end Go.Proofs.YtfmipdhkiahjoaaDoor.B
/- The reader is opened. -/
namespace Go.Proofs.YtfmipdhkiahjoaaDoor.B
open Go Go.RowKit Go.Shelf Go.Proofs.YtfmipdhkiahjoaaDoorW.PrintWords Go.Proofs.YtfmipdhkiahjoaaDoorW.PrintLast Go.Proofs.YtfmipdhkiahjoaaDoorW.PrintMore
set_option linter.unusedVariables false
/-- A code that came in: its bytes, its opening. -/
theorem open_total (l : List Int) (hw : ∀ x ∈ l, (Lit.int .u8 x).wf = true) : ∃ s, Bytes s ∧ s.length ≤ 2000 ∧ spec_l12Open.f l = some (s, 0) := by
 have hb : Bytes l := fun x hx => by
  have := hw x hx
  simp [Lit.wf, IntKind.min, IntKind.max, IntKind.signed, IntKind.bits] at this
  omega
 by_cases h : (l.length : Int) > 2000
 ·refine ⟨l.take 2000, fun x hx => hb x (List.mem_of_mem_take hx), by simp; omega, ?_⟩
  rw [spec_l12Open.f, if_pos h, if_pos (by omega)]
 ·exact ⟨l, hb, by omega, by rw [spec_l12Open.f, if_neg h]⟩
theorem open_dr {w0 w : World} (l : List Int) (hw : ∀ x ∈ l, (Lit.int .u8 x).wf = true) (A : Option Addr) (c : Nat) (hC : Kd.C (Kd.int .u8) w0 A l.length l) (hc : l.length ≤ c) (hb : Below w0.heap.size w0 w) : Calls Tryd.prog 10 #[.slice A l.length c] w fun e W => ∃ g s, e = .returned (.pointer (some ⟨g, 0, none⟩)) ∧ At w0 W g s 1099000000000 W ∧ Below w.heap.size w W ∧ ∀ b T cs, Box W b T cs → T ≠ 64 → b ≠ g := by
 obtain ⟨s, hs, hl, ho⟩ := open_total l hw
 refine (spec_l12Open.calls A c l s 0 w0 w hb hC hc ho).mono ?_
 rintro e W ⟨g, rfl, hi, hb0, hb1⟩
 exact ⟨g, s, rfl, ⟨⟨0, by omega, by omega, hi⟩, hb0, KeepBut.refl _ _ _, hi.lt, hs, hl⟩, hb1, fun b T cs hbx hT => (hi.ne_blk hbx hT).symm⟩
end Go.Proofs.YtfmipdhkiahjoaaDoor.B
