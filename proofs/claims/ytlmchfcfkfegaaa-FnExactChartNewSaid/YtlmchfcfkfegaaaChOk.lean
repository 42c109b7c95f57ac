/- impl.chartOk: whether a chart is ok. -/
import Derived.Test.YtlmchfcfkfegaaaFuncsAc
import Derived.Test.YtlmchfcfkfegaaaOkCon
import Derived.Test.YtlmchfcfkfegaaaEnds
import Derived.Test.YtlmchfcfkfegaaaChNames
import Derived.Test.YtlmchfcfkfegaaaAllLoop
import Derived.Test.YtlmchfcfkfegaaaPkB
import Derived.Deep.RegionHeld3
namespace Go.Proofs.Ytlmchfcfkfegaaa.B
open Go.RowKit Go.Shelf Go.Proofs.YtlmchfcfkfegaaaW.PrintWords Go.Proofs.YtlmchfcfkfegaaaW.PrintLast Go.Proofs.YtlmchfcfkfegaaaW.PrintMore
set_option linter.unusedVariables false

/-- A place of a row of places is right: a step, and behind the one ahead of it. -/
def goodL (l : List Int) (s : Int) (j : Nat) : Bool := !(decide (rd l (j : Int) < 0)) && (!(decide (rd l (j : Int) ≥ s)) && (decide (j = 0) || !(decide (rd l (j : Int) ≤ rd l ((j : Int) - 1)))))
def placesL (l : List Int) (s : Int) : Bool := (List.range l.length).all (goodL l s) && decide ((l.length : Int) > 0)
theorem places_ends (l : List Int) (s : Int) (hl : l.length ≤ 9223372036854775807) : Ends (fun k => impl_stepsOk.f k l s) (placesL l s) := by
 have h := all_loop (L := fun k j => impl_stepsOk.l0 k l s l (l.length : Int) j) (p := goodL l s) (b := decide ((l.length : Int) > 0)) l.length (Ends.succ (fun k => by rw [impl_stepsOk.l0, if_neg (by omega)]) (Ends.const fun k => rfl)) (fun j r hj hr => ?_)
 ·exact h
 ·have hw : wrap64 ((j : Int) + 1) = ((j + 1 : Nat) : Int) := by rw [wrap_in (by omega) (by omega)]; omega
  have hm : wrap64 ((j : Int) - 1) = (j : Int) - 1 := wrap_in (by omega) (by omega)
  unfold goodL
  by_cases h0 : rd l (j : Int) < 0
  ·rw [decide_eq_true h0]
   exact Ends.succ (g := fun _ => some false) (fun k => by rw [impl_stepsOk.l0, if_pos (by omega), if_pos (by omega), if_pos (by omega), if_pos h0]) (Ends.const fun k => rfl)
  rw [decide_eq_false h0]
  by_cases h1 : rd l (j : Int) ≥ s
  ·rw [decide_eq_true h1]
   exact Ends.succ (g := fun _ => some false) (fun k => by rw [impl_stepsOk.l0, if_pos (by omega), if_pos (by omega), if_pos (by omega), if_neg h0, if_pos h1]) (Ends.const fun k => rfl)
  rw [decide_eq_false h1]
  by_cases h2 : j = 0
  ·rw [decide_eq_true h2]
   refine Ends.succ (fun k => by rw [impl_stepsOk.l0, if_pos (by omega), if_pos (by omega), if_pos (by omega), if_neg h0, if_neg h1, if_neg (by omega), hw]) ?_
   simpa using hr
  rw [decide_eq_false h2]
  by_cases h3 : rd l (j : Int) ≤ rd l ((j : Int) - 1)
  ·rw [decide_eq_true h3]
   exact Ends.succ (g := fun _ => some false) (fun k => by rw [impl_stepsOk.l0, if_pos (by omega), if_pos (by omega), if_pos (by omega), if_neg h0, if_neg h1, if_pos (by omega), hm, if_pos (by omega), if_pos (by omega), if_pos h3]) (Ends.const fun k => rfl)
  ·rw [decide_eq_false h3]
   refine Ends.succ (fun k => by rw [impl_stepsOk.l0, if_pos (by omega), if_pos (by omega), if_pos (by omega), if_neg h0, if_neg h1, if_pos (by omega), hm, if_pos (by omega), if_pos (by omega), if_neg h3, hw]) ?_
   simpa using hr
theorem places_any (l : List Int) (s : Int) (A : Option Addr) (c : Nat) (w : World) (hC : Kd.C (Kd.int .i64) w A l.length l) (hc : l.length ≤ c) :
  Calls Try.prog 94 #[.slice A l.length c, .int .i64 s] w fun e w' => e = .returned (.bool (placesL l s)) ∧ Drawn0 w w' := by
 obtain ⟨K, hK⟩ := places_ends l s hC.2.1
 exact impl_stepsOk.calls K A c l s _ w hC hc (hK K (Nat.le_refl _))
/-- What is done that is not right. -/
def acBadL (s : Int) (x : IAc) : Bool := decide (x.f0 < 1) || (decide (4 < x.f0) || (decide (x.f1 < 0) || (decide (s ≤ x.f1) || (!(addrOkL x.f2.f0 x.f2.f1) || x.f2.f0 != 2))))
set_option maxRecDepth 100000 in
set_option maxHeartbeats 4000000 in
theorem acClos (s : Int) (x : IAc) (cs : Array Value) (hs : cs[0]? = some (.int .i64 s)) (g : Nat) (w : World) (hg : w.heap[g]? = some (.cells cs 31 (0, 0))) :
  Calls Try.prog 97 #[.agg #[.int .i64 x.f0, .int .i64 x.f1, .int .i64 x.f2.f0, .int .i64 x.f2.f1], .pointer (some ⟨g, 0, none⟩)] w fun e w' => e = .returned (.bool (acBadL s x)) ∧ Below w.heap.size w w' := by
 have HG := Aside0.mk hg
 have HC0 := Aside0.mk (show w.cell? ⟨g, 0, none⟩ = some (.int .i64 s) from (blk_cell hg 0).trans hs)
 have HE := Aside0.mk (show acBadL s x = (decide (x.f0 < 1) || (decide (4 < x.f0) || (decide (x.f1 < 0) || (decide (s ≤ x.f1) || (!(addrOkL x.f2.f0 x.f2.f1) || x.f2.f0 != 2))))) from rfl)
 clear hg hs
 by_cases h0 : x.f0 < 1
 ·have b0 : decide (x.f0 < 1) = true := decide_eq_true h0
  have H0 := Aside0.mk b0; clear h0
  go_enter Try.func97, Try.ntmps97
  go_upto_region 1 with (fail)
  have j1 := heap_alloc_new w (.cells #[.int .i64 x.f0, .int .i64 x.f1, .int .i64 x.f2.f0, .int .i64 x.f2.f1] 92)
  have hb1 : Below w.heap.size w (w.alloc (.cells #[.int .i64 x.f0, .int .i64 x.f1, .int .i64 x.f2.f0, .int .i64 x.f2.f1] 92)) := (Below.refl _ _).alloc (Nat.le_refl _) _
  generalize w.alloc (.cells #[.int .i64 x.f0, .int .i64 x.f1, .int .i64 x.f2.f0, .int .i64 x.f2.f1] 92) = W1 at j1 hb1 ⊢
  have c0 := (hb1.cell (World.block_lt_of_cell? w _ HC0.out)).trans HC0.out
  have e0 : W1.cell? ⟨w.heap.size, 0, none⟩ = some (.int .i64 x.f0) := (blk_cell j1 0).trans rfl
  have e1 : W1.cell? ⟨w.heap.size, 1, none⟩ = some (.int .i64 x.f1) := (blk_cell j1 1).trans rfl
  have e2 : W1.cell? ⟨w.heap.size, 2, none⟩ = some (.int .i64 x.f2.f0) := (blk_cell j1 2).trans rfl
  have e3 : W1.cell? ⟨w.heap.size, 3, none⟩ = some (.int .i64 x.f2.f1) := (blk_cell j1 3).trans rfl
  have HB := Aside0.mk (And.intro hb1 j1)
  clear hb1 j1
  go_wp2
  go_ret
  exact ⟨by rw [HE.out, H0.out]; rfl, HB.out.1⟩
 have b0 : decide (x.f0 < 1) = false := decide_eq_false h0
 have H0 := Aside0.mk b0; clear h0
 by_cases h1 : 4 < x.f0
 ·have b1 : decide (4 < x.f0) = true := decide_eq_true h1
  have H1 := Aside0.mk b1; clear h1
  go_enter Try.func97, Try.ntmps97
  go_upto_region 1 with (fail)
  have j1 := heap_alloc_new w (.cells #[.int .i64 x.f0, .int .i64 x.f1, .int .i64 x.f2.f0, .int .i64 x.f2.f1] 92)
  have hb1 : Below w.heap.size w (w.alloc (.cells #[.int .i64 x.f0, .int .i64 x.f1, .int .i64 x.f2.f0, .int .i64 x.f2.f1] 92)) := (Below.refl _ _).alloc (Nat.le_refl _) _
  generalize w.alloc (.cells #[.int .i64 x.f0, .int .i64 x.f1, .int .i64 x.f2.f0, .int .i64 x.f2.f1] 92) = W1 at j1 hb1 ⊢
  have c0 := (hb1.cell (World.block_lt_of_cell? w _ HC0.out)).trans HC0.out
  have e0 : W1.cell? ⟨w.heap.size, 0, none⟩ = some (.int .i64 x.f0) := (blk_cell j1 0).trans rfl
  have e1 : W1.cell? ⟨w.heap.size, 1, none⟩ = some (.int .i64 x.f1) := (blk_cell j1 1).trans rfl
  have e2 : W1.cell? ⟨w.heap.size, 2, none⟩ = some (.int .i64 x.f2.f0) := (blk_cell j1 2).trans rfl
  have e3 : W1.cell? ⟨w.heap.size, 3, none⟩ = some (.int .i64 x.f2.f1) := (blk_cell j1 3).trans rfl
  have HB := Aside0.mk (And.intro hb1 j1)
  clear hb1 j1
  go_wp2
  go_ret
  exact ⟨by rw [HE.out, H0.out, H1.out]; rfl, HB.out.1⟩
 have b1 : decide (4 < x.f0) = false := decide_eq_false h1
 have H1 := Aside0.mk b1; clear h1
 by_cases h2 : x.f1 < 0
 ·have b2 : decide (x.f1 < 0) = true := decide_eq_true h2
  have H2 := Aside0.mk b2; clear h2
  go_enter Try.func97, Try.ntmps97
  go_upto_region 1 with (fail)
  have j1 := heap_alloc_new w (.cells #[.int .i64 x.f0, .int .i64 x.f1, .int .i64 x.f2.f0, .int .i64 x.f2.f1] 92)
  have hb1 : Below w.heap.size w (w.alloc (.cells #[.int .i64 x.f0, .int .i64 x.f1, .int .i64 x.f2.f0, .int .i64 x.f2.f1] 92)) := (Below.refl _ _).alloc (Nat.le_refl _) _
  generalize w.alloc (.cells #[.int .i64 x.f0, .int .i64 x.f1, .int .i64 x.f2.f0, .int .i64 x.f2.f1] 92) = W1 at j1 hb1 ⊢
  have c0 := (hb1.cell (World.block_lt_of_cell? w _ HC0.out)).trans HC0.out
  have e0 : W1.cell? ⟨w.heap.size, 0, none⟩ = some (.int .i64 x.f0) := (blk_cell j1 0).trans rfl
  have e1 : W1.cell? ⟨w.heap.size, 1, none⟩ = some (.int .i64 x.f1) := (blk_cell j1 1).trans rfl
  have e2 : W1.cell? ⟨w.heap.size, 2, none⟩ = some (.int .i64 x.f2.f0) := (blk_cell j1 2).trans rfl
  have e3 : W1.cell? ⟨w.heap.size, 3, none⟩ = some (.int .i64 x.f2.f1) := (blk_cell j1 3).trans rfl
  have HB := Aside0.mk (And.intro hb1 j1)
  clear hb1 j1
  go_wp2
  go_ret
  exact ⟨by rw [HE.out, H0.out, H1.out, H2.out]; rfl, HB.out.1⟩
 have b2 : decide (x.f1 < 0) = false := decide_eq_false h2
 have H2 := Aside0.mk b2; clear h2
 by_cases h3 : s ≤ x.f1
 ·have b3 : decide (s ≤ x.f1) = true := decide_eq_true h3
  have H3 := Aside0.mk b3; clear h3
  go_enter Try.func97, Try.ntmps97
  go_upto_region 1 with (fail)
  have j1 := heap_alloc_new w (.cells #[.int .i64 x.f0, .int .i64 x.f1, .int .i64 x.f2.f0, .int .i64 x.f2.f1] 92)
  have hb1 : Below w.heap.size w (w.alloc (.cells #[.int .i64 x.f0, .int .i64 x.f1, .int .i64 x.f2.f0, .int .i64 x.f2.f1] 92)) := (Below.refl _ _).alloc (Nat.le_refl _) _
  generalize w.alloc (.cells #[.int .i64 x.f0, .int .i64 x.f1, .int .i64 x.f2.f0, .int .i64 x.f2.f1] 92) = W1 at j1 hb1 ⊢
  have c0 := (hb1.cell (World.block_lt_of_cell? w _ HC0.out)).trans HC0.out
  have e0 : W1.cell? ⟨w.heap.size, 0, none⟩ = some (.int .i64 x.f0) := (blk_cell j1 0).trans rfl
  have e1 : W1.cell? ⟨w.heap.size, 1, none⟩ = some (.int .i64 x.f1) := (blk_cell j1 1).trans rfl
  have e2 : W1.cell? ⟨w.heap.size, 2, none⟩ = some (.int .i64 x.f2.f0) := (blk_cell j1 2).trans rfl
  have e3 : W1.cell? ⟨w.heap.size, 3, none⟩ = some (.int .i64 x.f2.f1) := (blk_cell j1 3).trans rfl
  have HB := Aside0.mk (And.intro hb1 j1)
  clear hb1 j1
  go_wp2
  go_ret
  exact ⟨by rw [HE.out, H0.out, H1.out, H2.out, H3.out]; rfl, HB.out.1⟩
 have b3 : decide (s ≤ x.f1) = false := decide_eq_false h3
 have H3 := Aside0.mk b3; clear h3
 obtain ⟨r, hr⟩ : ∃ r, r = addrOkL x.f2.f0 x.f2.f1 := ⟨_, rfl⟩
 have HR := Aside0.mk hr
 clear hr
 go_enter Try.func97, Try.ntmps97
 go_upto_region 1 with (fail)
 have j1 := heap_alloc_new w (.cells #[.int .i64 x.f0, .int .i64 x.f1, .int .i64 x.f2.f0, .int .i64 x.f2.f1] 92)
 have hb1 : Below w.heap.size w (w.alloc (.cells #[.int .i64 x.f0, .int .i64 x.f1, .int .i64 x.f2.f0, .int .i64 x.f2.f1] 92)) := (Below.refl _ _).alloc (Nat.le_refl _) _
 generalize w.alloc (.cells #[.int .i64 x.f0, .int .i64 x.f1, .int .i64 x.f2.f0, .int .i64 x.f2.f1] 92) = W1 at j1 hb1 ⊢
 have c0 := (hb1.cell (World.block_lt_of_cell? w _ HC0.out)).trans HC0.out
 have e0 : W1.cell? ⟨w.heap.size, 0, none⟩ = some (.int .i64 x.f0) := (blk_cell j1 0).trans rfl
 have e1 : W1.cell? ⟨w.heap.size, 1, none⟩ = some (.int .i64 x.f1) := (blk_cell j1 1).trans rfl
 have e2 : W1.cell? ⟨w.heap.size, 2, none⟩ = some (.int .i64 x.f2.f0) := (blk_cell j1 2).trans rfl
 have e3 : W1.cell? ⟨w.heap.size, 3, none⟩ = some (.int .i64 x.f2.f1) := (blk_cell j1 3).trans rfl
 have HB := Aside0.mk (And.intro hb1 j1)
 clear hb1 j1
 go_wp2_with fail
 refine (addrOk_any _ _ _).mono ?_
 rintro e w1 ⟨rfl, hb1⟩
 have j1 := (hb1.block _ (blk_lt HB.out.2)).trans HB.out.2
 have k2 : w1.cell? ⟨w.heap.size, 2, none⟩ = some (.int .i64 x.f2.f0) := (blk_cell j1 2).trans rfl
 have HBB := Aside0.mk (HB.out.1.trans (hb1.mono HB.out.1.size))
 clear hb1 j1 c0 e0 e1 e2 e3
 rw [← HR.out]
 cases r with
 | false =>
  go_wp2
  go_ret
  exact ⟨by rw [HE.out, H0.out, H1.out, H2.out, H3.out, ← HR.out]; rfl, HBB.out⟩
 | true =>
  go_wp2
  go_ret
  exact ⟨by rw [HE.out, H0.out, H1.out, H2.out, H3.out, ← HR.out]; rfl, HBB.out⟩
/-- A way that is right. -/
def trGoodL (s : Int) (x : ITr) : Bool := placesL x.f0 s && (placesL x.f1 s && okL 0 (partsL x.f2))
def chOkL (s : Int) (l : List ITr) (m : List IAc) : Bool := !(decide (s < 1) || (decide (6 < s) || (decide (6 < (l.length : Int)) || decide (6 < (m.length : Int))))) && (l.all (trGoodL s) && !(m.any (acBadL s)))
set_option maxRecDepth 100000 in
set_option maxHeartbeats 8000000 in
theorem chOk_of (hok : OkCon) (s : Int) (l : List ITr) (m : List IAc) (A1 : Option Addr) (c1 : Nat) (A2 : Option Addr) (c2 : Nat) (w : World) (h1 : Kd.C k52 w A1 l.length l) (n1 : l.length ≤ c1) (h2 : Kd.C k92 w A2 m.length m) (n2 : m.length ≤ c2) :
  Calls Try.prog 47 #[.agg #[.int .i64 s, .slice A1 l.length c1, .slice A2 m.length c2]] w fun e w' => e = .returned (.bool (chOkL s l m)) ∧ Below w.heap.size w w' := by
 have hb0 : Below w.heap.size w (w.alloc (.cells #[.int .i64 s, .slice A1 l.length c1, .slice A2 m.length c2] 31)) := (Below.refl _ _).alloc (Nat.le_refl _) _
 have hx0 : (w.alloc (.cells #[.int .i64 s, .slice A1 l.length c1, .slice A2 m.length c2] 31)).heap[w.heap.size]? = some (.cells #[.int .i64 s, .slice A1 l.length c1, .slice A2 m.length c2] 31 (0, 0)) := heap_alloc_new w _
 have HB := Aside0.mk hb0
 have HX := Aside0.mk hx0
 have HC1 := Aside0.mk h1
 have hmax : l.length ≤ 9223372036854775807 := h1.2.1
 have HCALL := Aside0.mk (fun (W : World) (hW : Below w.heap.size w W) (hg : W.heap[w.heap.size]? = some (.cells #[.int .i64 s, .slice A1 l.length c1, .slice A2 m.length c2] 31 (0, 0))) => (containsFuncAc_any 97 #[.pointer (some ⟨w.heap.size, 0, none⟩)] (acBadL s) (enters_of Try.func97 (by kernel_rfl) rfl) m A2 c2 W
  (fun x W' hx hW' => by simpa using acClos s x #[.int .i64 s, .slice A1 l.length c1, .slice A2 m.length c2] rfl w.heap.size W' ((hW'.block _ (blk_lt hg)).trans hg)) (Kd.C_below h2 hW) n2).mono (R' := fun e w' => e = .returned (.bool (m.any (acBadL s))) ∧ Below w.heap.size w w') (fun e w' h => ⟨h.1, hW.trans (h.2.mono hW.size)⟩))
 have HE := Aside0.mk (show chOkL s l m = (!(decide (s < 1) || (decide (6 < s) || (decide (6 < (l.length : Int)) || decide (6 < (m.length : Int))))) && (l.all (trGoodL s) && !(m.any (acBadL s)))) from rfl)
 clear hb0 hx0 h1 h2 n2
 by_cases z0 : s < 1
 ·have b0 : decide (s < 1) = true := decide_eq_true z0
  have H0 := Aside0.mk b0; clear z0
  go_enter Try.func47, Try.ntmps47
  go_wp2
  go_ret
  exact ⟨by rw [HE.out, H0.out]; rfl, HB.out⟩
 have b0 : decide (s < 1) = false := decide_eq_false z0
 have H0 := Aside0.mk b0; clear z0
 by_cases z1 : 6 < s
 ·have b1 : decide (6 < s) = true := decide_eq_true z1
  have H1 := Aside0.mk b1; clear z1
  go_enter Try.func47, Try.ntmps47
  go_wp2
  go_ret
  exact ⟨by rw [HE.out, H0.out, H1.out]; rfl, HB.out⟩
 have b1 : decide (6 < s) = false := decide_eq_false z1
 have H1 := Aside0.mk b1; clear z1
 by_cases z2 : 6 < (l.length : Int)
 ·have b2 : decide (6 < (l.length : Int)) = true := decide_eq_true z2
  have H2 := Aside0.mk b2; clear z2
  go_enter Try.func47, Try.ntmps47
  go_wp2
  go_ret
  exact ⟨by rw [HE.out, H0.out, H1.out, H2.out]; rfl, HB.out⟩
 have b2 : decide (6 < (l.length : Int)) = false := decide_eq_false z2
 have H2 := Aside0.mk b2; clear z2
 by_cases z3 : 6 < (m.length : Int)
 ·have b3 : decide (6 < (m.length : Int)) = true := decide_eq_true z3
  have H3 := Aside0.mk b3; clear z3
  go_enter Try.func47, Try.ntmps47
  go_wp2
  go_ret
  exact ⟨by rw [HE.out, H0.out, H1.out, H2.out, H3.out]; rfl, HB.out⟩
 have b3 : decide (6 < (m.length : Int)) = false := decide_eq_false z3
 have H3 := Aside0.mk b3; clear z3
 go_enter Try.func47, Try.ntmps47
 go_wp2
 go_loopw [4, 28] (fun _ i wr => ∃ (j : Nat), i = .int .i64 j ∧ Aside0 (j ≤ l.length ∧ (l.take j).all (trGoodL s) = true ∧ Below w.heap.size w wr ∧ wr.heap[w.heap.size]? = some (.cells #[.int .i64 s, .slice A1 l.length c1, .slice A2 m.length c2] 31 (0, 0)))) (fun _ i _ => l.length - (intOf i).toNat)
 case atStart => exact ⟨0, rfl, ⟨Nat.zero_le _, by simp, HB.out, HX.out⟩⟩
 case round =>
  obtain ⟨j, rfl, HR⟩ := hrel
  clear b0 b1 b2 b3
  have k0 : wr.cell? ⟨w.heap.size, 0, none⟩ = some (.int .i64 s) := (blk_cell HR.out.2.2.2 0).trans rfl
  have k2 : wr.cell? ⟨w.heap.size, 2, none⟩ = some (.slice A2 m.length c2) := (blk_cell HR.out.2.2.2 2).trans rfl
  by_cases hj : j < l.length
  ·obtain ⟨ad, D0, q0, D1, q1, D6, q6, hA, e0, e1, e2, e3, e4, e5, e6, hl0, hi0, hl1, hi1, hl6, hi6⟩ := at_T52 HC1.out (j : Int) (by omega) (by omega)
   cases hA
   have hkid : rd_T52 l (j : Int) = l[j] := by simp [rd_T52, hj]
   have hb := HR.out.2.2.1
   replace e0 := (hb.cell (World.block_lt_of_cell? w _ e0)).trans e0
   replace e1 := (hb.cell (World.block_lt_of_cell? w _ e1)).trans e1
   replace e2 := (hb.cell (World.block_lt_of_cell? w _ e2)).trans e2
   replace e3 := (hb.cell (World.block_lt_of_cell? w _ e3)).trans e3
   replace e4 := (hb.cell (World.block_lt_of_cell? w _ e4)).trans e4
   replace e5 := (hb.cell (World.block_lt_of_cell? w _ e5)).trans e5
   replace e6 := (hb.cell (World.block_lt_of_cell? w _ e6)).trans e6
   rw [hkid] at e0 e1 e2 e3 e4 e5 e6 hl0 hi0 hl1 hi1 hl6 hi6
   simp only [Int.toNat_natCast] at e0 e1 e2 e3 e4 e5 e6
   obtain ⟨x, hx⟩ : ∃ x, x = l[j] := ⟨_, rfl⟩
   rw [← hx] at e0 e1 e2 e3 e4 e5 e6 hl0 hi0 hl1 hi1 hl6 hi6
   have HXJ := Aside0.mk (And.intro hx (And.intro hj hmax))
   have HP0 := Aside0.mk (fun (W : World) (hW : Below w.heap.size w W) => places_any x.f0 s D0 q0 W (Kd.C_below hi0 hW) hl0)
   have HP1 := Aside0.mk (fun (W : World) (hW : Below w.heap.size w W) => places_any x.f1 s D1 q1 W (Kd.C_below hi1 hW) hl1)
   have HP6 := Aside0.mk (fun (W : World) (hW : Below w.heap.size w W) => (hok x.f2 D6 q6 W (Kd.C_below hi6 hW) hl6).mono (R' := fun e w' => e = .returned (.bool (okL 0 (partsL x.f2))) ∧ Below w.heap.size w w' ∧ Below W.heap.size W w') (fun e w' h => ⟨h.1, hW.trans (h.2.mono hW.size), h.2⟩))
   clear hb hkid hx hi0 hl0 hi1 hl1 hi6 hl6
   go_upto_region 6 with (fail)
   have j1 := heap_alloc_new wr (.cells #[.slice D0 x.f0.length q0, .slice D1 x.f1.length q1, .int .i64 x.f2.f0, .int .i64 x.f2.f1, .int .i64 x.f2.f2.f0, .int .i64 x.f2.f2.f1, .slice D6 x.f2.f3.length q6] 52)
   have hb1 : Below wr.heap.size wr (wr.alloc (.cells #[.slice D0 x.f0.length q0, .slice D1 x.f1.length q1, .int .i64 x.f2.f0, .int .i64 x.f2.f1, .int .i64 x.f2.f2.f0, .int .i64 x.f2.f2.f1, .slice D6 x.f2.f3.length q6] 52)) := (Below.refl _ _).alloc (Nat.le_refl _) _
   generalize wr.alloc (.cells #[.slice D0 x.f0.length q0, .slice D1 x.f1.length q1, .int .i64 x.f2.f0, .int .i64 x.f2.f1, .int .i64 x.f2.f2.f0, .int .i64 x.f2.f2.f1, .slice D6 x.f2.f3.length q6] 52) = W1 at j1 hb1 ⊢
   have k0 : W1.cell? ⟨w.heap.size, 0, none⟩ = some (.int .i64 s) := (blk_cell ((hb1.block _ (blk_lt HR.out.2.2.2)).trans HR.out.2.2.2) 0).trans rfl
   have HW1 := Aside0.mk (And.intro (HR.out.2.2.1.trans (hb1.mono HR.out.2.2.1.size)) ((hb1.block _ (blk_lt HR.out.2.2.2)).trans HR.out.2.2.2))
   clear e0 e1 e2 e3 e4 e5 e6 hb1 k2
   have e0 : W1.cell? ⟨wr.heap.size, 0, none⟩ = some (.slice D0 x.f0.length q0) := (blk_cell j1 0).trans rfl
   have e1 : W1.cell? ⟨wr.heap.size, 1, none⟩ = some (.slice D1 x.f1.length q1) := (blk_cell j1 1).trans rfl
   have e2 : W1.cell? ⟨wr.heap.size, 2, none⟩ = some (.int .i64 x.f2.f0) := (blk_cell j1 2).trans rfl
   have e3 : W1.cell? ⟨wr.heap.size, 3, none⟩ = some (.int .i64 x.f2.f1) := (blk_cell j1 3).trans rfl
   have e4 : W1.cell? ⟨wr.heap.size, 4, none⟩ = some (.int .i64 x.f2.f2.f0) := (blk_cell j1 4).trans rfl
   have e5 : W1.cell? ⟨wr.heap.size, 5, none⟩ = some (.int .i64 x.f2.f2.f1) := (blk_cell j1 5).trans rfl
   have e6 : W1.cell? ⟨wr.heap.size, 6, none⟩ = some (.slice D6 x.f2.f3.length q6) := (blk_cell j1 6).trans rfl
   clear j1
   have HBAD := Aside0.mk (show trGoodL s x = false → chOkL s l m = false from fun h => by
    rw [HE.out, show l.all (trGoodL s) = false from List.all_eq_false.2 ⟨l[j]'HXJ.out.2.1, List.getElem_mem _, by rw [← HXJ.out.1, h]; simp⟩, Bool.false_and, Bool.and_false])
   have HT := Aside0.mk (show trGoodL s x = (placesL x.f0 s && (placesL x.f1 s && okL 0 (partsL x.f2))) from rfl)
   go_wp2_with fail
   refine (HP0.out _ HW1.out.1).mono ?_
   rintro e w1 ⟨rfl, n1, rfl⟩
   cases r0 : placesL x.f0 s with
   | false =>
    have R0 := Aside0.mk r0; clear r0
    go_wp2
    go_ret
    exact ⟨by rw [HBAD.out (by rw [HT.out, R0.out]; rfl)]; rfl, by repeat (first | (with_reducible first | exact HW1.out.1 | apply below_alloc | apply pw_below_drewN | apply below_drew1) | exact HW1.out.1)⟩
   | true =>
    have R0 := Aside0.mk r0; clear r0
    go_wp2_with fail
    refine (HP1.out _ (by repeat (first | (with_reducible first | exact HW1.out.1 | apply below_alloc | apply pw_below_drewN | apply below_drew1) | exact HW1.out.1))).mono ?_
    rintro e w2 ⟨rfl, n2, rfl⟩
    cases r1 : placesL x.f1 s with
    | false =>
     have R1 := Aside0.mk r1; clear r1
     go_wp2
     go_ret
     exact ⟨by rw [HBAD.out (by rw [HT.out, R0.out, R1.out]; rfl)]; rfl, by repeat (first | (with_reducible first | exact HW1.out.1 | apply below_alloc | apply pw_below_drewN | apply below_drew1) | exact HW1.out.1)⟩
    | true =>
     have R1 := Aside0.mk r1; clear r1
     go_wp2_with fail
     refine (HP6.out _ (by repeat (first | (with_reducible first | exact HW1.out.1 | apply below_alloc | apply pw_below_drewN | apply below_drew1) | exact HW1.out.1))).mono ?_
     rintro e w3 ⟨rfl, hb3, hbW⟩
     have HB3 := Aside0.mk (And.intro hb3 ((hbW.block w.heap.size (blk_lt HW1.out.2)).trans HW1.out.2))
     clear hb3 hbW k0 e0 e1 e2 e3 e4 e5 e6
     cases r6 : okL 0 (partsL x.f2) with
     | false =>
      have R6 := Aside0.mk r6; clear r6
      go_wp2
      go_ret
      exact ⟨by rw [HBAD.out (by rw [HT.out, R0.out, R1.out, R6.out]; rfl)]; rfl, HB3.out.1⟩
     | true =>
      have R6 := Aside0.mk r6; clear r6
      go_wp2
      go_roundw
      case rel => exact ⟨j + 1, by go_num, ⟨HXJ.out.2.1, by rw [List.take_succ_eq_append_getElem HXJ.out.2.1, List.all_append, HR.out.2.1]; simp [← HXJ.out.1, HT.out, R0.out, R1.out, R6.out], HB3.out.1, HB3.out.2⟩⟩
      case measure => have := HXJ.out.2.1; simp [intOf]; omega
  ·have hjl : j = l.length := by have := HR.out.1; omega
   have hn := HR.out.2.1
   rw [hjl, List.take_of_length_le (Nat.le_refl _)] at hn
   have HN := Aside0.mk hn; clear hn hjl
   go_wp2_with fail
   refine (HCALL.out _ HR.out.2.2.1 HR.out.2.2.2).mono ?_
   rintro e w1 ⟨rfl, hb1⟩
   have HB1 := Aside0.mk hb1
   clear hb1 k0 k2
   go_wp2
   go_ret
   exact ⟨by rw [HE.out, H0.out, H1.out, H2.out, H3.out, HN.out]; rfl, HB1.out⟩
end Go.Proofs.Ytlmchfcfkfegaaa.B
