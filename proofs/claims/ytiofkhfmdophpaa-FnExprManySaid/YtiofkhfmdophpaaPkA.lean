/- Printed functions of this seat, in one text. -/
import Derived.Test.YtiofkhfmdophpaaB0
import Derived.Test.YtiofkhfmdophpaaSq
namespace Go.Proofs.Ytiofkhfmdophpaa.B
open Go.RowKit Go.Proofs.YtiofkhfmdophpaaW.PrintWords Go.Proofs.YtiofkhfmdophpaaW.PrintLast Go.Proofs.YtiofkhfmdophpaaW.PrintMore
attribute [local go_sem] max2_int min2_int max_two min_two max_three min_three max_four min_four   -- for this text's walks alone
set_option linter.unusedVariables false
set_option linter.unusedSimpArgs false

/-- A state of type 132 at block g of W; what its slices lead to came in by w0. -/
def IsS132 (w0 W : World) (g : Nat) (f0 : List Int) (f1 : Int) : Prop := ∃ A0 c0, W.heap[g]? = some (.cells #[.slice A0 f0.length c0, .int .i64 f1] 132 (0, 0)) ∧ w0.heap.size ≤ g ∧ Kd.C (Kd.int .u8) w0 A0 f0.length f0
theorem IsS132.grown {w0 W : World} {g : Nat} {f0 : List Int} {f1 : Int} {W1 : World} {row : Option Nat} (h : IsS132 w0 W g f0 f1) (hw : W.grownBy W1 row) (hne : some g ≠ row) : IsS132 w0 W1 g f0 f1 := by
  obtain ⟨A0, c0, hb, hg, hr0⟩ := h
  exact ⟨A0, c0, blk_grown hb hw hne, hg, hr0⟩
theorem IsS132.fresh {w0 W : World} {g : Nat} {f0 : List Int} {f1 : Int} (h : IsS132 w0 W g f0 f1) : ∀ k, W.heap.size ≤ k → k ≠ g := by
  obtain ⟨A0, c0, hb, hg, hr0⟩ := h
  exact Kd.freshB hb
theorem IsS132.kept {w0 W : World} {g : Nat} {f0 : List Int} {f1 : Int} {W1 : World} {S : Nat → Prop} (h : IsS132 w0 W g f0 f1) (hk : Kept W W1 S) (hne : ¬ S g) : IsS132 w0 W1 g f0 f1 := by
  obtain ⟨A0, c0, hb, hg, hr0⟩ := h
  exact ⟨A0, c0, blk_kept hb hk hne, hg, hr0⟩
theorem IsS132.below {w0 W : World} {g : Nat} {f0 : List Int} {f1 : Int} {W1 : World} (h : IsS132 w0 W g f0 f1) (hw : Below W.heap.size W W1) : IsS132 w0 W1 g f0 f1 := h.grown (grown_of_below hw none) (by simp)
theorem IsS132.alloc {w0 W : World} {g : Nat} {f0 : List Int} {f1 : Int} (h : IsS132 w0 W g f0 f1) (o : Obj) : IsS132 w0 (W.alloc o) g f0 f1 := h.below (below_alloc (Below.refl _ _) o)
theorem IsS132.drewN {w0 W : World} {g : Nat} {f0 : List Int} {f1 : Int} (h : IsS132 w0 W g f0 f1) (m : Nat) : IsS132 w0 (W.drewN m) g f0 f1 := h
theorem IsS132.drew {w0 W : World} {g : Nat} {f0 : List Int} {f1 : Int} (h : IsS132 w0 W g f0 f1) : IsS132 w0 W.drew g f0 f1 := h
theorem IsS132.at_ {w0 W : World} {g : Nat} {f0 : List Int} {f1 : Int} {w' : World} {m : Nat} (hq : W.drewN m = w') (h : IsS132 w0 W g f0 f1) : IsS132 w0 w' g f0 f1 := by subst hq; exact IsS132.drewN h m
theorem IsS132.apart {w0 W : World} {g : Nat} {f0 : List Int} {f1 : Int} {α : Type} {d : Kd α} {e : Nat} {base : Nat} {ok : Nat → Prop} {v : Value} {xs : List α} (h : IsS132 w0 W g f0 f1) (ho : d.R e W base ok v xs) (ht : ∀ q, q ∈ e :: d.E → q ≠ 132) : d.R e W base (fun k => ok k ∧ k ≠ g) v xs := by
  obtain ⟨A0, c0, hb, hg, hr0⟩ := h
  exact Kd.R_types ho hb ht
theorem IsS132.own_ne {w0 W : World} {g : Nat} {f0 : List Int} {f1 : Int} {α : Type} {d : Kd α} {e : Nat} {base : Nat} {ok : Nat → Prop} {v : Value} {xs : List α} (h : IsS132 w0 W g f0 f1) (ho : d.R e W base ok v xs) (ht : e ≠ 132) : some g ≠ v.ownBlock := by
  obtain ⟨A0, c0, hb, hg, hr0⟩ := h
  exact Kd.R_ne ho hb ht
theorem IsS132.lt {w0 W : World} {g : Nat} {f0 : List Int} {f1 : Int} (h : IsS132 w0 W g f0 f1) : g < W.heap.size := by
  obtain ⟨A0, c0, hb, hg, hr0⟩ := h
  exact blk_lt hb
theorem IsS132.ge {w0 W : World} {g : Nat} {f0 : List Int} {f1 : Int} (h : IsS132 w0 W g f0 f1) : w0.heap.size ≤ g := by
  obtain ⟨A0, c0, hb, hg, hr0⟩ := h
  exact hg
theorem IsS132.ne_blk {w0 W : World} {g : Nat} {f0 : List Int} {f1 : Int} {a : Nat} {cs : Array Value} {t : TypeId} {fr : Nat × Nat} (h : IsS132 w0 W g f0 f1) (hb2 : W.heap[a]? = some (.cells cs t fr)) (ht : t ≠ 132) : g ≠ a := by
  obtain ⟨A0, c0, hb, hg, hr0⟩ := h
  rintro rfl
  rw [hb] at hb2
  injection hb2 with hb2
  injection hb2 with _ ht2
  exact ht ht2.symm
theorem IsS132.far {w0 W : World} {g : Nat} {f0 : List Int} {f1 : Int} {p : Addr} (h : IsS132 w0 W g f0 f1) (hne : g ≠ p.block) (u : Value) : IsS132 w0 (W.setCell p u) g f0 f1 := by
  obtain ⟨A0, c0, hb, hg, hr0⟩ := h
  exact ⟨A0, c0, blk_far hb hne u, hg, hr0⟩
theorem cellS132_0 {W : World} {g : Nat} {A0 : Option Addr} {c0 : Nat} {f0 : List Int} {f1 : Int} (h : W.heap[g]? = some (.cells #[.slice A0 f0.length c0, .int .i64 f1] 132 (0, 0))) : W.cell? ⟨g, 0, none⟩ = some (.slice A0 f0.length c0) := (blk_cell h 0).trans rfl
theorem cellS132_1 {W : World} {g : Nat} {A0 : Option Addr} {c0 : Nat} {f0 : List Int} {f1 : Int} (h : W.heap[g]? = some (.cells #[.slice A0 f0.length c0, .int .i64 f1] 132 (0, 0))) : W.cell? ⟨g, 1, none⟩ = some (.int .i64 f1) := (blk_cell h 1).trans rfl
theorem IsS132.set_1 {w0 W : World} {g : Nat} {f0 : List Int} {f1 : Int} (h : IsS132 w0 W g f0 f1) (x : Int) : IsS132 w0 (W.setCell ⟨g, 1, none⟩ (.int .i64 x)) g f0 x := by
  obtain ⟨A0, c0, hb, hg, hr0⟩ := h
  exact ⟨A0, c0, by simpa using blk_set hb 1 (.int .i64 x), hg, hr0⟩
theorem IsS132.new (w0 W : World) (A0 : Option Addr) (c0 : Nat) (f0 : List Int) (f1 : Int) (hB : Below w0.heap.size w0 W) (hr0 : Kd.C (Kd.int .u8) w0 A0 f0.length f0) : IsS132 w0 (W.alloc (.cells #[.slice A0 f0.length c0, .int .i64 f1] 132)) W.heap.size f0 f1 := ⟨A0, c0, by simpa using heap_alloc_new W _, hB.size, hr0⟩

/-! ### spec_l12Open: function 75 -/
def spec_l12Open.f (l0 : List Int) : Option (List Int × Int) := if (l0.length : Int) > 2000 then (if 2000 ≤ (l0.length : Int) then (some (l0.take 2000, 0)) else (none)) else (some (l0, 0))
set_option maxHeartbeats 8000000 in
set_option maxRecDepth 100000 in
theorem spec_l12Open.calls (A0 : Option Addr) (c0 : Nat) (l0 : List Int) (r1 : List Int) (r2 : Int) (w0 w : World) (hB : Below w0.heap.size w0 w) (hr0 : Kd.C (Kd.int .u8) w0 A0 l0.length l0) (hc0 : l0.length ≤ c0) (h : spec_l12Open.f l0 = some (r1, r2)) :
  Calls Try.prog 75 #[.slice A0 l0.length c0] w fun e w' => ∃ g_ : Nat, e = .returned (.pointer (some ⟨g_, 0, none⟩)) ∧ IsS132 w0 w' g_ r1 r2 ∧ Below w0.heap.size w0 w' ∧ Below w.heap.size w w' := by
 have hu132 := Try.underlying132
 have HR0 := z0 hr0
 have HC0 := z0 hc0
 clear hr0 hc0
 have HBW := z0 (Below.refl w.heap.size w)
 have HW0 := z0 hB.size
 have HB := z0 hB
 clear hB
 have H : (if (l0.length : Int) > 2000 then (if 2000 ≤ (l0.length : Int) then (some (l0.take 2000, 0)) else (none)) else (some (l0, 0))) = some (r1, r2) := h
 clear h
 by_cases c2 : (l0.length : Int) > 2000
 ·rw [if_pos c2] at H
  have c2b0 : decide (2000 < (l0.length : Int)) = true := decide_eq_true c2
  have c2b1 : decide (2000 < l0.length) = true := decide_eq_true (by omega)
  clear c2
  by_cases c3 : 2000 ≤ (l0.length : Int)
  ·rw [if_pos c3] at H
   have c3b0 := eq_true c3
   have c3b1 : decide (2000 ≤ (l0.length : Int)) = true := decide_eq_true c3
   clear c3
   simp only [Option.some.injEq, Prod.mk.injEq] at H
   obtain ⟨rfl, rfl⟩ := H
   obtain ⟨i04, hi04, _, hsz4, _⟩ := info_parts info5
   obtain ⟨hcut4, hA4, hC4⟩ := print_take_of (P := Try.prog) (Value.int .u8) 0 52 5 .i64 Try.underlying52 hi04 hsz4 A0 c0 l0 2000 (by omega) (of_decide_eq_true (by first | (with_reducible assumption) | assumption)) HC0.out
   have HR627 := z0 (Kd.C_of_reads (h1 := fun _ => rfl) (hA4 _ (Kd.reads_of_C HR0.out)))
   have HC627 := z0 hC4
   clear hA4 hC4 hi04 hsz4
   go_enter Try.func75, Try.ntmps75
   go_wp2_with (first | ((with_reducible refine gate_dst (N := 10) rfl ?_); refine box_event ?hg (N := 10) ?hd (cs := #[.slice A0 (l0.take 2000).length c0, .int .i64 0]) (t := 132) ?hr ?_; (case hd => rfl); (case hg => rfl); (case hr => first | (go_simp; done) | (go_simp; rfl)); intro gb628 hg w5 hbox hb; have n_ := az (below_step HBW.out hb) <| az (below_step (mB HB.out) hb) <| az (hbox) <| az ((by rw [hg]; exact (below_size (mB HBW.out)) : w.heap.size ≤ gb628)) <| z0 ((Nat.le_trans HW0.out (by rw [hg]; exact (below_size (mB HBW.out)) : w.heap.size ≤ gb628) : w0.heap.size ≤ gb628)); clear HBW HB; obtain ⟨HBW, HB, BK628, GW628, GE628⟩ := n_; clear hb hbox hg))
   go_ret
   exact ⟨_, rfl, (show IsS132 w0 _ gb628 (l0.take 2000) 0 from ⟨_, _, mK BK628.out, GE628.out, HR627.out⟩), mB HB.out, mB HBW.out⟩
  ·rw [if_neg c3] at H
   exact absurd H (by simp)
 ·rw [if_neg c2] at H
  have c2b0 : decide (2000 < (l0.length : Int)) = false := decide_eq_false c2
  have c2b1 : decide (2000 < l0.length) = false := decide_eq_false (by omega)
  clear c2
  simp only [Option.some.injEq, Prod.mk.injEq] at H
  obtain ⟨rfl, rfl⟩ := H
  go_enter Try.func75, Try.ntmps75
  go_wp2_with (first | ((with_reducible refine gate_dst (N := 10) rfl ?_); refine box_event ?hg (N := 10) ?hd (cs := #[.slice A0 l0.length c0, .int .i64 0]) (t := 132) ?hr ?_; (case hd => rfl); (case hg => rfl); (case hr => first | (go_simp; done) | (go_simp; rfl)); intro gb629 hg w6 hbox hb; have n_ := az (below_step HBW.out hb) <| az (below_step (mB HB.out) hb) <| az (hbox) <| az ((by rw [hg]; exact (below_size (mB HBW.out)) : w.heap.size ≤ gb629)) <| z0 ((Nat.le_trans HW0.out (by rw [hg]; exact (below_size (mB HBW.out)) : w.heap.size ≤ gb629) : w0.heap.size ≤ gb629)); clear HBW HB; obtain ⟨HBW, HB, BK629, GW629, GE629⟩ := n_; clear hb hbox hg))
  go_ret
  exact ⟨_, rfl, (show IsS132 w0 _ gb629 l0 0 from ⟨_, _, mK BK629.out, GE629.out, HR0.out⟩), mB HB.out, mB HBW.out⟩

/-! ### spec_l12Rd_pick: function 105 -/
def spec_l12Rd_pick.j0 : Nat → Int → Bool → List Int → Int → Option (Int × Int)
 | 0, _, _, _, _ => none
 | k + 1, x1, x24, x1000, x1001 => if x24 = true then (some (0, x1001)) else (if (wrap64 (x1001 - 1)) < (x1000.length : Int) then (if 0 ≤ (wrap64 (x1001 - 1)) then (if x1 = 0 then (none) else (some (Int.tmod (wrap64 (rd x1000 (wrap64 (x1001 - 1)))) x1, x1001))) else (none)) else (if (x1000.length : Int) = 0 then (none) else (if 0 ≤ (Int.tmod (wrap64 (x1001 - 1)) (x1000.length : Int)) then (if (Int.tmod (wrap64 (x1001 - 1)) (x1000.length : Int)) < (x1000.length : Int) then (if 0 ≤ (Int.tmod (wrap64 ((wrap64 ((wrap64 (x1001 - 1)) * 7)) + 3)) (x1000.length : Int)) then (if (Int.tmod (wrap64 ((wrap64 ((wrap64 (x1001 - 1)) * 7)) + 3)) (x1000.length : Int)) < (x1000.length : Int) then (if x1 = 0 then (none) else (some (Int.tmod (Go.bits .xor .i64 (wrap64 ((wrap64 ((wrap64 ((wrap64 ((wrap64 (rd x1000 (Int.tmod (wrap64 (x1001 - 1)) (x1000.length : Int)))) * 131)) + (wrap64 ((wrap64 (rd x1000 (Int.tmod (wrap64 ((wrap64 ((wrap64 (x1001 - 1)) * 7)) + 3)) (x1000.length : Int)))) * 1117)))) + (wrap64 ((wrap64 (x1001 - 1)) * 29)))) + (wrap64 ((wrap64 (Int.tdiv (wrap64 (x1001 - 1)) (x1000.length : Int))) * 53)))) (wrap64 (Int.tdiv (wrap64 ((wrap64 ((wrap64 ((wrap64 ((wrap64 (rd x1000 (Int.tmod (wrap64 (x1001 - 1)) (x1000.length : Int)))) * 131)) + (wrap64 ((wrap64 (rd x1000 (Int.tmod (wrap64 ((wrap64 ((wrap64 (x1001 - 1)) * 7)) + 3)) (x1000.length : Int)))) * 1117)))) + (wrap64 ((wrap64 (x1001 - 1)) * 29)))) + (wrap64 ((wrap64 (Int.tdiv (wrap64 (x1001 - 1)) (x1000.length : Int))) * 53)))) 64))) x1, x1001))) else (none)) else (none)) else (none)) else (none))))
def spec_l12Rd_pick.f (k : Nat) (s0_0 : List Int) (s0_1 : Int) (a1 : Int) : Option (Int × Int) := if a1 < 1 then (spec_l12Rd_pick.j0 k a1 true s0_0 (wrap64 (s0_1 + 1))) else (spec_l12Rd_pick.j0 k a1 ((s0_0.length : Int) == 0) s0_0 (wrap64 (s0_1 + 1)))
theorem spec_l12Rd_pick.mono_l : ∀ k, (∀ y0 y1 y2 y3, LeO (spec_l12Rd_pick.j0 k y0 y1 y2 y3) (spec_l12Rd_pick.j0 (k + 1) y0 y1 y2 y3))
 | 0 => fun _ _ _ _ r h => by simp [spec_l12Rd_pick.j0] at h
 | k + 1 => by
  have ih0 := spec_l12Rd_pick.mono_l k
  ·intro y0 y1 y2 y3
   unfold spec_l12Rd_pick.j0
   repeat' first
   | (with_reducible exact ih0 _ _ _ _)
   | (with_reducible exact LeO.refl _)
   | (with_reducible exact LeO.none _)
   | (with_reducible refine LeO.ite ?_ ?_)
   | (with_reducible refine LeO.bind ?_ (fun _ => ?_))
   | exact ih0 _ _ _ _
   | exact LeO.none _
   | refine LeO.ite ?_ ?_
   | refine LeO.bind ?_ (fun _ => ?_)
theorem spec_l12Rd_pick.mono : ∀ a0 a1 a2 k, LeO (spec_l12Rd_pick.f k a0 a1 a2) (spec_l12Rd_pick.f (k + 1) a0 a1 a2) := by
 intro a0 a1 a2 k
 have ih0 := spec_l12Rd_pick.mono_l k
 unfold spec_l12Rd_pick.f
 repeat' first
   | (with_reducible exact ih0 _ _ _ _)
   | (with_reducible exact LeO.refl _)
   | (with_reducible exact LeO.none _)
   | (with_reducible refine LeO.ite ?_ ?_)
   | (with_reducible refine LeO.bind ?_ (fun _ => ?_))
   | exact ih0 _ _ _ _
   | exact LeO.none _
   | refine LeO.ite ?_ ?_
   | refine LeO.bind ?_ (fun _ => ?_)
set_option maxHeartbeats 8000000 in
set_option maxRecDepth 100000 in
theorem spec_l12Rd_pick.calls (k : Nat) (g : Nat) (s0_0 : List Int) (s0_1 : Int) (a1 : Int) (r1 : Int) (r2 : Int) (w0 w : World) (hI : IsS132 w0 w g s0_0 s0_1) (hB : Below w0.heap.size w0 w) (h : spec_l12Rd_pick.f k s0_0 s0_1 a1 = some (r1, r2)) :
  Calls Try.prog 105 #[.pointer (some ⟨g, 0, none⟩), .int .i64 a1] w fun e w' => e = .returned (.int .i64 r1) ∧ IsS132 w0 w' g s0_0 r2 ∧ Below w0.heap.size w0 w' ∧ KeepBut w w' g none := by
 have HI0 := z0 hI
 have HK := z0 (KeepBut.refl w g none)
 have HL := z0 hB.size
 clear hI
 have HW0 := z0 hB.size
 have HB := z0 hB
 clear hB
 have H : (if a1 < 1 then (spec_l12Rd_pick.j0 k a1 true s0_0 (wrap64 (s0_1 + 1))) else (spec_l12Rd_pick.j0 k a1 ((s0_0.length : Int) == 0) s0_0 (wrap64 (s0_1 + 1)))) = some (r1, r2) := h
 clear h
 have HC3 := z0 H
 clear H
 obtain ⟨ASz4_0, cSz4_0, HGz4, hgz4, HSz4_0⟩ := HI0.out
 have hcz4_0 := cellS132_0 HGz4
 have hcz4_1 := cellS132_1 HGz4
 have hfz4_1 := blk_frozen HGz4 1
 clear HGz4 hgz4
 go_enter Try.func105, Try.ntmps105
 go_upto_region 2 with (fail)
 repeat (go_quiet (fail); go_upto_region 2 with (fail))
 go_cut [24] (fun v24 wc => ∃ (kq : Nat) (x24_2 : Bool), v24 = .bool x24_2 ∧ Aside0 (spec_l12Rd_pick.j0 kq a1 x24_2 s0_0 (wrap64 (s0_1 + 1)) = some (r1, r2)) ∧ Aside0 (kq ≤ k) ∧ Aside0 (IsS132 w0 wc g s0_0 (wrap64 (s0_1 + 1))) ∧ Aside0 (KeepBut w wc g none) ∧ Aside0 (Below w0.heap.size w0 wc))
 case first =>
  have H := HC3.out
  clear HC3
  by_cases c5 : a1 < 1
  ·rw [if_pos c5] at H
   have c5b0 : decide (a1 < 1) = true := decide_eq_true c5
   clear c5
   (first | rw [c5b0] | (simp only [i64_w, i32_w]; rw [c5b0]) | skip)
   have H' := z0 H
   clear H
   go_wp2
   repeat (go_quiet (fail); try go_wp2)
   go_meet
   case rel => exact ⟨_, (true), rfy, H', ⟨by first | omega | exact Nat.le_refl _⟩, ⟨mI132_1 HI0.out⟩, ⟨mKp HK.out⟩, ⟨mB132HI0 HB.out⟩⟩
  ·rw [if_neg c5] at H
   have c5b0 : decide (a1 < 1) = false := decide_eq_false c5
   clear c5
   (first | rw [c5b0] | (simp only [i64_w, i32_w]; rw [c5b0]) | skip)
   have H' := z0 H
   clear H
   obtain ⟨ASz6_0, cSz6_0, HGz6, hgz6, HSz6_0⟩ := HI0.out
   have hcz6_0 := cellS132_0 HGz6
   have hcz6_1 := cellS132_1 HGz6
   have hfz6_1 := blk_frozen HGz6 1
   clear HGz6 hgz6
   go_wp2
   repeat (go_quiet (fail); try go_wp2)
   go_meet
   case rel => exact ⟨_, (((s0_0.length : Int) == 0)), rfy, H', ⟨by first | omega | exact Nat.le_refl _⟩, ⟨mI132_1 HI0.out⟩, ⟨mKp HK.out⟩, ⟨mB132HI0 HB.out⟩⟩
 case rest =>
  clear HC3
  (try clear hcz4_0); (try clear hcz4_1); (try clear hfz4_1)
  obtain ⟨kq, x24_2, rfl, HA, HJ2, HI0, HK, HB⟩ := hcut
  cases kq with
  | zero => exact absurd HA.out (by simp [spec_l12Rd_pick.j0])
  | succ kj2 =>
   have H := HA.out
   clear HA
   simp only [spec_l12Rd_pick.j0] at H
   by_cases c7 : x24_2 = true
   ·subst c7
    have H1 : (some (0, (wrap64 (s0_1 + 1)))) = some (r1, r2) := by rw [if_pos rfl] at H; exact H
    clear H
    have H := H1
    clear H1
    simp only [Option.some.injEq, Prod.mk.injEq] at H
    obtain ⟨rfl, rfl⟩ := H
    go_wp2
    repeat (go_quiet (fail); try go_wp2)
    go_ret
    exact ⟨rfx, mI132_1 HI0.out, mB132HI0 HB.out, mKp HK.out⟩
   ·replace c7 := Bool.eq_false_iff.mpr c7
    subst c7
    have H1 : (if (wrap64 ((wrap64 (s0_1 + 1)) - 1)) < (s0_0.length : Int) then (if 0 ≤ (wrap64 ((wrap64 (s0_1 + 1)) - 1)) then (if a1 = 0 then (none) else (some (Int.tmod (wrap64 (rd s0_0 (wrap64 ((wrap64 (s0_1 + 1)) - 1)))) a1, (wrap64 (s0_1 + 1))))) else (none)) else (if (s0_0.length : Int) = 0 then (none) else (if 0 ≤ (Int.tmod (wrap64 ((wrap64 (s0_1 + 1)) - 1)) (s0_0.length : Int)) then (if (Int.tmod (wrap64 ((wrap64 (s0_1 + 1)) - 1)) (s0_0.length : Int)) < (s0_0.length : Int) then (if 0 ≤ (Int.tmod (wrap64 ((wrap64 ((wrap64 ((wrap64 (s0_1 + 1)) - 1)) * 7)) + 3)) (s0_0.length : Int)) then (if (Int.tmod (wrap64 ((wrap64 ((wrap64 ((wrap64 (s0_1 + 1)) - 1)) * 7)) + 3)) (s0_0.length : Int)) < (s0_0.length : Int) then (if a1 = 0 then (none) else (some (Int.tmod (Go.bits .xor .i64 (wrap64 ((wrap64 ((wrap64 ((wrap64 ((wrap64 (rd s0_0 (Int.tmod (wrap64 ((wrap64 (s0_1 + 1)) - 1)) (s0_0.length : Int)))) * 131)) + (wrap64 ((wrap64 (rd s0_0 (Int.tmod (wrap64 ((wrap64 ((wrap64 ((wrap64 (s0_1 + 1)) - 1)) * 7)) + 3)) (s0_0.length : Int)))) * 1117)))) + (wrap64 ((wrap64 ((wrap64 (s0_1 + 1)) - 1)) * 29)))) + (wrap64 ((wrap64 (Int.tdiv (wrap64 ((wrap64 (s0_1 + 1)) - 1)) (s0_0.length : Int))) * 53)))) (wrap64 (Int.tdiv (wrap64 ((wrap64 ((wrap64 ((wrap64 ((wrap64 (rd s0_0 (Int.tmod (wrap64 ((wrap64 (s0_1 + 1)) - 1)) (s0_0.length : Int)))) * 131)) + (wrap64 ((wrap64 (rd s0_0 (Int.tmod (wrap64 ((wrap64 ((wrap64 ((wrap64 (s0_1 + 1)) - 1)) * 7)) + 3)) (s0_0.length : Int)))) * 1117)))) + (wrap64 ((wrap64 ((wrap64 (s0_1 + 1)) - 1)) * 29)))) + (wrap64 ((wrap64 (Int.tdiv (wrap64 ((wrap64 (s0_1 + 1)) - 1)) (s0_0.length : Int))) * 53)))) 64))) a1, (wrap64 (s0_1 + 1))))) else (none)) else (none)) else (none)) else (none)))) = some (r1, r2) := by rw [if_neg (show ¬ (false = true) by decide)] at H; exact H
    clear H
    have H := H1
    clear H1
    by_cases c8 : (wrap64 ((wrap64 (s0_1 + 1)) - 1)) < (s0_0.length : Int)
    ·rw [if_pos c8] at H
     have c8b0 : decide ((wrap64 ((wrap64 (s0_1 + 1)) - 1)) < (s0_0.length : Int)) = true := decide_eq_true c8
     clear c8
     obtain ⟨ji9, hji9⟩ : ∃ j_ : Int, (wrap64 ((wrap64 (s0_1 + 1)) - 1)) = j_ := ⟨_, rfl⟩
     replace H : (if 0 ≤ (ji9) then (if a1 = 0 then (none) else (some (Int.tmod (wrap64 (rd s0_0 (ji9))) a1, (wrap64 (s0_1 + 1))))) else (none)) = some (r1, r2) := by first | (rw [hji9] at H; exact H) | (simp only [hji9] at H ⊢; exact H)
     (try rw [hji9] at c8b0)
     have hji9w : (IntKind.i64.wrap ((wrap64 (s0_1 + 1)) - 1)) = ji9 := (i64_w _).trans hji9
     by_cases c10 : 0 ≤ (ji9)
     ·rw [if_pos c10] at H
      have c10b0 : decide (0 ≤ (ji9)) = true := decide_eq_true c10
      clear c10
      by_cases c11 : a1 = 0
      ·rw [if_pos c11] at H
       exact absurd H (by simp)
      ·rw [if_neg c11] at H
       have c11b0 : (a1 == 0) = false := beq_eq_false_iff_ne.mpr c11
       have c11b1 : (a1 != 0) = true := bne_iff_ne.mpr c11
       simp only [Option.some.injEq, Prod.mk.injEq] at H
       obtain ⟨rfl, rfl⟩ := H
       obtain ⟨ASz12_0, cSz12_0, HGz12, hgz12, HSz12_0⟩ := HI0.out
       have hcz12_0 := cellS132_0 HGz12
       have hcz12_1 := cellS132_1 HGz12
       have hfz12_1 := blk_frozen HGz12 1
       clear HGz12 hgz12
       have p630 : 0 ≤ ((ji9) : Int) := of_decide_eq_true (by first | (with_reducible assumption) | assumption)
       have q630 : (ji9) < (s0_0.length : Int) := of_decide_eq_true (by first | (with_reducible assumption) | assumption)
       obtain ⟨ad630, e630, hx630_0⟩ := Kd.at_int HSz12_0 (ji9) p630 q630
       cases e630
       replace hx630_0 := pw_cell_below HB.out hx630_0
       replace p630 := eq_true p630
       replace q630 := eq_true q630
       go_wp2
       repeat (go_quiet (fail); try go_wp2)
       go_ret
       exact ⟨by first | rfl | (simp [errW_none, errW_some] <;> rfl) | (simp only [← hji9]; first | rfl | (simp [errW_none, errW_some] <;> rfl)) | (simp [*, errW_none, errW_some] <;> rfl), mI132_1 HI0.out, mB132HI0 HB.out, mKp HK.out⟩
     ·rw [if_neg c10] at H
      exact absurd H (by simp)
    ·rw [if_neg c8] at H
     have c8b0 : decide ((wrap64 ((wrap64 (s0_1 + 1)) - 1)) < (s0_0.length : Int)) = false := decide_eq_false c8
     clear c8
     by_cases c13 : (s0_0.length : Int) = 0
     ·rw [if_pos c13] at H
      exact absurd H (by simp)
     ·rw [if_neg c13] at H
      have c13b0 : ((s0_0.length : Int) == 0) = false := beq_eq_false_iff_ne.mpr c13
      have c13b1 : ((s0_0.length : Int) != 0) = true := bne_iff_ne.mpr c13
      have c13b2 : ¬ (s0_0 = []) := fun h_ => c13 (by rw [h_]; rfl)
      obtain ⟨ji14, hji14⟩ : ∃ j_ : Int, (Int.tmod (wrap64 ((wrap64 (s0_1 + 1)) - 1)) (s0_0.length : Int)) = j_ := ⟨_, rfl⟩
      replace H : (if 0 ≤ (ji14) then (if (ji14) < (s0_0.length : Int) then (if 0 ≤ (Int.tmod (wrap64 ((wrap64 ((wrap64 ((wrap64 (s0_1 + 1)) - 1)) * 7)) + 3)) (s0_0.length : Int)) then (if (Int.tmod (wrap64 ((wrap64 ((wrap64 ((wrap64 (s0_1 + 1)) - 1)) * 7)) + 3)) (s0_0.length : Int)) < (s0_0.length : Int) then (if a1 = 0 then (none) else (some (Int.tmod (Go.bits .xor .i64 (wrap64 ((wrap64 ((wrap64 ((wrap64 ((wrap64 (rd s0_0 (ji14))) * 131)) + (wrap64 ((wrap64 (rd s0_0 (Int.tmod (wrap64 ((wrap64 ((wrap64 ((wrap64 (s0_1 + 1)) - 1)) * 7)) + 3)) (s0_0.length : Int)))) * 1117)))) + (wrap64 ((wrap64 ((wrap64 (s0_1 + 1)) - 1)) * 29)))) + (wrap64 ((wrap64 (Int.tdiv (wrap64 ((wrap64 (s0_1 + 1)) - 1)) (s0_0.length : Int))) * 53)))) (wrap64 (Int.tdiv (wrap64 ((wrap64 ((wrap64 ((wrap64 ((wrap64 (rd s0_0 (ji14))) * 131)) + (wrap64 ((wrap64 (rd s0_0 (Int.tmod (wrap64 ((wrap64 ((wrap64 ((wrap64 (s0_1 + 1)) - 1)) * 7)) + 3)) (s0_0.length : Int)))) * 1117)))) + (wrap64 ((wrap64 ((wrap64 (s0_1 + 1)) - 1)) * 29)))) + (wrap64 ((wrap64 (Int.tdiv (wrap64 ((wrap64 (s0_1 + 1)) - 1)) (s0_0.length : Int))) * 53)))) 64))) a1, (wrap64 (s0_1 + 1))))) else (none)) else (none)) else (none)) else (none)) = some (r1, r2) := by first | (rw [hji14] at H; exact H) | (simp only [hji14] at H ⊢; exact H)
      by_cases c15 : 0 ≤ (ji14)
      ·rw [if_pos c15] at H
       have c15b0 : decide (0 ≤ (ji14)) = true := decide_eq_true c15
       clear c15
       by_cases c16 : (ji14) < (s0_0.length : Int)
       ·rw [if_pos c16] at H
        have c16b0 : decide ((ji14) < (s0_0.length : Int)) = true := decide_eq_true c16
        clear c16
        obtain ⟨ji17, hji17⟩ : ∃ j_ : Int, (Int.tmod (wrap64 ((wrap64 ((wrap64 ((wrap64 (s0_1 + 1)) - 1)) * 7)) + 3)) (s0_0.length : Int)) = j_ := ⟨_, rfl⟩
        replace H : (if 0 ≤ (ji17) then (if (ji17) < (s0_0.length : Int) then (if a1 = 0 then (none) else (some (Int.tmod (Go.bits .xor .i64 (wrap64 ((wrap64 ((wrap64 ((wrap64 ((wrap64 (rd s0_0 (ji14))) * 131)) + (wrap64 ((wrap64 (rd s0_0 (ji17))) * 1117)))) + (wrap64 ((wrap64 ((wrap64 (s0_1 + 1)) - 1)) * 29)))) + (wrap64 ((wrap64 (Int.tdiv (wrap64 ((wrap64 (s0_1 + 1)) - 1)) (s0_0.length : Int))) * 53)))) (wrap64 (Int.tdiv (wrap64 ((wrap64 ((wrap64 ((wrap64 ((wrap64 (rd s0_0 (ji14))) * 131)) + (wrap64 ((wrap64 (rd s0_0 (ji17))) * 1117)))) + (wrap64 ((wrap64 ((wrap64 (s0_1 + 1)) - 1)) * 29)))) + (wrap64 ((wrap64 (Int.tdiv (wrap64 ((wrap64 (s0_1 + 1)) - 1)) (s0_0.length : Int))) * 53)))) 64))) a1, (wrap64 (s0_1 + 1))))) else (none)) else (none)) = some (r1, r2) := by first | (rw [hji17] at H; exact H) | (simp only [hji17] at H ⊢; exact H)
        by_cases c18 : 0 ≤ (ji17)
        ·rw [if_pos c18] at H
         have c18b0 : decide (0 ≤ (ji17)) = true := decide_eq_true c18
         clear c18
         by_cases c19 : (ji17) < (s0_0.length : Int)
         ·rw [if_pos c19] at H
          have c19b0 : decide ((ji17) < (s0_0.length : Int)) = true := decide_eq_true c19
          clear c19
          by_cases c20 : a1 = 0
          ·rw [if_pos c20] at H
           exact absurd H (by simp)
          ·rw [if_neg c20] at H
           have c20b0 : (a1 == 0) = false := beq_eq_false_iff_ne.mpr c20
           have c20b1 : (a1 != 0) = true := bne_iff_ne.mpr c20
           simp only [Option.some.injEq, Prod.mk.injEq] at H
           obtain ⟨rfl, rfl⟩ := H
           obtain ⟨ASz21_0, cSz21_0, HGz21, hgz21, HSz21_0⟩ := HI0.out
           have hcz21_0 := cellS132_0 HGz21
           have hcz21_1 := cellS132_1 HGz21
           have hfz21_1 := blk_frozen HGz21 1
           clear HGz21 hgz21
           have p631 : 0 ≤ ((ji14) : Int) := of_decide_eq_true (by first | (with_reducible assumption) | assumption)
           have q631 : (ji14) < (s0_0.length : Int) := of_decide_eq_true (by first | (with_reducible assumption) | assumption)
           obtain ⟨ad631, e631, hx631_0⟩ := Kd.at_int HSz21_0 (ji14) p631 q631
           cases e631
           replace hx631_0 := pw_cell_below HB.out hx631_0
           replace p631 := eq_true p631
           replace q631 := eq_true q631
           have p632 : 0 ≤ ((ji17) : Int) := of_decide_eq_true (by first | (with_reducible assumption) | assumption)
           have q632 : (ji17) < (s0_0.length : Int) := of_decide_eq_true (by first | (with_reducible assumption) | assumption)
           obtain ⟨ad632, e632, hx632_0⟩ := Kd.at_int HSz21_0 (ji17) p632 q632
           obtain rfl : ad631 = ad632 := (by injection e632)
           replace hx632_0 := pw_cell_below HB.out hx632_0
           replace p632 := eq_true p632
           replace q632 := eq_true q632
           go_wp2
           repeat (go_quiet (fail); try go_wp2)
           go_ret
           exact ⟨by first | rfl | (simp [errW_none, errW_some] <;> rfl) | (simp only [← hji14, ← hji17]; first | rfl | (simp [errW_none, errW_some] <;> rfl)) | (simp [*, errW_none, errW_some] <;> rfl), mI132_1 HI0.out, mB132HI0 HB.out, mKp HK.out⟩
         ·rw [if_neg c19] at H
          exact absurd H (by simp)
        ·rw [if_neg c18] at H
         exact absurd H (by simp)
       ·rw [if_neg c16] at H
        exact absurd H (by simp)
      ·rw [if_neg c15] at H
       exact absurd H (by simp)

theorem eqA29 (d : Nat) (w : World) (x0 y0 : Int) (x1 y1 : Int) :
    (Op.equalIn (d + 2) 29 (.agg #[.int .i64 x0, .int .i64 x1]) (.agg #[.int .i64 y0, .int .i64 y1])).run Try.prog w = .ok (x0 == y0 && (x1 == y1)) w := by
  refine eqA_of Try.underlying29 (by kernel_rfl) ?_
  refine eqf_cons (by rfl) (by go_simp; rfl) (by go_simp; rfl) (by go_simp) ?_
  exact eqf_last (by rfl) (by go_simp; rfl) (by go_simp; rfl) (by go_simp)
/-! ### impl_isNum: function 94 -/
def impl_isNum.f (a0 : Int) : Option (Bool) := if a0 ≥ (-1000000) then (some (decide (a0 ≤ 1000000))) else (some false)
set_option maxHeartbeats 8000000 in
set_option maxRecDepth 100000 in
theorem impl_isNum.calls (a0 : Int) (r : Bool) (w : World) (h : impl_isNum.f a0 = some r) :
  Calls Try.prog 94 #[.int .i64 a0] w fun e w' => e = .returned (.bool r) ∧ Drawn0 w w' := by
 have H : (if a0 ≥ (-1000000) then (some (decide (a0 ≤ 1000000))) else (some false)) = some r := h
 clear h
 by_cases c2 : a0 ≥ (-1000000)
 ·rw [if_pos c2] at H
  have c2b0 : decide ((-1000000) ≤ a0) = true := decide_eq_true c2
  clear c2
  obtain rfl := Option.some.inj H
  go_enter Try.func94, Try.ntmps94
  go_wp2
  go_ret
  exact ⟨by first | rfl | (simp; done) | (simp [*]; done), by repeat (first | exact Drawn0.refl _ | apply Drawn0.step)⟩
 ·rw [if_neg c2] at H
  have c2b0 : decide ((-1000000) ≤ a0) = false := decide_eq_false c2
  clear c2
  obtain rfl := Option.some.inj H
  go_enter Try.func94, Try.ntmps94
  go_wp2
  go_ret
  exact ⟨by first | rfl | (simp; done) | (simp [*]; done), by repeat (first | exact Drawn0.refl _ | apply Drawn0.step)⟩

/-! ### impl_AddrOk: function 109 -/
def impl_AddrOk.f (a0_0 : Int) (a0_1 : Int) : Option (Bool) := if a0_0 ≥ 1 then (if a0_0 ≤ 3 then (if a0_1 ≥ 0 then (some (decide (a0_1 < 6))) else (some false)) else (some false)) else (some false)
set_option maxHeartbeats 8000000 in
set_option maxRecDepth 100000 in
theorem impl_AddrOk.calls (a0_0 : Int) (a0_1 : Int) (r : Bool) (w : World) (h : impl_AddrOk.f a0_0 a0_1 = some r) :
  Calls Try.prog 109 #[.agg #[.int .i64 a0_0, .int .i64 a0_1]] w fun e w' => e = .returned (.bool r) ∧ Below w.heap.size w w' := by
 have hu29 := Try.underlying29
 have HB := z0 (Below.refl w.heap.size w)
 have H : (if a0_0 ≥ 1 then (if a0_0 ≤ 3 then (if a0_1 ≥ 0 then (some (decide (a0_1 < 6))) else (some false)) else (some false)) else (some false)) = some r := h
 clear h
 have HF2 := z0 H
 clear H
 go_enter Try.func109, Try.ntmps109
 go_upto_region 1 with (first | ((with_reducible refine gate_dst (N := 1) rfl ?_); refine box_event ?hg (N := 1) ?hd (cs := #[.int .i64 a0_0, .int .i64 a0_1]) (t := 29) ?hr ?_; (case hd => rfl); (case hg => rfl); (case hr => first | (go_simp; done) | (go_simp; rfl)); intro gb1147 hg w3 hbox hb; have n_ := az (below_step (mB HB.out) hb) <| az (hbox) <| az ((by rw [hg]; exact (below_size (mB HB.out)) : w.heap.size ≤ gb1147)) <| z0 ((by rw [hg]; exact (below_size (mB HB.out)) : w.heap.size ≤ gb1147)); clear HB; obtain ⟨HB, BK1147, GW1147, GE1147⟩ := n_; clear hb hbox hg))
 (try simp only [Act.put, List.setIfInBounds_toArray, List.set_cons_zero, List.set_cons_succ])
 have H := HF2.out
 clear HF2
 try clear c1
 by_cases c4 : a0_0 ≥ 1
 ·rw [if_pos c4] at H
  have c4b0 : decide (1 ≤ a0_0) = true := decide_eq_true c4
  clear c4
  by_cases c5 : a0_0 ≤ 3
  ·rw [if_pos c5] at H
   have c5b0 : decide (a0_0 ≤ 3) = true := decide_eq_true c5
   clear c5
   by_cases c6 : a0_1 ≥ 0
   ·rw [if_pos c6] at H
    have c6b0 : decide (0 ≤ a0_1) = true := decide_eq_true c6
    clear c6
    obtain rfl := Option.some.inj H
    obtain ⟨hcz7_0, hcz7_1, hfz7_0, hfz7_1⟩ := cel2 BK1147.out
    go_wp2
    go_ret
    exact ⟨rfx, mB HB.out⟩
   ·rw [if_neg c6] at H
    have c6b0 : decide (0 ≤ a0_1) = false := decide_eq_false c6
    clear c6
    obtain rfl := Option.some.inj H
    obtain ⟨hcz8_0, hcz8_1, hfz8_0, hfz8_1⟩ := cel2 BK1147.out
    go_wp2
    go_ret
    exact ⟨rfx, mB HB.out⟩
  ·rw [if_neg c5] at H
   have c5b0 : decide (a0_0 ≤ 3) = false := decide_eq_false c5
   clear c5
   obtain rfl := Option.some.inj H
   obtain ⟨hcz9_0, hcz9_1, hfz9_0, hfz9_1⟩ := cel2 BK1147.out
   go_wp2
   go_ret
   exact ⟨rfx, mB HB.out⟩
 ·rw [if_neg c4] at H
  have c4b0 : decide (1 ≤ a0_0) = false := decide_eq_false c4
  clear c4
  obtain rfl := Option.some.inj H
  obtain ⟨hcz10_0, hcz10_1, hfz10_0, hfz10_1⟩ := cel2 BK1147.out
  go_wp2
  go_ret
  exact ⟨rfx, mB HB.out⟩

/-! ### spec_l3Kids: function 82 -/
def spec_l3Kids.j0 : Nat → Int → Bool → Option (Int)
 | 0, _, _ => none
 | k + 1, x0, x3 => if x3 = true then (some 0) else (if x0 = 10 then (some 1) else (if x0 ≥ 3 then (if x0 ≤ 9 then (some 2) else (some (-1))) else (some (-1))))
def spec_l3Kids.f (k : Nat) (a0 : Int) : Option (Int) := if a0 = 1 then (spec_l3Kids.j0 k a0 true) else (spec_l3Kids.j0 k a0 (a0 == 2))
theorem spec_l3Kids.mono_l : ∀ k, (∀ y0 y1, LeO (spec_l3Kids.j0 k y0 y1) (spec_l3Kids.j0 (k + 1) y0 y1))
 | 0 => fun _ _ r h => by simp [spec_l3Kids.j0] at h
 | k + 1 => by
  have ih0 := spec_l3Kids.mono_l k
  ·intro y0 y1
   unfold spec_l3Kids.j0
   repeat' first
   | (with_reducible exact ih0 _ _)
   | (with_reducible exact LeO.refl _)
   | (with_reducible exact LeO.none _)
   | (with_reducible refine LeO.ite ?_ ?_)
   | (with_reducible refine LeO.bind ?_ (fun _ => ?_))
   | exact ih0 _ _
   | exact LeO.none _
   | refine LeO.ite ?_ ?_
   | refine LeO.bind ?_ (fun _ => ?_)
theorem spec_l3Kids.mono : ∀ a0 k, LeO (spec_l3Kids.f k a0) (spec_l3Kids.f (k + 1) a0) := by
 intro a0 k
 have ih0 := spec_l3Kids.mono_l k
 unfold spec_l3Kids.f
 repeat' first
   | (with_reducible exact ih0 _ _)
   | (with_reducible exact LeO.refl _)
   | (with_reducible exact LeO.none _)
   | (with_reducible refine LeO.ite ?_ ?_)
   | (with_reducible refine LeO.bind ?_ (fun _ => ?_))
   | exact ih0 _ _
   | exact LeO.none _
   | refine LeO.ite ?_ ?_
   | refine LeO.bind ?_ (fun _ => ?_)
set_option maxHeartbeats 8000000 in
set_option maxRecDepth 100000 in
theorem spec_l3Kids.calls (k : Nat) (a0 : Int) (r : Int) (w : World) (h : spec_l3Kids.f k a0 = some r) :
  Calls Try.prog 82 #[.int .i64 a0] w fun e w' => e = .returned (.int .i64 r) ∧ Drawn0 w w' := by
 have H : (if a0 = 1 then (spec_l3Kids.j0 k a0 true) else (spec_l3Kids.j0 k a0 (a0 == 2))) = some r := h
 clear h
 have HC2 := z0 H
 clear H
 go_enter Try.func82, Try.ntmps82
 go_upto_region 1 with (fail)
 go_cut [3] (fun v3 wc => ∃ (kq : Nat) (x3_1 : Bool), v3 = .bool x3_1 ∧ Aside0 (spec_l3Kids.j0 kq a0 x3_1 = some r) ∧ Aside0 (kq ≤ k) ∧ Drawn0 w wc)
 case first =>
  have H := HC2.out
  clear HC2
  by_cases c3 : a0 = 1
  ·rw [if_pos c3] at H
   have c3b0 : (a0 == 1) = true := beq_iff_eq.mpr c3
   have c3b1 : (a0 != 1) = false := bne_eq_false_iff_eq.mpr c3
   clear c3
   (first | rw [c3b0] | (simp only [i64_w, i32_w]; rw [c3b0]) | skip)
   have H' := z0 H
   clear H
   go_wp2
   go_meet
   case rel => exact ⟨_, (true), rfy, H', ⟨by first | omega | exact Nat.le_refl _⟩, by repeat (first | exact Drawn0.refl _ | apply Drawn0.step)⟩
  ·rw [if_neg c3] at H
   have c3b0 : (a0 == 1) = false := beq_eq_false_iff_ne.mpr c3
   have c3b1 : (a0 != 1) = true := bne_iff_ne.mpr c3
   (first | rw [c3b0] | (simp only [i64_w, i32_w]; rw [c3b0]) | skip)
   have H' := z0 H
   clear H
   go_wp2
   go_meet
   case rel => exact ⟨_, ((a0 == 2)), rfy, H', ⟨by first | omega | exact Nat.le_refl _⟩, by repeat (first | exact Drawn0.refl _ | apply Drawn0.step)⟩
 case rest =>
  clear HC2
  skip
  obtain ⟨kq, x3_1, rfl, HA, HJ1, ⟨mc1, rfl⟩⟩ := hcut
  cases kq with
  | zero => exact absurd HA.out (by simp [spec_l3Kids.j0])
  | succ kj1 =>
   have H := HA.out
   clear HA
   simp only [spec_l3Kids.j0] at H
   by_cases c4 : x3_1 = true
   ·subst c4
    have H1 : (some 0) = some r := by rw [if_pos rfl] at H; exact H
    clear H
    have H := H1
    clear H1
    obtain rfl := Option.some.inj H
    go_wp2
    go_ret
    exact ⟨by first | rfl | (simp; done) | (simp [*]; done), by repeat (first | exact Drawn0.refl _ | apply Drawn0.step)⟩
   ·replace c4 := Bool.eq_false_iff.mpr c4
    subst c4
    have H1 : (if a0 = 10 then (some 1) else (if a0 ≥ 3 then (if a0 ≤ 9 then (some 2) else (some (-1))) else (some (-1)))) = some r := by rw [if_neg (show ¬ (false = true) by decide)] at H; exact H
    clear H
    have H := H1
    clear H1
    by_cases c5 : a0 = 10
    ·rw [if_pos c5] at H
     have c5b0 : (a0 == 10) = true := beq_iff_eq.mpr c5
     have c5b1 : (a0 != 10) = false := bne_eq_false_iff_eq.mpr c5
     clear c5
     obtain rfl := Option.some.inj H
     go_wp2
     go_ret
     exact ⟨by first | rfl | (simp; done) | (simp [*]; done), by repeat (first | exact Drawn0.refl _ | apply Drawn0.step)⟩
    ·rw [if_neg c5] at H
     have c5b0 : (a0 == 10) = false := beq_eq_false_iff_ne.mpr c5
     have c5b1 : (a0 != 10) = true := bne_iff_ne.mpr c5
     by_cases c6 : a0 ≥ 3
     ·rw [if_pos c6] at H
      have c6b0 : decide (3 ≤ a0) = true := decide_eq_true c6
      clear c6
      by_cases c7 : a0 ≤ 9
      ·rw [if_pos c7] at H
       have c7b0 : decide (a0 ≤ 9) = true := decide_eq_true c7
       clear c7
       obtain rfl := Option.some.inj H
       go_wp2
       go_ret
       exact ⟨by first | rfl | (simp; done) | (simp [*]; done), by repeat (first | exact Drawn0.refl _ | apply Drawn0.step)⟩
      ·rw [if_neg c7] at H
       have c7b0 : decide (a0 ≤ 9) = false := decide_eq_false c7
       clear c7
       obtain rfl := Option.some.inj H
       go_wp2
       go_ret
       exact ⟨by first | rfl | (simp; done) | (simp [*]; done), by repeat (first | exact Drawn0.refl _ | apply Drawn0.step)⟩
     ·rw [if_neg c6] at H
      have c6b0 : decide (3 ≤ a0) = false := decide_eq_false c6
      clear c6
      obtain rfl := Option.some.inj H
      go_wp2
      go_ret
      exact ⟨by first | rfl | (simp; done) | (simp [*]; done), by repeat (first | exact Drawn0.refl _ | apply Drawn0.step)⟩

/-! ### spec_l1Max: function 111 -/
def spec_l1Max.f (a0 : Int) (a1 : Int) : Option (Int) := if a0 > a1 then (some a0) else (some a1)
set_option maxHeartbeats 8000000 in
set_option maxRecDepth 100000 in
theorem spec_l1Max.calls (a0 : Int) (a1 : Int) (r : Int) (w : World) (h : spec_l1Max.f a0 a1 = some r) :
  Calls Try.prog 111 #[.int .i64 a0, .int .i64 a1] w fun e w' => e = .returned (.int .i64 r) ∧ Drawn0 w w' := by
 have H : (if a0 > a1 then (some a0) else (some a1)) = some r := h
 clear h
 by_cases c3 : a0 > a1
 ·rw [if_pos c3] at H
  have c3b0 : decide (a1 < a0) = true := decide_eq_true c3
  clear c3
  obtain rfl := Option.some.inj H
  go_enter Try.func111, Try.ntmps111
  go_wp2
  go_ret
  exact ⟨by first | rfl | (simp; done) | (simp [*]; done), by repeat (first | exact Drawn0.refl _ | apply Drawn0.step)⟩
 ·rw [if_neg c3] at H
  have c3b0 : decide (a1 < a0) = false := decide_eq_false c3
  clear c3
  obtain rfl := Option.some.inj H
  go_enter Try.func111, Try.ntmps111
  go_wp2
  go_ret
  exact ⟨by first | rfl | (simp; done) | (simp [*]; done), by repeat (first | exact Drawn0.refl _ | apply Drawn0.step)⟩

/-! ### spec_l1Min: function 112 -/
def spec_l1Min.f (a0 : Int) (a1 : Int) : Option (Int) := if a0 < a1 then (some a0) else (some a1)
set_option maxHeartbeats 8000000 in
set_option maxRecDepth 100000 in
theorem spec_l1Min.calls (a0 : Int) (a1 : Int) (r : Int) (w : World) (h : spec_l1Min.f a0 a1 = some r) :
  Calls Try.prog 112 #[.int .i64 a0, .int .i64 a1] w fun e w' => e = .returned (.int .i64 r) ∧ Drawn0 w w' := by
 have H : (if a0 < a1 then (some a0) else (some a1)) = some r := h
 clear h
 by_cases c3 : a0 < a1
 ·rw [if_pos c3] at H
  have c3b0 : decide (a0 < a1) = true := decide_eq_true c3
  clear c3
  obtain rfl := Option.some.inj H
  go_enter Try.func112, Try.ntmps112
  go_wp2
  go_ret
  exact ⟨by first | rfl | (simp; done) | (simp [*]; done), by repeat (first | exact Drawn0.refl _ | apply Drawn0.step)⟩
 ·rw [if_neg c3] at H
  have c3b0 : decide (a0 < a1) = false := decide_eq_false c3
  clear c3
  obtain rfl := Option.some.inj H
  go_enter Try.func112, Try.ntmps112
  go_wp2
  go_ret
  exact ⟨by first | rfl | (simp; done) | (simp [*]; done), by repeat (first | exact Drawn0.refl _ | apply Drawn0.step)⟩

/-! ### spec_NumCut: function 83 -/
def spec_NumCut.f (a0 : Int) : Option (Int) := (spec_l1Min.f 1000000 a0).bind fun t105 => ((spec_l1Max.f (-1000000) t105).bind fun t106 => (some t106))
set_option maxHeartbeats 8000000 in
set_option maxRecDepth 100000 in
theorem spec_NumCut.calls (a0 : Int) (r : Int) (w : World) (h : spec_NumCut.f a0 = some r) :
  Calls Try.prog 83 #[.int .i64 a0] w fun e w' => e = .returned (.int .i64 r) ∧ Drawn0 w w' := by
 have H : ((spec_l1Min.f 1000000 a0).bind fun t105 => ((spec_l1Max.f (-1000000) t105).bind fun t106 => (some t106))) = some r := h
 clear h
 replace H := Option.bind_eq_some_iff.mp H
 obtain ⟨t105, A20, H⟩ := H
 try dsimp only at H
 have A2 := z0 A20
 clear A20
 replace H := Option.bind_eq_some_iff.mp H
 obtain ⟨t106, A30, H⟩ := H
 try dsimp only at H
 have A3 := z0 A30
 clear A30
 obtain rfl := Option.some.inj H
 go_enter Try.func83, Try.ntmps83
 go_wp2_with (first | ((with_reducible refine gate_callee (f := 112) rfl ?_); refine goesL_ (some 4) rfl rfl Try.func112 (by kernel_rfl) rfl #[.int .i64 1000000, .int .i64 a0] rfl argx ?_; (with_reducible refine (spec_l1Min.calls 1000000 a0 t105 _ A2.out).mono ?_); rintro e w' ⟨rfl, ⟨nd, rfl⟩⟩; refine ⟨_, rfl, ?_⟩) | ((with_reducible refine gate_callee (f := 111) rfl ?_); refine goesL_ (some 5) rfl rfl Try.func111 (by kernel_rfl) rfl #[.int .i64 (-1000000), .int .i64 t105] rfl argx ?_; (with_reducible refine (spec_l1Max.calls (-1000000) t105 t106 _ A3.out).mono ?_); rintro e w' ⟨rfl, ⟨nd, rfl⟩⟩; refine ⟨_, rfl, ?_⟩))
 go_ret
 exact ⟨by first | rfl | (simp; done) | (simp [*]; done), by repeat (first | exact Drawn0.refl _ | apply Drawn0.step)⟩

/-! ### spec_AddrOk: function 84 -/
def spec_AddrOk.f (a0_0 : Int) (a0_1 : Int) : Option (Bool) := if a0_0 ≥ 1 then (if a0_0 ≤ 3 then (if a0_1 ≥ 0 then (some (decide (a0_1 < 6))) else (some false)) else (some false)) else (some false)
set_option maxHeartbeats 8000000 in
set_option maxRecDepth 100000 in
theorem spec_AddrOk.calls (a0_0 : Int) (a0_1 : Int) (r : Bool) (w : World) (h : spec_AddrOk.f a0_0 a0_1 = some r) :
  Calls Try.prog 84 #[.agg #[.int .i64 a0_0, .int .i64 a0_1]] w fun e w' => e = .returned (.bool r) ∧ Below w.heap.size w w' := by
 have hu29 := Try.underlying29
 have HB := z0 (Below.refl w.heap.size w)
 have H : (if a0_0 ≥ 1 then (if a0_0 ≤ 3 then (if a0_1 ≥ 0 then (some (decide (a0_1 < 6))) else (some false)) else (some false)) else (some false)) = some r := h
 clear h
 have HF2 := z0 H
 clear H
 go_enter Try.func84, Try.ntmps84
 go_upto_region 1 with (first | ((with_reducible refine gate_dst (N := 1) rfl ?_); refine box_event ?hg (N := 1) ?hd (cs := #[.int .i64 a0_0, .int .i64 a0_1]) (t := 29) ?hr ?_; (case hd => rfl); (case hg => rfl); (case hr => first | (go_simp; done) | (go_simp; rfl)); intro gb107 hg w3 hbox hb; have n_ := az (below_step (mB HB.out) hb) <| az (hbox) <| az ((by rw [hg]; exact (below_size (mB HB.out)) : w.heap.size ≤ gb107)) <| z0 ((by rw [hg]; exact (below_size (mB HB.out)) : w.heap.size ≤ gb107)); clear HB; obtain ⟨HB, BK107, GW107, GE107⟩ := n_; clear hb hbox hg))
 (try simp only [Act.put, List.setIfInBounds_toArray, List.set_cons_zero, List.set_cons_succ])
 have H := HF2.out
 clear HF2
 by_cases c4 : a0_0 ≥ 1
 ·rw [if_pos c4] at H
  have c4b0 : decide (1 ≤ a0_0) = true := decide_eq_true c4
  clear c4
  by_cases c5 : a0_0 ≤ 3
  ·rw [if_pos c5] at H
   have c5b0 : decide (a0_0 ≤ 3) = true := decide_eq_true c5
   clear c5
   by_cases c6 : a0_1 ≥ 0
   ·rw [if_pos c6] at H
    have c6b0 : decide (0 ≤ a0_1) = true := decide_eq_true c6
    clear c6
    obtain rfl := Option.some.inj H
    obtain ⟨hcz7_0, hcz7_1, hfz7_0, hfz7_1⟩ := cel2 BK107.out
    go_wp2
    go_ret
    exact ⟨rfx, mB HB.out⟩
   ·rw [if_neg c6] at H
    have c6b0 : decide (0 ≤ a0_1) = false := decide_eq_false c6
    clear c6
    obtain rfl := Option.some.inj H
    obtain ⟨hcz8_0, hcz8_1, hfz8_0, hfz8_1⟩ := cel2 BK107.out
    go_wp2
    go_ret
    exact ⟨rfx, mB HB.out⟩
  ·rw [if_neg c5] at H
   have c5b0 : decide (a0_0 ≤ 3) = false := decide_eq_false c5
   clear c5
   obtain rfl := Option.some.inj H
   obtain ⟨hcz9_0, hcz9_1, hfz9_0, hfz9_1⟩ := cel2 BK107.out
   go_wp2
   go_ret
   exact ⟨rfx, mB HB.out⟩
 ·rw [if_neg c4] at H
  have c4b0 : decide (1 ≤ a0_0) = false := decide_eq_false c4
  clear c4
  obtain rfl := Option.some.inj H
  obtain ⟨hcz10_0, hcz10_1, hfz10_0, hfz10_1⟩ := cel2 BK107.out
  go_wp2
  go_ret
  exact ⟨rfx, mB HB.out⟩

end Go.Proofs.Ytiofkhfmdophpaa.B
namespace Go.Proofs.Ytiofkhfmdophpaa.B
open Go.RowKit Go.Proofs.YtiofkhfmdophpaaW.PrintWords Go.Proofs.YtiofkhfmdophpaaW.PrintLast Go.Proofs.YtiofkhfmdophpaaW.PrintMore
attribute [local go_sem] max2_int min2_int max_two min_two max_three min_three max_four min_four   -- for this text's walks alone
set_option linter.unusedVariables false
set_option linter.unusedSimpArgs false

attribute [local go_sem high] eqA29
/-! ### spec_l3Form: function 52 -/
mutual
def spec_l3Form.j0 : Nat → Int → Bool → Int → Int → Int → Int → List (S32) → Option (Bool)
 | 0, _, _, _, _, _, _, _ => none
 | k + 1, x1, x16, x109000, x109001, x109002, x109003, x109004 => if x16 = true then (some false) else (if x109000 = 1 then ((spec_NumCut.f x109001).bind fun t110 => (if t110 = x109001 then (spec_l3Form.j1 k x1 false x109000 x109001 x109002 x109003 x109004) else (spec_l3Form.j1 k x1 true x109000 x109001 x109002 x109003 x109004))) else (spec_l3Form.j1 k x1 (x109001 != 0) x109000 x109001 x109002 x109003 x109004))
def spec_l3Form.j1 : Nat → Int → Bool → Int → Int → Int → Int → List (S32) → Option (Bool)
 | 0, _, _, _, _, _, _, _ => none
 | k + 1, x1, x37, x109000, x109001, x109002, x109003, x109004 => if x37 = true then (some false) else (if x109000 = 2 then ((spec_AddrOk.f x109002 x109003).bind fun t111 => (if t111 = true then (spec_l3Form.j2 k x1 false x109000 x109001 x109002 x109003 x109004) else (spec_l3Form.j2 k x1 true x109000 x109001 x109002 x109003 x109004))) else (spec_l3Form.j2 k x1 (!(x109002 == 0) || (!(x109003 == 0))) x109000 x109001 x109002 x109003 x109004))
def spec_l3Form.j2 : Nat → Int → Bool → Int → Int → Int → Int → List (S32) → Option (Bool)
 | 0, _, _, _, _, _, _, _ => none
 | k + 1, x1, x57, x109000, x109001, x109002, x109003, x109004 => if x57 = true then (some false) else (spec_l3Form.l0 k x1 0 x109000 x109001 x109002 x109003 x109004)
def spec_l3Form.l0 : Nat → Int → Int → Int → Int → Int → Int → List (S32) → Option (Bool)
 | 0, _, _, _, _, _, _, _ => none
 | k + 1, x1, x5, x109000, x109001, x109002, x109003, x109004 => if x5 < (x109004.length : Int) then (if 0 ≤ x5 then ((spec_l3Form.f k ((rd_T32 x109004 x5).f0) ((rd_T32 x109004 x5).f1) ((rd_T32 x109004 x5).f2.f0) ((rd_T32 x109004 x5).f2.f1) ((rd_T32 x109004 x5).f3) (wrap64 (x1 - 1))).bind fun t113 => (if t113 = true then (spec_l3Form.l0 k x1 (wrap64 (x5 + 1)) x109000 x109001 x109002 x109003 x109004) else (some false))) else (none)) else (some true)
def spec_l3Form.f : Nat → Int → Int → Int → Int → List (S32) → Int → Option (Bool)
 | 0, _, _, _, _, _, _ => none
 | k + 1, a0_0, a0_1, a0_2, a0_3, l0_4, a1 => if a1 < 1 then (spec_l3Form.j0 k a1 true a0_0 a0_1 a0_2 a0_3 l0_4) else ((spec_l3Kids.f k a0_0).bind fun t109 => (spec_l3Form.j0 k a1 (t109 != (l0_4.length : Int)) a0_0 a0_1 a0_2 a0_3 l0_4))
end
theorem spec_l3Form.mono_l : ∀ k, (∀ y0 y1 y2 y3 y4 y5, LeO (spec_l3Form.f k y0 y1 y2 y3 y4 y5) (spec_l3Form.f (k + 1) y0 y1 y2 y3 y4 y5)) ∧ (∀ y0 y1 y2 y3 y4 y5 y6, LeO (spec_l3Form.j0 k y0 y1 y2 y3 y4 y5 y6) (spec_l3Form.j0 (k + 1) y0 y1 y2 y3 y4 y5 y6)) ∧ (∀ y0 y1 y2 y3 y4 y5 y6, LeO (spec_l3Form.j1 k y0 y1 y2 y3 y4 y5 y6) (spec_l3Form.j1 (k + 1) y0 y1 y2 y3 y4 y5 y6)) ∧ (∀ y0 y1 y2 y3 y4 y5 y6, LeO (spec_l3Form.j2 k y0 y1 y2 y3 y4 y5 y6) (spec_l3Form.j2 (k + 1) y0 y1 y2 y3 y4 y5 y6)) ∧ (∀ y0 y1 y2 y3 y4 y5 y6, LeO (spec_l3Form.l0 k y0 y1 y2 y3 y4 y5 y6) (spec_l3Form.l0 (k + 1) y0 y1 y2 y3 y4 y5 y6))
 | 0 => ⟨fun _ _ _ _ _ _ r h => by simp [spec_l3Form.f] at h, fun _ _ _ _ _ _ _ r h => by simp [spec_l3Form.j0] at h, fun _ _ _ _ _ _ _ r h => by simp [spec_l3Form.j1] at h, fun _ _ _ _ _ _ _ r h => by simp [spec_l3Form.j2] at h, fun _ _ _ _ _ _ _ r h => by simp [spec_l3Form.l0] at h⟩
 | k + 1 => by
  obtain ⟨ih0, ih1, ih2, ih3, ih4⟩ := spec_l3Form.mono_l k
  refine ⟨?_, ?_, ?_, ?_, ?_⟩
  ·intro y0 y1 y2 y3 y4 y5
   unfold spec_l3Form.f
   repeat' first
   | (with_reducible exact ih0 _ _ _ _ _ _)
   | (with_reducible exact ih1 _ _ _ _ _ _ _)
   | (with_reducible exact ih2 _ _ _ _ _ _ _)
   | (with_reducible exact ih3 _ _ _ _ _ _ _)
   | (with_reducible exact ih4 _ _ _ _ _ _ _)
   | (with_reducible exact spec_l3Kids.mono _ _)
   | (with_reducible exact LeO.refl _)
   | (with_reducible exact LeO.none _)
   | (with_reducible refine LeO.ite ?_ ?_)
   | (with_reducible refine LeO.bind ?_ (fun _ => ?_))
   | exact ih0 _ _ _ _ _ _
   | exact ih1 _ _ _ _ _ _ _
   | exact ih2 _ _ _ _ _ _ _
   | exact ih3 _ _ _ _ _ _ _
   | exact ih4 _ _ _ _ _ _ _
   | exact spec_l3Kids.mono _ _
   | exact LeO.none _
   | refine LeO.ite ?_ ?_
   | refine LeO.bind ?_ (fun _ => ?_)
  ·intro y0 y1 y2 y3 y4 y5 y6
   unfold spec_l3Form.j0
   repeat' first
   | (with_reducible exact ih0 _ _ _ _ _ _)
   | (with_reducible exact ih1 _ _ _ _ _ _ _)
   | (with_reducible exact ih2 _ _ _ _ _ _ _)
   | (with_reducible exact ih3 _ _ _ _ _ _ _)
   | (with_reducible exact ih4 _ _ _ _ _ _ _)
   | (with_reducible exact spec_l3Kids.mono _ _)
   | (with_reducible exact LeO.refl _)
   | (with_reducible exact LeO.none _)
   | (with_reducible refine LeO.ite ?_ ?_)
   | (with_reducible refine LeO.bind ?_ (fun _ => ?_))
   | exact ih0 _ _ _ _ _ _
   | exact ih1 _ _ _ _ _ _ _
   | exact ih2 _ _ _ _ _ _ _
   | exact ih3 _ _ _ _ _ _ _
   | exact ih4 _ _ _ _ _ _ _
   | exact spec_l3Kids.mono _ _
   | exact LeO.none _
   | refine LeO.ite ?_ ?_
   | refine LeO.bind ?_ (fun _ => ?_)
  ·intro y0 y1 y2 y3 y4 y5 y6
   unfold spec_l3Form.j1
   repeat' first
   | (with_reducible exact ih0 _ _ _ _ _ _)
   | (with_reducible exact ih1 _ _ _ _ _ _ _)
   | (with_reducible exact ih2 _ _ _ _ _ _ _)
   | (with_reducible exact ih3 _ _ _ _ _ _ _)
   | (with_reducible exact ih4 _ _ _ _ _ _ _)
   | (with_reducible exact spec_l3Kids.mono _ _)
   | (with_reducible exact LeO.refl _)
   | (with_reducible exact LeO.none _)
   | (with_reducible refine LeO.ite ?_ ?_)
   | (with_reducible refine LeO.bind ?_ (fun _ => ?_))
   | exact ih0 _ _ _ _ _ _
   | exact ih1 _ _ _ _ _ _ _
   | exact ih2 _ _ _ _ _ _ _
   | exact ih3 _ _ _ _ _ _ _
   | exact ih4 _ _ _ _ _ _ _
   | exact spec_l3Kids.mono _ _
   | exact LeO.none _
   | refine LeO.ite ?_ ?_
   | refine LeO.bind ?_ (fun _ => ?_)
  ·intro y0 y1 y2 y3 y4 y5 y6
   unfold spec_l3Form.j2
   repeat' first
   | (with_reducible exact ih0 _ _ _ _ _ _)
   | (with_reducible exact ih1 _ _ _ _ _ _ _)
   | (with_reducible exact ih2 _ _ _ _ _ _ _)
   | (with_reducible exact ih3 _ _ _ _ _ _ _)
   | (with_reducible exact ih4 _ _ _ _ _ _ _)
   | (with_reducible exact spec_l3Kids.mono _ _)
   | (with_reducible exact LeO.refl _)
   | (with_reducible exact LeO.none _)
   | (with_reducible refine LeO.ite ?_ ?_)
   | (with_reducible refine LeO.bind ?_ (fun _ => ?_))
   | exact ih0 _ _ _ _ _ _
   | exact ih1 _ _ _ _ _ _ _
   | exact ih2 _ _ _ _ _ _ _
   | exact ih3 _ _ _ _ _ _ _
   | exact ih4 _ _ _ _ _ _ _
   | exact spec_l3Kids.mono _ _
   | exact LeO.none _
   | refine LeO.ite ?_ ?_
   | refine LeO.bind ?_ (fun _ => ?_)
  ·intro y0 y1 y2 y3 y4 y5 y6
   unfold spec_l3Form.l0
   repeat' first
   | (with_reducible exact ih0 _ _ _ _ _ _)
   | (with_reducible exact ih1 _ _ _ _ _ _ _)
   | (with_reducible exact ih2 _ _ _ _ _ _ _)
   | (with_reducible exact ih3 _ _ _ _ _ _ _)
   | (with_reducible exact ih4 _ _ _ _ _ _ _)
   | (with_reducible exact spec_l3Kids.mono _ _)
   | (with_reducible exact LeO.refl _)
   | (with_reducible exact LeO.none _)
   | (with_reducible refine LeO.ite ?_ ?_)
   | (with_reducible refine LeO.bind ?_ (fun _ => ?_))
   | exact ih0 _ _ _ _ _ _
   | exact ih1 _ _ _ _ _ _ _
   | exact ih2 _ _ _ _ _ _ _
   | exact ih3 _ _ _ _ _ _ _
   | exact ih4 _ _ _ _ _ _ _
   | exact spec_l3Kids.mono _ _
   | exact LeO.none _
   | refine LeO.ite ?_ ?_
   | refine LeO.bind ?_ (fun _ => ?_)
theorem spec_l3Form.mono : ∀ a0 a1 a2 a3 a4 a5 k, LeO (spec_l3Form.f k a0 a1 a2 a3 a4 a5) (spec_l3Form.f (k + 1) a0 a1 a2 a3 a4 a5) := by
 intro a0 a1 a2 a3 a4 a5 k
 obtain ⟨ih0, ih1, ih2, ih3, ih4⟩ := spec_l3Form.mono_l k
 exact ih0 a0 a1 a2 a3 a4 a5
theorem q52_1 {p : Prop} (h : p := by have := HJ2.out; have := HJ8.out; have := HJ16.out; have := HK4.out; omega) : p := h
set_option maxHeartbeats 8000000 in
set_option maxRecDepth 100000 in
theorem spec_l3Form.calls (k : Nat) : ∀ (a0_0 : Int) (a0_1 : Int) (a0_2 : Int) (a0_3 : Int) (A0_4 : Option Addr) (c0_4 : Nat) (l0_4 : List (S32)) (a1 : Int) (r : Bool) (w : World) (hr0_4 : Kd.C k32 w A0_4 l0_4.length l0_4) (hc0_4 : l0_4.length ≤ c0_4) (h : spec_l3Form.f k a0_0 a0_1 a0_2 a0_3 l0_4 a1 = some r),
  Calls Try.prog 52 #[.agg #[.int .i64 a0_0, .int .i64 a0_1, .int .i64 a0_2, .int .i64 a0_3, .slice A0_4 l0_4.length c0_4], .int .i64 a1] w fun e w' => e = .returned (.bool r) ∧ Below w.heap.size w w' := by
 induction k using Nat.strongRecOn with
 | _ k ih =>
 intro a0_0 a0_1 a0_2 a0_3 A0_4 c0_4 l0_4 a1 r w hr0_4 hc0_4 h
 cases k with
 | zero => exact absurd h (by simp [spec_l3Form.f])
 | succ k =>
 simp only [spec_l3Form.f] at h
 have hu32 := Try.underlying32
 have hu29 := Try.underlying29
 have HR0_4 := z0 hr0_4
 have HC0_4 := z0 hc0_4
 clear hr0_4 hc0_4
 have HB := z0 (Below.refl w.heap.size w)
 have H : (if a1 < 1 then (spec_l3Form.j0 k a1 true a0_0 a0_1 a0_2 a0_3 l0_4) else ((spec_l3Kids.f k a0_0).bind fun t109 => (spec_l3Form.j0 k a1 (t109 != (l0_4.length : Int)) a0_0 a0_1 a0_2 a0_3 l0_4))) = some r := h
 clear h
 have HC3 := z0 H
 clear H
 go_enter Try.func52, Try.ntmps52
 go_upto_region 1 with (first | ((with_reducible refine gate_dst (N := 2) rfl ?_); (try (refine gate_guard (by rfl) ?_; dsimp only)); refine box_event ?hg (N := 2) ?hd (cs := #[.int .i64 a0_0, .int .i64 a0_1, .int .i64 a0_2, .int .i64 a0_3, .slice A0_4 l0_4.length c0_4]) (t := 32) ?hr ?_; (case hd => rfl); (case hg => rfl); (case hr => first | (go_simp; done) | (go_simp; rfl)); intro gb108 hg w4 hbox hb; have n_ := az (below_step (mB HB.out) hb) <| az (hbox) <| az ((by rw [hg]; exact (below_size (mB HB.out)) : w.heap.size ≤ gb108)) <| z0 ((by rw [hg]; exact (below_size (mB HB.out)) : w.heap.size ≤ gb108)); clear HB; obtain ⟨HB, BK108, GW108, GE108⟩ := n_; clear hb hbox hg))
 repeat (go_quiet (first | ((with_reducible refine gate_dst (N := 2) rfl ?_); (try (refine gate_guard (by rfl) ?_; dsimp only)); refine box_event ?hg (N := 2) ?hd (cs := #[.int .i64 a0_0, .int .i64 a0_1, .int .i64 a0_2, .int .i64 a0_3, .slice A0_4 l0_4.length c0_4]) (t := 32) ?hr ?_; (case hd => rfl); (case hg => rfl); (case hr => first | (go_simp; done) | (go_simp; rfl)); intro gb108 hg w4 hbox hb; have n_ := az (below_step (mB HB.out) hb) <| az (hbox) <| az ((by rw [hg]; exact (below_size (mB HB.out)) : w.heap.size ≤ gb108)) <| z0 ((by rw [hg]; exact (below_size (mB HB.out)) : w.heap.size ≤ gb108)); clear HB; obtain ⟨HB, BK108, GW108, GE108⟩ := n_; clear hb hbox hg)); go_upto_region 1 with (first | ((with_reducible refine gate_dst (N := 2) rfl ?_); (try (refine gate_guard (by rfl) ?_; dsimp only)); refine box_event ?hg (N := 2) ?hd (cs := #[.int .i64 a0_0, .int .i64 a0_1, .int .i64 a0_2, .int .i64 a0_3, .slice A0_4 l0_4.length c0_4]) (t := 32) ?hr ?_; (case hd => rfl); (case hg => rfl); (case hr => first | (go_simp; done) | (go_simp; rfl)); intro gb108 hg w4 hbox hb; have n_ := az (below_step (mB HB.out) hb) <| az (hbox) <| az ((by rw [hg]; exact (below_size (mB HB.out)) : w.heap.size ≤ gb108)) <| z0 ((by rw [hg]; exact (below_size (mB HB.out)) : w.heap.size ≤ gb108)); clear HB; obtain ⟨HB, BK108, GW108, GE108⟩ := n_; clear hb hbox hg)))
 (try simp only [Act.put, List.setIfInBounds_toArray, List.set_cons_zero, List.set_cons_succ])
 go_cut [16] (fun v16 wc => ∃ (kq : Nat) (x16_2 : Bool), v16 = .bool x16_2 ∧ Aside0 (spec_l3Form.j0 kq a1 x16_2 a0_0 a0_1 a0_2 a0_3 l0_4 = some r) ∧ Aside0 (kq ≤ k) ∧ Aside0 (wc.heap[gb108]? = some (.cells #[.int .i64 a0_0, .int .i64 a0_1, .int .i64 a0_2, .int .i64 a0_3, (.slice A0_4 l0_4.length c0_4)] 32 (0, 0))) ∧ Aside0 (Below w.heap.size w wc))
 case first =>
  have H := HC3.out
  clear HC3
  by_cases c5 : a1 < 1
  ·rw [if_pos c5] at H
   have c5b0 : decide (a1 < 1) = true := decide_eq_true c5
   clear c5
   (first | rw [c5b0] | (simp only [i64_w, i32_w]; rw [c5b0]) | skip)
   have H' := z0 H
   clear H
   go_wp2
   repeat (go_quiet (fail); try go_wp2)
   go_meet
   case rel => exact ⟨_, (true), rfy, H', ⟨by first | omega | exact Nat.le_refl _⟩, ⟨mK BK108.out⟩, ⟨mB HB.out⟩⟩
  ·rw [if_neg c5] at H
   have c5b0 : decide (a1 < 1) = false := decide_eq_false c5
   clear c5
   (first | rw [c5b0] | (simp only [i64_w, i32_w]; rw [c5b0]) | skip)
   replace H := Option.bind_eq_some_iff.mp H
   obtain ⟨t109, A60, H⟩ := H
   try dsimp only at H
   have A6 := z0 A60
   clear A60
   have H' := z0 H
   clear H
   obtain ⟨hcz7_0, hcz7_1, hcz7_2, hcz7_3, hcz7_4, hfz7_0, hfz7_1, hfz7_2, hfz7_3, hfz7_4⟩ := cel5 BK108.out
   go_wp2_with (first | (go_at_call 82; (with_reducible refine (spec_l3Kids.calls k a0_0 t109 _ A6.out).mono ?_); rintro e w' ⟨rfl, ⟨nd, rfl⟩⟩; (try first | exact ⟨rfl, _, World.drewN_drewN _ _ _⟩ | exact ⟨rfl, _, Eq.trans (World.drewN_drewN _ _ _) (congrArg (World.drewN _) (Nat.add_assoc _ _ _))⟩)))
   repeat (go_quiet (first | (go_at_call 82; (with_reducible refine (spec_l3Kids.calls k a0_0 t109 _ A6.out).mono ?_); rintro e w' ⟨rfl, ⟨nd, rfl⟩⟩; (try first | exact ⟨rfl, _, World.drewN_drewN _ _ _⟩ | exact ⟨rfl, _, Eq.trans (World.drewN_drewN _ _ _) (congrArg (World.drewN _) (Nat.add_assoc _ _ _))⟩))); try go_wp2_with (first | (go_at_call 82; (with_reducible refine (spec_l3Kids.calls k a0_0 t109 _ A6.out).mono ?_); rintro e w' ⟨rfl, ⟨nd, rfl⟩⟩; (try first | exact ⟨rfl, _, World.drewN_drewN _ _ _⟩ | exact ⟨rfl, _, Eq.trans (World.drewN_drewN _ _ _) (congrArg (World.drewN _) (Nat.add_assoc _ _ _))⟩))))
   go_meet
   case rel => exact ⟨_, ((t109 != (l0_4.length : Int))), rfy, H', ⟨by first | omega | exact Nat.le_refl _⟩, ⟨mK BK108.out⟩, ⟨mB HB.out⟩⟩
 case rest =>
  clear HC3
  skip
  obtain ⟨kq, x16_2, rfl, HA, HJ2, BK108, HB⟩ := hcut
  cases kq with
  | zero => exact absurd HA.out (by simp [spec_l3Form.j0])
  | succ kj2 =>
   have H := HA.out
   clear HA
   simp only [spec_l3Form.j0] at H
   by_cases c8 : x16_2 = true
   ·subst c8
    have H1 : (some false) = some r := by rw [if_pos rfl] at H; exact H
    clear H
    have H := H1
    clear H1
    obtain rfl := Option.some.inj H
    go_wp2
    repeat (go_quiet (fail); try go_wp2)
    go_ret
    exact ⟨rfx, mB HB.out⟩
   ·replace c8 := Bool.eq_false_iff.mpr c8
    subst c8
    have H1 : (if a0_0 = 1 then ((spec_NumCut.f a0_1).bind fun t110 => (if t110 = a0_1 then (spec_l3Form.j1 kj2 a1 false a0_0 a0_1 a0_2 a0_3 l0_4) else (spec_l3Form.j1 kj2 a1 true a0_0 a0_1 a0_2 a0_3 l0_4))) else (spec_l3Form.j1 kj2 a1 (a0_1 != 0) a0_0 a0_1 a0_2 a0_3 l0_4)) = some r := by rw [if_neg (show ¬ (false = true) by decide)] at H; exact H
    clear H
    have H := H1
    clear H1
    have HC9 := z0 H
    clear H
    go_upto_region 3 with (fail)
    repeat (go_quiet (fail); go_upto_region 3 with (fail))
    go_cut [37] (fun v37 wc => ∃ (kq : Nat) (x37_8 : Bool), v37 = .bool x37_8 ∧ Aside0 (spec_l3Form.j1 kq a1 x37_8 a0_0 a0_1 a0_2 a0_3 l0_4 = some r) ∧ Aside0 (kq ≤ kj2) ∧ Aside0 (wc.heap[gb108]? = some (.cells #[.int .i64 a0_0, .int .i64 a0_1, .int .i64 a0_2, .int .i64 a0_3, (.slice A0_4 l0_4.length c0_4)] 32 (0, 0))) ∧ Aside0 (Below w.heap.size w wc))
    case first =>
     have H := HC9.out
     clear HC9
     by_cases c10 : a0_0 = 1
     ·rw [if_pos c10] at H
      have c10b0 : (a0_0 == 1) = true := beq_iff_eq.mpr c10
      have c10b1 : (a0_0 != 1) = false := bne_eq_false_iff_eq.mpr c10
      clear c10
      (first | rw [c10b0] | (simp only [i64_w, i32_w]; rw [c10b0]) | skip)
      replace H := Option.bind_eq_some_iff.mp H
      obtain ⟨t110, A110, H⟩ := H
      try dsimp only at H
      have A11 := z0 A110
      clear A110
      by_cases c12 : t110 = a0_1
      ·rw [if_pos c12] at H
       have c12b0 : (t110 == a0_1) = true := beq_iff_eq.mpr c12
       have c12b1 : (t110 != a0_1) = false := bne_eq_false_iff_eq.mpr c12
       clear c12
       have H' := z0 H
       clear H
       obtain ⟨hcz13_0, hcz13_1, hcz13_2, hcz13_3, hcz13_4, hfz13_0, hfz13_1, hfz13_2, hfz13_3, hfz13_4⟩ := cel5 BK108.out
       go_wp2_with (first | (go_at_call 83; (with_reducible refine (spec_NumCut.calls a0_1 t110 _ A11.out).mono ?_); rintro e w' ⟨rfl, ⟨nd, rfl⟩⟩; (try first | exact ⟨rfl, _, World.drewN_drewN _ _ _⟩ | exact ⟨rfl, _, Eq.trans (World.drewN_drewN _ _ _) (congrArg (World.drewN _) (Nat.add_assoc _ _ _))⟩)))
       repeat (go_quiet (first | (go_at_call 83; (with_reducible refine (spec_NumCut.calls a0_1 t110 _ A11.out).mono ?_); rintro e w' ⟨rfl, ⟨nd, rfl⟩⟩; (try first | exact ⟨rfl, _, World.drewN_drewN _ _ _⟩ | exact ⟨rfl, _, Eq.trans (World.drewN_drewN _ _ _) (congrArg (World.drewN _) (Nat.add_assoc _ _ _))⟩))); try go_wp2_with (first | (go_at_call 83; (with_reducible refine (spec_NumCut.calls a0_1 t110 _ A11.out).mono ?_); rintro e w' ⟨rfl, ⟨nd, rfl⟩⟩; (try first | exact ⟨rfl, _, World.drewN_drewN _ _ _⟩ | exact ⟨rfl, _, Eq.trans (World.drewN_drewN _ _ _) (congrArg (World.drewN _) (Nat.add_assoc _ _ _))⟩))))
       go_meet
       case rel => exact ⟨_, (false), rfy, H', ⟨by have := HJ2.out; first | omega | exact Nat.le_refl _⟩, ⟨mK BK108.out⟩, ⟨mB HB.out⟩⟩
      ·rw [if_neg c12] at H
       have c12b0 : (t110 == a0_1) = false := beq_eq_false_iff_ne.mpr c12
       have c12b1 : (t110 != a0_1) = true := bne_iff_ne.mpr c12
       have H' := z0 H
       clear H
       obtain ⟨hcz14_0, hcz14_1, hcz14_2, hcz14_3, hcz14_4, hfz14_0, hfz14_1, hfz14_2, hfz14_3, hfz14_4⟩ := cel5 BK108.out
       go_wp2_with (first | (go_at_call 83; (with_reducible refine (spec_NumCut.calls a0_1 t110 _ A11.out).mono ?_); rintro e w' ⟨rfl, ⟨nd, rfl⟩⟩; (try first | exact ⟨rfl, _, World.drewN_drewN _ _ _⟩ | exact ⟨rfl, _, Eq.trans (World.drewN_drewN _ _ _) (congrArg (World.drewN _) (Nat.add_assoc _ _ _))⟩)))
       repeat (go_quiet (first | (go_at_call 83; (with_reducible refine (spec_NumCut.calls a0_1 t110 _ A11.out).mono ?_); rintro e w' ⟨rfl, ⟨nd, rfl⟩⟩; (try first | exact ⟨rfl, _, World.drewN_drewN _ _ _⟩ | exact ⟨rfl, _, Eq.trans (World.drewN_drewN _ _ _) (congrArg (World.drewN _) (Nat.add_assoc _ _ _))⟩))); try go_wp2_with (first | (go_at_call 83; (with_reducible refine (spec_NumCut.calls a0_1 t110 _ A11.out).mono ?_); rintro e w' ⟨rfl, ⟨nd, rfl⟩⟩; (try first | exact ⟨rfl, _, World.drewN_drewN _ _ _⟩ | exact ⟨rfl, _, Eq.trans (World.drewN_drewN _ _ _) (congrArg (World.drewN _) (Nat.add_assoc _ _ _))⟩))))
       go_meet
       case rel => exact ⟨_, (true), rfy, H', ⟨by have := HJ2.out; first | omega | exact Nat.le_refl _⟩, ⟨mK BK108.out⟩, ⟨mB HB.out⟩⟩
     ·rw [if_neg c10] at H
      have c10b0 : (a0_0 == 1) = false := beq_eq_false_iff_ne.mpr c10
      have c10b1 : (a0_0 != 1) = true := bne_iff_ne.mpr c10
      (first | rw [c10b0] | (simp only [i64_w, i32_w]; rw [c10b0]) | skip)
      have H' := z0 H
      clear H
      obtain ⟨hcz15_0, hcz15_1, hcz15_2, hcz15_3, hcz15_4, hfz15_0, hfz15_1, hfz15_2, hfz15_3, hfz15_4⟩ := cel5 BK108.out
      go_wp2
      repeat (go_quiet (fail); try go_wp2)
      go_meet
      case rel => exact ⟨_, ((a0_1 != 0)), rfy, H', ⟨by have := HJ2.out; first | omega | exact Nat.le_refl _⟩, ⟨mK BK108.out⟩, ⟨mB HB.out⟩⟩
    case rest =>
     clear HC9
     (try clear c8)
     obtain ⟨kq, x37_8, rfl, HA, HJ8, BK108, HB⟩ := hcut
     cases kq with
     | zero => exact absurd HA.out (by simp [spec_l3Form.j1])
     | succ kj8 =>
      have H := HA.out
      clear HA
      simp only [spec_l3Form.j1] at H
      by_cases c16 : x37_8 = true
      ·subst c16
       have H1 : (some false) = some r := by rw [if_pos rfl] at H; exact H
       clear H
       have H := H1
       clear H1
       obtain rfl := Option.some.inj H
       go_wp2
       repeat (go_quiet (fail); try go_wp2)
       go_ret
       exact ⟨rfx, mB HB.out⟩
      ·replace c16 := Bool.eq_false_iff.mpr c16
       subst c16
       have H1 : (if a0_0 = 2 then ((spec_AddrOk.f a0_2 a0_3).bind fun t111 => (if t111 = true then (spec_l3Form.j2 kj8 a1 false a0_0 a0_1 a0_2 a0_3 l0_4) else (spec_l3Form.j2 kj8 a1 true a0_0 a0_1 a0_2 a0_3 l0_4))) else (spec_l3Form.j2 kj8 a1 (!(a0_2 == 0) || (!(a0_3 == 0))) a0_0 a0_1 a0_2 a0_3 l0_4)) = some r := by rw [if_neg (show ¬ (false = true) by decide)] at H; exact H
       clear H
       have H := H1
       clear H1
       have HC17 := z0 H
       clear H
       go_upto_region 5 with (fail)
       repeat (go_quiet (fail); go_upto_region 5 with (fail))
       go_cut [57] (fun v57 wc => ∃ (kq : Nat) (x57_16 : Bool), v57 = .bool x57_16 ∧ Aside0 (spec_l3Form.j2 kq a1 x57_16 a0_0 a0_1 a0_2 a0_3 l0_4 = some r) ∧ Aside0 (kq ≤ kj8) ∧ Aside0 (wc.heap[gb108]? = some (.cells #[.int .i64 a0_0, .int .i64 a0_1, .int .i64 a0_2, .int .i64 a0_3, (.slice A0_4 l0_4.length c0_4)] 32 (0, 0))) ∧ Aside0 (Below w.heap.size w wc))
       case first =>
        have H := HC17.out
        clear HC17
        by_cases c18 : a0_0 = 2
        ·rw [if_pos c18] at H
         have c18b0 : (a0_0 == 2) = true := beq_iff_eq.mpr c18
         have c18b1 : (a0_0 != 2) = false := bne_eq_false_iff_eq.mpr c18
         clear c18
         (first | rw [c18b0] | (simp only [i64_w, i32_w]; rw [c18b0]) | skip)
         replace H := Option.bind_eq_some_iff.mp H
         obtain ⟨t111, A190, H⟩ := H
         try dsimp only at H
         have A19 := z0 A190
         clear A190
         by_cases c20 : t111 = true
         ·subst c20
          have H1 : (spec_l3Form.j2 kj8 a1 false a0_0 a0_1 a0_2 a0_3 l0_4) = some r := by rw [if_pos rfl] at H; exact H
          clear H
          have H := H1
          clear H1
          have H' := z0 H
          clear H
          obtain ⟨hcz21_0, hcz21_1, hcz21_2, hcz21_3, hcz21_4, hfz21_0, hfz21_1, hfz21_2, hfz21_3, hfz21_4⟩ := cel5 BK108.out
          go_wp2_with (first | (go_at_call 84; (with_reducible refine (spec_AddrOk.calls a0_2 a0_3 true _ A19.out).mono ?_); rintro e w22 ⟨rfl, hb⟩; have n_ := az (bB BK108.out hb) <| z0 (below_step (mB HB.out) hb); clear BK108 HB; obtain ⟨BK108, HB⟩ := n_; clear hb; obtain ⟨hcz23_0, hcz23_1, hcz23_2, hcz23_3, hcz23_4, hfz23_0, hfz23_1, hfz23_2, hfz23_3, hfz23_4⟩ := cel5 BK108.out))
          repeat (go_quiet (first | (go_at_call 84; (with_reducible refine (spec_AddrOk.calls a0_2 a0_3 true _ A19.out).mono ?_); rintro e w22 ⟨rfl, hb⟩; have n_ := az (bB BK108.out hb) <| z0 (below_step (mB HB.out) hb); clear BK108 HB; obtain ⟨BK108, HB⟩ := n_; clear hb; obtain ⟨hcz23_0, hcz23_1, hcz23_2, hcz23_3, hcz23_4, hfz23_0, hfz23_1, hfz23_2, hfz23_3, hfz23_4⟩ := cel5 BK108.out)); try go_wp2_with (first | (go_at_call 84; (with_reducible refine (spec_AddrOk.calls a0_2 a0_3 true _ A19.out).mono ?_); rintro e w22 ⟨rfl, hb⟩; have n_ := az (bB BK108.out hb) <| z0 (below_step (mB HB.out) hb); clear BK108 HB; obtain ⟨BK108, HB⟩ := n_; clear hb; obtain ⟨hcz23_0, hcz23_1, hcz23_2, hcz23_3, hcz23_4, hfz23_0, hfz23_1, hfz23_2, hfz23_3, hfz23_4⟩ := cel5 BK108.out)))
          go_meet
          case rel => exact ⟨_, (false), rfy, H', ⟨by have := HJ2.out; have := HJ8.out; first | omega | exact Nat.le_refl _⟩, ⟨mK BK108.out⟩, ⟨mB HB.out⟩⟩
         ·replace c20 := Bool.eq_false_iff.mpr c20
          subst c20
          have H1 : (spec_l3Form.j2 kj8 a1 true a0_0 a0_1 a0_2 a0_3 l0_4) = some r := by rw [if_neg (show ¬ (false = true) by decide)] at H; exact H
          clear H
          have H := H1
          clear H1
          have H' := z0 H
          clear H
          obtain ⟨hcz24_0, hcz24_1, hcz24_2, hcz24_3, hcz24_4, hfz24_0, hfz24_1, hfz24_2, hfz24_3, hfz24_4⟩ := cel5 BK108.out
          go_wp2_with (first | (go_at_call 84; (with_reducible refine (spec_AddrOk.calls a0_2 a0_3 false _ A19.out).mono ?_); rintro e w25 ⟨rfl, hb⟩; have n_ := az (bB BK108.out hb) <| z0 (below_step (mB HB.out) hb); clear BK108 HB; obtain ⟨BK108, HB⟩ := n_; clear hb))
          repeat (go_quiet (first | (go_at_call 84; (with_reducible refine (spec_AddrOk.calls a0_2 a0_3 false _ A19.out).mono ?_); rintro e w25 ⟨rfl, hb⟩; have n_ := az (bB BK108.out hb) <| z0 (below_step (mB HB.out) hb); clear BK108 HB; obtain ⟨BK108, HB⟩ := n_; clear hb)); try go_wp2_with (first | (go_at_call 84; (with_reducible refine (spec_AddrOk.calls a0_2 a0_3 false _ A19.out).mono ?_); rintro e w25 ⟨rfl, hb⟩; have n_ := az (bB BK108.out hb) <| z0 (below_step (mB HB.out) hb); clear BK108 HB; obtain ⟨BK108, HB⟩ := n_; clear hb)))
          go_meet
          case rel => exact ⟨_, (true), rfy, H', ⟨by have := HJ2.out; have := HJ8.out; first | omega | exact Nat.le_refl _⟩, ⟨mK BK108.out⟩, ⟨mB HB.out⟩⟩
        ·rw [if_neg c18] at H
         have c18b0 : (a0_0 == 2) = false := beq_eq_false_iff_ne.mpr c18
         have c18b1 : (a0_0 != 2) = true := bne_iff_ne.mpr c18
         (first | rw [c18b0] | (simp only [i64_w, i32_w]; rw [c18b0]) | skip)
         have H' := z0 H
         clear H
         obtain ⟨hcz26_0, hcz26_1, hcz26_2, hcz26_3, hcz26_4, hfz26_0, hfz26_1, hfz26_2, hfz26_3, hfz26_4⟩ := cel5 BK108.out
         go_wp2
         repeat (go_quiet (fail); try go_wp2)
         go_meet
         case rel => exact ⟨_, ((!(a0_2 == 0) || (!(a0_3 == 0)))), rfy, H', ⟨by have := HJ2.out; have := HJ8.out; first | omega | exact Nat.le_refl _⟩, ⟨mK BK108.out⟩, ⟨mB HB.out⟩⟩
       case rest =>
        clear HC17
        (try clear c8); (try clear c16)
        obtain ⟨kq, x57_16, rfl, HA, HJ16, BK108, HB⟩ := hcut
        cases kq with
        | zero => exact absurd HA.out (by simp [spec_l3Form.j2])
        | succ kj16 =>
         have H := HA.out
         clear HA
         simp only [spec_l3Form.j2] at H
         by_cases c27 : x57_16 = true
         ·subst c27
          have H1 : (some false) = some r := by rw [if_pos rfl] at H; exact H
          clear H
          have H := H1
          clear H1
          obtain rfl := Option.some.inj H
          go_wp2
          repeat (go_quiet (fail); try go_wp2)
          go_ret
          exact ⟨rfx, mB HB.out⟩
         ·replace c27 := Bool.eq_false_iff.mpr c27
          subst c27
          have H1 : (spec_l3Form.l0 kj16 a1 0 a0_0 a0_1 a0_2 a0_3 l0_4) = some r := by rw [if_neg (show ¬ (false = true) by decide)] at H; exact H
          clear H
          have H := H1
          clear H1
          have H' := z0 H
          clear H
          go_wp2
          repeat (go_quiet (fail); try go_wp2)
          go_loopg [5] kj16 (fun kq v5 w' => ∃ (x5_4 : Int), v5 = .int .i64 x5_4 ∧ Aside0 (spec_l3Form.l0 kq a1 x5_4 a0_0 a0_1 a0_2 a0_3 l0_4 = some r) ∧ Aside0 (kq ≤ kj16) ∧ Aside0 (w'.heap[gb108]? = some (.cells #[.int .i64 a0_0, .int .i64 a0_1, .int .i64 a0_2, .int .i64 a0_3, (.slice A0_4 l0_4.length c0_4)] 32 (0, 0))) ∧ Aside0 (Below w.heap.size w w'))
          case atStart => exact ⟨(0), rfy, H', ⟨Nat.le_refl _⟩, ⟨mK BK108.out⟩, ⟨mB HB.out⟩⟩
          case round =>
           clear H'
           (try clear c8); (try clear c16); (try clear c27)
           obtain ⟨x5_4, rfl, HA, HK4, BK108, HB⟩ := hrel
           cases gk with
           | zero => exact absurd HA.out (by simp [spec_l3Form.l0])
           | succ k4 =>
            have H := HA.out
            clear HA
            simp only [spec_l3Form.l0] at H
            by_cases c28 : x5_4 < (l0_4.length : Int)
            ·rw [if_pos c28] at H
             have c28b0 : decide (x5_4 < (l0_4.length : Int)) = true := decide_eq_true c28
             clear c28
             by_cases c29 : 0 ≤ x5_4
             ·rw [if_pos c29] at H
              have c29b0 : decide (0 ≤ x5_4) = true := decide_eq_true c29
              clear c29
              replace H := Option.bind_eq_some_iff.mp H
              obtain ⟨t113, A300, H⟩ := H
              try dsimp only at H
              have A30 := z0 A300
              clear A300
              by_cases c31 : t113 = true
              ·subst c31
               have H1 : (spec_l3Form.l0 k4 a1 (wrap64 (x5_4 + 1)) a0_0 a0_1 a0_2 a0_3 l0_4) = some r := by rw [if_pos rfl] at H; exact H
               clear H
               have H := H1
               clear H1
               have H' := z0 H
               clear H
               obtain ⟨hcz32_0, hcz32_1, hcz32_2, hcz32_3, hcz32_4, hfz32_0, hfz32_1, hfz32_2, hfz32_3, hfz32_4⟩ := cel5 BK108.out
               have p112 : 0 ≤ (x5_4 : Int) := of_decide_eq_true (by first | (with_reducible assumption) | assumption)
               have q112 : x5_4 < (l0_4.length : Int) := of_decide_eq_true (by first | (with_reducible assumption) | assumption)
               obtain ⟨ad112, A112_4, c112_4, e112, hx112_0, hx112_1, hx112_2, hx112_3, hx112_4, hl112_4, hi112_4⟩ := at_T32 HR0_4.out x5_4 p112 q112
               cases e112
               replace hx112_0 := (HB.out.cell (World.block_lt_of_cell? w _ hx112_0)).trans hx112_0
               replace hx112_1 := (HB.out.cell (World.block_lt_of_cell? w _ hx112_1)).trans hx112_1
               replace hx112_2 := (HB.out.cell (World.block_lt_of_cell? w _ hx112_2)).trans hx112_2
               replace hx112_3 := (HB.out.cell (World.block_lt_of_cell? w _ hx112_3)).trans hx112_3
               replace hx112_4 := (HB.out.cell (World.block_lt_of_cell? w _ hx112_4)).trans hx112_4
               have HR112_4 := z0 hi112_4
               have HC112_4 := z0 hl112_4
               clear hi112_4 hl112_4
               replace p112 := eq_true p112
               replace q112 := eq_true q112
               go_wp2_with (first | (go_at_call 52; (with_reducible refine (ih k4 q52_1 ((rd_T32 l0_4 x5_4).f0) ((rd_T32 l0_4 x5_4).f1) ((rd_T32 l0_4 x5_4).f2.f0) ((rd_T32 l0_4 x5_4).f2.f1) _ _ ((rd_T32 l0_4 x5_4).f3) (wrap64 (a1 - 1)) true _ ?side1 ?side2 A30.out).mono ?_); (case side1 => exact mC (Kd.C_below HR112_4.out HB.out)); (case side2 => exact HC112_4.out); rintro e w33 ⟨rfl, hb⟩; have n_ := az (bB BK108.out hb) <| z0 (below_step (mB HB.out) hb); clear BK108 HB; obtain ⟨BK108, HB⟩ := n_; clear hb))
               repeat (go_quiet (first | (go_at_call 52; (with_reducible refine (ih k4 q52_1 ((rd_T32 l0_4 x5_4).f0) ((rd_T32 l0_4 x5_4).f1) ((rd_T32 l0_4 x5_4).f2.f0) ((rd_T32 l0_4 x5_4).f2.f1) _ _ ((rd_T32 l0_4 x5_4).f3) (wrap64 (a1 - 1)) true _ ?side1 ?side2 A30.out).mono ?_); (case side1 => exact mC (Kd.C_below HR112_4.out HB.out)); (case side2 => exact HC112_4.out); rintro e w33 ⟨rfl, hb⟩; have n_ := az (bB BK108.out hb) <| z0 (below_step (mB HB.out) hb); clear BK108 HB; obtain ⟨BK108, HB⟩ := n_; clear hb)); try go_wp2_with (first | (go_at_call 52; (with_reducible refine (ih k4 q52_1 ((rd_T32 l0_4 x5_4).f0) ((rd_T32 l0_4 x5_4).f1) ((rd_T32 l0_4 x5_4).f2.f0) ((rd_T32 l0_4 x5_4).f2.f1) _ _ ((rd_T32 l0_4 x5_4).f3) (wrap64 (a1 - 1)) true _ ?side1 ?side2 A30.out).mono ?_); (case side1 => exact mC (Kd.C_below HR112_4.out HB.out)); (case side2 => exact HC112_4.out); rintro e w33 ⟨rfl, hb⟩; have n_ := az (bB BK108.out hb) <| z0 (below_step (mB HB.out) hb); clear BK108 HB; obtain ⟨BK108, HB⟩ := n_; clear hb)))
               go_roundg k4
               case measure => have := HJ2.out; have := HJ8.out; have := HJ16.out; have := HK4.out; omega
               case rel => exact ⟨(wrap64 (x5_4 + 1)), rfy, H', ⟨by have := HJ2.out; have := HJ8.out; have := HJ16.out; have := HK4.out; omega⟩, ⟨mK BK108.out⟩, ⟨mB HB.out⟩⟩
              ·replace c31 := Bool.eq_false_iff.mpr c31
               subst c31
               have H1 : (some false) = some r := by rw [if_neg (show ¬ (false = true) by decide)] at H; exact H
               clear H
               have H := H1
               clear H1
               obtain rfl := Option.some.inj H
               obtain ⟨hcz34_0, hcz34_1, hcz34_2, hcz34_3, hcz34_4, hfz34_0, hfz34_1, hfz34_2, hfz34_3, hfz34_4⟩ := cel5 BK108.out
               have p112 : 0 ≤ (x5_4 : Int) := of_decide_eq_true (by first | (with_reducible assumption) | assumption)
               have q112 : x5_4 < (l0_4.length : Int) := of_decide_eq_true (by first | (with_reducible assumption) | assumption)
               obtain ⟨ad112, A112_4, c112_4, e112, hx112_0, hx112_1, hx112_2, hx112_3, hx112_4, hl112_4, hi112_4⟩ := at_T32 HR0_4.out x5_4 p112 q112
               cases e112
               replace hx112_0 := (HB.out.cell (World.block_lt_of_cell? w _ hx112_0)).trans hx112_0
               replace hx112_1 := (HB.out.cell (World.block_lt_of_cell? w _ hx112_1)).trans hx112_1
               replace hx112_2 := (HB.out.cell (World.block_lt_of_cell? w _ hx112_2)).trans hx112_2
               replace hx112_3 := (HB.out.cell (World.block_lt_of_cell? w _ hx112_3)).trans hx112_3
               replace hx112_4 := (HB.out.cell (World.block_lt_of_cell? w _ hx112_4)).trans hx112_4
               have HR112_4 := z0 hi112_4
               have HC112_4 := z0 hl112_4
               clear hi112_4 hl112_4
               replace p112 := eq_true p112
               replace q112 := eq_true q112
               go_wp2_with (first | (go_at_call 52; (with_reducible refine (ih k4 q52_1 ((rd_T32 l0_4 x5_4).f0) ((rd_T32 l0_4 x5_4).f1) ((rd_T32 l0_4 x5_4).f2.f0) ((rd_T32 l0_4 x5_4).f2.f1) _ _ ((rd_T32 l0_4 x5_4).f3) (wrap64 (a1 - 1)) false _ ?side1 ?side2 A30.out).mono ?_); (case side1 => exact mC (Kd.C_below HR112_4.out HB.out)); (case side2 => exact HC112_4.out); rintro e w35 ⟨rfl, hb⟩; have n_ := az (bB BK108.out hb) <| z0 (below_step (mB HB.out) hb); clear BK108 HB; obtain ⟨BK108, HB⟩ := n_; clear hb))
               repeat (go_quiet (first | (go_at_call 52; (with_reducible refine (ih k4 q52_1 ((rd_T32 l0_4 x5_4).f0) ((rd_T32 l0_4 x5_4).f1) ((rd_T32 l0_4 x5_4).f2.f0) ((rd_T32 l0_4 x5_4).f2.f1) _ _ ((rd_T32 l0_4 x5_4).f3) (wrap64 (a1 - 1)) false _ ?side1 ?side2 A30.out).mono ?_); (case side1 => exact mC (Kd.C_below HR112_4.out HB.out)); (case side2 => exact HC112_4.out); rintro e w35 ⟨rfl, hb⟩; have n_ := az (bB BK108.out hb) <| z0 (below_step (mB HB.out) hb); clear BK108 HB; obtain ⟨BK108, HB⟩ := n_; clear hb)); try go_wp2_with (first | (go_at_call 52; (with_reducible refine (ih k4 q52_1 ((rd_T32 l0_4 x5_4).f0) ((rd_T32 l0_4 x5_4).f1) ((rd_T32 l0_4 x5_4).f2.f0) ((rd_T32 l0_4 x5_4).f2.f1) _ _ ((rd_T32 l0_4 x5_4).f3) (wrap64 (a1 - 1)) false _ ?side1 ?side2 A30.out).mono ?_); (case side1 => exact mC (Kd.C_below HR112_4.out HB.out)); (case side2 => exact HC112_4.out); rintro e w35 ⟨rfl, hb⟩; have n_ := az (bB BK108.out hb) <| z0 (below_step (mB HB.out) hb); clear BK108 HB; obtain ⟨BK108, HB⟩ := n_; clear hb)))
               go_ret
               exact ⟨rfx, mB HB.out⟩
             ·rw [if_neg c29] at H
              exact absurd H (by simp)
            ·rw [if_neg c28] at H
             have c28b0 : decide (x5_4 < (l0_4.length : Int)) = false := decide_eq_false c28
             clear c28
             obtain rfl := Option.some.inj H
             obtain ⟨hcz36_0, hcz36_1, hcz36_2, hcz36_3, hcz36_4, hfz36_0, hfz36_1, hfz36_2, hfz36_3, hfz36_4⟩ := cel5 BK108.out
             go_wp2
             repeat (go_quiet (fail); try go_wp2)
             go_ret
             exact ⟨rfx, mB HB.out⟩

end Go.Proofs.Ytiofkhfmdophpaa.B
namespace Go.Proofs.Ytiofkhfmdophpaa.B
open Go.RowKit Go.Proofs.YtiofkhfmdophpaaW.PrintWords Go.Proofs.YtiofkhfmdophpaaW.PrintLast Go.Proofs.YtiofkhfmdophpaaW.PrintMore
attribute [local go_sem] max2_int min2_int max_two min_two max_three min_three max_four min_four   -- for this text's walks alone
set_option linter.unusedVariables false
set_option linter.unusedSimpArgs false

/-! ### spec_l3Many: function 53 -/
mutual
def spec_l3Many.l0 : Nat → Int → Int → Int → Int → Int → Int → Int → List (S32) → Option (Int)
 | 0, _, _, _, _, _, _, _, _ => none
 | k + 1, x1, x5, x6, x115000, x115001, x115002, x115003, x115004 => if x6 < (x115004.length : Int) then (if x1 > 0 then (if 0 ≤ x6 then ((spec_l3Many.f k ((rd_T32 x115004 x6).f0) ((rd_T32 x115004 x6).f1) ((rd_T32 x115004 x6).f2.f0) ((rd_T32 x115004 x6).f2.f1) ((rd_T32 x115004 x6).f3) (wrap64 (x1 - 1))).bind fun t116 => (spec_l3Many.l0 k x1 (wrap64 (x5 + t116)) (wrap64 (x6 + 1)) x115000 x115001 x115002 x115003 x115004)) else (none)) else (some x5)) else (some x5)
def spec_l3Many.f : Nat → Int → Int → Int → Int → List (S32) → Int → Option (Int)
 | 0, _, _, _, _, _, _ => none
 | k + 1, a0_0, a0_1, a0_2, a0_3, l0_4, a1 => spec_l3Many.l0 k a1 1 0 a0_0 a0_1 a0_2 a0_3 l0_4
end
theorem spec_l3Many.mono_l : ∀ k, (∀ y0 y1 y2 y3 y4 y5, LeO (spec_l3Many.f k y0 y1 y2 y3 y4 y5) (spec_l3Many.f (k + 1) y0 y1 y2 y3 y4 y5)) ∧ (∀ y0 y1 y2 y3 y4 y5 y6 y7, LeO (spec_l3Many.l0 k y0 y1 y2 y3 y4 y5 y6 y7) (spec_l3Many.l0 (k + 1) y0 y1 y2 y3 y4 y5 y6 y7))
 | 0 => ⟨fun _ _ _ _ _ _ r h => by simp [spec_l3Many.f] at h, fun _ _ _ _ _ _ _ _ r h => by simp [spec_l3Many.l0] at h⟩
 | k + 1 => by
  obtain ⟨ih0, ih1⟩ := spec_l3Many.mono_l k
  refine ⟨?_, ?_⟩
  ·intro y0 y1 y2 y3 y4 y5
   unfold spec_l3Many.f
   repeat' first
   | (with_reducible exact ih0 _ _ _ _ _ _)
   | (with_reducible exact ih1 _ _ _ _ _ _ _ _)
   | (with_reducible exact LeO.refl _)
   | (with_reducible exact LeO.none _)
   | (with_reducible refine LeO.ite ?_ ?_)
   | (with_reducible refine LeO.bind ?_ (fun _ => ?_))
   | exact ih0 _ _ _ _ _ _
   | exact ih1 _ _ _ _ _ _ _ _
   | exact LeO.none _
   | refine LeO.ite ?_ ?_
   | refine LeO.bind ?_ (fun _ => ?_)
  ·intro y0 y1 y2 y3 y4 y5 y6 y7
   unfold spec_l3Many.l0
   repeat' first
   | (with_reducible exact ih0 _ _ _ _ _ _)
   | (with_reducible exact ih1 _ _ _ _ _ _ _ _)
   | (with_reducible exact LeO.refl _)
   | (with_reducible exact LeO.none _)
   | (with_reducible refine LeO.ite ?_ ?_)
   | (with_reducible refine LeO.bind ?_ (fun _ => ?_))
   | exact ih0 _ _ _ _ _ _
   | exact ih1 _ _ _ _ _ _ _ _
   | exact LeO.none _
   | refine LeO.ite ?_ ?_
   | refine LeO.bind ?_ (fun _ => ?_)
theorem spec_l3Many.mono : ∀ a0 a1 a2 a3 a4 a5 k, LeO (spec_l3Many.f k a0 a1 a2 a3 a4 a5) (spec_l3Many.f (k + 1) a0 a1 a2 a3 a4 a5) := by
 intro a0 a1 a2 a3 a4 a5 k
 obtain ⟨ih0, ih1⟩ := spec_l3Many.mono_l k
 exact ih0 a0 a1 a2 a3 a4 a5
set_option maxHeartbeats 8000000 in
set_option maxRecDepth 100000 in
theorem spec_l3Many.calls (k : Nat) : ∀ (a0_0 : Int) (a0_1 : Int) (a0_2 : Int) (a0_3 : Int) (A0_4 : Option Addr) (c0_4 : Nat) (l0_4 : List (S32)) (a1 : Int) (r : Int) (w : World) (hr0_4 : Kd.C k32 w A0_4 l0_4.length l0_4) (hc0_4 : l0_4.length ≤ c0_4) (h : spec_l3Many.f k a0_0 a0_1 a0_2 a0_3 l0_4 a1 = some r),
  Calls Try.prog 53 #[.agg #[.int .i64 a0_0, .int .i64 a0_1, .int .i64 a0_2, .int .i64 a0_3, .slice A0_4 l0_4.length c0_4], .int .i64 a1] w fun e w' => e = .returned (.int .i64 r) ∧ Below w.heap.size w w' := by
 induction k using Nat.strongRecOn with
 | _ k ih =>
 intro a0_0 a0_1 a0_2 a0_3 A0_4 c0_4 l0_4 a1 r w hr0_4 hc0_4 h
 cases k with
 | zero => exact absurd h (by simp [spec_l3Many.f])
 | succ k =>
 simp only [spec_l3Many.f] at h
 have hu32 := Try.underlying32
 have HR0_4 := z0 hr0_4
 have HC0_4 := z0 hc0_4
 clear hr0_4 hc0_4
 have HB := z0 (Below.refl w.heap.size w)
 have H : (spec_l3Many.l0 k a1 1 0 a0_0 a0_1 a0_2 a0_3 l0_4) = some r := h
 clear h
 have H' := z0 H
 clear H
 go_enter Try.func53, Try.ntmps53
 go_wp2_with (first | ((with_reducible refine gate_dst (N := 2) rfl ?_); refine box_event ?hg (N := 2) ?hd (cs := #[.int .i64 a0_0, .int .i64 a0_1, .int .i64 a0_2, .int .i64 a0_3, .slice A0_4 l0_4.length c0_4]) (t := 32) ?hr ?_; (case hd => rfl); (case hg => rfl); (case hr => first | (go_simp; done) | (go_simp; rfl)); intro gb114 hg w3 hbox hb; have n_ := az (below_step (mB HB.out) hb) <| az (hbox) <| az ((by rw [hg]; exact (below_size (mB HB.out)) : w.heap.size ≤ gb114)) <| z0 ((by rw [hg]; exact (below_size (mB HB.out)) : w.heap.size ≤ gb114)); clear HB; obtain ⟨HB, BK114, GW114, GE114⟩ := n_; clear hb hbox hg))
 go_loopg [5, 6] k (fun kq v5 v6 w' => ∃ (x5_1 : Int) (x6_1 : Int), v5 = .int .i64 x5_1 ∧ v6 = .int .i64 x6_1 ∧ Aside0 (spec_l3Many.l0 kq a1 x5_1 x6_1 a0_0 a0_1 a0_2 a0_3 l0_4 = some r) ∧ Aside0 (kq ≤ k) ∧ Aside0 (w'.heap[gb114]? = some (.cells #[.int .i64 a0_0, .int .i64 a0_1, .int .i64 a0_2, .int .i64 a0_3, (.slice A0_4 l0_4.length c0_4)] 32 (0, 0))) ∧ Aside0 (Below w.heap.size w w'))
 case atStart => exact ⟨(1), (0), rfy, rfy, H', ⟨Nat.le_refl _⟩, ⟨mK BK114.out⟩, ⟨mB HB.out⟩⟩
 case round =>
  clear H'
  try clear p2
  obtain ⟨x5_1, x6_1, rfl, rfl, HA, HK1, BK114, HB⟩ := hrel
  cases gk with
  | zero => exact absurd HA.out (by simp [spec_l3Many.l0])
  | succ k1 =>
   have H := HA.out
   clear HA
   simp only [spec_l3Many.l0] at H
   by_cases c4 : x6_1 < (l0_4.length : Int)
   ·rw [if_pos c4] at H
    have c4b0 : decide (x6_1 < (l0_4.length : Int)) = true := decide_eq_true c4
    clear c4
    by_cases c5 : a1 > 0
    ·rw [if_pos c5] at H
     have c5b0 : decide (0 < a1) = true := decide_eq_true c5
     clear c5
     by_cases c6 : 0 ≤ x6_1
     ·rw [if_pos c6] at H
      have c6b0 : decide (0 ≤ x6_1) = true := decide_eq_true c6
      clear c6
      replace H := Option.bind_eq_some_iff.mp H
      obtain ⟨t116, A70, H⟩ := H
      try dsimp only at H
      have A7 := z0 A70
      clear A70
      have H' := z0 H
      clear H
      obtain ⟨hcz8_0, hcz8_1, hcz8_2, hcz8_3, hcz8_4, hfz8_0, hfz8_1, hfz8_2, hfz8_3, hfz8_4⟩ := cel5 BK114.out
      have p115 : 0 ≤ (x6_1 : Int) := of_decide_eq_true (by first | (with_reducible assumption) | assumption)
      have q115 : x6_1 < (l0_4.length : Int) := of_decide_eq_true (by first | (with_reducible assumption) | assumption)
      obtain ⟨ad115, A115_4, c115_4, e115, hx115_0, hx115_1, hx115_2, hx115_3, hx115_4, hl115_4, hi115_4⟩ := at_T32 HR0_4.out x6_1 p115 q115
      cases e115
      replace hx115_0 := (HB.out.cell (World.block_lt_of_cell? w _ hx115_0)).trans hx115_0
      replace hx115_1 := (HB.out.cell (World.block_lt_of_cell? w _ hx115_1)).trans hx115_1
      replace hx115_2 := (HB.out.cell (World.block_lt_of_cell? w _ hx115_2)).trans hx115_2
      replace hx115_3 := (HB.out.cell (World.block_lt_of_cell? w _ hx115_3)).trans hx115_3
      replace hx115_4 := (HB.out.cell (World.block_lt_of_cell? w _ hx115_4)).trans hx115_4
      have HR115_4 := z0 hi115_4
      have HC115_4 := z0 hl115_4
      clear hi115_4 hl115_4
      replace p115 := eq_true p115
      replace q115 := eq_true q115
      go_wp2_with (first | ((with_reducible refine gate_callee (f := 53) rfl ?_); refine goesL_ (some 26) rfl rfl Try.func53 (by kernel_rfl) rfl #[.agg #[.int .i64 ((rd_T32 l0_4 x6_1).f0), .int .i64 ((rd_T32 l0_4 x6_1).f1), .int .i64 ((rd_T32 l0_4 x6_1).f2.f0), .int .i64 ((rd_T32 l0_4 x6_1).f2.f1), .slice A115_4 ((rd_T32 l0_4 x6_1).f3).length c115_4], .int .i64 (wrap64 (a1 - 1))] rfl argx ?_; (with_reducible refine (ih k1 (by have := HK1.out; omega) ((rd_T32 l0_4 x6_1).f0) ((rd_T32 l0_4 x6_1).f1) ((rd_T32 l0_4 x6_1).f2.f0) ((rd_T32 l0_4 x6_1).f2.f1) _ _ ((rd_T32 l0_4 x6_1).f3) (wrap64 (a1 - 1)) t116 _ ?side1 ?side2 A7.out).mono ?_); (case side1 => exact mC (Kd.C_below HR115_4.out HB.out)); (case side2 => exact HC115_4.out); rintro e w9 ⟨rfl, hb⟩; refine ⟨_, rfl, ?_⟩; have n_ := az (bB BK114.out hb) <| z0 (below_step (mB HB.out) hb); clear BK114 HB; obtain ⟨BK114, HB⟩ := n_; clear hb))
      go_roundg k1
      case measure => have := HK1.out; omega
      case rel => exact ⟨(wrap64 (x5_1 + t116)), (wrap64 (x6_1 + 1)), rfy, rfy, H', ⟨by have := HK1.out; omega⟩, ⟨mK BK114.out⟩, ⟨mB HB.out⟩⟩
     ·rw [if_neg c6] at H
      exact absurd H (by simp)
    ·rw [if_neg c5] at H
     have c5b0 : decide (0 < a1) = false := decide_eq_false c5
     clear c5
     obtain rfl := Option.some.inj H
     obtain ⟨hcz10_0, hcz10_1, hcz10_2, hcz10_3, hcz10_4, hfz10_0, hfz10_1, hfz10_2, hfz10_3, hfz10_4⟩ := cel5 BK114.out
     go_wp2
     go_ret
     exact ⟨rfx, mB HB.out⟩
   ·rw [if_neg c4] at H
    have c4b0 : decide (x6_1 < (l0_4.length : Int)) = false := decide_eq_false c4
    clear c4
    obtain rfl := Option.some.inj H
    obtain ⟨hcz11_0, hcz11_1, hcz11_2, hcz11_3, hcz11_4, hfz11_0, hfz11_1, hfz11_2, hfz11_3, hfz11_4⟩ := cel5 BK114.out
    go_wp2
    go_ret
    exact ⟨rfx, mB HB.out⟩

/-! ### spec_ExprOk: function 16 -/
def spec_ExprOk.f (k : Nat) (a0_0 : Int) (a0_1 : Int) (a0_2 : Int) (a0_3 : Int) (l0_4 : List (S32)) : Option (Bool) := (spec_l3Form.f k a0_0 a0_1 a0_2 a0_3 l0_4 6).bind fun t118 => (if t118 = true then ((spec_l3Many.f k a0_0 a0_1 a0_2 a0_3 l0_4 6).bind fun t119 => (some (decide (t119 ≤ 14)))) else (some false))
theorem spec_ExprOk.mono : ∀ a0 a1 a2 a3 a4 k, LeO (spec_ExprOk.f k a0 a1 a2 a3 a4) (spec_ExprOk.f (k + 1) a0 a1 a2 a3 a4) := by
 intro a0 a1 a2 a3 a4 k
 unfold spec_ExprOk.f
 repeat' first
   | (with_reducible exact spec_l3Form.mono _ _ _ _ _ _ _)
   | (with_reducible exact spec_l3Many.mono _ _ _ _ _ _ _)
   | (with_reducible exact LeO.refl _)
   | (with_reducible exact LeO.none _)
   | (with_reducible refine LeO.ite ?_ ?_)
   | (with_reducible refine LeO.bind ?_ (fun _ => ?_))
   | exact spec_l3Form.mono _ _ _ _ _ _ _
   | exact spec_l3Many.mono _ _ _ _ _ _ _
   | exact LeO.none _
   | refine LeO.ite ?_ ?_
   | refine LeO.bind ?_ (fun _ => ?_)
set_option maxHeartbeats 8000000 in
set_option maxRecDepth 100000 in
theorem spec_ExprOk.calls (k : Nat) (a0_0 : Int) (a0_1 : Int) (a0_2 : Int) (a0_3 : Int) (A0_4 : Option Addr) (c0_4 : Nat) (l0_4 : List (S32)) (r : Bool) (w : World) (hr0_4 : Kd.C k32 w A0_4 l0_4.length l0_4) (hc0_4 : l0_4.length ≤ c0_4) (h : spec_ExprOk.f k a0_0 a0_1 a0_2 a0_3 l0_4 = some r) :
  Calls Try.prog 16 #[.agg #[.int .i64 a0_0, .int .i64 a0_1, .int .i64 a0_2, .int .i64 a0_3, .slice A0_4 l0_4.length c0_4]] w fun e w' => e = .returned (.bool r) ∧ Below w.heap.size w w' := by
 have hu32 := Try.underlying32
 have HR0_4 := z0 hr0_4
 have HC0_4 := z0 hc0_4
 clear hr0_4 hc0_4
 have HB := z0 (Below.refl w.heap.size w)
 have H : ((spec_l3Form.f k a0_0 a0_1 a0_2 a0_3 l0_4 6).bind fun t118 => (if t118 = true then ((spec_l3Many.f k a0_0 a0_1 a0_2 a0_3 l0_4 6).bind fun t119 => (some (decide (t119 ≤ 14)))) else (some false))) = some r := h
 clear h
 have HF2 := z0 H
 clear H
 go_enter Try.func16, Try.ntmps16
 go_upto_region 1 with (first | ((with_reducible refine gate_dst (N := 1) rfl ?_); refine box_event ?hg (N := 1) ?hd (cs := #[.int .i64 a0_0, .int .i64 a0_1, .int .i64 a0_2, .int .i64 a0_3, .slice A0_4 l0_4.length c0_4]) (t := 32) ?hr ?_; (case hd => rfl); (case hg => rfl); (case hr => first | (go_simp; done) | (go_simp; rfl)); intro gb117 hg w3 hbox hb; have n_ := az (below_step (mB HB.out) hb) <| az (hbox) <| az ((by rw [hg]; exact (below_size (mB HB.out)) : w.heap.size ≤ gb117)) <| z0 ((by rw [hg]; exact (below_size (mB HB.out)) : w.heap.size ≤ gb117)); clear HB; obtain ⟨HB, BK117, GW117, GE117⟩ := n_; clear hb hbox hg))
 (try simp only [Act.put, List.setIfInBounds_toArray, List.set_cons_zero, List.set_cons_succ])
 have H := HF2.out
 clear HF2
 try clear c1
 replace H := Option.bind_eq_some_iff.mp H
 obtain ⟨t118, A40, H⟩ := H
 try dsimp only at H
 have A4 := z0 A40
 clear A40
 by_cases c5 : t118 = true
 ·subst c5
  have H1 : ((spec_l3Many.f k a0_0 a0_1 a0_2 a0_3 l0_4 6).bind fun t119 => (some (decide (t119 ≤ 14)))) = some r := by rw [if_pos rfl] at H; exact H
  clear H
  have H := H1
  clear H1
  replace H := Option.bind_eq_some_iff.mp H
  obtain ⟨t119, A60, H⟩ := H
  try dsimp only at H
  have A6 := z0 A60
  clear A60
  obtain rfl := Option.some.inj H
  obtain ⟨hcz7_0, hcz7_1, hcz7_2, hcz7_3, hcz7_4, hfz7_0, hfz7_1, hfz7_2, hfz7_3, hfz7_4⟩ := cel5 BK117.out
  go_wp2_with (first | ((with_reducible refine gate_callee (f := 52) rfl ?_); refine goesL_ (some 4) rfl rfl Try.func52 (by kernel_rfl) rfl #[.agg #[.int .i64 a0_0, .int .i64 a0_1, .int .i64 a0_2, .int .i64 a0_3, .slice A0_4 l0_4.length c0_4], .int .i64 6] rfl argx ?_; (with_reducible refine (spec_l3Form.calls k a0_0 a0_1 a0_2 a0_3 _ _ l0_4 6 true _ ?side1 ?side2 A4.out).mono ?_); (case side1 => exact mC (Kd.C_below HR0_4.out HB.out)); (case side2 => exact HC0_4.out); rintro e w8 ⟨rfl, hb⟩; refine ⟨_, rfl, ?_⟩; have n_ := az (bB BK117.out hb) <| z0 (below_step (mB HB.out) hb); clear BK117 HB; obtain ⟨BK117, HB⟩ := n_; clear hb; obtain ⟨hcz9_0, hcz9_1, hcz9_2, hcz9_3, hcz9_4, hfz9_0, hfz9_1, hfz9_2, hfz9_3, hfz9_4⟩ := cel5 BK117.out) | (go_at_call 53; (with_reducible refine (spec_l3Many.calls k a0_0 a0_1 a0_2 a0_3 _ _ l0_4 6 t119 _ ?side1 ?side2 A6.out).mono ?_); (case side1 => exact mC (Kd.C_below HR0_4.out HB.out)); (case side2 => exact HC0_4.out); rintro e w10 ⟨rfl, hb⟩; have n_ := az (bB BK117.out hb) <| z0 (below_step (mB HB.out) hb); clear BK117 HB; obtain ⟨BK117, HB⟩ := n_; clear hb))
  go_ret
  exact ⟨rfx, mB HB.out⟩
 ·replace c5 := Bool.eq_false_iff.mpr c5
  subst c5
  have H1 : (some false) = some r := by rw [if_neg (show ¬ (false = true) by decide)] at H; exact H
  clear H
  have H := H1
  clear H1
  obtain rfl := Option.some.inj H
  obtain ⟨hcz11_0, hcz11_1, hcz11_2, hcz11_3, hcz11_4, hfz11_0, hfz11_1, hfz11_2, hfz11_3, hfz11_4⟩ := cel5 BK117.out
  go_wp2_with (first | ((with_reducible refine gate_callee (f := 52) rfl ?_); refine goesL_ (some 4) rfl rfl Try.func52 (by kernel_rfl) rfl #[.agg #[.int .i64 a0_0, .int .i64 a0_1, .int .i64 a0_2, .int .i64 a0_3, .slice A0_4 l0_4.length c0_4], .int .i64 6] rfl argx ?_; (with_reducible refine (spec_l3Form.calls k a0_0 a0_1 a0_2 a0_3 _ _ l0_4 6 false _ ?side1 ?side2 A4.out).mono ?_); (case side1 => exact mC (Kd.C_below HR0_4.out HB.out)); (case side2 => exact HC0_4.out); rintro e w12 ⟨rfl, hb⟩; refine ⟨_, rfl, ?_⟩; have n_ := az (bB BK117.out hb) <| z0 (below_step (mB HB.out) hb); clear BK117 HB; obtain ⟨BK117, HB⟩ := n_; clear hb))
  go_ret
  exact ⟨rfx, mB HB.out⟩

/-! ### spec_l12Rd_num: function 106 -/
def spec_l12Rd_num.f (k : Nat) (s0_0 : List Int) (s0_1 : Int) (l1 : List Int) : Option (Int × Int) := (spec_l12Rd_pick.f k s0_0 s0_1 (l1.length : Int)).bind fun bt633 => (if 0 ≤ bt633.1 then (if bt633.1 < (l1.length : Int) then (some (rd l1 bt633.1, bt633.2)) else (none)) else (none))
theorem spec_l12Rd_num.mono : ∀ a0 a1 a2 k, LeO (spec_l12Rd_num.f k a0 a1 a2) (spec_l12Rd_num.f (k + 1) a0 a1 a2) := by
 intro a0 a1 a2 k
 unfold spec_l12Rd_num.f
 repeat' first
   | (with_reducible exact spec_l12Rd_pick.mono _ _ _ _)
   | (with_reducible exact LeO.refl _)
   | (with_reducible exact LeO.none _)
   | (with_reducible refine LeO.ite ?_ ?_)
   | (with_reducible refine LeO.bind ?_ (fun _ => ?_))
   | exact spec_l12Rd_pick.mono _ _ _ _
   | exact LeO.none _
   | refine LeO.ite ?_ ?_
   | refine LeO.bind ?_ (fun _ => ?_)
set_option maxHeartbeats 8000000 in
set_option maxRecDepth 100000 in
theorem spec_l12Rd_num.calls (k : Nat) (g : Nat) (s0_0 : List Int) (s0_1 : Int) (A1 : Option Addr) (c1 : Nat) (l1 : List Int) (r1 : Int) (r2 : Int) (w0 w : World) (hI : IsS132 w0 w g s0_0 s0_1) (hB : Below w0.heap.size w0 w) (hr1 : Kd.C (Kd.int .i64) w A1 l1.length l1) (hc1 : l1.length ≤ c1) (hf1 : ∀ ad, A1 = some ad → 0 < l1.length → ad.block ≠ g) (h : spec_l12Rd_num.f k s0_0 s0_1 l1 = some (r1, r2)) :
  Calls Try.prog 106 #[.pointer (some ⟨g, 0, none⟩), .slice A1 l1.length c1] w fun e w' => e = .returned (.int .i64 r1) ∧ IsS132 w0 w' g s0_0 r2 ∧ Below w0.heap.size w0 w' ∧ KeepBut w w' g none := by
 have HR1 := z0 hr1
 have HC1 := z0 hc1
 clear hr1 hc1
 have HI0 := z0 hI
 have HK := z0 (KeepBut.refl w g none)
 have HL := z0 hB.size
 clear hI
 have HW0 := z0 hB.size
 have HB := z0 hB
 clear hB
 have H : ((spec_l12Rd_pick.f k s0_0 s0_1 (l1.length : Int)).bind fun bt633 => (if 0 ≤ bt633.1 then (if bt633.1 < (l1.length : Int) then (some (rd l1 bt633.1, bt633.2)) else (none)) else (none))) = some (r1, r2) := h
 clear h
 replace H := Option.bind_eq_some_iff.mp H
 obtain ⟨⟨t633, t634⟩, A30, H⟩ := H
 try dsimp only at H
 have A3 := z0 A30
 clear A30
 by_cases c4 : 0 ≤ t633
 ·rw [if_pos c4] at H
  have c4b0 : decide (0 ≤ t633) = true := decide_eq_true c4
  clear c4
  by_cases c5 : t633 < (l1.length : Int)
  ·rw [if_pos c5] at H
   have c5b0 : decide (t633 < (l1.length : Int)) = true := decide_eq_true c5
   clear c5
   simp only [Option.some.injEq, Prod.mk.injEq] at H
   obtain ⟨rfl, rfl⟩ := H
   go_enter Try.func106, Try.ntmps106
   go_wp2_with (first | ((with_reducible refine gate_callee (f := 105) rfl ?_); refine goesL_ (some 9) rfl rfl Try.func105 (by kernel_rfl) rfl #[.pointer (some ⟨g, 0, none⟩), .int .i64 (l1.length : Int)] rfl argx ?_; (with_reducible refine (spec_l12Rd_pick.calls k g s0_0 s0_1 (l1.length : Int) t633 t634 w0 _ ?side1 ?side2 A3.out).mono ?_); (case side1 => exact mI132_1 HI0.out); (case side2 => exact mB132HI0 HB.out); rintro e w6 ⟨rfl, hi, hb, hk⟩; refine ⟨_, rfl, ?_⟩; have n_ := az (KeepBut.trans (mKp HK.out) hk (.inl rfl)) <| az (hb) <| z0 (hi); clear HK HB HI0; obtain ⟨HK, HB, HI0⟩ := n_; clear hb hk hi; have p635 : 0 ≤ (t633 : Int) := of_decide_eq_true (by first | (with_reducible assumption) | assumption); have q635 : t633 < (l1.length : Int) := of_decide_eq_true (by first | (with_reducible assumption) | assumption); obtain ⟨ad635, e635, hx635_0⟩ := Kd.at_int HR1.out t633 p635 q635; cases e635; replace hx635_0 := keep_cell HK.out hx635_0 (by first | (rw [add_block]; exact hf1 _ rfl (by omega)) | exact hf1 _ rfl (by omega) | exact hf1 ad635 rfl (by omega)); replace p635 := eq_true p635; replace q635 := eq_true q635))
   go_ret
   exact ⟨rfx, mI132_1 HI0.out, mB132HI0 HB.out, mKp HK.out⟩
  ·rw [if_neg c5] at H
   exact absurd H (by simp)
 ·rw [if_neg c4] at H
  exact absurd H (by simp)

/-! ### spec_l2Addr: function 126 -/
def spec_l2Addr.f (k : Nat) (s0_0 : List Int) (s0_1 : Int) : Option (Int × Int × Int) := (spec_l12Rd_pick.f k s0_0 s0_1 3).bind fun bt637 => ((spec_l12Rd_pick.f k s0_0 bt637.2 3).bind fun bt639 => (some (wrap64 (1 + bt637.1), bt639.1, bt639.2)))
theorem spec_l2Addr.mono : ∀ a0 a1 k, LeO (spec_l2Addr.f k a0 a1) (spec_l2Addr.f (k + 1) a0 a1) := by
 intro a0 a1 k
 unfold spec_l2Addr.f
 repeat' first
   | (with_reducible exact spec_l12Rd_pick.mono _ _ _ _)
   | (with_reducible exact LeO.refl _)
   | (with_reducible exact LeO.none _)
   | (with_reducible refine LeO.ite ?_ ?_)
   | (with_reducible refine LeO.bind ?_ (fun _ => ?_))
   | exact spec_l12Rd_pick.mono _ _ _ _
   | exact LeO.none _
   | refine LeO.ite ?_ ?_
   | refine LeO.bind ?_ (fun _ => ?_)
set_option maxHeartbeats 8000000 in
set_option maxRecDepth 100000 in
theorem spec_l2Addr.calls (k : Nat) (g : Nat) (s0_0 : List Int) (s0_1 : Int) (r1 : Int) (r2 : Int) (r3 : Int) (w0 w : World) (hI : IsS132 w0 w g s0_0 s0_1) (hB : Below w0.heap.size w0 w) (h : spec_l2Addr.f k s0_0 s0_1 = some (r1, r2, r3)) :
  Calls Try.prog 126 #[.pointer (some ⟨g, 0, none⟩)] w fun e w' => e = .returned (.agg #[.int .i64 r1, .int .i64 r2]) ∧ IsS132 w0 w' g s0_0 r3 ∧ Below w0.heap.size w0 w' ∧ KeepBut w w' g none := by
 have hu29 := Try.underlying29
 have HI0 := z0 hI
 have HK := z0 (KeepBut.refl w g none)
 have HL := z0 hB.size
 clear hI
 have HW0 := z0 hB.size
 have HB := z0 hB
 clear hB
 have H : ((spec_l12Rd_pick.f k s0_0 s0_1 3).bind fun bt637 => ((spec_l12Rd_pick.f k s0_0 bt637.2 3).bind fun bt639 => (some (wrap64 (1 + bt637.1), bt639.1, bt639.2)))) = some (r1, r2, r3) := h
 clear h
 replace H := Option.bind_eq_some_iff.mp H
 obtain ⟨⟨t637, t638⟩, A20, H⟩ := H
 try dsimp only at H
 have A2 := z0 A20
 clear A20
 replace H := Option.bind_eq_some_iff.mp H
 obtain ⟨⟨t639, t640⟩, A30, H⟩ := H
 try dsimp only at H
 have A3 := z0 A30
 clear A30
 simp only [Option.some.injEq, Prod.mk.injEq] at H
 obtain ⟨rfl, rfl, rfl⟩ := H
 go_enter Try.func126, Try.ntmps126
 go_wp2_with (first | ((with_reducible refine gate_dst (N := 2) rfl ?_); refine box_event ?hg (N := 2) ?hd (cs := #[.int .i64 0, .int .i64 0]) (t := 29) ?hr ?_; (case hd => rfl); (case hg => rfl); (case hr => first | (go_simp; done) | (go_simp; rfl)); intro gb636 hg w4 hbox hb; have n_ := az (IsS132.below (mI132_1 HI0.out) hb) <| az (KeepBut.trans (mKp HK.out) (KeepBut.of_below hb g none) (.inl rfl)) <| az (below_step (mB132HI0 HB.out) hb) <| az (hbox) <| az ((gW hg HK.out)) <| az ((Nat.le_trans HW0.out (gW hg HK.out) : w0.heap.size ≤ gb636)) <| az ((by rw [hg]; exact Nat.ne_of_lt (IsS132.lt (show IsS132 w0 _ g s0_0 s0_1 from mI132_1 HI0.out)) : g ≠ gb636)) <| z0 ((by rw [hg]; exact Nat.ne_of_gt (IsS132.lt (show IsS132 w0 _ g s0_0 s0_1 from mI132_1 HI0.out)) : gb636 ≠ g)); clear HI0 HK HB; obtain ⟨HI0, HK, HB, BK636, GW636, GE636, NB0_636, NB636_0⟩ := n_; clear hb hbox hg) | ((with_reducible refine gate_callee (f := 105) rfl ?_); refine goesL_ (some 4) rfl rfl Try.func105 (by kernel_rfl) rfl #[.pointer (some ⟨g, 0, none⟩), .int .i64 3] rfl argx ?_; (with_reducible refine (spec_l12Rd_pick.calls k g s0_0 s0_1 3 t637 t638 w0 _ ?side1 ?side2 A2.out).mono ?_); (case side1 => exact mI132_1 HI0.out); (case side2 => exact mB132HI0 HB.out); rintro e w5 ⟨rfl, hi, hb, hk⟩; refine ⟨_, rfl, ?_⟩; have n_ := az (kB hk BK636.out NB636_0.out) <| az (KeepBut.trans (mKp HK.out) hk (.inl rfl)) <| az (hb) <| z0 (hi); clear BK636 HK HB HI0; obtain ⟨BK636, HK, HB, HI0⟩ := n_; clear hb hk hi) | ((with_reducible refine gate_callee (f := 105) rfl ?_); refine goesL_ (some 7) rfl rfl Try.func105 (by kernel_rfl) rfl #[.pointer (some ⟨g, 0, none⟩), .int .i64 3] rfl argx ?_; (with_reducible refine (spec_l12Rd_pick.calls k g s0_0 t638 3 t639 t640 w0 _ ?side1 ?side2 A3.out).mono ?_); (case side1 => exact mI132_1 HI0.out); (case side2 => exact mB132HI0 HB.out); rintro e w6 ⟨rfl, hi, hb, hk⟩; refine ⟨_, rfl, ?_⟩; have n_ := az (kB hk BK636.out NB636_0.out) <| az (KeepBut.trans (mKp HK.out) hk (.inl rfl)) <| az (hb) <| z0 (hi); clear BK636 HK HB HI0; obtain ⟨BK636, HK, HB, HI0⟩ := n_; clear hb hk hi; have hnb7 := NB636_0.out; have hnc7 := NB0_636.out; obtain ⟨hcz8_0, hcz8_1, hfz8_0, hfz8_1⟩ := cel2 BK636.out))
 refine bodyPost_ret (results_cell_row rfl _ _ gb636 29 #[.int .i64 (wrap64 (1 + t637)), .int .i64 t639] (0, 0) _ rfl (pF BK636.out) Try.underlying29 rfl (by kernel_rfl)) rfl ?_
 exact ⟨rfx, mI132_1 HI0.out, mB132HI0 HB.out, mKp HK.out⟩

/-! ### spec_l3Expr: function 125 -/
mutual
def spec_l3Expr.j0 : Nat → Int → Bool → List Int → Int → Option (Int × Int × Int × Int × (List (S32)) × Int)
 | 0, _, _, _, _ => none
 | k + 1, x1, x13, x1000, x1001 => if x13 = true then ((spec_l12Rd_pick.f k x1000 x1001 3).bind fun bt644 => (if bt644.1 = 0 then ((spec_l12Rd_num.f k x1000 bt644.2 (([0, 1, 2, 3, (-1), 5, 1000000] : List Int))).bind fun bt649 => (some (1, bt649.1, 0, 0, ([] : List (S32)), bt649.2))) else ((spec_l2Addr.f k x1000 bt644.2).bind fun bt651 => (some (2, 0, bt651.1, bt651.2.1, ([] : List (S32)), bt651.2.2))))) else ((spec_l12Rd_num.f k x1000 x1001 (([3, 3, 4, 5, 6, 6, 7, 8, 9, 10] : List Int))).bind fun bt657 => ((spec_l3Kids.f k bt657.1).bind fun t660 => (spec_l3Expr.l0 k x1 t660 x1000 bt657.2 bt657.1 0 0 0 ([] : List (S32)))))
def spec_l3Expr.l0 : Nat → Int → Int → List Int → Int → Int → Int → Int → Int → List (S32) → Option (Int × Int × Int × Int × (List (S32)) × Int)
 | 0, _, _, _, _, _, _, _, _, _ => none
 | k + 1, x1, x6, x1000, x1001, x660000, x660001, x660002, x660003, x660004 => if x6 > 0 then ((spec_l3Expr.f k x1000 x1001 (wrap64 (x1 - 1))).bind fun bt661 => (if x660004.length < 2513169434916 then (spec_l3Expr.l0 k x1 (wrap64 (x6 - 1)) x1000 bt661.2.2.2.2.2 x660000 x660001 x660002 x660003 (x660004 ++ [(⟨bt661.1, bt661.2.1, (⟨bt661.2.2.1, bt661.2.2.2.1⟩ : S29), bt661.2.2.2.2.1⟩ : S32)])) else (none))) else (some (x660000, x660001, x660002, x660003, x660004, x1001))
def spec_l3Expr.f : Nat → List Int → Int → Int → Option (Int × Int × Int × Int × (List (S32)) × Int)
 | 0, _, _, _ => none
 | k + 1, s0_0, s0_1, a1 => if a1 ≤ 1 then (spec_l3Expr.j0 k a1 true s0_0 s0_1) else ((spec_l12Rd_pick.f k s0_0 s0_1 4).bind fun bt642 => (spec_l3Expr.j0 k a1 (bt642.1 == 0) s0_0 bt642.2))
end
theorem spec_l3Expr.mono_l : ∀ k, (∀ y0 y1 y2, LeO (spec_l3Expr.f k y0 y1 y2) (spec_l3Expr.f (k + 1) y0 y1 y2)) ∧ (∀ y0 y1 y2 y3, LeO (spec_l3Expr.j0 k y0 y1 y2 y3) (spec_l3Expr.j0 (k + 1) y0 y1 y2 y3)) ∧ (∀ y0 y1 y2 y3 y4 y5 y6 y7 y8, LeO (spec_l3Expr.l0 k y0 y1 y2 y3 y4 y5 y6 y7 y8) (spec_l3Expr.l0 (k + 1) y0 y1 y2 y3 y4 y5 y6 y7 y8))
 | 0 => ⟨fun _ _ _ r h => by simp [spec_l3Expr.f] at h, fun _ _ _ _ r h => by simp [spec_l3Expr.j0] at h, fun _ _ _ _ _ _ _ _ _ r h => by simp [spec_l3Expr.l0] at h⟩
 | k + 1 => by
  obtain ⟨ih0, ih1, ih2⟩ := spec_l3Expr.mono_l k
  refine ⟨?_, ?_, ?_⟩
  ·intro y0 y1 y2
   unfold spec_l3Expr.f
   repeat' first
   | (with_reducible exact ih0 _ _ _)
   | (with_reducible exact ih1 _ _ _ _)
   | (with_reducible exact ih2 _ _ _ _ _ _ _ _ _)
   | (with_reducible exact spec_l12Rd_num.mono _ _ _ _)
   | (with_reducible exact spec_l12Rd_pick.mono _ _ _ _)
   | (with_reducible exact spec_l2Addr.mono _ _ _)
   | (with_reducible exact spec_l3Kids.mono _ _)
   | (with_reducible exact LeO.refl _)
   | (with_reducible exact LeO.none _)
   | (with_reducible refine LeO.ite ?_ ?_)
   | (with_reducible refine LeO.bind ?_ (fun _ => ?_))
   | exact ih0 _ _ _
   | exact ih1 _ _ _ _
   | exact ih2 _ _ _ _ _ _ _ _ _
   | exact spec_l12Rd_num.mono _ _ _ _
   | exact spec_l12Rd_pick.mono _ _ _ _
   | exact spec_l2Addr.mono _ _ _
   | exact spec_l3Kids.mono _ _
   | exact LeO.none _
   | refine LeO.ite ?_ ?_
   | refine LeO.bind ?_ (fun _ => ?_)
  ·intro y0 y1 y2 y3
   unfold spec_l3Expr.j0
   repeat' first
   | (with_reducible exact ih0 _ _ _)
   | (with_reducible exact ih1 _ _ _ _)
   | (with_reducible exact ih2 _ _ _ _ _ _ _ _ _)
   | (with_reducible exact spec_l12Rd_num.mono _ _ _ _)
   | (with_reducible exact spec_l12Rd_pick.mono _ _ _ _)
   | (with_reducible exact spec_l2Addr.mono _ _ _)
   | (with_reducible exact spec_l3Kids.mono _ _)
   | (with_reducible exact LeO.refl _)
   | (with_reducible exact LeO.none _)
   | (with_reducible refine LeO.ite ?_ ?_)
   | (with_reducible refine LeO.bind ?_ (fun _ => ?_))
   | exact ih0 _ _ _
   | exact ih1 _ _ _ _
   | exact ih2 _ _ _ _ _ _ _ _ _
   | exact spec_l12Rd_num.mono _ _ _ _
   | exact spec_l12Rd_pick.mono _ _ _ _
   | exact spec_l2Addr.mono _ _ _
   | exact spec_l3Kids.mono _ _
   | exact LeO.none _
   | refine LeO.ite ?_ ?_
   | refine LeO.bind ?_ (fun _ => ?_)
  ·intro y0 y1 y2 y3 y4 y5 y6 y7 y8
   unfold spec_l3Expr.l0
   repeat' first
   | (with_reducible exact ih0 _ _ _)
   | (with_reducible exact ih1 _ _ _ _)
   | (with_reducible exact ih2 _ _ _ _ _ _ _ _ _)
   | (with_reducible exact spec_l12Rd_num.mono _ _ _ _)
   | (with_reducible exact spec_l12Rd_pick.mono _ _ _ _)
   | (with_reducible exact spec_l2Addr.mono _ _ _)
   | (with_reducible exact spec_l3Kids.mono _ _)
   | (with_reducible exact LeO.refl _)
   | (with_reducible exact LeO.none _)
   | (with_reducible refine LeO.ite ?_ ?_)
   | (with_reducible refine LeO.bind ?_ (fun _ => ?_))
   | exact ih0 _ _ _
   | exact ih1 _ _ _ _
   | exact ih2 _ _ _ _ _ _ _ _ _
   | exact spec_l12Rd_num.mono _ _ _ _
   | exact spec_l12Rd_pick.mono _ _ _ _
   | exact spec_l2Addr.mono _ _ _
   | exact spec_l3Kids.mono _ _
   | exact LeO.none _
   | refine LeO.ite ?_ ?_
   | refine LeO.bind ?_ (fun _ => ?_)
theorem spec_l3Expr.mono : ∀ a0 a1 a2 k, LeO (spec_l3Expr.f k a0 a1 a2) (spec_l3Expr.f (k + 1) a0 a1 a2) := by
 intro a0 a1 a2 k
 obtain ⟨ih0, ih1, ih2⟩ := spec_l3Expr.mono_l k
 exact ih0 a0 a1 a2
def spec_l3Expr.T9 : Bool × List (List Nat × List Nat) := (true, [([], []), ([0], [0]), ([], []), ([], []), ([3], [3]), ([2, 4], [2, 4]), ([5], [5]), ([1, 6, 5], [1, 6]), ([0, 1, 2, 3, 4, 5, 6, 7], []), ([8, 7, 7, 0, 1, 2, 3, 4, 5, 6, 7], [7, 8])])
def spec_l3Expr.B9 : List Nat := [0, 1, 0, 0, 8, 28, 60, 127, 255, 511]
theorem spec_l3Expr.tab9 : rtab .any (opsOf Try.f125 9) = spec_l3Expr.T9 := by kernel_rfl
theorem spec_l3Expr.bits9 : waitsOk spec_l3Expr.T9.2 spec_l3Expr.B9 = true := by kernel_rfl
set_option maxHeartbeats 8000000 in
set_option maxRecDepth 100000 in
theorem spec_l3Expr.calls (k : Nat) : ∀ (g : Nat) (s0_0 : List Int) (s0_1 : Int) (a1 : Int) (r1 : Int) (r2 : Int) (r3 : Int) (r4 : Int) (r5 : List (S32)) (r6 : Int) (w0 w : World) (hI : IsS132 w0 w g s0_0 s0_1) (hB : Below w0.heap.size w0 w) (h : spec_l3Expr.f k s0_0 s0_1 a1 = some (r1, r2, r3, r4, r5, r6)),
  Calls Try.prog 125 #[.pointer (some ⟨g, 0, none⟩), .int .i64 a1] w fun e w' => ∃ v4_ : Value, e = .returned (.agg #[.int .i64 r1, .int .i64 r2, .int .i64 r3, .int .i64 r4, v4_]) ∧ Kd.R k32 32 w' w.heap.size (fun _ => True) v4_ r5 ∧ IsS132 w0 w' g s0_0 r6 ∧ Below w0.heap.size w0 w' ∧ KeepBut w w' g none := by
 induction k using Nat.strongRecOn with
 | _ k ih =>
 intro g s0_0 s0_1 a1 r1 r2 r3 r4 r5 r6 w0 w hI hB h
 cases k with
 | zero => exact absurd h (by simp [spec_l3Expr.f])
 | succ k =>
 simp only [spec_l3Expr.f] at h
 have hu32 := Try.underlying32
 have HI0 := z0 hI
 have HK := z0 (KeepBut.refl w g none)
 have HL := z0 hB.size
 clear hI
 have HW0 := z0 hB.size
 have HB := z0 hB
 clear hB
 have H : (if a1 ≤ 1 then (spec_l3Expr.j0 k a1 true s0_0 s0_1) else ((spec_l12Rd_pick.f k s0_0 s0_1 4).bind fun bt642 => (spec_l3Expr.j0 k a1 (bt642.1 == 0) s0_0 bt642.2))) = some (r1, r2, r3, r4, r5, r6) := h
 clear h
 have HC3 := z0 H
 clear H
 go_enter Try.func125, Try.ntmps125
 go_upto_region 1 with (first | ((with_reducible refine gate_dst (N := 4) rfl ?_); refine box_event ?hg (N := 4) ?hd (cs := #[.int .i64 0, .int .i64 0, .int .i64 0, .int .i64 0, .slice none 0 0]) (t := 32) ?hr ?_; (case hd => rfl); (case hg => rfl); (case hr => first | (go_simp; done) | (go_simp; rfl)); intro gb641 hg w4 hbox hb; have n_ := az (IsS132.below (mI132_1 HI0.out) hb) <| az (KeepBut.trans (mKp HK.out) (KeepBut.of_below hb g none) (.inl rfl)) <| az (below_step (mB132HI0 HB.out) hb) <| az (hbox) <| az ((gW hg HK.out)) <| az ((Nat.le_trans HW0.out (gW hg HK.out) : w0.heap.size ≤ gb641)) <| az ((by rw [hg]; exact Nat.ne_of_lt (IsS132.lt (show IsS132 w0 _ g s0_0 s0_1 from mI132_1 HI0.out)) : g ≠ gb641)) <| z0 ((by rw [hg]; exact Nat.ne_of_gt (IsS132.lt (show IsS132 w0 _ g s0_0 s0_1 from mI132_1 HI0.out)) : gb641 ≠ g)); clear HI0 HK HB; obtain ⟨HI0, HK, HB, BK641, GW641, GE641, NB0_641, NB641_0⟩ := n_; clear hb hbox hg))
 (try simp only [Act.put, List.setIfInBounds_toArray, List.set_cons_zero, List.set_cons_succ])
 go_cut [13] (fun v13 wc => ∃ (kq : Nat) (x13_2 : Bool) (x1001_2 : Int), v13 = .bool x13_2 ∧ Aside0 (spec_l3Expr.j0 kq a1 x13_2 s0_0 x1001_2 = some (r1, r2, r3, r4, r5, r6)) ∧ Aside0 (kq ≤ k) ∧ Aside0 (wc.heap[gb641]? = some (.cells #[.int .i64 0, .int .i64 0, .int .i64 0, .int .i64 0, (.slice none 0 0)] 32 (0, 0))) ∧ Aside0 (IsS132 w0 wc g s0_0 x1001_2) ∧ Aside0 (KeepBut w wc g none) ∧ Aside0 (Below w0.heap.size w0 wc))
 case first =>
  have H := HC3.out
  clear HC3
  by_cases c5 : a1 ≤ 1
  ·rw [if_pos c5] at H
   have c5b0 : decide (a1 ≤ 1) = true := decide_eq_true c5
   clear c5
   (first | rw [c5b0] | (simp only [i64_w, i32_w]; rw [c5b0]) | skip)
   have H' := z0 H
   clear H
   go_wp2
   go_meet
   case rel => exact ⟨_, (true), (s0_1), rfy, H', ⟨by first | omega | exact Nat.le_refl _⟩, ⟨mK BK641.out⟩, ⟨mI132_1 HI0.out⟩, ⟨mKp HK.out⟩, ⟨mB132HI0 HB.out⟩⟩
  ·rw [if_neg c5] at H
   have c5b0 : decide (a1 ≤ 1) = false := decide_eq_false c5
   clear c5
   (first | rw [c5b0] | (simp only [i64_w, i32_w]; rw [c5b0]) | skip)
   replace H := Option.bind_eq_some_iff.mp H
   obtain ⟨⟨t642, t643⟩, A60, H⟩ := H
   try dsimp only at H
   have A6 := z0 A60
   clear A60
   have H' := z0 H
   clear H
   go_wp2_with (first | (go_at_call 105; (with_reducible refine (spec_l12Rd_pick.calls k g s0_0 s0_1 4 t642 t643 w0 _ ?side1 ?side2 A6.out).mono ?_); (case side1 => exact mI132_1 HI0.out); (case side2 => exact mB132HI0 HB.out); rintro e w7 ⟨rfl, hi, hb, hk⟩; have n_ := az (kB hk BK641.out NB641_0.out) <| az (KeepBut.trans (mKp HK.out) hk (.inl rfl)) <| az (hb) <| z0 (hi); clear BK641 HK HB HI0; obtain ⟨BK641, HK, HB, HI0⟩ := n_; clear hb hk hi))
   go_meet
   case rel => exact ⟨_, ((t642 == 0)), (t643), rfy, H', ⟨by first | omega | exact Nat.le_refl _⟩, ⟨mK BK641.out⟩, ⟨mI132_1 HI0.out⟩, ⟨mKp HK.out⟩, ⟨mB132HI0 HB.out⟩⟩
 case rest =>
  clear HC3
  skip
  obtain ⟨kq, x13_2, x1001_2, rfl, HA, HJ2, BK641, HI0, HK, HB⟩ := hcut
  cases kq with
  | zero => exact absurd HA.out (by simp [spec_l3Expr.j0])
  | succ kj2 =>
   have H := HA.out
   clear HA
   simp only [spec_l3Expr.j0] at H
   by_cases c8 : x13_2 = true
   ·subst c8
    have H1 : ((spec_l12Rd_pick.f kj2 s0_0 x1001_2 3).bind fun bt644 => (if bt644.1 = 0 then ((spec_l12Rd_num.f kj2 s0_0 bt644.2 (([0, 1, 2, 3, (-1), 5, 1000000] : List Int))).bind fun bt649 => (some (1, bt649.1, 0, 0, ([] : List (S32)), bt649.2))) else ((spec_l2Addr.f kj2 s0_0 bt644.2).bind fun bt651 => (some (2, 0, bt651.1, bt651.2.1, ([] : List (S32)), bt651.2.2))))) = some (r1, r2, r3, r4, r5, r6) := by rw [if_pos rfl] at H; exact H
    clear H
    have H := H1
    clear H1
    replace H := Option.bind_eq_some_iff.mp H
    obtain ⟨⟨t644, t645⟩, A90, H⟩ := H
    try dsimp only at H
    have A9 := z0 A90
    clear A90
    have HF10 := z0 H
    clear H
    go_upto_if 16 with (first | ((with_reducible refine gate_callee (f := 105) rfl ?_); refine goesL_ (some 15) rfl rfl Try.func105 (by kernel_rfl) rfl #[.pointer (some ⟨g, 0, none⟩), .int .i64 3] rfl argx ?_; (with_reducible refine (spec_l12Rd_pick.calls kj2 g s0_0 x1001_2 3 t644 t645 w0 _ ?side1 ?side2 A9.out).mono ?_); (case side1 => exact mI132_1 HI0.out); (case side2 => exact mB132HI0 HB.out); rintro e w11 ⟨rfl, hi, hb, hk⟩; refine ⟨_, rfl, ?_⟩; have n_ := az (kB hk BK641.out NB641_0.out) <| az (KeepBut.trans (mKp HK.out) hk (.inl rfl)) <| az (hb) <| z0 (hi); clear BK641 HK HB HI0; obtain ⟨BK641, HK, HB, HI0⟩ := n_; clear hb hk hi))
    (try simp only [Act.put, List.setIfInBounds_toArray, List.set_cons_zero, List.set_cons_succ])
    have H := HF10.out
    clear HF10
    (try clear c8)
    by_cases c12 : t644 = 0
    ·rw [if_pos c12] at H
     have c12b0 : (t644 == 0) = true := beq_iff_eq.mpr c12
     have c12b1 : (t644 != 0) = false := bne_eq_false_iff_eq.mpr c12
     clear c12
     (first | rw [c12b0] | (simp only [i64_w, i32_w]; rw [c12b0]) | skip)
     obtain ⟨y646, hy646⟩ : ∃ y_ : List Int, y_ = (([0, 1, 2, 3, (-1), 5, 1000000] : List Int)) := ⟨_, rfl⟩
     replace H : ((spec_l12Rd_num.f kj2 s0_0 t645 y646).bind fun bt649 => (some (1, bt649.1, 0, 0, ([] : List (S32)), bt649.2))) = some (r1, r2, r3, r4, r5, r6) := by first | (rw [hy646]; with_reducible exact H) | (have H2_ := (Option.bind_some _ _).symm.trans H; rw [hy646]; with_reducible exact H2_) | (have H2_ := (Option.bind_some _ _).symm.trans H; with_reducible exact H2_) | with_reducible exact H | (rw [hy646]; exact H) | exact H
     have Ny646 := z0 hy646
     clear hy646
     replace H := Option.bind_eq_some_iff.mp H
     obtain ⟨⟨t649, t650⟩, A130, H⟩ := H
     try dsimp only at H
     have A13 := z0 A130
     clear A130
     simp only [Option.some.injEq, Prod.mk.injEq] at H
     obtain ⟨rfl, rfl, rfl, rfl, rfl, rfl⟩ := H
     go_wp2_with (first | ((with_reducible refine gate_dst (N := 18) rfl ?_); refine Kd.R_lit (Kd.int .i64) _ 3 ?hg (N := 18) ?hd (xs := ([0, 1, 2, 3, (-1), 5, 1000000] : List Int)) (inner := [.int .i64 0, .int .i64 1, .int .i64 2, .int .i64 3, .int .i64 (-1), .int .i64 5, .int .i64 1000000]) (ok := fun _ => True) (okp := fun _ => True) ?hr ?hp (fun _ hk => hk) trivial (Below.refl _ _) (Nat.le_refl _) (by simp) ?_; (case hd => rfl); (case hg => rfl); (case hr => first | (go_simp; done) | (go_simp; rfl)); (case hp => exact (Reps.one (show Kd.M (Kd.int .i64) _ _ _ 0 [.int .i64 0] from rfl) (Reps.one (show Kd.M (Kd.int .i64) _ _ _ 1 [.int .i64 1] from rfl) (Reps.one (show Kd.M (Kd.int .i64) _ _ _ 2 [.int .i64 2] from rfl) (Reps.one (show Kd.M (Kd.int .i64) _ _ _ 3 [.int .i64 3] from rfl) (Reps.one (show Kd.M (Kd.int .i64) _ _ _ (-1) [.int .i64 (-1)] from rfl) (Reps.one (show Kd.M (Kd.int .i64) _ _ _ 5 [.int .i64 5] from rfl) (Reps.one (show Kd.M (Kd.int .i64) _ _ _ 1000000 [.int .i64 1000000] from rfl) (Reps.none _ _))))))))); intro v647 w14 ho15 hb hg_ hnew_; clear hg_ hnew_; (first | rw [← Ny646.out] at ho15 | (simp only [Int.reduceToNat] at ho15; rw [← Ny646.out] at ho15)); have n_ := az (Kd.R_lower ho15 (kS HK.out)) <| az (bB BK641.out hb) <| az (IsS132.below (mI132_1 HI0.out) hb) <| az (KeepBut.trans (mKp HK.out) (KeepBut.of_below hb g none) (.inl rfl)) <| z0 (below_step (mB132HI0 HB.out) hb); clear BK641 HI0 HK HB; obtain ⟨HO648, BK641, HI0, HK, HB⟩ := n_; clear hb ho15; obtain ⟨Ao16, co16, eo16⟩ := Kd.R_slice HO648.out; subst eo16) | ((with_reducible refine gate_callee (f := 106) rfl ?_); refine goesL_ (some 19) rfl rfl Try.func106 (by kernel_rfl) rfl #[.pointer (some ⟨g, 0, none⟩), .slice Ao16 y646.length co16] rfl argx ?_; (with_reducible refine (spec_l12Rd_num.calls kj2 g s0_0 t645 _ _ y646 t649 t650 w0 _ ?side1 ?side2 ?side3 ?side4 ?side5 A13.out).mono ?_); (case side1 => exact mI132_1 HI0.out); (case side2 => exact mB132HI0 HB.out); (case side3 => exact mC (Kd.R_reads' HO648.out).2.2); (case side4 => exact (Kd.R_reads' HO648.out).2.1); (case side5 => exact far_slice (IsS132.own_ne HI0.out HO648.out (by decide))); rintro e w17 ⟨rfl, hi, hb, hk⟩; refine ⟨_, rfl, ?_⟩; have n_ := az (kB hk BK641.out NB641_0.out) <| az (Kd.R_mono (Kd.R_keep (IsS132.apart (show IsS132 w0 _ g s0_0 t645 from mI132_1 HI0.out) (mR HO648.out) (by decide)) hk (fun _ h => h.2)) (fun _ h => h.1)) <| az (KeepBut.trans (mKp HK.out) hk (.inl rfl)) <| az (hb) <| z0 (hi); clear BK641 HO648 HK HB HI0; obtain ⟨BK641, HO648, HK, HB, HI0⟩ := n_; clear hb hk hi; have hnb18 := NB641_0.out; have hnc18 := NB0_641.out; obtain ⟨hcz19_0, hcz19_1, hcz19_2, hcz19_3, hcz19_4, hfz19_0, hfz19_1, hfz19_2, hfz19_3, hfz19_4⟩ := cel5 BK641.out))
     refine bodyPost_ret (results_cell_row rfl _ _ gb641 32 #[.int .i64 1, .int .i64 t649, .int .i64 0, .int .i64 0, .slice none 0 0] (0, 0) _ rfl (pF BK641.out) Try.underlying32 rfl (by kernel_rfl)) rfl ?_
     exact ⟨_, rfx, by first | exact Kd.R_nil _ _ _ _ _ | exact Kd.N_nil _ _ _ _ _ | exact Kd.V_nil _ _ _ _ _ | exact Kd.Q_nil _ _ _ _ _ | exact Kd.S_nil _ _ _ _ _, mI132_1 HI0.out, mB132HI0 HB.out, mKp HK.out⟩
    ·rw [if_neg c12] at H
     have c12b0 : (t644 == 0) = false := beq_eq_false_iff_ne.mpr c12
     have c12b1 : (t644 != 0) = true := bne_iff_ne.mpr c12
     (first | rw [c12b0] | (simp only [i64_w, i32_w]; rw [c12b0]) | skip)
     replace H := Option.bind_eq_some_iff.mp H
     obtain ⟨⟨t651, t652, t653⟩, A200, H⟩ := H
     try dsimp only at H
     have A20 := z0 A200
     clear A200
     simp only [Option.some.injEq, Prod.mk.injEq] at H
     obtain ⟨rfl, rfl, rfl, rfl, rfl, rfl⟩ := H
     go_wp2_with (first | ((with_reducible refine gate_callee (f := 126) rfl ?_); refine goesL_ (some 22) rfl rfl Try.func126 (by kernel_rfl) rfl #[.pointer (some ⟨g, 0, none⟩)] rfl argx ?_; (with_reducible refine (spec_l2Addr.calls kj2 g s0_0 t645 t651 t652 t653 w0 _ ?side1 ?side2 A20.out).mono ?_); (case side1 => exact mI132_1 HI0.out); (case side2 => exact mB132HI0 HB.out); rintro e w21 ⟨rfl, hi, hb, hk⟩; refine ⟨_, rfl, ?_⟩; have n_ := az (kB hk BK641.out NB641_0.out) <| az (KeepBut.trans (mKp HK.out) hk (.inl rfl)) <| az (hb) <| z0 (hi); clear BK641 HK HB HI0; obtain ⟨BK641, HK, HB, HI0⟩ := n_; clear hb hk hi; have hnb22 := NB641_0.out; have hnc22 := NB0_641.out; obtain ⟨hcz23_0, hcz23_1, hcz23_2, hcz23_3, hcz23_4, hfz23_0, hfz23_1, hfz23_2, hfz23_3, hfz23_4⟩ := cel5 BK641.out))
     refine bodyPost_ret (results_cell_row rfl _ _ gb641 32 #[.int .i64 2, .int .i64 0, .int .i64 t651, .int .i64 t652, .slice none 0 0] (0, 0) _ rfl (pF BK641.out) Try.underlying32 rfl (by kernel_rfl)) rfl ?_
     exact ⟨_, rfx, by first | exact Kd.R_nil _ _ _ _ _ | exact Kd.N_nil _ _ _ _ _ | exact Kd.V_nil _ _ _ _ _ | exact Kd.Q_nil _ _ _ _ _ | exact Kd.S_nil _ _ _ _ _, mI132_1 HI0.out, mB132HI0 HB.out, mKp HK.out⟩
   ·replace c8 := Bool.eq_false_iff.mpr c8
    subst c8
    have H1 : ((spec_l12Rd_num.f kj2 s0_0 x1001_2 (([3, 3, 4, 5, 6, 6, 7, 8, 9, 10] : List Int))).bind fun bt657 => ((spec_l3Kids.f kj2 bt657.1).bind fun t660 => (spec_l3Expr.l0 kj2 a1 t660 s0_0 bt657.2 bt657.1 0 0 0 ([] : List (S32))))) = some (r1, r2, r3, r4, r5, r6) := by rw [if_neg (show ¬ (false = true) by decide)] at H; exact H
    clear H
    have H := H1
    clear H1
    obtain ⟨y654, hy654⟩ : ∃ y_ : List Int, y_ = (([3, 3, 4, 5, 6, 6, 7, 8, 9, 10] : List Int)) := ⟨_, rfl⟩
    replace H : ((spec_l12Rd_num.f kj2 s0_0 x1001_2 y654).bind fun bt657 => ((spec_l3Kids.f kj2 bt657.1).bind fun t660 => (spec_l3Expr.l0 kj2 a1 t660 s0_0 bt657.2 bt657.1 0 0 0 ([] : List (S32))))) = some (r1, r2, r3, r4, r5, r6) := by first | (rw [hy654]; with_reducible exact H) | (have H2_ := (Option.bind_some _ _).symm.trans H; rw [hy654]; with_reducible exact H2_) | (have H2_ := (Option.bind_some _ _).symm.trans H; with_reducible exact H2_) | with_reducible exact H | (rw [hy654]; exact H) | exact H
    have Ny654 := z0 hy654
    clear hy654
    replace H := Option.bind_eq_some_iff.mp H
    obtain ⟨⟨t657, t658⟩, A240, H⟩ := H
    try dsimp only at H
    have A24 := z0 A240
    clear A240
    replace H := Option.bind_eq_some_iff.mp H
    obtain ⟨t660, A250, H⟩ := H
    try dsimp only at H
    have A25 := z0 A250
    clear A250
    have H' := z0 H
    clear H
    go_wp2_with (first | ((with_reducible refine gate_dst (N := 25) rfl ?_); refine Kd.R_lit (Kd.int .i64) _ 3 ?hg (N := 25) ?hd (xs := ([3, 3, 4, 5, 6, 6, 7, 8, 9, 10] : List Int)) (inner := [.int .i64 3, .int .i64 3, .int .i64 4, .int .i64 5, .int .i64 6, .int .i64 6, .int .i64 7, .int .i64 8, .int .i64 9, .int .i64 10]) (ok := fun _ => True) (okp := fun _ => True) ?hr ?hp (fun _ hk => hk) trivial (Below.refl _ _) (Nat.le_refl _) (by simp) ?_; (case hd => rfl); (case hg => rfl); (case hr => first | (go_simp; done) | (go_simp; rfl)); (case hp => exact (Reps.one (show Kd.M (Kd.int .i64) _ _ _ 3 [.int .i64 3] from rfl) (Reps.one (show Kd.M (Kd.int .i64) _ _ _ 3 [.int .i64 3] from rfl) (Reps.one (show Kd.M (Kd.int .i64) _ _ _ 4 [.int .i64 4] from rfl) (Reps.one (show Kd.M (Kd.int .i64) _ _ _ 5 [.int .i64 5] from rfl) (Reps.one (show Kd.M (Kd.int .i64) _ _ _ 6 [.int .i64 6] from rfl) (Reps.one (show Kd.M (Kd.int .i64) _ _ _ 6 [.int .i64 6] from rfl) (Reps.one (show Kd.M (Kd.int .i64) _ _ _ 7 [.int .i64 7] from rfl) (Reps.one (show Kd.M (Kd.int .i64) _ _ _ 8 [.int .i64 8] from rfl) (Reps.one (show Kd.M (Kd.int .i64) _ _ _ 9 [.int .i64 9] from rfl) (Reps.one (show Kd.M (Kd.int .i64) _ _ _ 10 [.int .i64 10] from rfl) (Reps.none _ _)))))))))))); intro v655 w26 ho27 hb hg_ hnew_; clear hg_ hnew_; (first | rw [← Ny654.out] at ho27 | (simp only [Int.reduceToNat] at ho27; rw [← Ny654.out] at ho27)); have n_ := az (Kd.R_lower ho27 (kS HK.out)) <| az (bB BK641.out hb) <| az (IsS132.below (mI132_1 HI0.out) hb) <| az (KeepBut.trans (mKp HK.out) (KeepBut.of_below hb g none) (.inl rfl)) <| z0 (below_step (mB132HI0 HB.out) hb); clear BK641 HI0 HK HB; obtain ⟨HO656, BK641, HI0, HK, HB⟩ := n_; clear hb ho27; obtain ⟨Ao28, co28, eo28⟩ := Kd.R_slice HO656.out; subst eo28) | ((with_reducible refine gate_callee (f := 106) rfl ?_); refine goesL_ (some 26) rfl rfl Try.func106 (by kernel_rfl) rfl #[.pointer (some ⟨g, 0, none⟩), .slice Ao28 y654.length co28] rfl argx ?_; (with_reducible refine (spec_l12Rd_num.calls kj2 g s0_0 x1001_2 _ _ y654 t657 t658 w0 _ ?side1 ?side2 ?side3 ?side4 ?side5 A24.out).mono ?_); (case side1 => exact mI132_1 HI0.out); (case side2 => exact mB132HI0 HB.out); (case side3 => exact mC (Kd.R_reads' HO656.out).2.2); (case side4 => exact (Kd.R_reads' HO656.out).2.1); (case side5 => exact far_slice (IsS132.own_ne HI0.out HO656.out (by decide))); rintro e w29 ⟨rfl, hi, hb, hk⟩; refine ⟨_, rfl, ?_⟩; have n_ := az (kB hk BK641.out NB641_0.out) <| az (Kd.R_mono (Kd.R_keep (IsS132.apart (show IsS132 w0 _ g s0_0 x1001_2 from mI132_1 HI0.out) (mR HO656.out) (by decide)) hk (fun _ h => h.2)) (fun _ h => h.1)) <| az (KeepBut.trans (mKp HK.out) hk (.inl rfl)) <| az (hb) <| z0 (hi); clear BK641 HO656 HK HB HI0; obtain ⟨BK641, HO656, HK, HB, HI0⟩ := n_; clear hb hk hi) | ((with_reducible refine gate_dst (N := 5) rfl ?_); refine box_event ?hg (N := 5) ?hd (cs := #[.int .i64 0, .int .i64 0, .int .i64 0, .int .i64 0, .slice none 0 0]) (t := 32) ?hr ?_; (case hd => rfl); (case hg => rfl); (case hr => first | (go_simp; done) | (go_simp; rfl)); intro gb659 hg w30 hbox hb; have n_ := az (Kd.R_below (mR HO656.out) hb) <| az (bB BK641.out hb) <| az (IsS132.below (mI132_1 HI0.out) hb) <| az (KeepBut.trans (mKp HK.out) (KeepBut.of_below hb g none) (.inl rfl)) <| az (below_step (mB132HI0 HB.out) hb) <| az (hbox) <| az ((gW hg HK.out)) <| az ((Nat.le_trans HW0.out (gW hg HK.out) : w0.heap.size ≤ gb659)) <| az ((nL hg BK641.out)) <| az ((nG hg BK641.out)) <| az ((by rw [hg]; exact Nat.ne_of_lt (IsS132.lt (show IsS132 w0 _ g s0_0 t658 from mI132_1 HI0.out)) : g ≠ gb659)) <| z0 ((by rw [hg]; exact Nat.ne_of_gt (IsS132.lt (show IsS132 w0 _ g s0_0 t658 from mI132_1 HI0.out)) : gb659 ≠ g)); clear HO656 BK641 HI0 HK HB; obtain ⟨HO656, BK641, HI0, HK, HB, BK659, GW659, GE659, NB641_659, NB659_641, NB0_659, NB659_0⟩ := n_; clear hb hbox hg; have hnb31 := NB659_641.out; have hnc31 := NB641_659.out; have hnb32 := NB659_0.out; have hnc32 := NB0_659.out; obtain ⟨hcz33_0, hcz33_1, hcz33_2, hcz33_3, hcz33_4, hfz33_0, hfz33_1, hfz33_2, hfz33_3, hfz33_4⟩ := cel5 BK659.out) | ((with_reducible refine gate_callee (f := 82) rfl ?_); refine goesL_ (some 30) rfl rfl Try.func82 (by kernel_rfl) rfl #[.int .i64 t657] rfl argx ?_; (with_reducible refine (spec_l3Kids.calls kj2 t657 t660 _ A25.out).mono ?_); rintro e w' ⟨rfl, ⟨nd, rfl⟩⟩; refine ⟨_, rfl, ?_⟩))
    go_loopg [6] kj2 (fun kq v6 w' => ∃ (x6_2 : Int) (x1001_2 : Int) (x660004_2 : List (S32)) (u660004 : Value), v6 = .int .i64 x6_2 ∧ Aside0 (spec_l3Expr.l0 kq a1 x6_2 s0_0 x1001_2 t657 0 0 0 x660004_2 = some (r1, r2, r3, r4, r5, r6)) ∧ Aside0 (kq ≤ kj2) ∧ Aside0 (Kd.R k32 32 w' w.heap.size (fun k_ => k_ ≠ gb641 ∧ k_ ≠ gb659) u660004 x660004_2) ∧ Aside0 (w'.heap[gb641]? = some (.cells #[.int .i64 0, .int .i64 0, .int .i64 0, .int .i64 0, (.slice none 0 0)] 32 (0, 0))) ∧ Aside0 (w'.heap[gb659]? = some (.cells #[.int .i64 t657, .int .i64 0, .int .i64 0, .int .i64 0, u660004] 32 (0, 0))) ∧ Aside0 (IsS132 w0 w' g s0_0 x1001_2) ∧ Aside0 (KeepBut w w' g none) ∧ Aside0 (Below w0.heap.size w0 w'))
    case atStart => exact ⟨(t660), (t658), (([] : List (S32))), (.slice none 0 0), rfy, H', ⟨Nat.le_refl _⟩, ⟨by first | exact Kd.R_nil _ _ _ _ _ | exact Kd.N_nil _ _ _ _ _ | exact Kd.V_nil _ _ _ _ _ | exact Kd.Q_nil _ _ _ _ _ | exact Kd.S_nil _ _ _ _ _⟩, ⟨mF BK641.out⟩, ⟨by (with_reducible repeat (first | refine blk_drewN ?_ _ | refine blk_drew ?_ | refine blk_alloc ?_ _)); refine blk_put (cs := #[.int .i64 t657, .int .i64 0, .int .i64 0, .int .i64 0, .slice none 0 0]) ?_ 4 _ rfl; (with_reducible repeat (first | refine blk_drewN ?_ _ | refine blk_drew ?_ | refine blk_alloc ?_ _)); refine blk_put (cs := #[.int .i64 t657, .int .i64 0, .int .i64 0, .int .i64 0, .slice none 0 0]) ?_ 3 _ rfl; (with_reducible repeat (first | refine blk_drewN ?_ _ | refine blk_drew ?_ | refine blk_alloc ?_ _)); refine blk_put (cs := #[.int .i64 t657, .int .i64 0, .int .i64 0, .int .i64 0, .slice none 0 0]) ?_ 2 _ rfl; (with_reducible repeat (first | refine blk_drewN ?_ _ | refine blk_drew ?_ | refine blk_alloc ?_ _)); refine blk_put (cs := #[.int .i64 t657, .int .i64 0, .int .i64 0, .int .i64 0, .slice none 0 0]) ?_ 1 _ rfl; (with_reducible repeat (first | refine blk_drewN ?_ _ | refine blk_drew ?_ | refine blk_alloc ?_ _)); refine blk_put (cs := #[.int .i64 0, .int .i64 0, .int .i64 0, .int .i64 0, .slice none 0 0]) ?_ 0 _ rfl; (with_reducible repeat (first | refine blk_drewN ?_ _ | refine blk_drew ?_ | refine blk_alloc ?_ _)); exact BK659.out⟩, ⟨mI132_1 HI0.out⟩, ⟨mKp HK.out⟩, ⟨mB132HI0 HB.out⟩⟩
    case round =>
     clear H'
     (try clear c8); (try clear c12); (try clear hcz33_0); (try clear hcz33_1); (try clear hcz33_2); (try clear hcz33_3); (try clear hcz33_4); (try clear hfz33_0); (try clear hfz33_1); (try clear hfz33_2); (try clear hfz33_3); (try clear hfz33_4)
     obtain ⟨x6_2, x1001_2, x660004_2, u660004, rfl, HA, HK2, HO_660004, BK641, BK659, HI0, HK, HB⟩ := hrel
     cases gk with
     | zero => exact absurd HA.out (by simp [spec_l3Expr.l0])
     | succ k2 =>
      have H := HA.out
      clear HA
      simp only [spec_l3Expr.l0] at H
      by_cases c34 : x6_2 > 0
      ·rw [if_pos c34] at H
       have c34b0 : decide (0 < x6_2) = true := decide_eq_true c34
       clear c34
       replace H := Option.bind_eq_some_iff.mp H
       obtain ⟨⟨t661, t662, t663, t664, t665, t668⟩, A350, H⟩ := H
       try dsimp only at H
       have A35 := z0 A350
       clear A350
       by_cases c36 : x660004_2.length < 2513169434916
       ·rw [if_pos c36] at H
        have LMc36 := z0 c36
        clear c36
        obtain ⟨y669, hy669⟩ : ∃ y_ : List (S32), y_ = (x660004_2 ++ [(⟨t661, t662, (⟨t663, t664⟩ : S29), t665⟩ : S32)]) := ⟨_, rfl⟩
        replace H : (spec_l3Expr.l0 k2 a1 (wrap64 (x6_2 - 1)) s0_0 t668 t657 0 0 0 y669) = some (r1, r2, r3, r4, r5, r6) := by first | (rw [hy669]; with_reducible exact H) | (have H2_ := (Option.bind_some _ _).symm.trans H; rw [hy669]; with_reducible exact H2_) | (have H2_ := (Option.bind_some _ _).symm.trans H; with_reducible exact H2_) | with_reducible exact H | (rw [hy669]; exact H) | exact H
        have Ny669 := z0 hy669
        clear hy669
        have H' := z0 H
        clear H
        try go_wp2
        have n_ := az (Kd.R_drew HO_660004.out) <| az (blk_drew BK641.out) <| az (blk_drew BK659.out) <| az (IsS132.drew HI0.out) <| az (keep_drew HK.out) <| z0 (below_drew1 HB.out)
        clear HO_660004 BK641 BK659 HI0 HK HB
        obtain ⟨HO_660004, BK641, BK659, HI0, HK, HB⟩ := n_
        refine start_ (n := 10) (S := fun w' => w'.cell? ⟨gb659, 0, none⟩ = some (.int .i64 t657) ∧ w'.cell? ⟨gb659, 1, none⟩ = some (.int .i64 0) ∧ w'.cell? ⟨gb659, 2, none⟩ = some (.int .i64 0) ∧ w'.cell? ⟨gb659, 3, none⟩ = some (.int .i64 0) ∧ w'.cell? ⟨gb659, 4, none⟩ = some (u660004)) (ds := [9]) #[false, false, false, false, false, false, false, false, false, false] (by kernel_rfl) rfl rfl ⟨(blk_cell BK659.out 0).trans rfl, (blk_cell BK659.out 1).trans rfl, (blk_cell BK659.out 2).trans rfl, (blk_cell BK659.out 3).trans rfl, (blk_cell BK659.out 4).trans rfl⟩ (fun hHeld => ?_); refine with_tabW spec_l3Expr.tab9 spec_l3Expr.bits9 (fun HT_ HW_ => ?_)
        generalize wr.drew = w37 at HO_660004 BK641 BK659 HI0 HK HB hHeld ⊢
        refine pure_ (i := 0) (N := some 35) (v := ?_) (a' := ?_) #[true, false, false, false, false, false, false, false, false, false] rfl rfl (any_of HT_.out (by kernel_rfl)) (fun _ _ _ h => h) (Or.inl ⟨by rfl, ?_⟩) ?_ ?_
        rotate_left
        ·intro w'
         go_simp
         with_reducible rfl
        rotate_left
        ·simp only [Act.put, List.setIfInBounds_toArray, List.set_cons_zero, List.set_cons_succ, i64_w, i32_w]
         rfl
        refine pure_ (i := 2) (N := some 37) (v := ?_) (a' := ?_) #[true, false, true, false, false, false, false, false, false, false] rfl rfl (any_of HT_.out (by kernel_rfl)) (fun _ _ _ h => h) (Or.inl ⟨by rfl, ?_⟩) ?_ ?_
        rotate_left
        ·intro w'
         go_simp
         with_reducible rfl
        rotate_left
        ·simp only [Act.put, List.setIfInBounds_toArray, List.set_cons_zero, List.set_cons_succ, i64_w, i32_w]
         rfl
        refine pure_ (i := 3) (N := some 38) (v := ?_) (a' := ?_) #[true, false, true, true, false, false, false, false, false, false] rfl rfl (any_of HT_.out (by kernel_rfl)) (fun _ _ _ h => h) (Or.inl ⟨by rfl, ?_⟩) ?_ ?_
        rotate_left
        ·intro w'
         go_simp
         with_reducible rfl
        rotate_left
        ·simp only [Act.put, List.setIfInBounds_toArray, List.set_cons_zero, List.set_cons_succ, i64_w, i32_w]
         rfl
        refine pure_ (i := 4) (N := some 39) (v := ?_) (a' := ?_) #[true, false, true, true, true, false, false, false, false, false] rfl rfl (any_of HT_.out (by kernel_rfl)) (fun _ _ _ h => h) (Or.inl ⟨by rfl, ?_⟩) ?_ ?_
        rotate_left
        ·intro w'
         go_simp
         with_reducible rfl
        rotate_left
        ·simp only [Act.put, List.setIfInBounds_toArray, List.set_cons_zero, List.set_cons_succ, i64_w, i32_w]
         rfl
        refine take_ (i := 1) (N := some 36) (v := ?_) (a' := ?_) #[true, true, true, true, true, false, false, false, false, false] rfl rfl (take_ofW HT_.out HW_.out (by kernel_rfl)) (fun _ _ _ h => h) (Or.inl ⟨by rfl, ?_⟩) hHeld ?_ ?_
        rotate_left
        ·rintro w' ⟨s0, s1, s2, s3, s4⟩
         go_simp
         with_reducible rfl
        rotate_left
        ·simp only [Act.put, List.setIfInBounds_toArray, List.set_cons_zero, List.set_cons_succ, i64_w, i32_w]
         rfl
        refine one_ (i := 5) (N := some 40) #[true, true, true, true, true, true, false, false, false, false] rfl rfl (one_of HT_.out (by kernel_rfl)) (by decide) (fun K hK => ?_)
        refine goes_ Try.func125 (by kernel_rfl) rfl #[.pointer (some ⟨g, 0, none⟩), .int .i64 (wrap64 (a1 - 1))] (by rfl) rfl rfl argx ?_
        with_reducible refine (ih k2 (by have := HJ2.out; have := HK2.out; omega) g s0_0 x1001_2 (wrap64 (a1 - 1)) t661 t662 t663 t664 t665 t668 w0 _ ?side1 ?side2 A35.out).mono ?_
        (case side1 => exact mI132_1 HI0.out)
        (case side2 => exact mB132HI0 HB.out)
        rintro e w38 ⟨v666, rfl, ho0, hi, hb, hk⟩
        refine ⟨_, rfl, ?_⟩
        have n_ := And.intro (z0 (Kd.R_mono (Kd.R_told (Kd.R_oldK (IsS132.apart (show IsS132 w0 _ g s0_0 x1001_2 from mI132_1 HI0.out) (mR HO_660004.out) (by decide)) hk) (by first | exact Kd.R_base ho0 | exact Kd.R_base ho0)) (fun _ h_ => h_.1))) <| az (kB hk BK641.out NB641_0.out) <| az (kB hk BK659.out NB659_0.out) <| And.intro (z0 (Kd.R_lower (Kd.R_newB (Kd.R_newB (Kd.R_new' ho0 (Kd.R_lt (mR HO_660004.out))) (g := gb641) (o := .cells #[.int .i64 0, .int .i64 0, .int .i64 0, .int .i64 0, .slice none 0 0] 32 (0, 0)) (mK BK641.out)) (g := gb659) (o := .cells #[.int .i64 t657, .int .i64 0, .int .i64 0, .int .i64 0, u660004] 32 (0, 0)) (mK BK659.out)) (kS HK.out))) <| az (KeepBut.trans (mKp HK.out) hk (.inl rfl)) <| az (hb) <| z0 (hi)
        clear HO_660004 BK641 BK659 HK HB HI0
        obtain ⟨HO_660004, BK641, BK659, HO667, HK, HB, HI0⟩ := n_
        (try clear hb)
        (try clear hb2)
        (try clear hk)
        (try clear hi)
        (try clear ho0)
        obtain ⟨Ao40, co40, eo40⟩ := Kd.R_slice HO667.out
        (first | subst eo40 | (injection eo40 with f1_ f2_ f3_; have f4_ := f1_.symm; have f5_ := f3_.symm; clear f1_ f2_ f3_; subst f4_; subst f5_))
        refine hK.out _ _ ⟨(blk_cell BK659.out 0).trans rfl, (blk_cell BK659.out 1).trans rfl, (blk_cell BK659.out 2).trans rfl, (blk_cell BK659.out 3).trans rfl, (blk_cell BK659.out 4).trans rfl⟩ (fun hHeld => ?_)
        clear hK K
        refine norm_ (a' := ?_) ?_ ?_
        rotate_left
        ·show Act.put _ (some 40) _ = _
         simp only [Act.put, List.setIfInBounds_toArray, List.set_cons_zero, List.set_cons_succ, i64_w, i32_w]
         rfl
        refine one_ (i := 6) (N := some 41) #[true, true, true, true, true, true, true, false, false, false] rfl rfl (one_of HT_.out (by kernel_rfl)) (by decide) (fun K hK => ?_)
        refine value_ (w1 := ?_) (v := ?_) (by rfl) rfl ?_ ?_
        rotate_left 2
        ·go_simp
         constructor
         ·rfl
         ·rfl
        refine hK.out _ _ ⟨(blk_cell (blk_alloc BK659.out _) 0).trans rfl, (blk_cell (blk_alloc BK659.out _) 1).trans rfl, (blk_cell (blk_alloc BK659.out _) 2).trans rfl, (blk_cell (blk_alloc BK659.out _) 3).trans rfl, (blk_cell (blk_alloc BK659.out _) 4).trans rfl⟩ (fun hHeld => ?_)
        clear hK K
        refine norm_ (a' := ?_) ?_ ?_
        rotate_left
        ·show Act.put _ (some 41) _ = _
         simp only [Act.put, List.setIfInBounds_toArray, List.set_cons_zero, List.set_cons_succ, i64_w, i32_w]
         rfl
        refine one_ (i := 7) (N := some 42) #[true, true, true, true, true, true, true, true, false, false] rfl rfl (one_of HT_.out (by kernel_rfl)) (by decide) (fun K hK => ?_)
        refine Kd.R_append_step k32 w.heap.size (by rfl) (.tmp 36) (.tmp 41) 30 32 (.agg #[(.int .i64 0), (.int .i64 0), (.int .i64 0), (.int .i64 0), (.slice none 0 0)]) 56 rfl Try.underlying30 info32 rfl (by decide) (by omega) u660004 x660004_2 (⟨t661, t662, (⟨t663, t664⟩ : S29), t665⟩ : S32) [.int .i64 t661, .int .i64 t662, .int .i64 t663, .int .i64 t664, .slice Ao40 t665.length co40] (fun k_ => k_ ≠ gb641 ∧ k_ ≠ gb659) (fun k_ => ((fun k_ => k_ ≠ gb641 ∧ k_ ≠ gb659)) k_ ∧ nB k_ u660004) rfl rfl ?aP (fun _ hk => hk) ?aF ?aO (Below.refl _ _) ?aS ?aL ?_
        (case aP => exact k32_mkM _ _ _ (⟨t661, t662, (⟨t663, t664⟩ : S29), t665⟩ : S32) (Kd.R_mono (HO667.out) (fun k_ hk => ⟨⟨hk.1.2, hk.2⟩, hk.1.1.2⟩)))
        (case aF => exact (fun k_ hk => ⟨fB BK641.out hk, fB BK659.out hk⟩))
        (case aO => exact (by (with_reducible repeat (first | apply Kd.R_alloc | apply Kd.R_drewN | apply Kd.R_drew)); exact Kd.R_mono HO_660004.out (fun _ hk => ⟨hk.1.1, hk.1.2⟩)))
        (case aS => exact (kS HK.out))
        (case aL => have := LMc36.out; omega)
        intro v670 w39 ho hb hg hat
        rw [← Ny669.out] at ho
        have n_ := az (blk_grown (g := gb641) (o := .cells #[.int .i64 0, .int .i64 0, .int .i64 0, .int .i64 0, .slice none 0 0] 32 (0, 0)) (mK BK641.out) hg (Kd.R_away HO_660004.out (fun _ hk => hk.1.1))) <| az (blk_grown (g := gb659) (o := .cells #[.int .i64 t657, .int .i64 0, .int .i64 0, .int .i64 0, u660004] 32 (0, 0)) (mK BK659.out) hg (Kd.R_away HO_660004.out (fun _ hk => hk.1.2))) <| az (IsS132.grown (mI132_1 HI0.out) hg (IsS132.own_ne HI0.out HO_660004.out (by decide))) <| az (below_weaken (mB132HI0 HB.out) HL.out hb) <| az (KeepBut.trans (mKp HK.out) (KeepBut.of_grown hg g) (Kd.R_base2 HO_660004.out)) <| z0 (ho)
        clear BK641 BK659 HI0 HB HK HO_660004 HO667
        obtain ⟨BK641, BK659, HI0, HB, HK, HO671⟩ := n_
        clear ho hb hg hat
        obtain ⟨Ao41, co41, eo41⟩ := Kd.R_slice HO671.out
        (first | subst eo41 | (injection eo41 with f1_ f2_ f3_; have f4_ := f1_.symm; have f5_ := f3_.symm; clear f1_ f2_ f3_; subst f4_; subst f5_))
        refine hK.out _ _ ⟨(blk_cell BK659.out 0).trans rfl, (blk_cell BK659.out 1).trans rfl, (blk_cell BK659.out 2).trans rfl, (blk_cell BK659.out 3).trans rfl, (blk_cell BK659.out 4).trans rfl⟩ (fun hHeld => ?_)
        clear hK K
        refine norm_ (a' := ?_) ?_ ?_
        rotate_left
        ·show Act.put _ (some 42) _ = _
         simp only [Act.put, List.setIfInBounds_toArray, List.set_cons_zero, List.set_cons_succ, i64_w, i32_w]
         rfl
        refine pure_ (i := 8) (N := some 43) (v := ?_) (a' := ?_) #[true, true, true, true, true, true, true, true, true, false] rfl rfl (any_of HT_.out (by kernel_rfl)) (fun _ _ _ h => h) (Or.inl ⟨by rfl, ?_⟩) ?_ ?_
        rotate_left
        ·intro w'
         go_simp
         with_reducible rfl
        rotate_left
        ·simp only [Act.put, List.setIfInBounds_toArray, List.set_cons_zero, List.set_cons_succ, i64_w, i32_w]
         rfl
        refine last_ (i := 9) (N := none) #[true, true, true, true, true, true, true, true, true, true] rfl rfl (one_of HT_.out (by kernel_rfl)) (by decide) (fun K hK => ?_)
        have hs42 : w39.cell? ⟨gb659, 4, none⟩ = some (u660004) := (blk_cell BK659.out 4).trans rfl
        have hfs42 := blk_frozen BK659.out 4
        have hns42_0 := NB641_659.out
        have hms42_0 := NB659_641.out
        refine skip_ (w1 := ?_) (by rfl) rfl ?_ ?_
        rotate_left
        ·go_simp
         rfl
        refine hK.out _ _ ?_
        clear hK K
        refine done_ (done_of HT_.out (by kernel_rfl)) ?_
        try go_wp2
        go_roundg k2
        case measure => have := HJ2.out; have := HK2.out; omega
        case rel => exact ⟨(wrap64 (x6_2 - 1)), (t668), (y669), (.slice Ao41 y669.length co41), rfy, H', ⟨by have := HJ2.out; have := HK2.out; omega⟩, ⟨by (with_reducible repeat (first | apply Kd.R_alloc | apply Kd.R_drewN | apply Kd.R_drew)); exact Kd.R_mono (Kd.R_far (p := ⟨gb659, 4, none⟩) (Kd.R_mono HO671.out (fun k_ hk => (⟨hk, hk.2⟩ : _ ∧ k_ ≠ gb659))) (fun _ hk => hk.2) (.slice Ao41 y669.length co41)) (fun _ hk => ⟨hk.1.1, hk.1.2⟩)⟩, ⟨mF BK641.out⟩, ⟨by (with_reducible repeat (first | refine blk_drewN ?_ _ | refine blk_drew ?_ | refine blk_alloc ?_ _)); refine blk_put (cs := #[.int .i64 t657, .int .i64 0, .int .i64 0, .int .i64 0, u660004]) ?_ 4 _ rfl; (with_reducible repeat (first | refine blk_drewN ?_ _ | refine blk_drew ?_ | refine blk_alloc ?_ _)); exact BK659.out⟩, ⟨mI132_1 HI0.out⟩, ⟨mKp HK.out⟩, ⟨mB132HI0 HB.out⟩⟩
       ·rw [if_neg c36] at H
        exact absurd H (by simp)
      ·rw [if_neg c34] at H
       have c34b0 : decide (0 < x6_2) = false := decide_eq_false c34
       clear c34
       simp only [Option.some.injEq, Prod.mk.injEq] at H
       obtain ⟨rfl, rfl, rfl, rfl, rfl, rfl⟩ := H
       have hnb43 := NB659_641.out
       have hnc43 := NB641_659.out
       have hnb44 := NB659_0.out
       have hnc44 := NB0_659.out
       obtain ⟨hcz45_0, hcz45_1, hcz45_2, hcz45_3, hcz45_4, hfz45_0, hfz45_1, hfz45_2, hfz45_3, hfz45_4⟩ := cel5 BK659.out
       have hnb46 := NB641_0.out
       have hnc46 := NB0_641.out
       obtain ⟨hcz47_0, hcz47_1, hcz47_2, hcz47_3, hcz47_4, hfz47_0, hfz47_1, hfz47_2, hfz47_3, hfz47_4⟩ := cel5 BK641.out
       obtain ⟨Ao48, co48, eo48⟩ := Kd.R_slice HO_660004.out
       subst eo48
       go_wp2
       refine bodyPost_ret (results_cell_row rfl _ _ gb641 32 #[.int .i64 t657, .int .i64 0, .int .i64 0, .int .i64 0, .slice Ao48 x660004_2.length co48] (0, 0) _ rfl (pF BK641.out) Try.underlying32 rfl (by kernel_rfl)) rfl ?_
       exact ⟨_, rfx, by (with_reducible repeat (first | apply Kd.R_alloc | apply Kd.R_drewN | apply Kd.R_drew)); exact Kd.R_mono (Kd.R_far (p := ⟨gb641, 4, none⟩) (Kd.R_far (p := ⟨gb641, 3, none⟩) (Kd.R_far (p := ⟨gb641, 2, none⟩) (Kd.R_far (p := ⟨gb641, 1, none⟩) (Kd.R_far (p := ⟨gb641, 0, none⟩) (Kd.R_mono HO_660004.out (fun k_ hk => (⟨hk, hk.1⟩ : _ ∧ k_ ≠ gb641))) (fun _ hk => hk.2) (.int .i64 t657)) (fun _ hk => hk.2) (.int .i64 0)) (fun _ hk => hk.2) (.int .i64 0)) (fun _ hk => hk.2) (.int .i64 0)) (fun _ hk => hk.2) (.slice Ao48 x660004_2.length co48)) (fun _ hk => trivial), mI132_1 HI0.out, mB132HI0 HB.out, mKp HK.out⟩

/-! ### spec_l3Some: function 104 -/
def spec_l3Some.f (k : Nat) (s0_0 : List Int) (s0_1 : Int) : Option (Int × Int × Int × Int × (List (S32)) × Int) := (spec_l12Rd_pick.f k s0_0 s0_1 4).bind fun bt673 => ((spec_l3Expr.f k s0_0 bt673.2 (wrap64 (1 + bt673.1))).bind fun bt675 => ((spec_ExprOk.f k bt675.1 bt675.2.1 bt675.2.2.1 bt675.2.2.2.1 bt675.2.2.2.2.1).bind fun t684 => (if t684 = true then (some (bt675.1, bt675.2.1, bt675.2.2.1, bt675.2.2.2.1, bt675.2.2.2.2.1, bt675.2.2.2.2.2)) else ((spec_l3Expr.f k s0_0 bt675.2.2.2.2.2 2).bind fun bt685 => (some (bt685.1, bt685.2.1, bt685.2.2.1, bt685.2.2.2.1, bt685.2.2.2.2.1, bt685.2.2.2.2.2))))))
theorem spec_l3Some.mono : ∀ a0 a1 k, LeO (spec_l3Some.f k a0 a1) (spec_l3Some.f (k + 1) a0 a1) := by
 intro a0 a1 k
 unfold spec_l3Some.f
 repeat' first
   | (with_reducible exact spec_ExprOk.mono _ _ _ _ _ _)
   | (with_reducible exact spec_l12Rd_pick.mono _ _ _ _)
   | (with_reducible exact spec_l3Expr.mono _ _ _ _)
   | (with_reducible exact LeO.refl _)
   | (with_reducible exact LeO.none _)
   | (with_reducible refine LeO.ite ?_ ?_)
   | (with_reducible refine LeO.bind ?_ (fun _ => ?_))
   | exact spec_ExprOk.mono _ _ _ _ _ _
   | exact spec_l12Rd_pick.mono _ _ _ _
   | exact spec_l3Expr.mono _ _ _ _
   | exact LeO.none _
   | refine LeO.ite ?_ ?_
   | refine LeO.bind ?_ (fun _ => ?_)
theorem q104_1 {p : Prop} (h : p := by (with_reducible repeat (first | apply Kd.R_alloc | apply Kd.R_drewN | apply Kd.R_drew)); exact (Kd.R_mono (Kd.R_far (p := ⟨gb683, 4, none⟩) (Kd.R_far (p := ⟨gb683, 3, none⟩) (Kd.R_far (p := ⟨gb683, 2, none⟩) (Kd.R_far (p := ⟨gb683, 1, none⟩) (Kd.R_far (p := ⟨gb683, 0, none⟩) (Kd.R_mono HO681.out (fun k_ hk => (⟨hk, hk.2⟩ : _ ∧ k_ ≠ gb683))) (fun _ hk => hk.2) (.int .i64 t675)) (fun _ hk => hk.2) (.int .i64 t676)) (fun _ hk => hk.2) (.int .i64 t677)) (fun _ hk => hk.2) (.int .i64 t678)) (fun _ hk => hk.2) (.slice Ao13 t679.length co13)) (fun _ h_ => h_.1))) : p := h
set_option maxHeartbeats 8000000 in
set_option maxRecDepth 100000 in
theorem spec_l3Some.calls (k : Nat) (g : Nat) (s0_0 : List Int) (s0_1 : Int) (r1 : Int) (r2 : Int) (r3 : Int) (r4 : Int) (r5 : List (S32)) (r6 : Int) (w0 w : World) (hI : IsS132 w0 w g s0_0 s0_1) (hB : Below w0.heap.size w0 w) (h : spec_l3Some.f k s0_0 s0_1 = some (r1, r2, r3, r4, r5, r6)) :
  Calls Try.prog 104 #[.pointer (some ⟨g, 0, none⟩)] w fun e w' => ∃ v4_ : Value, e = .returned (.agg #[.int .i64 r1, .int .i64 r2, .int .i64 r3, .int .i64 r4, v4_]) ∧ Kd.R k32 32 w' w.heap.size (fun _ => True) v4_ r5 ∧ IsS132 w0 w' g s0_0 r6 ∧ Below w0.heap.size w0 w' ∧ KeepBut w w' g none := by
 have hu32 := Try.underlying32
 have HI0 := z0 hI
 have HK := z0 (KeepBut.refl w g none)
 have HL := z0 hB.size
 clear hI
 have HW0 := z0 hB.size
 have HB := z0 hB
 clear hB
 have H : ((spec_l12Rd_pick.f k s0_0 s0_1 4).bind fun bt673 => ((spec_l3Expr.f k s0_0 bt673.2 (wrap64 (1 + bt673.1))).bind fun bt675 => ((spec_ExprOk.f k bt675.1 bt675.2.1 bt675.2.2.1 bt675.2.2.2.1 bt675.2.2.2.2.1).bind fun t684 => (if t684 = true then (some (bt675.1, bt675.2.1, bt675.2.2.1, bt675.2.2.2.1, bt675.2.2.2.2.1, bt675.2.2.2.2.2)) else ((spec_l3Expr.f k s0_0 bt675.2.2.2.2.2 2).bind fun bt685 => (some (bt685.1, bt685.2.1, bt685.2.2.1, bt685.2.2.2.1, bt685.2.2.2.2.1, bt685.2.2.2.2.2))))))) = some (r1, r2, r3, r4, r5, r6) := h
 clear h
 replace H := Option.bind_eq_some_iff.mp H
 obtain ⟨⟨t673, t674⟩, A20, H⟩ := H
 try dsimp only at H
 have A2 := z0 A20
 clear A20
 replace H := Option.bind_eq_some_iff.mp H
 obtain ⟨⟨t675, t676, t677, t678, t679, t682⟩, A30, H⟩ := H
 try dsimp only at H
 have A3 := z0 A30
 clear A30
 replace H := Option.bind_eq_some_iff.mp H
 obtain ⟨t684, A40, H⟩ := H
 try dsimp only at H
 have A4 := z0 A40
 clear A40
 have HF5 := z0 H
 clear H
 go_enter Try.func104, Try.ntmps104
 go_upto_if 11 with (first | ((with_reducible refine gate_dst (N := 2) rfl ?_); refine box_event ?hg (N := 2) ?hd (cs := #[.int .i64 0, .int .i64 0, .int .i64 0, .int .i64 0, .slice none 0 0]) (t := 32) ?hr ?_; (case hd => rfl); (case hg => rfl); (case hr => first | (go_simp; done) | (go_simp; rfl)); intro gb672 hg w6 hbox hb; have n_ := az (IsS132.below (mI132_1 HI0.out) hb) <| az (KeepBut.trans (mKp HK.out) (KeepBut.of_below hb g none) (.inl rfl)) <| az (below_step (mB132HI0 HB.out) hb) <| az (hbox) <| az ((gW hg HK.out)) <| az ((Nat.le_trans HW0.out (gW hg HK.out) : w0.heap.size ≤ gb672)) <| az ((by rw [hg]; exact Nat.ne_of_lt (IsS132.lt (show IsS132 w0 _ g s0_0 s0_1 from mI132_1 HI0.out)) : g ≠ gb672)) <| z0 ((by rw [hg]; exact Nat.ne_of_gt (IsS132.lt (show IsS132 w0 _ g s0_0 s0_1 from mI132_1 HI0.out)) : gb672 ≠ g)); clear HI0 HK HB; obtain ⟨HI0, HK, HB, BK672, GW672, GE672, NB0_672, NB672_0⟩ := n_; clear hb hbox hg) | ((with_reducible refine gate_callee (f := 105) rfl ?_); refine goesL_ (some 6) rfl rfl Try.func105 (by kernel_rfl) rfl #[.pointer (some ⟨g, 0, none⟩), .int .i64 4] rfl argx ?_; (with_reducible refine (spec_l12Rd_pick.calls k g s0_0 s0_1 4 t673 t674 w0 _ ?side1 ?side2 A2.out).mono ?_); (case side1 => exact mI132_1 HI0.out); (case side2 => exact mB132HI0 HB.out); rintro e w7 ⟨rfl, hi, hb, hk⟩; refine ⟨_, rfl, ?_⟩; have n_ := az (kB hk BK672.out NB672_0.out) <| az (KeepBut.trans (mKp HK.out) hk (.inl rfl)) <| az (hb) <| z0 (hi); clear BK672 HK HB HI0; obtain ⟨BK672, HK, HB, HI0⟩ := n_; clear hb hk hi) | ((with_reducible refine gate_callee (f := 125) rfl ?_); refine goesL_ (some 8) rfl rfl Try.func125 (by kernel_rfl) rfl #[.pointer (some ⟨g, 0, none⟩), .int .i64 (wrap64 (1 + t673))] rfl argx ?_; (with_reducible refine (spec_l3Expr.calls k g s0_0 t674 (wrap64 (1 + t673)) t675 t676 t677 t678 t679 t682 w0 _ ?side1 ?side2 A3.out).mono ?_); (case side1 => exact mI132_1 HI0.out); (case side2 => exact mB132HI0 HB.out); rintro e w8 ⟨v680, rfl, ho0, hi, hb, hk⟩; refine ⟨_, rfl, ?_⟩; have n_ := az (kB hk BK672.out NB672_0.out) <| az (Kd.R_lower (Kd.R_newB ho0 (g := gb672) (o := .cells #[.int .i64 0, .int .i64 0, .int .i64 0, .int .i64 0, .slice none 0 0] 32 (0, 0)) (mK BK672.out)) (kS HK.out)) <| az (KeepBut.trans (mKp HK.out) hk (.inl rfl)) <| az (hb) <| z0 (hi); clear BK672 HK HB HI0; obtain ⟨BK672, HO681, HK, HB, HI0⟩ := n_; clear hb hk hi ho0) | ((with_reducible refine gate_dst (N := 3) rfl ?_); refine box_event ?hg (N := 3) ?hd (cs := #[.int .i64 0, .int .i64 0, .int .i64 0, .int .i64 0, .slice none 0 0]) (t := 32) ?hr ?_; (case hd => rfl); (case hg => rfl); (case hr => first | (go_simp; done) | (go_simp; rfl)); intro gb683 hg w9 hbox hb; have n_ := az (Kd.R_below (Kd.R_elderB (mR HO681.out) gb683 (Nat.le_of_eq hg.symm)) hb) <| az (IsS132.below (mI132_1 HI0.out) hb) <| az (bB BK672.out hb) <| az (KeepBut.trans (mKp HK.out) (KeepBut.of_below hb g none) (.inl rfl)) <| az (below_step (mB132HI0 HB.out) hb) <| az (hbox) <| az ((gW hg HK.out)) <| az ((Nat.le_trans HW0.out (gW hg HK.out) : w0.heap.size ≤ gb683)) <| az ((nL hg BK672.out)) <| az ((nG hg BK672.out)) <| az ((by rw [hg]; exact Nat.ne_of_lt (IsS132.lt (show IsS132 w0 _ g s0_0 t682 from mI132_1 HI0.out)) : g ≠ gb683)) <| z0 ((by rw [hg]; exact Nat.ne_of_gt (IsS132.lt (show IsS132 w0 _ g s0_0 t682 from mI132_1 HI0.out)) : gb683 ≠ g)); clear HO681 HI0 BK672 HK HB; obtain ⟨HO681, HI0, BK672, HK, HB, BK683, GW683, GE683, NB672_683, NB683_672, NB0_683, NB683_0⟩ := n_; clear hb hbox hg; have hnb10 := NB683_672.out; have hnc10 := NB672_683.out; have hnb11 := NB683_0.out; have hnc11 := NB0_683.out; obtain ⟨hcz12_0, hcz12_1, hcz12_2, hcz12_3, hcz12_4, hfz12_0, hfz12_1, hfz12_2, hfz12_3, hfz12_4⟩ := cel5 BK683.out; obtain ⟨Ao13, co13, eo13⟩ := Kd.R_slice HO681.out; subst eo13) | ((with_reducible refine gate_callee (f := 16) rfl ?_); refine goesL_ (some 10) rfl rfl Try.func16 (by kernel_rfl) rfl #[.agg #[.int .i64 t675, .int .i64 t676, .int .i64 t677, .int .i64 t678, .slice Ao13 t679.length co13]] rfl argx ?_; (with_reducible refine (spec_ExprOk.calls k t675 t676 t677 t678 _ _ t679 t684 _ ?side1 ?side2 A4.out).mono ?_); (case side1 => refine (Kd.R_reads' (e := 32) (base := w.heap.size) (ok := fun k_ => ((True ∧ k_ ≠ gb672) ∧ k_ ≠ gb683)) (n := t679.length) (c := co13) ?_).2.2; exact q104_1); (case side2 => exact (Kd.R_reads' HO681.out).2.1); rintro e w14 ⟨rfl, hb⟩; refine ⟨_, rfl, ?_⟩; have n_ := az (Kd.R_below q104_1 hb) <| az (IsS132.below (show IsS132 w0 (((((w9.setCell ⟨gb683, 0, none⟩ (.int .i64 t675)).setCell ⟨gb683, 1, none⟩ (.int .i64 t676)).setCell ⟨gb683, 2, none⟩ (.int .i64 t677)).setCell ⟨gb683, 3, none⟩ (.int .i64 t678)).setCell ⟨gb683, 4, none⟩ (.slice Ao13 t679.length co13)) g s0_0 t682 from mI132_1 HI0.out) hb) <| az (blk_below (g := gb672) (o := .cells #[.int .i64 0, .int .i64 0, .int .i64 0, .int .i64 0, .slice none 0 0] 32 (0, 0)) (mF BK672.out) hb) <| az (blk_below (g := gb683) (o := .cells #[.int .i64 t675, .int .i64 t676, .int .i64 t677, .int .i64 t678, .slice Ao13 t679.length co13] 32 (0, 0)) (by (with_reducible repeat (first | refine blk_drewN ?_ _ | refine blk_drew ?_ | refine blk_alloc ?_ _)); refine blk_put (cs := #[.int .i64 t675, .int .i64 t676, .int .i64 t677, .int .i64 t678, .slice none 0 0]) ?_ 4 _ rfl; (with_reducible repeat (first | refine blk_drewN ?_ _ | refine blk_drew ?_ | refine blk_alloc ?_ _)); refine blk_put (cs := #[.int .i64 t675, .int .i64 t676, .int .i64 t677, .int .i64 0, .slice none 0 0]) ?_ 3 _ rfl; (with_reducible repeat (first | refine blk_drewN ?_ _ | refine blk_drew ?_ | refine blk_alloc ?_ _)); refine blk_put (cs := #[.int .i64 t675, .int .i64 t676, .int .i64 0, .int .i64 0, .slice none 0 0]) ?_ 2 _ rfl; (with_reducible repeat (first | refine blk_drewN ?_ _ | refine blk_drew ?_ | refine blk_alloc ?_ _)); refine blk_put (cs := #[.int .i64 t675, .int .i64 0, .int .i64 0, .int .i64 0, .slice none 0 0]) ?_ 1 _ rfl; (with_reducible repeat (first | refine blk_drewN ?_ _ | refine blk_drew ?_ | refine blk_alloc ?_ _)); refine blk_put (cs := #[.int .i64 0, .int .i64 0, .int .i64 0, .int .i64 0, .slice none 0 0]) ?_ 0 _ rfl; (with_reducible repeat (first | refine blk_drewN ?_ _ | refine blk_drew ?_ | refine blk_alloc ?_ _)); exact BK683.out) hb) <| az (KeepBut.trans (mKp HK.out) (KeepBut.of_below hb g none) (.inl rfl)) <| z0 (below_step (mB132HI0 HB.out) hb); clear HO681 HI0 BK672 BK683 HK HB; obtain ⟨HO681, HI0, BK672, BK683, HK, HB⟩ := n_; clear hb))
 (try simp only [Act.put, List.setIfInBounds_toArray, List.set_cons_zero, List.set_cons_succ])
 have H := HF5.out
 clear HF5
 (try clear hcz12_0); (try clear hcz12_1); (try clear hcz12_2); (try clear hcz12_3); (try clear hcz12_4); (try clear hfz12_0); (try clear hfz12_1); (try clear hfz12_2); (try clear hfz12_3); (try clear hfz12_4)
 by_cases c15 : t684 = true
 ·subst c15
  have H1 : (some (t675, t676, t677, t678, t679, t682)) = some (r1, r2, r3, r4, r5, r6) := by rw [if_pos rfl] at H; exact H
  clear H
  have H := H1
  clear H1
  simp only [Option.some.injEq, Prod.mk.injEq] at H
  obtain ⟨rfl, rfl, rfl, rfl, rfl, rfl⟩ := H
  have hnb16 := NB683_672.out
  have hnc16 := NB672_683.out
  have hnb17 := NB683_0.out
  have hnc17 := NB0_683.out
  obtain ⟨hcz18_0, hcz18_1, hcz18_2, hcz18_3, hcz18_4, hfz18_0, hfz18_1, hfz18_2, hfz18_3, hfz18_4⟩ := cel5 BK683.out
  have hnb19 := NB672_0.out
  have hnc19 := NB0_672.out
  obtain ⟨hcz20_0, hcz20_1, hcz20_2, hcz20_3, hcz20_4, hfz20_0, hfz20_1, hfz20_2, hfz20_3, hfz20_4⟩ := cel5 BK672.out
  go_wp2
  refine bodyPost_ret (results_cell_row rfl _ _ gb672 32 #[.int .i64 t675, .int .i64 t676, .int .i64 t677, .int .i64 t678, .slice Ao13 t679.length co13] (0, 0) _ rfl (pF BK672.out) Try.underlying32 rfl (by kernel_rfl)) rfl ?_
  exact ⟨_, rfx, by (with_reducible repeat (first | apply Kd.R_alloc | apply Kd.R_drewN | apply Kd.R_drew)); exact Kd.R_mono (Kd.R_far (p := ⟨gb672, 4, none⟩) (Kd.R_far (p := ⟨gb672, 3, none⟩) (Kd.R_far (p := ⟨gb672, 2, none⟩) (Kd.R_far (p := ⟨gb672, 1, none⟩) (Kd.R_far (p := ⟨gb672, 0, none⟩) (Kd.R_mono HO681.out (fun k_ hk => (⟨hk, hk.1.2⟩ : _ ∧ k_ ≠ gb672))) (fun _ hk => hk.2) (.int .i64 t675)) (fun _ hk => hk.2) (.int .i64 t676)) (fun _ hk => hk.2) (.int .i64 t677)) (fun _ hk => hk.2) (.int .i64 t678)) (fun _ hk => hk.2) (.slice Ao13 t679.length co13)) (fun _ hk => trivial), mI132_1 HI0.out, mB132HI0 HB.out, mKp HK.out⟩
 ·replace c15 := Bool.eq_false_iff.mpr c15
  subst c15
  have H1 : ((spec_l3Expr.f k s0_0 t682 2).bind fun bt685 => (some (bt685.1, bt685.2.1, bt685.2.2.1, bt685.2.2.2.1, bt685.2.2.2.2.1, bt685.2.2.2.2.2))) = some (r1, r2, r3, r4, r5, r6) := by rw [if_neg (show ¬ (false = true) by decide)] at H; exact H
  clear H
  have H := H1
  clear H1
  replace H := Option.bind_eq_some_iff.mp H
  obtain ⟨⟨t685, t686, t687, t688, t689, t692⟩, A210, H⟩ := H
  try dsimp only at H
  have A21 := z0 A210
  clear A210
  simp only [Option.some.injEq, Prod.mk.injEq] at H
  obtain ⟨rfl, rfl, rfl, rfl, rfl, rfl⟩ := H
  go_wp2_with (first | ((with_reducible refine gate_callee (f := 125) rfl ?_); refine goesL_ (some 13) rfl rfl Try.func125 (by kernel_rfl) rfl #[.pointer (some ⟨g, 0, none⟩), .int .i64 2] rfl argx ?_; (with_reducible refine (spec_l3Expr.calls k g s0_0 t682 2 t685 t686 t687 t688 t689 t692 w0 _ ?side1 ?side2 A21.out).mono ?_); (case side1 => exact mI132_1 HI0.out); (case side2 => exact mB132HI0 HB.out); rintro e w22 ⟨v690, rfl, ho0, hi, hb, hk⟩; refine ⟨_, rfl, ?_⟩; have n_ := az (kB hk BK672.out NB672_0.out) <| az (Kd.R_mono (Kd.R_told (Kd.R_oldK (IsS132.apart (show IsS132 w0 _ g s0_0 t682 from mI132_1 HI0.out) (mR HO681.out) (by decide)) hk) (by first | exact Kd.R_base ho0 | exact Kd.R_base ho0)) (fun _ h_ => h_.1)) <| az (kB hk BK683.out NB683_0.out) <| az (Kd.R_lower (Kd.R_newB (Kd.R_newB (Kd.R_new' ho0 (Kd.R_lt (mR HO681.out))) (g := gb672) (o := .cells #[.int .i64 0, .int .i64 0, .int .i64 0, .int .i64 0, .slice none 0 0] 32 (0, 0)) (mK BK672.out)) (g := gb683) (o := .cells #[.int .i64 t675, .int .i64 t676, .int .i64 t677, .int .i64 t678, .slice Ao13 t679.length co13] 32 (0, 0)) (mK BK683.out)) (kS HK.out)) <| az (KeepBut.trans (mKp HK.out) hk (.inl rfl)) <| az (hb) <| z0 (hi); clear BK672 HO681 BK683 HK HB HI0; obtain ⟨BK672, HO681, BK683, HO691, HK, HB, HI0⟩ := n_; clear hb hk hi ho0; have hnb23 := NB672_683.out; have hnc23 := NB683_672.out; have hnb24 := NB672_0.out; have hnc24 := NB0_672.out; obtain ⟨hcz25_0, hcz25_1, hcz25_2, hcz25_3, hcz25_4, hfz25_0, hfz25_1, hfz25_2, hfz25_3, hfz25_4⟩ := cel5 BK672.out; obtain ⟨Ao26, co26, eo26⟩ := Kd.R_slice HO691.out; subst eo26))
  refine bodyPost_ret (results_cell_row rfl _ _ gb672 32 #[.int .i64 t685, .int .i64 t686, .int .i64 t687, .int .i64 t688, .slice Ao26 t689.length co26] (0, 0) _ rfl (pF BK672.out) Try.underlying32 rfl (by kernel_rfl)) rfl ?_
  exact ⟨_, rfx, by (with_reducible repeat (first | apply Kd.R_alloc | apply Kd.R_drewN | apply Kd.R_drew)); exact Kd.R_mono (Kd.R_far (p := ⟨gb672, 4, none⟩) (Kd.R_far (p := ⟨gb672, 3, none⟩) (Kd.R_far (p := ⟨gb672, 2, none⟩) (Kd.R_far (p := ⟨gb672, 1, none⟩) (Kd.R_far (p := ⟨gb672, 0, none⟩) (Kd.R_mono HO691.out (fun k_ hk => (⟨hk, hk.1.2⟩ : _ ∧ k_ ≠ gb672))) (fun _ hk => hk.2) (.int .i64 t685)) (fun _ hk => hk.2) (.int .i64 t686)) (fun _ hk => hk.2) (.int .i64 t687)) (fun _ hk => hk.2) (.int .i64 t688)) (fun _ hk => hk.2) (.slice Ao26 t689.length co26)) (fun _ hk => trivial), mI132_1 HI0.out, mB132HI0 HB.out, mKp HK.out⟩

/-! ### spec_l3Copy: function 69 -/
mutual
def spec_l3Copy.l0 : Nat → Int → Int → Int → Int → Int → List (S32) → Int → Int → Int → Int → List (S32) → Option (Int × Int × Int × Int × (List (S32)))
 | 0, _, _, _, _, _, _, _, _, _, _, _ => none
 | k + 1, x4, x445000, x445001, x445002, x445003, x445004, x447000, x447001, x447002, x447003, x447004 => if x4 < (x445004.length : Int) then (if 0 ≤ x4 then ((spec_l3Copy.f k ((rd_T32 x445004 x4).f0) ((rd_T32 x445004 x4).f1) ((rd_T32 x445004 x4).f2.f0) ((rd_T32 x445004 x4).f2.f1) ((rd_T32 x445004 x4).f3)).bind fun bt448 => (if x447004.length < 2513169434916 then (spec_l3Copy.l0 k (wrap64 (x4 + 1)) x445000 x445001 x445002 x445003 x445004 x447000 x447001 x447002 x447003 (x447004 ++ [(⟨bt448.1, bt448.2.1, (⟨bt448.2.2.1, bt448.2.2.2.1⟩ : S29), bt448.2.2.2.2⟩ : S32)])) else (none))) else (none)) else (some (x447000, x447001, x447002, x447003, x447004))
def spec_l3Copy.f : Nat → Int → Int → Int → Int → List (S32) → Option (Int × Int × Int × Int × (List (S32)))
 | 0, _, _, _, _, _ => none
 | k + 1, a0_0, a0_1, a0_2, a0_3, l0_4 => spec_l3Copy.l0 k 0 a0_0 a0_1 a0_2 a0_3 l0_4 a0_0 a0_1 a0_2 a0_3 ([] : List (S32))
end
theorem spec_l3Copy.mono_l : ∀ k, (∀ y0 y1 y2 y3 y4, LeO (spec_l3Copy.f k y0 y1 y2 y3 y4) (spec_l3Copy.f (k + 1) y0 y1 y2 y3 y4)) ∧ (∀ y0 y1 y2 y3 y4 y5 y6 y7 y8 y9 y10, LeO (spec_l3Copy.l0 k y0 y1 y2 y3 y4 y5 y6 y7 y8 y9 y10) (spec_l3Copy.l0 (k + 1) y0 y1 y2 y3 y4 y5 y6 y7 y8 y9 y10))
 | 0 => ⟨fun _ _ _ _ _ r h => by simp [spec_l3Copy.f] at h, fun _ _ _ _ _ _ _ _ _ _ _ r h => by simp [spec_l3Copy.l0] at h⟩
 | k + 1 => by
  obtain ⟨ih0, ih1⟩ := spec_l3Copy.mono_l k
  refine ⟨?_, ?_⟩
  ·intro y0 y1 y2 y3 y4
   unfold spec_l3Copy.f
   repeat' first
   | (with_reducible exact ih0 _ _ _ _ _)
   | (with_reducible exact ih1 _ _ _ _ _ _ _ _ _ _ _)
   | (with_reducible exact LeO.refl _)
   | (with_reducible exact LeO.none _)
   | (with_reducible refine LeO.ite ?_ ?_)
   | (with_reducible refine LeO.bind ?_ (fun _ => ?_))
   | exact ih0 _ _ _ _ _
   | exact ih1 _ _ _ _ _ _ _ _ _ _ _
   | exact LeO.none _
   | refine LeO.ite ?_ ?_
   | refine LeO.bind ?_ (fun _ => ?_)
  ·intro y0 y1 y2 y3 y4 y5 y6 y7 y8 y9 y10
   unfold spec_l3Copy.l0
   repeat' first
   | (with_reducible exact ih0 _ _ _ _ _)
   | (with_reducible exact ih1 _ _ _ _ _ _ _ _ _ _ _)
   | (with_reducible exact LeO.refl _)
   | (with_reducible exact LeO.none _)
   | (with_reducible refine LeO.ite ?_ ?_)
   | (with_reducible refine LeO.bind ?_ (fun _ => ?_))
   | exact ih0 _ _ _ _ _
   | exact ih1 _ _ _ _ _ _ _ _ _ _ _
   | exact LeO.none _
   | refine LeO.ite ?_ ?_
   | refine LeO.bind ?_ (fun _ => ?_)
def spec_l3Copy.T5 : Bool × List (List Nat × List Nat) := (true, [([], []), ([0], [0]), ([], []), ([2], [2]), ([], []), ([3, 4], [3, 4]), ([5], [5]), ([6], [6]), ([7], [7]), ([1, 8, 7], [1, 8]), ([0, 1, 2, 3, 4, 5, 6, 7, 8, 9], []), ([10, 9, 9, 0, 1, 2, 3, 4, 5, 6, 7, 8, 9], [9, 10])])
def spec_l3Copy.B5 : List Nat := [0, 1, 0, 4, 0, 28, 60, 124, 252, 511, 1023, 2047]
theorem spec_l3Copy.tab5 : rtab .any (opsOf Try.f69 5) = spec_l3Copy.T5 := by kernel_rfl
theorem spec_l3Copy.bits5 : waitsOk spec_l3Copy.T5.2 spec_l3Copy.B5 = true := by kernel_rfl
theorem q69_1 {p : Prop} (h : p := by exact ⟨(blk_cell BK446.out 0).trans rfl, (blk_cell BK446.out 1).trans rfl, (blk_cell BK446.out 2).trans rfl, (blk_cell BK446.out 3).trans rfl, (blk_cell BK446.out 4).trans rfl, (blk_cell BK444.out 0).trans rfl, (blk_cell BK444.out 1).trans rfl, (blk_cell BK444.out 2).trans rfl, (blk_cell BK444.out 3).trans rfl, (blk_cell BK444.out 4).trans rfl, ((HB.out.cell (World.block_lt_of_cell? w _ hw447_0)).trans hw447_0), ((HB.out.cell (World.block_lt_of_cell? w _ hw447_1)).trans hw447_1), ((HB.out.cell (World.block_lt_of_cell? w _ hw447_2)).trans hw447_2), ((HB.out.cell (World.block_lt_of_cell? w _ hw447_3)).trans hw447_3), ((HB.out.cell (World.block_lt_of_cell? w _ hw447_4)).trans hw447_4)⟩) : p := h
set_option maxHeartbeats 8000000 in
set_option maxRecDepth 100000 in
theorem spec_l3Copy.calls (k : Nat) : ∀ (a0_0 : Int) (a0_1 : Int) (a0_2 : Int) (a0_3 : Int) (A0_4 : Option Addr) (c0_4 : Nat) (l0_4 : List (S32)) (r1 : Int) (r2 : Int) (r3 : Int) (r4 : Int) (r5 : List (S32)) (w : World) (hr0_4 : Kd.C k32 w A0_4 l0_4.length l0_4) (hc0_4 : l0_4.length ≤ c0_4) (h : spec_l3Copy.f k a0_0 a0_1 a0_2 a0_3 l0_4 = some (r1, r2, r3, r4, r5)),
  Calls Try.prog 69 #[.agg #[.int .i64 a0_0, .int .i64 a0_1, .int .i64 a0_2, .int .i64 a0_3, .slice A0_4 l0_4.length c0_4]] w fun e w' => ∃ v4_ : Value, e = .returned (.agg #[.int .i64 r1, .int .i64 r2, .int .i64 r3, .int .i64 r4, v4_]) ∧ Kd.R k32 32 w' w.heap.size (fun _ => True) v4_ r5 ∧ Below w.heap.size w w' := by
 induction k using Nat.strongRecOn with
 | _ k ih =>
 intro a0_0 a0_1 a0_2 a0_3 A0_4 c0_4 l0_4 r1 r2 r3 r4 r5 w hr0_4 hc0_4 h
 cases k with
 | zero => exact absurd h (by simp [spec_l3Copy.f])
 | succ k =>
 simp only [spec_l3Copy.f] at h
 have hu32 := Try.underlying32
 have hu29 := Try.underlying29
 have HR0_4 := z0 hr0_4
 have HC0_4 := z0 hc0_4
 clear hr0_4 hc0_4
 have HB := z0 (Below.refl w.heap.size w)
 have H : (spec_l3Copy.l0 k 0 a0_0 a0_1 a0_2 a0_3 l0_4 a0_0 a0_1 a0_2 a0_3 ([] : List (S32))) = some (r1, r2, r3, r4, r5) := h
 clear h
 have H' := z0 H
 clear H
 go_enter Try.func69, Try.ntmps69
 go_wp2_with (first | ((with_reducible refine gate_dst (N := 1) rfl ?_); refine box_event ?hg (N := 1) ?hd (cs := #[.int .i64 a0_0, .int .i64 a0_1, .int .i64 a0_2, .int .i64 a0_3, .slice A0_4 l0_4.length c0_4]) (t := 32) ?hr ?_; (case hd => rfl); (case hg => rfl); (case hr => first | (go_simp; done) | (go_simp; rfl)); intro gb444 hg w2 hbox hb; have n_ := az (below_step (mB HB.out) hb) <| az (hbox) <| az ((by rw [hg]; exact (below_size (mB HB.out)) : w.heap.size ≤ gb444)) <| z0 ((by rw [hg]; exact (below_size (mB HB.out)) : w.heap.size ≤ gb444)); clear HB; obtain ⟨HB, BK444, GW444, GE444⟩ := n_; clear hb hbox hg) | ((with_reducible refine gate_dst (N := 2) rfl ?_); refine box_event ?hg (N := 2) ?hd (cs := #[.int .i64 0, .int .i64 0, .int .i64 0, .int .i64 0, .slice none 0 0]) (t := 32) ?hr ?_; (case hd => rfl); (case hg => rfl); (case hr => first | (go_simp; done) | (go_simp; rfl)); intro gb445 hg w3 hbox hb; have n_ := az (bB BK444.out hb) <| az (below_step (mB HB.out) hb) <| az (hbox) <| az ((by rw [hg]; exact (below_size (mB HB.out)) : w.heap.size ≤ gb445)) <| az ((by rw [hg]; exact (below_size (mB HB.out)) : w.heap.size ≤ gb445)) <| az ((nL hg BK444.out)) <| z0 ((nG hg BK444.out)); clear BK444 HB; obtain ⟨BK444, HB, BK445, GW445, GE445, NB444_445, NB445_444⟩ := n_; clear hb hbox hg; have hnb4 := NB444_445.out; have hnc4 := NB445_444.out; obtain ⟨hcz5_0, hcz5_1, hcz5_2, hcz5_3, hcz5_4, hfz5_0, hfz5_1, hfz5_2, hfz5_3, hfz5_4⟩ := cel5 BK444.out) | ((with_reducible refine gate_dst (N := 3) rfl ?_); refine box_event ?hg (N := 3) ?hd (cs := #[.int .i64 0, .int .i64 0, .int .i64 0, .int .i64 0, .slice none 0 0]) (t := 32) ?hr ?_; (case hd => rfl); (case hg => rfl); (case hr => first | (go_simp; done) | (go_simp; rfl)); intro gb446 hg w6 hbox hb; have n_ := az (bB BK444.out hb) <| az (bB BK445.out hb) <| az (below_step (mB HB.out) hb) <| az (hbox) <| az ((by rw [hg]; exact (below_size (mB HB.out)) : w.heap.size ≤ gb446)) <| az ((by rw [hg]; exact (below_size (mB HB.out)) : w.heap.size ≤ gb446)) <| az ((nL hg BK444.out)) <| az ((nG hg BK444.out)) <| az ((nL hg BK445.out)) <| z0 ((nG hg BK445.out)); clear BK444 BK445 HB; obtain ⟨BK444, BK445, HB, BK446, GW446, GE446, NB444_446, NB446_444, NB445_446, NB446_445⟩ := n_; clear hb hbox hg; have hnb7 := NB446_444.out; have hnc7 := NB444_446.out; have hnb8 := NB446_445.out; have hnc8 := NB445_446.out; obtain ⟨hcz9_0, hcz9_1, hcz9_2, hcz9_3, hcz9_4, hfz9_0, hfz9_1, hfz9_2, hfz9_3, hfz9_4⟩ := cel5 BK446.out))
 go_loopg [4] k (fun kq v4 w' => ∃ (x4_1 : Int) (x447004_1 : List (S32)) (u447004 : Value), v4 = .int .i64 x4_1 ∧ Aside0 (spec_l3Copy.l0 kq x4_1 a0_0 a0_1 a0_2 a0_3 l0_4 a0_0 a0_1 a0_2 a0_3 x447004_1 = some (r1, r2, r3, r4, r5)) ∧ Aside0 (kq ≤ k) ∧ Aside0 (Kd.R k32 32 w' w.heap.size (fun k_ => k_ ≠ gb444 ∧ k_ ≠ gb445 ∧ k_ ≠ gb446) u447004 x447004_1) ∧ Aside0 (w'.heap[gb444]? = some (.cells #[.int .i64 a0_0, .int .i64 a0_1, .int .i64 a0_2, .int .i64 a0_3, (.slice A0_4 l0_4.length c0_4)] 32 (0, 0))) ∧ Aside0 (w'.heap[gb445]? = some (.cells #[.int .i64 0, .int .i64 0, .int .i64 0, .int .i64 0, (.slice none 0 0)] 32 (0, 0))) ∧ Aside0 (w'.heap[gb446]? = some (.cells #[.int .i64 a0_0, .int .i64 a0_1, .int .i64 a0_2, .int .i64 a0_3, u447004] 32 (0, 0))) ∧ Aside0 (Below w.heap.size w w'))
 case atStart => exact ⟨(0), (([] : List (S32))), (.slice none 0 0), rfy, H', ⟨Nat.le_refl _⟩, ⟨by first | exact Kd.R_nil _ _ _ _ _ | exact Kd.N_nil _ _ _ _ _ | exact Kd.V_nil _ _ _ _ _ | exact Kd.Q_nil _ _ _ _ _ | exact Kd.S_nil _ _ _ _ _⟩, ⟨mF BK444.out⟩, ⟨mF BK445.out⟩, ⟨by (with_reducible repeat (first | refine blk_drewN ?_ _ | refine blk_drew ?_ | refine blk_alloc ?_ _)); refine blk_put (cs := #[.int .i64 a0_0, .int .i64 a0_1, .int .i64 a0_2, .int .i64 a0_3, .slice none 0 0]) ?_ 4 _ rfl; (with_reducible repeat (first | refine blk_drewN ?_ _ | refine blk_drew ?_ | refine blk_alloc ?_ _)); refine blk_put (cs := #[.int .i64 a0_0, .int .i64 a0_1, .int .i64 a0_2, .int .i64 0, .slice none 0 0]) ?_ 3 _ rfl; (with_reducible repeat (first | refine blk_drewN ?_ _ | refine blk_drew ?_ | refine blk_alloc ?_ _)); refine blk_put (cs := #[.int .i64 a0_0, .int .i64 a0_1, .int .i64 0, .int .i64 0, .slice none 0 0]) ?_ 2 _ rfl; (with_reducible repeat (first | refine blk_drewN ?_ _ | refine blk_drew ?_ | refine blk_alloc ?_ _)); refine blk_put (cs := #[.int .i64 a0_0, .int .i64 0, .int .i64 0, .int .i64 0, .slice none 0 0]) ?_ 1 _ rfl; (with_reducible repeat (first | refine blk_drewN ?_ _ | refine blk_drew ?_ | refine blk_alloc ?_ _)); refine blk_put (cs := #[.int .i64 0, .int .i64 0, .int .i64 0, .int .i64 0, .slice none 0 0]) ?_ 0 _ rfl; (with_reducible repeat (first | refine blk_drewN ?_ _ | refine blk_drew ?_ | refine blk_alloc ?_ _)); exact BK446.out⟩, ⟨mB HB.out⟩⟩
 case round =>
  clear H'
  (try clear hcz5_0); (try clear hcz5_1); (try clear hcz5_2); (try clear hcz5_3); (try clear hcz5_4); (try clear hcz9_0); (try clear hcz9_1); (try clear hcz9_2); (try clear hcz9_3); (try clear hcz9_4); (try clear hfz5_0); (try clear hfz5_1); (try clear hfz5_2); (try clear hfz5_3); (try clear hfz5_4); (try clear hfz9_0); (try clear hfz9_1); (try clear hfz9_2); (try clear hfz9_3); (try clear hfz9_4)
  obtain ⟨x4_1, x447004_1, u447004, rfl, HA, HK1, HO_447004, BK444, BK445, BK446, HB⟩ := hrel
  cases gk with
  | zero => exact absurd HA.out (by simp [spec_l3Copy.l0])
  | succ k1 =>
   have H := HA.out
   clear HA
   simp only [spec_l3Copy.l0] at H
   by_cases c10 : x4_1 < (l0_4.length : Int)
   ·rw [if_pos c10] at H
    have c10b0 : decide (x4_1 < (l0_4.length : Int)) = true := decide_eq_true c10
    clear c10
    by_cases c11 : 0 ≤ x4_1
    ·rw [if_pos c11] at H
     have c11b0 : decide (0 ≤ x4_1) = true := decide_eq_true c11
     clear c11
     replace H := Option.bind_eq_some_iff.mp H
     obtain ⟨⟨t448, t449, t450, t451, t452⟩, A120, H⟩ := H
     try dsimp only at H
     have A12 := z0 A120
     clear A120
     by_cases c13 : x447004_1.length < 2513169434916
     ·rw [if_pos c13] at H
      have LMc13 := z0 c13
      clear c13
      obtain ⟨y455, hy455⟩ : ∃ y_ : List (S32), y_ = (x447004_1 ++ [(⟨t448, t449, (⟨t450, t451⟩ : S29), t452⟩ : S32)]) := ⟨_, rfl⟩
      replace H : (spec_l3Copy.l0 k1 (wrap64 (x4_1 + 1)) a0_0 a0_1 a0_2 a0_3 l0_4 a0_0 a0_1 a0_2 a0_3 y455) = some (r1, r2, r3, r4, r5) := by first | (rw [hy455]; with_reducible exact H) | (have H2_ := (Option.bind_some _ _).symm.trans H; rw [hy455]; with_reducible exact H2_) | (have H2_ := (Option.bind_some _ _).symm.trans H; with_reducible exact H2_) | with_reducible exact H | (rw [hy455]; exact H) | exact H
      have Ny455 := z0 hy455
      clear hy455
      have H' := z0 H
      clear H
      have hnb14 := NB444_445.out
      have hnc14 := NB445_444.out
      have hnb15 := NB444_446.out
      have hnc15 := NB446_444.out
      obtain ⟨hcz16_0, hcz16_1, hcz16_2, hcz16_3, hcz16_4, hfz16_0, hfz16_1, hfz16_2, hfz16_3, hfz16_4⟩ := cel5 BK444.out
      try go_wp2
      have n_ := az (Kd.R_drew HO_447004.out) <| az (blk_drew BK444.out) <| az (blk_drew BK445.out) <| az (blk_drew BK446.out) <| z0 (below_drew1 HB.out)
      clear HO_447004 BK444 BK445 BK446 HB
      obtain ⟨HO_447004, BK444, BK445, BK446, HB⟩ := n_
      have p447 : 0 ≤ (x4_1 : Int) := of_decide_eq_true (by first | (with_reducible assumption) | assumption)
      have q447 : x4_1 < (l0_4.length : Int) := of_decide_eq_true (by first | (with_reducible assumption) | assumption)
      obtain ⟨ad447, A447_4, c447_4, e447, hx447_0, hx447_1, hx447_2, hx447_3, hx447_4, hl447_4, hi447_4⟩ := at_T32 HR0_4.out x4_1 p447 q447
      have hw447_4 := hx447_4
      have hw447_3 := hx447_3
      have hw447_2 := hx447_2
      have hw447_1 := hx447_1
      have hw447_0 := hx447_0
      cases e447
      replace hx447_0 := (HB.out.cell (World.block_lt_of_cell? w _ hx447_0)).trans hx447_0
      replace hx447_1 := (HB.out.cell (World.block_lt_of_cell? w _ hx447_1)).trans hx447_1
      replace hx447_2 := (HB.out.cell (World.block_lt_of_cell? w _ hx447_2)).trans hx447_2
      replace hx447_3 := (HB.out.cell (World.block_lt_of_cell? w _ hx447_3)).trans hx447_3
      replace hx447_4 := (HB.out.cell (World.block_lt_of_cell? w _ hx447_4)).trans hx447_4
      have HR447_4 := z0 hi447_4
      have HC447_4 := z0 hl447_4
      clear hi447_4 hl447_4
      replace p447 := eq_true p447
      replace q447 := eq_true q447
      refine start_ (n := 12) (S := fun w' => w'.cell? ⟨gb446, 0, none⟩ = some (.int .i64 a0_0) ∧ w'.cell? ⟨gb446, 1, none⟩ = some (.int .i64 a0_1) ∧ w'.cell? ⟨gb446, 2, none⟩ = some (.int .i64 a0_2) ∧ w'.cell? ⟨gb446, 3, none⟩ = some (.int .i64 a0_3) ∧ w'.cell? ⟨gb446, 4, none⟩ = some (u447004) ∧ w'.cell? ⟨gb444, 0, none⟩ = some (.int .i64 a0_0) ∧ w'.cell? ⟨gb444, 1, none⟩ = some (.int .i64 a0_1) ∧ w'.cell? ⟨gb444, 2, none⟩ = some (.int .i64 a0_2) ∧ w'.cell? ⟨gb444, 3, none⟩ = some (.int .i64 a0_3) ∧ w'.cell? ⟨gb444, 4, none⟩ = some (.slice (some ad447) l0_4.length c0_4) ∧ w'.cell? (ad447.add ((x4_1).toNat * 5)) = some (.int .i64 ((rd_T32 l0_4 x4_1).f0)) ∧ w'.cell? ⟨(ad447.add ((x4_1).toNat * 5)).block, (ad447.add ((x4_1).toNat * 5)).off + 1, none⟩ = some (.int .i64 ((rd_T32 l0_4 x4_1).f1)) ∧ w'.cell? ⟨(ad447.add ((x4_1).toNat * 5)).block, (ad447.add ((x4_1).toNat * 5)).off + 2, none⟩ = some (.int .i64 ((rd_T32 l0_4 x4_1).f2.f0)) ∧ w'.cell? ⟨(ad447.add ((x4_1).toNat * 5)).block, (ad447.add ((x4_1).toNat * 5)).off + 3, none⟩ = some (.int .i64 ((rd_T32 l0_4 x4_1).f2.f1)) ∧ w'.cell? ⟨(ad447.add ((x4_1).toNat * 5)).block, (ad447.add ((x4_1).toNat * 5)).off + 4, none⟩ = some (.slice A447_4 ((rd_T32 l0_4 x4_1).f3).length c447_4)) (ds := [11]) #[false, false, false, false, false, false, false, false, false, false, false, false] (by kernel_rfl) rfl rfl q69_1 (fun hHeld => ?_); refine with_tabW spec_l3Copy.tab5 spec_l3Copy.bits5 (fun HT_ HW_ => ?_)
      generalize wr.drew = w17 at HO_447004 BK444 BK445 BK446 HB HR447_4 hx447_0 hx447_1 hx447_2 hx447_3 hx447_4 hHeld ⊢
      refine pure_ (i := 0) (N := some 19) (v := ?_) (a' := ?_) #[true, false, false, false, false, false, false, false, false, false, false, false] rfl rfl (any_of HT_.out (by kernel_rfl)) (fun _ _ _ h => h) (Or.inl ⟨by rfl, ?_⟩) ?_ ?_
      rotate_left
      ·intro w'
       go_simp
       with_reducible rfl
      rotate_left
      ·simp only [Act.put, List.setIfInBounds_toArray, List.set_cons_zero, List.set_cons_succ, i64_w, i32_w]
       rfl
      refine pure_ (i := 2) (N := some 21) (v := ?_) (a' := ?_) #[true, false, true, false, false, false, false, false, false, false, false, false] rfl rfl (any_of HT_.out (by kernel_rfl)) (fun _ _ _ h => h) (Or.inl ⟨by rfl, ?_⟩) ?_ ?_
      rotate_left
      ·intro w'
       go_simp
       with_reducible rfl
      rotate_left
      ·simp only [Act.put, List.setIfInBounds_toArray, List.set_cons_zero, List.set_cons_succ, i64_w, i32_w]
       rfl
      refine pure_ (i := 4) (N := some 23) (v := ?_) (a' := ?_) #[true, false, true, false, true, false, false, false, false, false, false, false] rfl rfl (any_of HT_.out (by kernel_rfl)) (fun _ _ _ h => h) (Or.inl ⟨by rfl, ?_⟩) ?_ ?_
      rotate_left
      ·intro w'
       go_simp
       with_reducible rfl
      rotate_left
      ·simp only [Act.put, List.setIfInBounds_toArray, List.set_cons_zero, List.set_cons_succ, i64_w, i32_w]
       rfl
      refine take_ (i := 1) (N := some 20) (v := ?_) (a' := ?_) #[true, true, true, false, true, false, false, false, false, false, false, false] rfl rfl (take_ofW HT_.out HW_.out (by kernel_rfl)) (fun _ _ _ h => h) (Or.inl ⟨by rfl, ?_⟩) hHeld ?_ ?_
      rotate_left
      ·rintro w' ⟨s0, s1, s2, s3, s4, s5, s6, s7, s8, s9, s10, s11, s12, s13, s14⟩
       go_simp
       with_reducible rfl
      rotate_left
      ·simp only [Act.put, List.setIfInBounds_toArray, List.set_cons_zero, List.set_cons_succ, i64_w, i32_w]
       rfl
      refine take_ (i := 3) (N := some 22) (v := ?_) (a' := ?_) #[true, true, true, true, true, false, false, false, false, false, false, false] rfl rfl (take_ofW HT_.out HW_.out (by kernel_rfl)) (fun _ _ _ h => h) (Or.inl ⟨by rfl, ?_⟩) hHeld ?_ ?_
      rotate_left
      ·rintro w' ⟨s0, s1, s2, s3, s4, s5, s6, s7, s8, s9, s10, s11, s12, s13, s14⟩
       go_simp
       with_reducible rfl
      rotate_left
      ·simp only [Act.put, List.setIfInBounds_toArray, List.set_cons_zero, List.set_cons_succ, i64_w, i32_w]
       rfl
      refine pure_ (i := 5) (N := some 24) (v := ?_) (a' := ?_) #[true, true, true, true, true, true, false, false, false, false, false, false] rfl rfl (any_of HT_.out (by kernel_rfl)) (fun _ _ _ h => h) (Or.inl ⟨by rfl, ?_⟩) ?_ ?_
      rotate_left
      ·intro w'
       go_simp
       with_reducible rfl
      rotate_left
      ·simp only [Act.put, List.setIfInBounds_toArray, List.set_cons_zero, List.set_cons_succ, i64_w, i32_w]
       rfl
      refine take_ (i := 6) (N := some 25) (v := ?_) (a' := ?_) #[true, true, true, true, true, true, true, false, false, false, false, false] rfl rfl (take_ofW HT_.out HW_.out (by kernel_rfl)) (fun _ _ _ h => h) (Or.inl ⟨by rfl, ?_⟩) hHeld ?_ ?_
      rotate_left
      ·rintro w' ⟨s0, s1, s2, s3, s4, s5, s6, s7, s8, s9, s10, s11, s12, s13, s14⟩
       go_simp
       with_reducible rfl
      rotate_left
      ·simp only [Act.put, List.setIfInBounds_toArray, List.set_cons_zero, List.set_cons_succ, i64_w, i32_w]
       rfl
      refine one_ (i := 7) (N := some 26) #[true, true, true, true, true, true, true, true, false, false, false, false] rfl rfl (one_of HT_.out (by kernel_rfl)) (by decide) (fun K hK => ?_)
      refine goes_ Try.func69 (by kernel_rfl) rfl #[.agg #[.int .i64 ((rd_T32 l0_4 x4_1).f0), .int .i64 ((rd_T32 l0_4 x4_1).f1), .int .i64 ((rd_T32 l0_4 x4_1).f2.f0), .int .i64 ((rd_T32 l0_4 x4_1).f2.f1), .slice A447_4 ((rd_T32 l0_4 x4_1).f3).length c447_4]] (by rfl) rfl rfl argx ?_
      with_reducible refine (ih k1 (by have := HK1.out; omega) ((rd_T32 l0_4 x4_1).f0) ((rd_T32 l0_4 x4_1).f1) ((rd_T32 l0_4 x4_1).f2.f0) ((rd_T32 l0_4 x4_1).f2.f1) _ _ ((rd_T32 l0_4 x4_1).f3) t448 t449 t450 t451 t452 _ ?side1 ?side2 A12.out).mono ?_
      (case side1 => exact mC (Kd.C_below HR447_4.out HB.out))
      (case side2 => exact HC447_4.out)
      rintro e w18 ⟨v453, rfl, ho0, hb⟩
      refine ⟨_, rfl, ?_⟩
      have n_ := az (Kd.R_elder' (mR HO_447004.out) (by first | exact Kd.R_base ho0 | exact Kd.R_base ho0) hb) <| And.intro (z0 (Kd.R_lower (Kd.R_newB (Kd.R_newB (Kd.R_newB (Kd.R_new' ho0 (Kd.R_lt (mR HO_447004.out))) (g := gb444) (o := .cells #[.int .i64 a0_0, .int .i64 a0_1, .int .i64 a0_2, .int .i64 a0_3, .slice (some ad447) l0_4.length c0_4] 32 (0, 0)) (mK BK444.out)) (g := gb445) (o := .cells #[.int .i64 0, .int .i64 0, .int .i64 0, .int .i64 0, .slice none 0 0] 32 (0, 0)) (mK BK445.out)) (g := gb446) (o := .cells #[.int .i64 a0_0, .int .i64 a0_1, .int .i64 a0_2, .int .i64 a0_3, u447004] 32 (0, 0)) (mK BK446.out)) (below_size (mB HB.out)))) <| az (bB BK444.out hb) <| az (bB BK445.out hb) <| az (bB BK446.out hb) <| z0 (below_step (mB HB.out) hb)
      clear HO_447004 BK444 BK445 BK446 HB
      obtain ⟨HO_447004, HO454, BK444, BK445, BK446, HB⟩ := n_
      (try clear hb)
      (try clear hb2)
      (try clear hk)
      (try clear hi)
      (try clear ho0)
      obtain ⟨Ao20, co20, eo20⟩ := Kd.R_slice HO454.out
      (first | subst eo20 | (injection eo20 with f1_ f2_ f3_; have f4_ := f1_.symm; have f5_ := f3_.symm; clear f1_ f2_ f3_; subst f4_; subst f5_))
      refine hK.out _ _ q69_1 (fun hHeld => ?_)
      clear hK K
      refine norm_ (a' := ?_) ?_ ?_
      rotate_left
      ·show Act.put _ (some 26) _ = _
       simp only [Act.put, List.setIfInBounds_toArray, List.set_cons_zero, List.set_cons_succ, i64_w, i32_w]
       rfl
      refine one_ (i := 8) (N := some 27) #[true, true, true, true, true, true, true, true, true, false, false, false] rfl rfl (one_of HT_.out (by kernel_rfl)) (by decide) (fun K hK => ?_)
      refine value_ (w1 := ?_) (v := ?_) (by rfl) rfl ?_ ?_
      rotate_left 2
      ·go_simp
       constructor
       ·rfl
       ·rfl
      refine hK.out _ _ ⟨(blk_cell (blk_alloc BK446.out _) 0).trans rfl, (blk_cell (blk_alloc BK446.out _) 1).trans rfl, (blk_cell (blk_alloc BK446.out _) 2).trans rfl, (blk_cell (blk_alloc BK446.out _) 3).trans rfl, (blk_cell (blk_alloc BK446.out _) 4).trans rfl, (blk_cell (blk_alloc BK444.out _) 0).trans rfl, (blk_cell (blk_alloc BK444.out _) 1).trans rfl, (blk_cell (blk_alloc BK444.out _) 2).trans rfl, (blk_cell (blk_alloc BK444.out _) 3).trans rfl, (blk_cell (blk_alloc BK444.out _) 4).trans rfl, (World.cell?_alloc_lt _ _ _ (World.block_lt_of_cell? _ _ (((HB.out.cell (World.block_lt_of_cell? w _ hw447_0)).trans hw447_0)))).trans (((HB.out.cell (World.block_lt_of_cell? w _ hw447_0)).trans hw447_0)), (World.cell?_alloc_lt _ _ _ (World.block_lt_of_cell? _ _ (((HB.out.cell (World.block_lt_of_cell? w _ hw447_1)).trans hw447_1)))).trans (((HB.out.cell (World.block_lt_of_cell? w _ hw447_1)).trans hw447_1)), (World.cell?_alloc_lt _ _ _ (World.block_lt_of_cell? _ _ (((HB.out.cell (World.block_lt_of_cell? w _ hw447_2)).trans hw447_2)))).trans (((HB.out.cell (World.block_lt_of_cell? w _ hw447_2)).trans hw447_2)), (World.cell?_alloc_lt _ _ _ (World.block_lt_of_cell? _ _ (((HB.out.cell (World.block_lt_of_cell? w _ hw447_3)).trans hw447_3)))).trans (((HB.out.cell (World.block_lt_of_cell? w _ hw447_3)).trans hw447_3)), (World.cell?_alloc_lt _ _ _ (World.block_lt_of_cell? _ _ (((HB.out.cell (World.block_lt_of_cell? w _ hw447_4)).trans hw447_4)))).trans (((HB.out.cell (World.block_lt_of_cell? w _ hw447_4)).trans hw447_4))⟩ (fun hHeld => ?_)
      clear hK K
      refine norm_ (a' := ?_) ?_ ?_
      rotate_left
      ·show Act.put _ (some 27) _ = _
       simp only [Act.put, List.setIfInBounds_toArray, List.set_cons_zero, List.set_cons_succ, i64_w, i32_w]
       rfl
      refine one_ (i := 9) (N := some 28) #[true, true, true, true, true, true, true, true, true, true, false, false] rfl rfl (one_of HT_.out (by kernel_rfl)) (by decide) (fun K hK => ?_)
      refine Kd.R_append_step k32 (w0 := w) w.heap.size (by rfl) (.tmp 20) (.tmp 27) 30 32 (.agg #[(.int .i64 0), (.int .i64 0), (.int .i64 0), (.int .i64 0), (.slice none 0 0)]) 56 rfl Try.underlying30 info32 rfl (by decide) (by omega) u447004 x447004_1 (⟨t448, t449, (⟨t450, t451⟩ : S29), t452⟩ : S32) [.int .i64 t448, .int .i64 t449, .int .i64 t450, .int .i64 t451, .slice Ao20 t452.length co20] (fun k_ => k_ ≠ gb444 ∧ k_ ≠ gb445 ∧ k_ ≠ gb446) (fun k_ => ((fun k_ => k_ ≠ gb444 ∧ k_ ≠ gb445 ∧ k_ ≠ gb446)) k_ ∧ nB k_ u447004) rfl rfl ?aP (fun _ hk => hk) ?aF ?aO ?aB ?aS ?aL ?_
      (case aP => exact k32_mkM _ _ _ (⟨t448, t449, (⟨t450, t451⟩ : S29), t452⟩ : S32) (Kd.R_mono (HO454.out) (fun k_ hk => ⟨⟨hk.1.1.2, ⟨hk.1.2, hk.2⟩⟩, hk.1.1.1.2⟩)))
      (case aB => exact (mB HB.out))
      (case aF => exact (fun k_ hk => ⟨fB BK444.out hk, fB BK445.out hk, fB BK446.out hk⟩))
      (case aO => exact (by (with_reducible repeat (first | apply Kd.R_alloc | apply Kd.R_drewN | apply Kd.R_drew)); exact Kd.R_mono HO_447004.out (fun _ hk => ⟨hk.1.1, ⟨hk.1.2.1, hk.1.2.2⟩⟩)))
      (case aS => exact (below_size (mB HB.out)))
      (case aL => have := LMc13.out; omega)
      intro v456 w19 ho hb hg hat
      rw [← Ny455.out] at ho
      have n_ := az (blk_grown (g := gb444) (o := .cells #[.int .i64 a0_0, .int .i64 a0_1, .int .i64 a0_2, .int .i64 a0_3, .slice (some ad447) l0_4.length c0_4] 32 (0, 0)) (mK BK444.out) hg (Kd.R_away HO_447004.out (fun _ hk => hk.1.1))) <| az (blk_grown (g := gb445) (o := .cells #[.int .i64 0, .int .i64 0, .int .i64 0, .int .i64 0, .slice none 0 0] 32 (0, 0)) (mK BK445.out) hg (Kd.R_away HO_447004.out (fun _ hk => hk.1.2.1))) <| az (blk_grown (g := gb446) (o := .cells #[.int .i64 a0_0, .int .i64 a0_1, .int .i64 a0_2, .int .i64 a0_3, u447004] 32 (0, 0)) (mK BK446.out) hg (Kd.R_away HO_447004.out (fun _ hk => hk.1.2.2))) <| az (hb) <| z0 (ho)
      clear BK444 BK445 BK446 HB HO_447004 HO454
      obtain ⟨BK444, BK445, BK446, HB, HO457⟩ := n_
      clear ho hb hg hat
      obtain ⟨Ao21, co21, eo21⟩ := Kd.R_slice HO457.out
      (first | subst eo21 | (injection eo21 with f1_ f2_ f3_; have f4_ := f1_.symm; have f5_ := f3_.symm; clear f1_ f2_ f3_; subst f4_; subst f5_))
      refine hK.out _ _ q69_1 (fun hHeld => ?_)
      clear hK K
      refine norm_ (a' := ?_) ?_ ?_
      rotate_left
      ·show Act.put _ (some 28) _ = _
       simp only [Act.put, List.setIfInBounds_toArray, List.set_cons_zero, List.set_cons_succ, i64_w, i32_w]
       rfl
      refine pure_ (i := 10) (N := some 29) (v := ?_) (a' := ?_) #[true, true, true, true, true, true, true, true, true, true, true, false] rfl rfl (any_of HT_.out (by kernel_rfl)) (fun _ _ _ h => h) (Or.inl ⟨by rfl, ?_⟩) ?_ ?_
      rotate_left
      ·intro w'
       go_simp
       with_reducible rfl
      rotate_left
      ·simp only [Act.put, List.setIfInBounds_toArray, List.set_cons_zero, List.set_cons_succ, i64_w, i32_w]
       rfl
      refine last_ (i := 11) (N := none) #[true, true, true, true, true, true, true, true, true, true, true, true] rfl rfl (one_of HT_.out (by kernel_rfl)) (by decide) (fun K hK => ?_)
      have hs22 : w19.cell? ⟨gb446, 4, none⟩ = some (u447004) := (blk_cell BK446.out 4).trans rfl
      have hfs22 := blk_frozen BK446.out 4
      have hns22_0 := NB444_446.out
      have hns22_1 := NB445_446.out
      have hms22_0 := NB446_444.out
      have hms22_1 := NB446_445.out
      refine skip_ (w1 := ?_) (by rfl) rfl ?_ ?_
      rotate_left
      ·go_simp
       rfl
      refine hK.out _ _ ?_
      clear hK K
      refine done_ (done_of HT_.out (by kernel_rfl)) ?_
      try go_wp2
      go_roundg k1
      case measure => have := HK1.out; omega
      case rel => exact ⟨(wrap64 (x4_1 + 1)), (y455), (.slice Ao21 y455.length co21), rfy, H', ⟨by have := HK1.out; omega⟩, ⟨by (with_reducible repeat (first | apply Kd.R_alloc | apply Kd.R_drewN | apply Kd.R_drew)); exact Kd.R_mono (Kd.R_far (p := ⟨gb446, 4, none⟩) (Kd.R_mono HO457.out (fun k_ hk => (⟨hk, hk.2.2⟩ : _ ∧ k_ ≠ gb446))) (fun _ hk => hk.2) (.slice Ao21 y455.length co21)) (fun _ hk => ⟨hk.1.1, ⟨hk.1.2.1, hk.1.2.2⟩⟩)⟩, ⟨mF BK444.out⟩, ⟨mF BK445.out⟩, ⟨by (with_reducible repeat (first | refine blk_drewN ?_ _ | refine blk_drew ?_ | refine blk_alloc ?_ _)); refine blk_put (cs := #[.int .i64 a0_0, .int .i64 a0_1, .int .i64 a0_2, .int .i64 a0_3, u447004]) ?_ 4 _ rfl; (with_reducible repeat (first | refine blk_drewN ?_ _ | refine blk_drew ?_ | refine blk_alloc ?_ _)); exact BK446.out⟩, ⟨mB HB.out⟩⟩
     ·rw [if_neg c13] at H
      exact absurd H (by simp)
    ·rw [if_neg c11] at H
     exact absurd H (by simp)
   ·rw [if_neg c10] at H
    have c10b0 : decide (x4_1 < (l0_4.length : Int)) = false := decide_eq_false c10
    clear c10
    simp only [Option.some.injEq, Prod.mk.injEq] at H
    obtain ⟨rfl, rfl, rfl, rfl, rfl⟩ := H
    have hnb23 := NB444_445.out
    have hnc23 := NB445_444.out
    have hnb24 := NB444_446.out
    have hnc24 := NB446_444.out
    obtain ⟨hcz25_0, hcz25_1, hcz25_2, hcz25_3, hcz25_4, hfz25_0, hfz25_1, hfz25_2, hfz25_3, hfz25_4⟩ := cel5 BK444.out
    have hnb26 := NB446_445.out
    have hnc26 := NB445_446.out
    obtain ⟨hcz27_0, hcz27_1, hcz27_2, hcz27_3, hcz27_4, hfz27_0, hfz27_1, hfz27_2, hfz27_3, hfz27_4⟩ := cel5 BK446.out
    obtain ⟨hcz28_0, hcz28_1, hcz28_2, hcz28_3, hcz28_4, hfz28_0, hfz28_1, hfz28_2, hfz28_3, hfz28_4⟩ := cel5 BK445.out
    obtain ⟨Ao29, co29, eo29⟩ := Kd.R_slice HO_447004.out
    subst eo29
    go_wp2
    refine bodyPost_ret (results_cell_row rfl _ _ gb445 32 #[.int .i64 a0_0, .int .i64 a0_1, .int .i64 a0_2, .int .i64 a0_3, .slice Ao29 x447004_1.length co29] (0, 0) _ rfl (pF BK445.out) Try.underlying32 rfl (by kernel_rfl)) rfl ?_
    exact ⟨_, rfx, by (with_reducible repeat (first | apply Kd.R_alloc | apply Kd.R_drewN | apply Kd.R_drew)); exact Kd.R_mono (Kd.R_far (p := ⟨gb445, 4, none⟩) (Kd.R_far (p := ⟨gb445, 3, none⟩) (Kd.R_far (p := ⟨gb445, 2, none⟩) (Kd.R_far (p := ⟨gb445, 1, none⟩) (Kd.R_far (p := ⟨gb445, 0, none⟩) (Kd.R_mono HO_447004.out (fun k_ hk => (⟨hk, hk.2.1⟩ : _ ∧ k_ ≠ gb445))) (fun _ hk => hk.2) (.int .i64 a0_0)) (fun _ hk => hk.2) (.int .i64 a0_1)) (fun _ hk => hk.2) (.int .i64 a0_2)) (fun _ hk => hk.2) (.int .i64 a0_3)) (fun _ hk => hk.2) (.slice Ao29 x447004_1.length co29)) (fun _ hk => trivial), mB HB.out⟩

/-! ### spec_l2AddrBent: function 107 -/
def spec_l2AddrBent.f (k : Nat) (s0_0 : List Int) (s0_1 : Int) : Option (Int × Int × Int) := (spec_l2Addr.f k s0_0 s0_1).bind fun bt694 => ((spec_l12Rd_pick.f k s0_0 bt694.2.2 16).bind fun bt698 => (if bt698.1 = 0 then ((spec_l12Rd_num.f k s0_0 bt698.2 (([0, 4, (-1)] : List Int))).bind fun bt703 => (some (bt703.1, bt694.2.1, bt703.2))) else (if bt698.1 = 1 then ((spec_l12Rd_num.f k s0_0 bt698.2 (([(-1), 6, 5] : List Int))).bind fun bt708 => (some (bt694.1, bt708.1, bt708.2))) else (some (bt694.1, bt694.2.1, bt698.2)))))
set_option maxHeartbeats 8000000 in
set_option maxRecDepth 100000 in
theorem spec_l2AddrBent.calls (k : Nat) (g : Nat) (s0_0 : List Int) (s0_1 : Int) (r1 : Int) (r2 : Int) (r3 : Int) (w0 w : World) (hI : IsS132 w0 w g s0_0 s0_1) (hB : Below w0.heap.size w0 w) (h : spec_l2AddrBent.f k s0_0 s0_1 = some (r1, r2, r3)) :
  Calls Try.prog 107 #[.pointer (some ⟨g, 0, none⟩)] w fun e w' => e = .returned (.agg #[.int .i64 r1, .int .i64 r2]) ∧ IsS132 w0 w' g s0_0 r3 ∧ Below w0.heap.size w0 w' ∧ KeepBut w w' g none := by
 have hu29 := Try.underlying29
 have HI0 := z0 hI
 have HK := z0 (KeepBut.refl w g none)
 have HL := z0 hB.size
 clear hI
 have HW0 := z0 hB.size
 have HB := z0 hB
 clear hB
 have H : ((spec_l2Addr.f k s0_0 s0_1).bind fun bt694 => ((spec_l12Rd_pick.f k s0_0 bt694.2.2 16).bind fun bt698 => (if bt698.1 = 0 then ((spec_l12Rd_num.f k s0_0 bt698.2 (([0, 4, (-1)] : List Int))).bind fun bt703 => (some (bt703.1, bt694.2.1, bt703.2))) else (if bt698.1 = 1 then ((spec_l12Rd_num.f k s0_0 bt698.2 (([(-1), 6, 5] : List Int))).bind fun bt708 => (some (bt694.1, bt708.1, bt708.2))) else (some (bt694.1, bt694.2.1, bt698.2)))))) = some (r1, r2, r3) := h
 clear h
 replace H := Option.bind_eq_some_iff.mp H
 obtain ⟨⟨t694, t695, t696⟩, A20, H⟩ := H
 try dsimp only at H
 have A2 := z0 A20
 clear A20
 replace H := Option.bind_eq_some_iff.mp H
 obtain ⟨⟨t698, t699⟩, A30, H⟩ := H
 try dsimp only at H
 have A3 := z0 A30
 clear A30
 have HF4 := z0 H
 clear H
 go_enter Try.func107, Try.ntmps107
 go_upto_if 8 with (first | ((with_reducible refine gate_dst (N := 2) rfl ?_); refine box_event ?hg (N := 2) ?hd (cs := #[.int .i64 0, .int .i64 0]) (t := 29) ?hr ?_; (case hd => rfl); (case hg => rfl); (case hr => first | (go_simp; done) | (go_simp; rfl)); intro gb693 hg w5 hbox hb; have n_ := az (IsS132.below (mI132_1 HI0.out) hb) <| az (KeepBut.trans (mKp HK.out) (KeepBut.of_below hb g none) (.inl rfl)) <| az (below_step (mB132HI0 HB.out) hb) <| az (hbox) <| az ((gW hg HK.out)) <| az ((Nat.le_trans HW0.out (gW hg HK.out) : w0.heap.size ≤ gb693)) <| az ((by rw [hg]; exact Nat.ne_of_lt (IsS132.lt (show IsS132 w0 _ g s0_0 s0_1 from mI132_1 HI0.out)) : g ≠ gb693)) <| z0 ((by rw [hg]; exact Nat.ne_of_gt (IsS132.lt (show IsS132 w0 _ g s0_0 s0_1 from mI132_1 HI0.out)) : gb693 ≠ g)); clear HI0 HK HB; obtain ⟨HI0, HK, HB, BK693, GW693, GE693, NB0_693, NB693_0⟩ := n_; clear hb hbox hg) | ((with_reducible refine gate_callee (f := 126) rfl ?_); refine goesL_ (some 5) rfl rfl Try.func126 (by kernel_rfl) rfl #[.pointer (some ⟨g, 0, none⟩)] rfl argx ?_; (with_reducible refine (spec_l2Addr.calls k g s0_0 s0_1 t694 t695 t696 w0 _ ?side1 ?side2 A2.out).mono ?_); (case side1 => exact mI132_1 HI0.out); (case side2 => exact mB132HI0 HB.out); rintro e w6 ⟨rfl, hi, hb, hk⟩; refine ⟨_, rfl, ?_⟩; have n_ := az (kB hk BK693.out NB693_0.out) <| az (KeepBut.trans (mKp HK.out) hk (.inl rfl)) <| az (hb) <| z0 (hi); clear BK693 HK HB HI0; obtain ⟨BK693, HK, HB, HI0⟩ := n_; clear hb hk hi) | ((with_reducible refine gate_dst (N := 3) rfl ?_); refine box_event ?hg (N := 3) ?hd (cs := #[.int .i64 0, .int .i64 0]) (t := 29) ?hr ?_; (case hd => rfl); (case hg => rfl); (case hr => first | (go_simp; done) | (go_simp; rfl)); intro gb697 hg w7 hbox hb; have n_ := az (IsS132.below (mI132_1 HI0.out) hb) <| az (bB BK693.out hb) <| az (KeepBut.trans (mKp HK.out) (KeepBut.of_below hb g none) (.inl rfl)) <| az (below_step (mB132HI0 HB.out) hb) <| az (hbox) <| az ((gW hg HK.out)) <| az ((Nat.le_trans HW0.out (gW hg HK.out) : w0.heap.size ≤ gb697)) <| az ((nL hg BK693.out)) <| az ((nG hg BK693.out)) <| az ((by rw [hg]; exact Nat.ne_of_lt (IsS132.lt (show IsS132 w0 _ g s0_0 t696 from mI132_1 HI0.out)) : g ≠ gb697)) <| z0 ((by rw [hg]; exact Nat.ne_of_gt (IsS132.lt (show IsS132 w0 _ g s0_0 t696 from mI132_1 HI0.out)) : gb697 ≠ g)); clear HI0 BK693 HK HB; obtain ⟨HI0, BK693, HK, HB, BK697, GW697, GE697, NB693_697, NB697_693, NB0_697, NB697_0⟩ := n_; clear hb hbox hg; have hnb8 := NB697_693.out; have hnc8 := NB693_697.out; have hnb9 := NB697_0.out; have hnc9 := NB0_697.out; obtain ⟨hcz10_0, hcz10_1, hfz10_0, hfz10_1⟩ := cel2 BK697.out) | ((with_reducible refine gate_callee (f := 105) rfl ?_); refine goesL_ (some 7) rfl rfl Try.func105 (by kernel_rfl) rfl #[.pointer (some ⟨g, 0, none⟩), .int .i64 16] rfl argx ?_; (with_reducible refine (spec_l12Rd_pick.calls k g s0_0 t696 16 t698 t699 w0 _ ?side1 ?side2 A3.out).mono ?_); (case side1 => exact mI132_1 HI0.out); (case side2 => exact mB132HI0 HB.out); rintro e w11 ⟨rfl, hi, hb, hk⟩; refine ⟨_, rfl, ?_⟩; have n_ := az (KeepBut.blk hk (g' := gb693) (o := .cells #[.int .i64 0, .int .i64 0] 29 (0, 0)) (mF BK693.out) NB693_0.out (by simp)) <| az (KeepBut.blk hk (g' := gb697) (o := .cells #[.int .i64 t694, .int .i64 t695] 29 (0, 0)) (by (with_reducible repeat (first | refine blk_drewN ?_ _ | refine blk_drew ?_ | refine blk_alloc ?_ _)); refine blk_put (cs := #[.int .i64 t694, .int .i64 0]) ?_ 1 _ rfl; (with_reducible repeat (first | refine blk_drewN ?_ _ | refine blk_drew ?_ | refine blk_alloc ?_ _)); refine blk_put (cs := #[.int .i64 0, .int .i64 0]) ?_ 0 _ rfl; (with_reducible repeat (first | refine blk_drewN ?_ _ | refine blk_drew ?_ | refine blk_alloc ?_ _)); exact BK697.out) NB697_0.out (by simp)) <| az (KeepBut.trans (mKp HK.out) hk (.inl rfl)) <| az (hb) <| z0 (hi); clear BK693 BK697 HK HB HI0; obtain ⟨BK693, BK697, HK, HB, HI0⟩ := n_; clear hb hk hi))
 (try simp only [Act.put, List.setIfInBounds_toArray, List.set_cons_zero, List.set_cons_succ])
 have H := HF4.out
 clear HF4
 (try clear hcz10_0); (try clear hcz10_1); (try clear hfz10_0); (try clear hfz10_1)
 by_cases c12 : t698 = 0
 ·rw [if_pos c12] at H
  have c12b0 : (t698 == 0) = true := beq_iff_eq.mpr c12
  have c12b1 : (t698 != 0) = false := bne_eq_false_iff_eq.mpr c12
  clear c12
  (first | rw [c12b0] | (simp only [i64_w, i32_w]; rw [c12b0]) | skip)
  obtain ⟨y700, hy700⟩ : ∃ y_ : List Int, y_ = (([0, 4, (-1)] : List Int)) := ⟨_, rfl⟩
  replace H : ((spec_l12Rd_num.f k s0_0 t699 y700).bind fun bt703 => (some (bt703.1, t695, bt703.2))) = some (r1, r2, r3) := by first | (rw [hy700]; with_reducible exact H) | (have H2_ := (Option.bind_some _ _).symm.trans H; rw [hy700]; with_reducible exact H2_) | (have H2_ := (Option.bind_some _ _).symm.trans H; with_reducible exact H2_) | with_reducible exact H | (rw [hy700]; exact H) | exact H
  have Ny700 := z0 hy700
  clear hy700
  replace H := Option.bind_eq_some_iff.mp H
  obtain ⟨⟨t703, t704⟩, A130, H⟩ := H
  try dsimp only at H
  have A13 := z0 A130
  clear A130
  simp only [Option.some.injEq, Prod.mk.injEq] at H
  obtain ⟨rfl, rfl, rfl⟩ := H
  go_wp2_with (first | ((with_reducible refine gate_dst (N := 11) rfl ?_); refine Kd.R_lit (Kd.int .i64) _ 3 ?hg (N := 11) ?hd (xs := ([0, 4, (-1)] : List Int)) (inner := [.int .i64 0, .int .i64 4, .int .i64 (-1)]) (ok := fun _ => True) (okp := fun _ => True) ?hr ?hp (fun _ hk => hk) trivial (Below.refl _ _) (Nat.le_refl _) (by simp) ?_; (case hd => rfl); (case hg => rfl); (case hr => first | (go_simp; done) | (go_simp; rfl)); (case hp => exact (Reps.one (show Kd.M (Kd.int .i64) _ _ _ 0 [.int .i64 0] from rfl) (Reps.one (show Kd.M (Kd.int .i64) _ _ _ 4 [.int .i64 4] from rfl) (Reps.one (show Kd.M (Kd.int .i64) _ _ _ (-1) [.int .i64 (-1)] from rfl) (Reps.none _ _))))); intro v701 w14 ho15 hb hg_ hnew_; clear hg_ hnew_; (first | rw [← Ny700.out] at ho15 | (simp only [Int.reduceToNat] at ho15; rw [← Ny700.out] at ho15)); have n_ := az (Kd.R_lower ho15 (kS HK.out)) <| az (IsS132.below (mI132_1 HI0.out) hb) <| az (bB BK693.out hb) <| az (bB BK697.out hb) <| az (KeepBut.trans (mKp HK.out) (KeepBut.of_below hb g none) (.inl rfl)) <| z0 (below_step (mB132HI0 HB.out) hb); clear HI0 BK693 BK697 HK HB; obtain ⟨HO702, HI0, BK693, BK697, HK, HB⟩ := n_; clear hb ho15; obtain ⟨Ao16, co16, eo16⟩ := Kd.R_slice HO702.out; subst eo16) | ((with_reducible refine gate_callee (f := 106) rfl ?_); refine goesL_ (some 12) rfl rfl Try.func106 (by kernel_rfl) rfl #[.pointer (some ⟨g, 0, none⟩), .slice Ao16 y700.length co16] rfl argx ?_; (with_reducible refine (spec_l12Rd_num.calls k g s0_0 t699 _ _ y700 t703 t704 w0 _ ?side1 ?side2 ?side3 ?side4 ?side5 A13.out).mono ?_); (case side1 => exact mI132_1 HI0.out); (case side2 => exact mB132HI0 HB.out); (case side3 => exact mC (Kd.R_reads' HO702.out).2.2); (case side4 => exact (Kd.R_reads' HO702.out).2.1); (case side5 => exact far_slice (IsS132.own_ne HI0.out HO702.out (by decide))); rintro e w17 ⟨rfl, hi, hb, hk⟩; refine ⟨_, rfl, ?_⟩; have n_ := az (kB hk BK693.out NB693_0.out) <| az (kB hk BK697.out NB697_0.out) <| az (Kd.R_mono (Kd.R_keep (IsS132.apart (show IsS132 w0 _ g s0_0 t699 from mI132_1 HI0.out) (mR HO702.out) (by decide)) hk (fun _ h => h.2)) (fun _ h => h.1)) <| az (KeepBut.trans (mKp HK.out) hk (.inl rfl)) <| az (hb) <| z0 (hi); clear BK693 BK697 HO702 HK HB HI0; obtain ⟨BK693, BK697, HO702, HK, HB, HI0⟩ := n_; clear hb hk hi; have hnb18 := NB697_693.out; have hnc18 := NB693_697.out; have hnb19 := NB697_0.out; have hnc19 := NB0_697.out; obtain ⟨hcz20_0, hcz20_1, hfz20_0, hfz20_1⟩ := cel2 BK697.out; have hnb21 := NB693_0.out; have hnc21 := NB0_693.out; obtain ⟨hcz22_0, hcz22_1, hfz22_0, hfz22_1⟩ := cel2 BK693.out))
  refine bodyPost_ret (results_cell_row rfl _ _ gb693 29 #[.int .i64 t703, .int .i64 t695] (0, 0) _ rfl (by (with_reducible repeat (first | refine blk_drewN ?_ _ | refine blk_drew ?_ | refine blk_alloc ?_ _)); refine blk_put (cs := #[.int .i64 t703, .int .i64 0]) ?_ 1 _ rfl; (with_reducible repeat (first | refine blk_drewN ?_ _ | refine blk_drew ?_ | refine blk_alloc ?_ _)); refine blk_put (cs := #[.int .i64 0, .int .i64 0]) ?_ 0 _ rfl; (with_reducible repeat (first | refine blk_drewN ?_ _ | refine blk_drew ?_ | refine blk_alloc ?_ _)); refine blk_far ?_ NB693_697.out _; (with_reducible repeat (first | refine blk_drewN ?_ _ | refine blk_drew ?_ | refine blk_alloc ?_ _)); exact BK693.out) Try.underlying29 rfl (by kernel_rfl)) rfl ?_
  exact ⟨rfx, mI132_1 HI0.out, mB132HI0 HB.out, mKp HK.out⟩
 ·rw [if_neg c12] at H
  have c12b0 : (t698 == 0) = false := beq_eq_false_iff_ne.mpr c12
  have c12b1 : (t698 != 0) = true := bne_iff_ne.mpr c12
  (first | rw [c12b0] | (simp only [i64_w, i32_w]; rw [c12b0]) | skip)
  by_cases c23 : t698 = 1
  ·rw [if_pos c23] at H
   have c23b0 : (t698 == 1) = true := beq_iff_eq.mpr c23
   have c23b1 : (t698 != 1) = false := bne_eq_false_iff_eq.mpr c23
   clear c23
   obtain ⟨y705, hy705⟩ : ∃ y_ : List Int, y_ = (([(-1), 6, 5] : List Int)) := ⟨_, rfl⟩
   replace H : ((spec_l12Rd_num.f k s0_0 t699 y705).bind fun bt708 => (some (t694, bt708.1, bt708.2))) = some (r1, r2, r3) := by first | (rw [hy705]; with_reducible exact H) | (have H2_ := (Option.bind_some _ _).symm.trans H; rw [hy705]; with_reducible exact H2_) | (have H2_ := (Option.bind_some _ _).symm.trans H; with_reducible exact H2_) | with_reducible exact H | (rw [hy705]; exact H) | exact H
   have Ny705 := z0 hy705
   clear hy705
   replace H := Option.bind_eq_some_iff.mp H
   obtain ⟨⟨t708, t709⟩, A240, H⟩ := H
   try dsimp only at H
   have A24 := z0 A240
   clear A240
   simp only [Option.some.injEq, Prod.mk.injEq] at H
   obtain ⟨rfl, rfl, rfl⟩ := H
   go_wp2_with (first | ((with_reducible refine gate_dst (N := 17) rfl ?_); refine Kd.R_lit (Kd.int .i64) _ 3 ?hg (N := 17) ?hd (xs := ([(-1), 6, 5] : List Int)) (inner := [.int .i64 (-1), .int .i64 6, .int .i64 5]) (ok := fun _ => True) (okp := fun _ => True) ?hr ?hp (fun _ hk => hk) trivial (Below.refl _ _) (Nat.le_refl _) (by simp) ?_; (case hd => rfl); (case hg => rfl); (case hr => first | (go_simp; done) | (go_simp; rfl)); (case hp => exact (Reps.one (show Kd.M (Kd.int .i64) _ _ _ (-1) [.int .i64 (-1)] from rfl) (Reps.one (show Kd.M (Kd.int .i64) _ _ _ 6 [.int .i64 6] from rfl) (Reps.one (show Kd.M (Kd.int .i64) _ _ _ 5 [.int .i64 5] from rfl) (Reps.none _ _))))); intro v706 w25 ho26 hb hg_ hnew_; clear hg_ hnew_; (first | rw [← Ny705.out] at ho26 | (simp only [Int.reduceToNat] at ho26; rw [← Ny705.out] at ho26)); have n_ := az (Kd.R_lower ho26 (kS HK.out)) <| az (IsS132.below (mI132_1 HI0.out) hb) <| az (bB BK693.out hb) <| az (bB BK697.out hb) <| az (KeepBut.trans (mKp HK.out) (KeepBut.of_below hb g none) (.inl rfl)) <| z0 (below_step (mB132HI0 HB.out) hb); clear HI0 BK693 BK697 HK HB; obtain ⟨HO707, HI0, BK693, BK697, HK, HB⟩ := n_; clear hb ho26; obtain ⟨Ao27, co27, eo27⟩ := Kd.R_slice HO707.out; subst eo27) | ((with_reducible refine gate_callee (f := 106) rfl ?_); refine goesL_ (some 18) rfl rfl Try.func106 (by kernel_rfl) rfl #[.pointer (some ⟨g, 0, none⟩), .slice Ao27 y705.length co27] rfl argx ?_; (with_reducible refine (spec_l12Rd_num.calls k g s0_0 t699 _ _ y705 t708 t709 w0 _ ?side1 ?side2 ?side3 ?side4 ?side5 A24.out).mono ?_); (case side1 => exact mI132_1 HI0.out); (case side2 => exact mB132HI0 HB.out); (case side3 => exact mC (Kd.R_reads' HO707.out).2.2); (case side4 => exact (Kd.R_reads' HO707.out).2.1); (case side5 => exact far_slice (IsS132.own_ne HI0.out HO707.out (by decide))); rintro e w28 ⟨rfl, hi, hb, hk⟩; refine ⟨_, rfl, ?_⟩; have n_ := az (kB hk BK693.out NB693_0.out) <| az (kB hk BK697.out NB697_0.out) <| az (Kd.R_mono (Kd.R_keep (IsS132.apart (show IsS132 w0 _ g s0_0 t699 from mI132_1 HI0.out) (mR HO707.out) (by decide)) hk (fun _ h => h.2)) (fun _ h => h.1)) <| az (KeepBut.trans (mKp HK.out) hk (.inl rfl)) <| az (hb) <| z0 (hi); clear BK693 BK697 HO707 HK HB HI0; obtain ⟨BK693, BK697, HO707, HK, HB, HI0⟩ := n_; clear hb hk hi; have hnb29 := NB697_693.out; have hnc29 := NB693_697.out; have hnb30 := NB697_0.out; have hnc30 := NB0_697.out; obtain ⟨hcz31_0, hcz31_1, hfz31_0, hfz31_1⟩ := cel2 BK697.out; have hnb32 := NB693_0.out; have hnc32 := NB0_693.out; obtain ⟨hcz33_0, hcz33_1, hfz33_0, hfz33_1⟩ := cel2 BK693.out))
   refine bodyPost_ret (results_cell_row rfl _ _ gb693 29 #[.int .i64 t694, .int .i64 t708] (0, 0) _ rfl (by (with_reducible repeat (first | refine blk_drewN ?_ _ | refine blk_drew ?_ | refine blk_alloc ?_ _)); refine blk_put (cs := #[.int .i64 t694, .int .i64 0]) ?_ 1 _ rfl; (with_reducible repeat (first | refine blk_drewN ?_ _ | refine blk_drew ?_ | refine blk_alloc ?_ _)); refine blk_put (cs := #[.int .i64 0, .int .i64 0]) ?_ 0 _ rfl; (with_reducible repeat (first | refine blk_drewN ?_ _ | refine blk_drew ?_ | refine blk_alloc ?_ _)); refine blk_far ?_ NB693_697.out _; (with_reducible repeat (first | refine blk_drewN ?_ _ | refine blk_drew ?_ | refine blk_alloc ?_ _)); exact BK693.out) Try.underlying29 rfl (by kernel_rfl)) rfl ?_
   exact ⟨rfx, mI132_1 HI0.out, mB132HI0 HB.out, mKp HK.out⟩
  ·rw [if_neg c23] at H
   have c23b0 : (t698 == 1) = false := beq_eq_false_iff_ne.mpr c23
   have c23b1 : (t698 != 1) = true := bne_iff_ne.mpr c23
   simp only [Option.some.injEq, Prod.mk.injEq] at H
   obtain ⟨rfl, rfl, rfl⟩ := H
   have hnb34 := NB697_693.out
   have hnc34 := NB693_697.out
   have hnb35 := NB697_0.out
   have hnc35 := NB0_697.out
   obtain ⟨hcz36_0, hcz36_1, hfz36_0, hfz36_1⟩ := cel2 BK697.out
   have hnb37 := NB693_0.out
   have hnc37 := NB0_693.out
   obtain ⟨hcz38_0, hcz38_1, hfz38_0, hfz38_1⟩ := cel2 BK693.out
   go_wp2
   refine bodyPost_ret (results_cell_row rfl _ _ gb693 29 #[.int .i64 t694, .int .i64 t695] (0, 0) _ rfl (pF BK693.out) Try.underlying29 rfl (by kernel_rfl)) rfl ?_
   exact ⟨rfx, mI132_1 HI0.out, mB132HI0 HB.out, mKp HK.out⟩

end Go.Proofs.Ytiofkhfmdophpaa.B
