/- impl.ChartSame: two charts are the same. -/
import Derived.Test.YtlmchfcfkfegaaaFuncsTr
import Derived.Test.YtlmchfcfkfegaaaZAlike
import Derived.Test.YtlmchfcfkfegaaaEnds
import Derived.Test.YtlmchfcfkfegaaaChNames
import Derived.Test.YtlmchfcfkfegaaaPkB
namespace Go.Proofs.Ytlmchfcfkfegaaa.B
open Go.RowKit Go.Shelf Go.Proofs.YtlmchfcfkfegaaaW.PrintWords Go.Proofs.YtlmchfcfkfegaaaW.PrintLast Go.Proofs.YtlmchfcfkfegaaaW.PrintMore
set_option linter.unusedVariables false

/-- Two rows are as long, and each pair is alike. -/
def eqR {α : Type} (rd : List α → Int → α) (p : α → α → Bool) (l m : List α) : Bool := l.length == m.length && (List.range l.length).all fun j => p (rd l (j : Int)) (rd m (j : Int))
theorem all_loop {L : Nat → Int → Option Bool} {p : Nat → Bool} {b : Bool} (n : Nat) (hend : Ends (fun k => L k (n : Int)) b) (hstep : ∀ j r, j < n → Ends (fun k => L k ((j + 1 : Nat) : Int)) r → Ends (fun k => L k (j : Int)) (p j && r)) :
  Ends (fun k => L k 0) ((List.range n).all p && b) := by
 have h : ∀ d j, j + d = n → Ends (fun k => L k (j : Int)) ((List.range' j d).all p && b) := by
  intro d
  induction d with
  | zero =>
   intro j hj
   obtain rfl : j = n := by omega
   exact hend
  | succ d ih =>
   intro j hj
   rw [List.range'_succ, List.all_cons, Bool.and_assoc]
   exact hstep j _ (by omega) (ih (j + 1) (by omega))
 have := h n 0 (by omega)
 rw [← List.range_eq_range'] at this
 exact this
theorem eqI_ends (l m : List Int) (hl : l.length ≤ 9223372036854775807) : Ends (fun k => slices_Equal_int_int.f k l m) (eqR rd (fun a b => a == b) l m) := by
 unfold eqR
 by_cases h : l.length = m.length
 ·rw [show (l.length == m.length) = true from beq_iff_eq.2 h, Bool.true_and]
  have := all_loop (L := fun k j => slices_Equal_int_int.l0 k l m (l.length : Int) j) (p := fun j => rd l j == rd m j) (b := true) l.length (Ends.succ (fun k => by rw [slices_Equal_int_int.l0, if_neg (by omega)]) (Ends.const fun k => rfl)) (fun j r hj hr => ?_)
  ·rw [Bool.and_true] at this
   exact this.of fun k => by rw [slices_Equal_int_int.f, if_pos (by omega)]
  ·have hw : wrap64 ((j : Int) + 1) = ((j + 1 : Nat) : Int) := by rw [wrap_in (by omega) (by omega)]; omega
   cases he : (rd l (j : Int) == rd m (j : Int)) with
   | true => exact Ends.succ (fun k => by rw [slices_Equal_int_int.l0, if_pos (by omega), if_pos (by omega), if_pos (by omega), if_pos (by omega), if_pos (beq_iff_eq.1 he), hw]) (by rw [Bool.true_and]; exact hr)
   | false => exact Ends.succ (g := fun _ => some false) (fun k => by rw [slices_Equal_int_int.l0, if_pos (by omega), if_pos (by omega), if_pos (by omega), if_pos (by omega), if_neg (by simpa using he)]) (Ends.const fun k => rfl)
 ·rw [show (l.length == m.length) = false from beq_false_of_ne h, Bool.false_and]
  exact Ends.const fun k => by rw [slices_Equal_int_int.f, if_neg (by omega)]
def acSameL (x y : IAc) : Bool := x.f0 == y.f0 && (x.f1 == y.f1 && (x.f2.f0 == y.f2.f0 && x.f2.f1 == y.f2.f1))
theorem eqAc_ends (l m : List IAc) (hl : l.length ≤ 9223372036854775807) : Ends (fun k => impl_Act_41.f k l m) (eqR rd_T92 acSameL l m) := by
 unfold eqR
 by_cases h : l.length = m.length
 ·rw [show (l.length == m.length) = true from beq_iff_eq.2 h, Bool.true_and]
  have := all_loop (L := fun k j => impl_Act_41.l0 k l m (l.length : Int) j) (p := fun j => acSameL (rd_T92 l j) (rd_T92 m j)) (b := true) l.length (Ends.succ (fun k => by rw [impl_Act_41.l0, if_neg (by omega)]) (Ends.const fun k => rfl)) (fun j r hj hr => ?_)
  ·rw [Bool.and_true] at this
   exact this.of fun k => by rw [impl_Act_41.f, if_pos (by omega)]
  ·have hw : wrap64 ((j : Int) + 1) = ((j + 1 : Nat) : Int) := by rw [wrap_in (by omega) (by omega)]; omega
   cases he : acSameL (rd_T92 l (j : Int)) (rd_T92 m (j : Int)) with
   | true => exact Ends.succ (fun k => by rw [impl_Act_41.l0, if_pos (by omega), if_pos (by omega), if_pos (by omega), if_pos (by omega), if_neg (by rw [acSameL] at he; simpa [Bool.and_assoc] using he), hw]) (by rw [Bool.true_and]; exact hr)
   | false => exact Ends.succ (g := fun _ => some false) (fun k => by rw [impl_Act_41.l0, if_pos (by omega), if_pos (by omega), if_pos (by omega), if_pos (by omega), if_pos (by rw [acSameL] at he; revert he; cases (rd_T92 l (j : Int)).f0 == (rd_T92 m (j : Int)).f0 <;> cases (rd_T92 l (j : Int)).f1 == (rd_T92 m (j : Int)).f1 <;> cases (rd_T92 l (j : Int)).f2.f0 == (rd_T92 m (j : Int)).f2.f0 <;> cases (rd_T92 l (j : Int)).f2.f1 == (rd_T92 m (j : Int)).f2.f1 <;> decide)]) (Ends.const fun k => rfl)
 ·rw [show (l.length == m.length) = false from beq_false_of_ne h, Bool.false_and]
  exact Ends.const fun k => by rw [impl_Act_41.f, if_neg (by omega)]
theorem eqI_any (l m : List Int) (A B : Option Addr) (c d : Nat) (w : World) (hC : Kd.C (Kd.int .i64) w A l.length l) (hc : l.length ≤ c) (hD : Kd.C (Kd.int .i64) w B m.length m) (hd : m.length ≤ d) :
  Calls Try.prog 38 #[.slice A l.length c, .slice B m.length d] w fun e w' => e = .returned (.bool (eqR rd (fun a b => a == b) l m)) ∧ Drawn0 w w' := by
 obtain ⟨K, hK⟩ := eqI_ends l m hC.2.1
 exact slices_Equal_int_int.calls K A c l B d m _ w hC hc hD hd (hK K (Nat.le_refl _))
theorem eqAc_any (l m : List IAc) (A B : Option Addr) (c d : Nat) (w : World) (hC : Kd.C k92 w A l.length l) (hc : l.length ≤ c) (hD : Kd.C k92 w B m.length m) (hd : m.length ≤ d) :
  Calls Try.prog 41 #[.slice A l.length c, .slice B m.length d] w fun e w' => e = .returned (.bool (eqR rd_T92 acSameL l m)) ∧ Drawn0 w w' := by
 obtain ⟨K, hK⟩ := eqAc_ends l m hC.2.1
 exact impl_Act_41.calls K A c l B d m _ w hC hc hD hd (hK K (Nat.le_refl _))
/-- Two ways are the same. -/
def trSameL (x y : ITr) : Bool := eqR rd (fun a b => a == b) x.f0 y.f0 && (eqR rd (fun a b => a == b) x.f1 y.f1 && alikeL x.f2 y.f2)
set_option maxRecDepth 100000 in
set_option maxHeartbeats 4000000 in
theorem trSame_any (x y : ITr) (A0 : Option Addr) (c0 : Nat) (A1 : Option Addr) (c1 : Nat) (A6 : Option Addr) (c6 : Nat) (B0 : Option Addr) (d0 : Nat) (B1 : Option Addr) (d1 : Nat) (B6 : Option Addr) (d6 : Nat) (w : World)
  (h0 : Kd.C (Kd.int .i64) w A0 x.f0.length x.f0) (n0 : x.f0.length ≤ c0) (h1 : Kd.C (Kd.int .i64) w A1 x.f1.length x.f1) (n1 : x.f1.length ≤ c1) (h6 : Kd.C k50 w A6 x.f2.f3.length x.f2.f3) (n6 : x.f2.f3.length ≤ c6)
  (g0 : Kd.C (Kd.int .i64) w B0 y.f0.length y.f0) (m0 : y.f0.length ≤ d0) (g1 : Kd.C (Kd.int .i64) w B1 y.f1.length y.f1) (m1 : y.f1.length ≤ d1) (g6 : Kd.C k50 w B6 y.f2.f3.length y.f2.f3) (m6 : y.f2.f3.length ≤ d6) :
  Calls Try.prog 37 #[.agg #[.slice A0 x.f0.length c0, .slice A1 x.f1.length c1, .int .i64 x.f2.f0, .int .i64 x.f2.f1, .int .i64 x.f2.f2.f0, .int .i64 x.f2.f2.f1, .slice A6 x.f2.f3.length c6], .agg #[.slice B0 y.f0.length d0, .slice B1 y.f1.length d1, .int .i64 y.f2.f0, .int .i64 y.f2.f1, .int .i64 y.f2.f2.f0, .int .i64 y.f2.f2.f1, .slice B6 y.f2.f3.length d6]] w fun e w' => e = .returned (.bool (trSameL x y)) ∧ Below w.heap.size w w' := by
 have hB0 : Below w.heap.size w ((w.alloc (.cells #[.slice A0 x.f0.length c0, .slice A1 x.f1.length c1, .int .i64 x.f2.f0, .int .i64 x.f2.f1, .int .i64 x.f2.f2.f0, .int .i64 x.f2.f2.f1, .slice A6 x.f2.f3.length c6] 52)).alloc (.cells #[.slice B0 y.f0.length d0, .slice B1 y.f1.length d1, .int .i64 y.f2.f0, .int .i64 y.f2.f1, .int .i64 y.f2.f2.f0, .int .i64 y.f2.f2.f1, .slice B6 y.f2.f3.length d6] 52)) := ((Below.refl _ _).alloc (Nat.le_refl _) _).alloc (by simp) _
 have HB := Aside0.mk hB0
 have H0 := Aside0.mk (fun (W : World) (hW : Below w.heap.size w W) => eqI_any x.f0 y.f0 A0 B0 c0 d0 W (Kd.C_below h0 hW) n0 (Kd.C_below g0 hW) m0)
 have H1 := Aside0.mk (fun (W : World) (hW : Below w.heap.size w W) => eqI_any x.f1 y.f1 A1 B1 c1 d1 W (Kd.C_below h1 hW) n1 (Kd.C_below g1 hW) m1)
 have H2 := Aside0.mk (fun (W : World) (hW : Below w.heap.size w W) => (alike_any x.f2 y.f2 A6 B6 c6 d6 W (Kd.C_below h6 hW) n6 (Kd.C_below g6 hW) m6).mono (R' := fun e w' => e = .returned (.bool (alikeL x.f2 y.f2)) ∧ Below w.heap.size w w') (fun e w' h => ⟨h.1, hW.trans (h.2.mono hW.size)⟩))
 clear hB0 h0 n0 h1 n1 h6 n6 g0 m0 g1 m1 g6 m6
 obtain ⟨r0, hr0⟩ : ∃ r, r = eqR rd (fun a b => a == b) x.f0 y.f0 := ⟨_, rfl⟩
 obtain ⟨r1, hr1⟩ : ∃ r, r = eqR rd (fun a b => a == b) x.f1 y.f1 := ⟨_, rfl⟩
 have HE := Aside0.mk (show trSameL x y = (r0 && (r1 && alikeL x.f2 y.f2)) by rw [hr0, hr1]; rfl)
 rw [← hr0] at H0
 rw [← hr1] at H1
 clear hr0 hr1
 cases r0 with
 | false =>
  go_enter Try.func37, Try.ntmps37
  go_wp2_with fail
  refine (H0.out _ HB.out).mono ?_
  rintro e w1 ⟨rfl, k1, rfl⟩
  go_wp2
  go_ret
  exact ⟨by rw [HE.out]; rfl, by repeat (first | (with_reducible first | exact HB.out | apply below_alloc | apply pw_below_drewN | apply below_drew1) | exact HB.out)⟩
 | true =>
  cases r1 with
  | false =>
   go_enter Try.func37, Try.ntmps37
   go_wp2_with fail
   refine (H0.out _ HB.out).mono ?_
   rintro e w1 ⟨rfl, k1, rfl⟩
   go_wp2_with fail
   refine (H1.out _ (by repeat (first | (with_reducible first | exact HB.out | apply below_alloc | apply pw_below_drewN | apply below_drew1) | exact HB.out))).mono ?_
   rintro e w2 ⟨rfl, k2, rfl⟩
   go_wp2
   go_ret
   exact ⟨by rw [HE.out]; rfl, by repeat (first | (with_reducible first | exact HB.out | apply below_alloc | apply pw_below_drewN | apply below_drew1) | exact HB.out)⟩
  | true =>
   go_enter Try.func37, Try.ntmps37
   go_wp2_with fail
   refine (H0.out _ HB.out).mono ?_
   rintro e w1 ⟨rfl, k1, rfl⟩
   go_wp2_with fail
   refine (H1.out _ (by repeat (first | (with_reducible first | exact HB.out | apply below_alloc | apply pw_below_drewN | apply below_drew1) | exact HB.out))).mono ?_
   rintro e w2 ⟨rfl, k2, rfl⟩
   go_wp2_with fail
   refine (H2.out _ (by repeat (first | (with_reducible first | exact HB.out | apply below_alloc | apply pw_below_drewN | apply below_drew1) | exact HB.out))).mono ?_
   rintro e w3 ⟨rfl, hb3⟩
   have HB3 := Aside0.mk hb3
   clear hb3
   go_wp2
   go_ret
   exact ⟨by rw [HE.out]; rfl, HB3.out⟩
/-- Two charts are the same. -/
def chSameL (s : Int) (l : List ITr) (m : List IAc) (s' : Int) (l' : List ITr) (m' : List IAc) : Bool := s == s' && (eqLTr trSameL l l' && eqR rd_T92 acSameL m m')
set_option maxRecDepth 100000 in
set_option maxHeartbeats 4000000 in
theorem chSame_any (s : Int) (l : List ITr) (m : List IAc) (s' : Int) (l' : List ITr) (m' : List IAc) (A1 : Option Addr) (c1 : Nat) (A2 : Option Addr) (c2 : Nat) (B1 : Option Addr) (d1 : Nat) (B2 : Option Addr) (d2 : Nat) (w : World)
  (h1 : Kd.C k52 w A1 l.length l) (n1 : l.length ≤ c1) (h2 : Kd.C k92 w A2 m.length m) (n2 : m.length ≤ c2) (g1 : Kd.C k52 w B1 l'.length l') (m1 : l'.length ≤ d1) (g2 : Kd.C k92 w B2 m'.length m') (m2 : m'.length ≤ d2) :
  Calls Try.prog 11 #[.agg #[.int .i64 s, .slice A1 l.length c1, .slice A2 m.length c2], .agg #[.int .i64 s', .slice B1 l'.length d1, .slice B2 m'.length d2]] w fun e w' => e = .returned (.bool (chSameL s l m s' l' m')) ∧ Below w.heap.size w w' := by
 have hB0 : Below w.heap.size w ((w.alloc (.cells #[.int .i64 s, .slice A1 l.length c1, .slice A2 m.length c2] 31)).alloc (.cells #[.int .i64 s', .slice B1 l'.length d1, .slice B2 m'.length d2] 31)) := ((Below.refl _ _).alloc (Nat.le_refl _) _).alloc (by simp) _
 have HB := Aside0.mk hB0
 have H1 := Aside0.mk (fun (W : World) (hW : Below w.heap.size w W) => (equalFuncTr_any 37 #[] trSameL (enters_of Try.func37 (by kernel_rfl) rfl) l l' A1 B1 c1 d1 W (fun x y A0 c0 A1 c1 A6 c6 B0 d0 B1 d1 B6 d6 W' hx hy hb a0 b0 a1 b1 a6 b6 e0 f0 e1 f1 e6 f6 => by simpa using trSame_any x y A0 c0 A1 c1 A6 c6 B0 d0 B1 d1 B6 d6 W' a0 b0 a1 b1 a6 b6 e0 f0 e1 f1 e6 f6) (Kd.C_below h1 hW) (Kd.C_below g1 hW) n1 m1).mono (R' := fun e w' => e = .returned (.bool (eqLTr trSameL l l')) ∧ Below w.heap.size w w' ∧ Below W.heap.size W w') (fun e w' h => ⟨h.1, hW.trans (h.2.mono hW.size), h.2⟩))
 have H2 := Aside0.mk (fun (W : World) (hW : Below w.heap.size w W) => (eqAc_any m m' A2 B2 c2 d2 W (Kd.C_below h2 hW) n2 (Kd.C_below g2 hW) m2).mono (R' := fun e w' => e = .returned (.bool (eqR rd_T92 acSameL m m')) ∧ Below w.heap.size w w') (fun e w' h => ⟨h.1, hW.trans (h.2.below.mono hW.size)⟩))
 have HQ := Aside0.mk (fun (W : World) (hW : Below w.heap.size w W) => trivial)
 have hx0 : ((w.alloc (.cells #[.int .i64 s, .slice A1 l.length c1, .slice A2 m.length c2] 31)).alloc (.cells #[.int .i64 s', .slice B1 l'.length d1, .slice B2 m'.length d2] 31)).heap[w.heap.size]? = some (.cells #[.int .i64 s, .slice A1 l.length c1, .slice A2 m.length c2] 31 (0, 0)) := by rw [heap_alloc_old _ _ (by simp)]; exact heap_alloc_new w _
 have hy0 : ((w.alloc (.cells #[.int .i64 s, .slice A1 l.length c1, .slice A2 m.length c2] 31)).alloc (.cells #[.int .i64 s', .slice B1 l'.length d1, .slice B2 m'.length d2] 31)).heap[(w.alloc (.cells #[.int .i64 s, .slice A1 l.length c1, .slice A2 m.length c2] 31)).heap.size]? = some (.cells #[.int .i64 s', .slice B1 l'.length d1, .slice B2 m'.length d2] 31 (0, 0)) := heap_alloc_new _ _
 have HX := Aside0.mk (And.intro hx0 hy0)
 clear hB0 h1 n1 h2 n2 g1 m1 g2 m2 hx0 hy0
 obtain ⟨r1, hr1⟩ : ∃ r, r = eqLTr trSameL l l' := ⟨_, rfl⟩
 have HE := Aside0.mk (show chSameL s l m s' l' m' = (s == s' && (r1 && eqR rd_T92 acSameL m m')) by rw [hr1]; rfl)
 rw [← hr1] at H1
 clear hr1
 by_cases h0 : s = s'
 rotate_left
 ·have b0 : (s == s') = false := beq_false_of_ne h0
  have H0 := Aside0.mk b0; clear h0
  go_enter Try.func11, Try.ntmps11
  go_wp2
  go_ret
  exact ⟨by rw [HE.out, H0.out]; rfl, HB.out⟩
 have b0 : (s == s') = true := beq_iff_eq.2 h0
 have H0 := Aside0.mk b0; clear h0
 cases r1 with
 | false =>
  go_enter Try.func11, Try.ntmps11
  go_wp2_with fail
  refine (H1.out _ HB.out).mono ?_
  rintro e w1 ⟨rfl, hb1, _⟩
  have HB1 := Aside0.mk hb1
  clear hb1
  go_wp2
  go_ret
  exact ⟨by rw [HE.out, H0.out]; rfl, HB1.out⟩
 | true =>
  go_enter Try.func11, Try.ntmps11
  go_wp2_with fail
  refine (H1.out _ HB.out).mono ?_
  rintro e w1 ⟨rfl, hb1, hbW⟩
  have HB1 := Aside0.mk hb1
  have g1 := (hbW.block _ (blk_lt HX.out.1)).trans HX.out.1
  have g2 := (hbW.block _ (blk_lt HX.out.2)).trans HX.out.2
  have q2 : w1.cell? ⟨w.heap.size, 2, none⟩ = some (.slice A2 m.length c2) := (blk_cell g1 2).trans rfl
  have p2 : w1.cell? ⟨w.heap.size + 1, 2, none⟩ = some (.slice B2 m'.length d2) := by
   have := (blk_cell g2 2).trans rfl
   simpa using this
  clear hb1 hbW g1 g2
  go_wp2_with fail
  refine (H2.out _ HB1.out).mono ?_
  rintro e w2 ⟨rfl, hb2⟩
  have HB2 := Aside0.mk hb2
  clear hb2
  go_wp2
  go_ret
  exact ⟨by rw [HE.out, H0.out]; rfl, HB2.out⟩
end Go.Proofs.Ytlmchfcfkfegaaa.B
