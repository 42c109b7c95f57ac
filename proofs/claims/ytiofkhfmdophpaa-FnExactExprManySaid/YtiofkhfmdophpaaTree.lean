/- The laws' own helpers over trees of expressions: how many parts, the copy into impl's type, equality. -/
import Derived.Test.YtiofkhfmdophpaaB0
import Derived.Test.YtiofkhfmdophpaaPkA
import Derived.Outline
namespace Go.Proofs.Ytiofkhfmdophpaa.B
open Go.RowKit Go.Proofs.YtiofkhfmdophpaaW.PrintWords Go.Proofs.YtiofkhfmdophpaaW.PrintLast Go.Proofs.YtiofkhfmdophpaaW.PrintMore
set_option linter.unusedVariables false

abbrev LEx := S26
abbrev lexK := k26
abbrev IEx := S32
abbrev iexK := k32

theorem LEx.ind {P : LEx → Prop} (h : ∀ e : LEx, (∀ x ∈ e.f3, P x) → P e) : ∀ e, P e
 | ⟨a, b, c, l⟩ => h _ (fun x hx => LEx.ind h x)
termination_by e => SizeOf.sizeOf e
decreasing_by have := List.sizeOf_lt_of_mem hx; simp at this ⊢; omega
theorem IEx.ind {P : IEx → Prop} (h : ∀ e : IEx, (∀ x ∈ e.f3, P x) → P e) : ∀ e, P e
 | ⟨a, b, c, l⟩ => h _ (fun x hx => IEx.ind h x)
termination_by e => SizeOf.sizeOf e
decreasing_by have := List.sizeOf_lt_of_mem hx; simp at this ⊢; omega

/-- How many parts are within. -/
def cnt : LEx → Nat
 | ⟨_, _, _, l⟩ => l.length + (l.attach.map fun x => cnt x.1).sum
termination_by e => SizeOf.sizeOf e
decreasing_by have := List.sizeOf_lt_of_mem x.2; simp; omega
def cntS (l : List LEx) : Nat := l.length + (l.map cnt).sum
theorem cnt_eq (e : LEx) : cnt e = cntS e.f3 := by
 cases e with
 | mk a b c l => rw [cnt, cntS]; simp
def toE : LEx → IEx
 | ⟨a, b, c, l⟩ => ⟨a, b, ⟨c.f0, c.f1⟩, l.attach.map fun x => toE x.1⟩
termination_by e => SizeOf.sizeOf e
decreasing_by have := List.sizeOf_lt_of_mem x.2; simp; omega
theorem toE_eq (e : LEx) : toE e = ⟨e.f0, e.f1, ⟨e.f2.f0, e.f2.f1⟩, e.f3.map toE⟩ := by
 cases e with
 | mk a b c l => rw [toE]; simp

/-- What szExpr and szExprS answer. -/
def SzR (left : Int) (n : Nat) (r : Int) : Prop := (n ≤ left ∧ r = left - n) ∨ (left < n ∧ r = -1)
def SzPost (left : Int) (n : Nat) (w : World) (e : Ending) (w' : World) : Prop := ∃ r, SzR left n r ∧ e = .returned (.int .i64 r) ∧ Below w.heap.size w w'

set_option maxRecDepth 100000 in
set_option maxHeartbeats 2000000 in
theorem szExprS_of (l : List LEx) (ih : ∀ x ∈ l, ∀ (A : Option Addr) (c : Nat) (left : Int) (w : World), Kd.C lexK w A x.f3.length x.f3 → x.f3.length ≤ c → 0 ≤ left → left ≤ 1048576 →
   Calls Try.prog 15 #[.agg #[.int .i64 x.f0, .int .i64 x.f1, .int .i64 x.f2.f0, .int .i64 x.f2.f1, .slice A x.f3.length c], .int .i64 left] w (SzPost left (cnt x) w))
  (A : Option Addr) (c : Nat) (left : Int) (w : World) (hC : Kd.C lexK w A l.length l) (hc : l.length ≤ c) (h0 : 0 ≤ left) (h1 : left ≤ 1048576) :
  Calls Try.prog 51 #[.slice A l.length c, .int .i64 left] w (SzPost left (cntS l) w) := by
 have hmax : l.length ≤ 9223372036854775807 := hC.2.1
 by_cases hlt : left < l.length
 ·have b1 : decide (left - (l.length : Int) < 0) = true := decide_eq_true (by omega)
  have b2 : decide (left < (l.length : Int)) = true := decide_eq_true (by omega)
  go_enter Try.func51, Try.ntmps51
  go_wp2
  go_ret
  exact ⟨-1, .inr ⟨by unfold cntS; omega, rfl⟩, rfl, Below.refl _ _⟩
 ·have b1 : decide (left - (l.length : Int) < 0) = false := decide_eq_false (by omega)
  have b2 : decide (left < (l.length : Int)) = false := decide_eq_false (by omega)
  have hlt' : (l.length : Int) ≤ left := by omega
  go_enter Try.func51, Try.ntmps51
  go_wp2
  go_loopw [1, 5] (fun u i wr => ∃ (j : Nat) (m : Int), i = .int .i64 j ∧ u = .int .i64 m ∧ Aside0 (j ≤ l.length ∧ m = left - l.length - ((l.take j).map cnt).sum ∧ 0 ≤ m ∧ m ≤ 1048576 ∧ Below w.heap.size w wr)) (fun _ i _ => l.length - (intOf i).toNat)
  case atStart => exact ⟨0, left - l.length, rfl, by first | rfl | (congr 1), ⟨Nat.zero_le _, by simp, by omega, by omega, Below.refl _ _⟩⟩
  case round =>
   obtain ⟨j, m, rfl, rfl, HR⟩ := hrel
   by_cases hj : j < l.length
   ·obtain ⟨ad, A4, c4, hA, e0, e1, e2, e3, e4, hl4, hi4⟩ := at_T26 hC (j : Int) (by omega) (by omega)
    have hkid : rd_T26 l (j : Int) = l[j] := by simp [rd_T26, hj]
    cases hA
    have hb := HR.out.2.2.2.2
    replace e0 := (hb.cell (World.block_lt_of_cell? w _ e0)).trans e0
    replace e1 := (hb.cell (World.block_lt_of_cell? w _ e1)).trans e1
    replace e2 := (hb.cell (World.block_lt_of_cell? w _ e2)).trans e2
    replace e3 := (hb.cell (World.block_lt_of_cell? w _ e3)).trans e3
    replace e4 := (hb.cell (World.block_lt_of_cell? w _ e4)).trans e4
    rw [hkid] at e0 e1 e2 e3 e4 hl4 hi4
    simp only [Int.toNat_natCast] at e0 e1 e2 e3 e4
    have hcall := ih l[j] (List.getElem_mem hj) A4 c4 m wr (Kd.C_below hi4 hb) hl4 HR.out.2.2.1 HR.out.2.2.2.1
    have hsum : ((l.take (j + 1)).map cnt).sum = ((l.take j).map cnt).sum + cnt l[j] := by
     rw [List.take_succ_eq_append_getElem hj, List.map_append, List.sum_append]; simp
    have hle : ((l.take (j + 1)).map cnt).sum ≤ (l.map cnt).sum := by
     conv => rhs; rw [← List.take_append_drop (j + 1) l]
     rw [List.map_append, List.sum_append]; omega
    obtain ⟨kid, hkd⟩ : ∃ kid, kid = l[j] := ⟨_, rfl⟩
    rw [← hkd] at e0 e1 e2 e3 e4 hl4 hi4 hcall hsum
    have HX := Aside0.mk (And.intro hsum (And.intro hle (And.intro hb hmax)))
    have HC := Aside0.mk hcall
    have HJ := Aside0.mk hj
    clear hcall hkid hkd hsum hle hb hi4 hl4
    go_wp2_with fail
    refine HC.out.mono ?_
    clear HC
    rintro e w1 ⟨r, (⟨hr, rfl⟩ | ⟨hr, rfl⟩), rfl, hb1⟩
    ·have hB := HX.out.2.2.1.trans (hb1.mono HX.out.2.2.1.size)
     have HB := Aside0.mk hB; clear hB hb1
     have b3 : decide (m - (cnt kid : Int) < 0) = false := decide_eq_false (by omega)
     have b4 : decide (m < (cnt kid : Int)) = false := decide_eq_false (by omega)
     have hk : ((cnt kid : Nat) : Int) ≤ m := hr
     have hmm := HR.out.2.2.2.1
     have hm0 := HR.out.2.2.1
     go_wp2
     go_roundw
     case rel => exact ⟨j + 1, m - cnt kid, by go_num, rfl, ⟨HJ.out, by have := HR.out.2.1; have := HX.out.1; omega, by omega, by omega, HB.out⟩⟩
     case measure => have := HJ.out; simp [intOf]; omega
    ·have hB := HX.out.2.2.1.trans (hb1.mono HX.out.2.2.1.size)
     have HB := Aside0.mk hB; clear hB hb1
     go_wp2
     go_ret
     exact ⟨-1, .inr ⟨by unfold cntS; have := HR.out.2.1; have := HX.out.1; have := HX.out.2.1; omega, rfl⟩, rfl, HB.out⟩
   ·have hjl : j = l.length := by have := HR.out.1; omega
    have hm := HR.out.2.1
    rw [hjl, List.take_of_length_le (Nat.le_refl _)] at hm
    have HM := Aside0.mk hm; clear hm hjl
    go_wp2
    go_ret
    exact ⟨m, .inl ⟨by unfold cntS; have := HR.out.2.2.1; have := HM.out; omega, by unfold cntS; have := HM.out; omega⟩, rfl, HR.out.2.2.2.2⟩

set_option maxRecDepth 100000 in
set_option maxHeartbeats 2000000 in
theorem szExpr_any (x : LEx) : ∀ (A : Option Addr) (c : Nat) (left : Int) (w : World), Kd.C lexK w A x.f3.length x.f3 → x.f3.length ≤ c → 0 ≤ left → left ≤ 1048576 →
   Calls Try.prog 15 #[.agg #[.int .i64 x.f0, .int .i64 x.f1, .int .i64 x.f2.f0, .int .i64 x.f2.f1, .slice A x.f3.length c], .int .i64 left] w (SzPost left (cnt x) w) := by
 induction x using LEx.ind with
 | h x ih =>
  intro A c left w hC hc h0 h1
  have hcall := szExprS_of x.f3 ih A c left (w.alloc (.cells #[.int .i64 x.f0, .int .i64 x.f1, .int .i64 x.f2.f0, .int .i64 x.f2.f1, .slice A x.f3.length c] 26)) (Kd.C_below hC ((Below.refl _ _).alloc (Nat.le_refl _) _)) hc h0 h1
  have HC := Aside0.mk hcall; clear hcall ih
  have HCNT := Aside0.mk (cnt_eq x)
  go_enter Try.func15, Try.ntmps15
  go_wp2_with fail
  refine HC.out.mono ?_
  clear HC
  rintro e w1 ⟨r, (⟨hr, rfl⟩ | ⟨hr, rfl⟩), rfl, hb1⟩
  ·have HB := Aside0.mk (((Below.refl _ _).alloc (Nat.le_refl _) _).trans (hb1.mono (by simp))); clear hb1
   have b3 : decide (left - (cntS x.f3 : Int) < 0) = false := decide_eq_false (by omega)
   have b4 : decide (left < (cntS x.f3 : Int)) = false := decide_eq_false (by omega)
   go_wp2
   go_ret
   exact ⟨left - cntS x.f3, .inl ⟨by rw [HCNT.out]; exact hr, by rw [HCNT.out]⟩, rfl, HB.out⟩
  ·have HB := Aside0.mk (((Below.refl _ _).alloc (Nat.le_refl _) _).trans (hb1.mono (by simp))); clear hb1
   go_wp2
   go_ret
   exact ⟨-1, .inr ⟨by rw [HCNT.out]; exact hr, rfl⟩, rfl, HB.out⟩
end Go.Proofs.Ytiofkhfmdophpaa.B
