/- impl.ExprAlike: two trees are alike just if they are the same. -/
import Derived.Test.YtlmchfcfkfegaaaFuncsExE
import Derived.Test.YtlmchfcfkfegaaaPkB
import Derived.Deep.RegionHeld3
namespace Go.Proofs.Ytlmchfcfkfegaaa.B
open Go.RowKit Go.Shelf Go.Proofs.YtlmchfcfkfegaaaW.PrintWords Go.Proofs.YtlmchfcfkfegaaaW.PrintLast Go.Proofs.YtlmchfcfkfegaaaW.PrintMore
set_option linter.unusedVariables false
attribute [local go_sem high] eqA47

theorem alInd {P : S50 → Prop} (h : ∀ e : S50, (∀ x ∈ e.f3, P x) → P e) : ∀ e, P e
 | ⟨a, b, c, l⟩ => h _ (fun x hx => alInd h x)
termination_by e => SizeOf.sizeOf e
decreasing_by have := List.sizeOf_lt_of_mem hx; simp at this ⊢; omega
def alikeL : S50 → S50 → Bool
 | ⟨a, b, c, l⟩, y => a == y.f0 && (b == y.f1 && ((c.f0 == y.f2.f0 && (c.f1 == y.f2.f1)) && (l.length == y.f3.length && (l.attach.zip y.f3).all fun x => alikeL x.1.1 x.2)))
termination_by e => SizeOf.sizeOf e
decreasing_by have := List.sizeOf_lt_of_mem x.1.2; simp; omega
theorem zip_attach_all (p : S50 → S50 → Bool) (l m : List S50) : ((l.attach.zip m).all fun x => p x.1.1 x.2) = ((l.zip m).all fun x => p x.1 x.2) := by
 have h : (l.attach.zip m).map (fun x => (x.1.1, x.2)) = l.zip m := by
  have : (fun x : { x // x ∈ l } × S50 => (x.1.1, x.2)) = Prod.map (fun x => x.1) id := by funext x; rfl
  rw [this, ← List.zip_map, List.attach_map_subtype_val, List.map_id]
 rw [← h, List.all_map]; rfl
theorem alikeL_eq (x y : S50) : alikeL x y = (x.f0 == y.f0 && (x.f1 == y.f1 && ((x.f2.f0 == y.f2.f0 && (x.f2.f1 == y.f2.f1)) && eqLEx alikeL x.f3 y.f3))) := by
 cases x with
 | mk a b c l => rw [alikeL, zip_attach_all]; rfl
set_option maxRecDepth 100000 in
set_option maxHeartbeats 4000000 in
theorem alike_any (x : S50) : ∀ (y : S50) (A B : Option Addr) (c d : Nat) (w : World), Kd.C k50 w A x.f3.length x.f3 → x.f3.length ≤ c → Kd.C k50 w B y.f3.length y.f3 → y.f3.length ≤ d →
  Calls Try.prog 39 #[.agg #[.int .i64 x.f0, .int .i64 x.f1, .int .i64 x.f2.f0, .int .i64 x.f2.f1, .slice A x.f3.length c], .agg #[.int .i64 y.f0, .int .i64 y.f1, .int .i64 y.f2.f0, .int .i64 y.f2.f1, .slice B y.f3.length d]] w fun e w' => e = .returned (.bool (alikeL x y)) ∧ Below w.heap.size w w' := by
 induction x using alInd with
 | h x ih =>
  intro y A B c d w hC hc hD hd
  have hB0 : Below w.heap.size w ((w.alloc (.cells #[.int .i64 x.f0, .int .i64 x.f1, .int .i64 x.f2.f0, .int .i64 x.f2.f1, .slice A x.f3.length c] 50)).alloc (.cells #[.int .i64 y.f0, .int .i64 y.f1, .int .i64 y.f2.f0, .int .i64 y.f2.f1, .slice B y.f3.length d] 50)) := ((Below.refl _ _).alloc (Nat.le_refl _) _).alloc (by simp) _
  have hcall := fun (W : World) (hW : Below w.heap.size w W) => equalFuncEx_any 39 #[] alikeL (enters_of Try.func39 (by kernel_rfl) rfl) x.f3 y.f3 A B c d W (fun p q A4 c4 B4 d4 W' hp hq hb h1 h2 h3 h4 => by simpa using ih p hp q A4 B4 c4 d4 W' h1 h2 h3 h4) (Kd.C_below hC hW) (Kd.C_below hD hW) hc hd
  have HX := Aside0.mk (And.intro hB0 hcall)
  have HE := Aside0.mk (alikeL_eq x y)
  clear hB0 hcall hC hD hc hd ih
  by_cases h0 : x.f0 = y.f0
  ·have b0 : (x.f0 == y.f0) = true := beq_iff_eq.2 h0
   have H0 := Aside0.mk b0; clear h0
   by_cases h1 : x.f1 = y.f1
   ·have b1 : (x.f1 == y.f1) = true := beq_iff_eq.2 h1
    have H1 := Aside0.mk b1; clear h1
    cases h2 : (x.f2.f0 == y.f2.f0 && (x.f2.f1 == y.f2.f1)) with
    | true =>
     have H2 := Aside0.mk h2
     go_enter Try.func39, Try.ntmps39
     go_wp2_with fail
     refine (HX.out.2 _ HX.out.1).mono ?_
     rintro e w1 ⟨rfl, hb1⟩
     have HB := Aside0.mk (HX.out.1.trans (hb1.mono HX.out.1.size))
     clear hb1
     go_wp2
     go_ret
     exact ⟨by rw [HE.out, H0.out, H1.out, H2.out]; rfl, HB.out⟩
    | false =>
     have H2 := Aside0.mk h2
     go_enter Try.func39, Try.ntmps39
     go_wp2
     go_ret
     exact ⟨by rw [HE.out, H0.out, H1.out, H2.out]; rfl, HX.out.1⟩
   ·have b1 : (x.f1 == y.f1) = false := beq_false_of_ne h1
    have H1 := Aside0.mk b1; clear h1
    go_enter Try.func39, Try.ntmps39
    go_wp2
    go_ret
    exact ⟨by rw [HE.out, H0.out, H1.out]; rfl, HX.out.1⟩
  ·have b0 : (x.f0 == y.f0) = false := beq_false_of_ne h0
   have H0 := Aside0.mk b0; clear h0
   go_enter Try.func39, Try.ntmps39
   go_wp2
   go_ret
   exact ⟨by rw [HE.out, H0.out]; rfl, HX.out.1⟩
theorem eqLEx_iff {l m : List S50} (h : ∀ x ∈ l, ∀ y, alikeL x y = true ↔ x = y) : eqLEx alikeL l m = true ↔ l = m := by
 induction l generalizing m with
 | nil => cases m <;> simp [eqLEx]
 | cons a l ih =>
  cases m with
  | nil => simp [eqLEx]
  | cons b m =>
   have ih' := ih (m := m) (fun x hx => h x (List.mem_cons_of_mem _ hx))
   have hab := h a (List.mem_cons_self ..) b
   simp only [eqLEx, List.length_cons, List.zip_cons_cons, List.all_cons, Bool.and_eq_true, beq_iff_eq, Nat.add_right_cancel_iff, List.cons.injEq] at ih' ⊢
   constructor
   ·rintro ⟨hl, hp, hq⟩; exact ⟨hab.1 hp, ih'.1 ⟨hl, hq⟩⟩
   ·rintro ⟨rfl, rfl⟩; have := ih'.2 rfl; exact ⟨this.1, hab.2 rfl, this.2⟩
/-- Alike is the same. -/
theorem alikeL_iff (x : S50) : ∀ y, alikeL x y = true ↔ x = y := by
 induction x using alInd with
 | h x ih =>
  intro y
  rw [alikeL_eq]
  simp only [Bool.and_eq_true, beq_iff_eq, eqLEx_iff ih]
  constructor
  ·rintro ⟨h0, h1, ⟨h2, h3⟩, h4⟩
   cases x with | mk a b c l => cases y with | mk a' b' c' l' => cases c; cases c'; simp_all
  ·rintro rfl; exact ⟨rfl, rfl, ⟨rfl, rfl⟩, rfl⟩
def impl_ExprAlike.f (a0_0 : Int) (a0_1 : Int) (a0_2 : Int) (a0_3 : Int) (l0_4 : List (S50)) (a1_0 : Int) (a1_1 : Int) (a1_2 : Int) (a1_3 : Int) (l1_4 : List (S50)) : Option Bool :=
 some (alikeL ⟨a0_0, a0_1, ⟨a0_2, a0_3⟩, l0_4⟩ ⟨a1_0, a1_1, ⟨a1_2, a1_3⟩, l1_4⟩)
theorem impl_ExprAlike.calls (a0_0 : Int) (a0_1 : Int) (a0_2 : Int) (a0_3 : Int) (A0_4 : Option Addr) (c0_4 : Nat) (l0_4 : List (S50)) (a1_0 : Int) (a1_1 : Int) (a1_2 : Int) (a1_3 : Int) (A1_4 : Option Addr) (c1_4 : Nat) (l1_4 : List (S50)) (r : Bool) (w : World) (hr0_4 : Kd.C k50 w A0_4 l0_4.length l0_4) (hc0_4 : l0_4.length ≤ c0_4) (hr1_4 : Kd.C k50 w A1_4 l1_4.length l1_4) (hc1_4 : l1_4.length ≤ c1_4) (h : impl_ExprAlike.f a0_0 a0_1 a0_2 a0_3 l0_4 a1_0 a1_1 a1_2 a1_3 l1_4 = some r) :
  Calls Try.prog 39 #[.agg #[.int .i64 a0_0, .int .i64 a0_1, .int .i64 a0_2, .int .i64 a0_3, .slice A0_4 l0_4.length c0_4], .agg #[.int .i64 a1_0, .int .i64 a1_1, .int .i64 a1_2, .int .i64 a1_3, .slice A1_4 l1_4.length c1_4]] w fun e w' => e = .returned (.bool r) ∧ Below w.heap.size w w' := by
 obtain rfl := Option.some.inj h
 exact alike_any ⟨a0_0, a0_1, ⟨a0_2, a0_3⟩, l0_4⟩ ⟨a1_0, a1_1, ⟨a1_2, a1_3⟩, l1_4⟩ A0_4 A1_4 c0_4 c1_4 w hr0_4 hc0_4 hr1_4 hc1_4
end Go.Proofs.Ytlmchfcfkfegaaa.B
