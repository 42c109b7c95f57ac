/- What is drawn to be reckoned; its text and its number of parts, where it is not ok. -/
import Derived.Test.YtiofkhfmdophpaaVal
import Derived.Test.YtiofkhfmdophpaaZText
import Derived.Test.YtiofkhfmdophpaaZMany
import Derived.Test.YtiofkhfmdophpaaPkC
namespace Go.Proofs.Ytiofkhfmdophpaa.B
open Go Go.RowKit Go.Proofs.YtiofkhfmdophpaaW.PrintWords Go.Proofs.YtiofkhfmdophpaaW.PrintLast Go.Proofs.YtiofkhfmdophpaaW.PrintMore
set_option linter.unusedVariables false

theorem drawOk_any (l : List Int) (hw : ∀ x ∈ l, (Lit.int .u8 x).wf = true) : ∃ (x : Ex), Short x ∧ x.f3.length ≤ 1000 ∧ ∀ A c W, Kd.C (Kd.int .u8) W A l.length l → l.length ≤ c →
  Calls Try.prog 50 #[.slice A l.length c] W fun e W' => ∃ B d, e = .returned (.agg (eA x B d)) ∧ TV W' x B d ∧ Below W.heap.size W W' := by
 obtain ⟨s, hs, hl, ho⟩ := open_total l hw
 obtain ⟨e, p1, K, he, q1, q2, h1⟩ := bent_total s hs hl 0 (by omega) (by omega)
 have hd : spec_DrawExprOk.f (K + 1) l = some (e.f0, e.f1, e.f2.f0, e.f2.f1, e.f3) := by
  have := h1 (K + 1) (by omega)
  unfold Drew1 at this
  rw [spec_DrawExprOk.f, ho]
  simp only [Option.bind_some]
  rw [this]
  rfl
 refine ⟨e, he.short, by cases he with | mk _ a b => exact a, fun A c W hC hc => ?_⟩
 refine (spec_DrawExprOk.calls (K + 1) A c l _ _ _ _ _ W hC hc hd).mono ?_
 rintro e W' ⟨v, rfl, hN, hb⟩
 obtain ⟨B, d, rfl⟩ := Kd.N_slice hN
 exact ⟨B, d, rfl, TV.ofN hN fun _ _ => trivial, hb⟩
theorem textNo_any (x : Ex) (h : okE x = false) (A : Option Addr) (c : Nat) (W : World) (hT : TV W x A c) : Calls Try.prog 31 #[.agg (eA x A c)] W fun e W' => e = .returned (.string ⟨#[]⟩) ∧ Below W.heap.size W W' := by
 refine impl_ExprText.calls x.f0 x.f1 x.f2.f0 x.f2.f1 A c x.f3 _ W hT.reads.2 hT.reads.1 ?_
 rw [impl_ExprText.f, if_neg]
 rw [ex_eta]
 exact fun h' => absurd (h.symm.trans h') (by simp)
theorem manyNo_any (x : Ex) (h : okE x = false) (A : Option Addr) (c : Nat) (W : World) (hT : TV W x A c) : Calls Try.prog 29 #[.agg (eA x A c)] W fun e W' => e = .returned (.int .i64 0) ∧ Below W.heap.size W W' := by
 refine impl_ExprMany.calls x.f0 x.f1 x.f2.f0 x.f2.f1 A c x.f3 _ W hT.reads.2 hT.reads.1 ?_
 rw [impl_ExprMany.f, if_neg]
 rw [ex_eta]
 exact fun h' => absurd (h.symm.trans h') (by simp)

theorem okE_head' {e : Ex} (h : headOk e = false) : okE e = false := by rw [okE, formS, h]; rfl
theorem head_of {e : Ex} (h : okE e = true) : kindOk e.f0 = true ∧ (e.f3.length : Int) = kidsN e.f0 := by
 rw [okE, formS, headOk] at h
 simp only [Bool.and_eq_true, beq_iff_eq] at h
 exact ⟨h.1.1.1.1, h.1.1.1.2⟩
theorem bent_kids {e : Ex} (h : okE e = true) (x : Ex) : okE ⟨e.f0, e.f1, ⟨e.f2.f0, e.f2.f1⟩, [] ++ e.f3 ++ [x]⟩ = false := by
 apply okE_head'
 have := (head_of h).2
 have hne : ((([] ++ e.f3 ++ [x] : List Ex).length : Nat) : Int) ≠ kidsN e.f0 := by rw [← this]; simp; omega
 show (kindOk e.f0 && (((([] ++ e.f3 ++ [x] : List Ex).length : Nat) : Int) == kidsN e.f0) && _) = false
 rw [beq_false_of_ne hne, Bool.and_false, Bool.false_and]
theorem bent_kind (b c d : Int) (l : List Ex) : okE ⟨11, b, ⟨c, d⟩, l⟩ = false := by
 apply okE_head'
 show (kindOk 11 && _ && _) = false
 rw [show kindOk 11 = false by decide, Bool.false_and, Bool.false_and]
theorem bent_num (a c d : Int) (l : List Ex) : okE ⟨a, 1000001, ⟨c, d⟩, l⟩ = false := by
 apply okE_head'
 have : shapeL a 1000001 c d = false := by
  unfold shapeL
  by_cases h1 : a = 1
  ·rw [if_pos h1, show isNumL 1000001 = false by decide]; rfl
  ·rw [if_neg h1]
   by_cases h2 : a = 2
   ·rw [if_pos h2, show ((1000001 : Int) == 0) = false by decide, Bool.and_false]
   ·rw [if_neg h2, show ((1000001 : Int) == 0) = false by decide, Bool.false_and]
 show (_ && _ && shapeL a 1000001 c d) = false
 rw [this, Bool.and_false]
theorem bent_addr (a b : Int) (l : List Ex) : okE ⟨a, b, ⟨9, 1⟩, l⟩ = false := by
 apply okE_head'
 have : shapeL a b 9 1 = false := by
  unfold shapeL
  by_cases h1 : a = 1
  ·rw [if_pos h1, show ((9 : Int) == 0) = false by decide, Bool.false_and, Bool.and_false]
  ·rw [if_neg h1]
   by_cases h2 : a = 2
   ·rw [if_pos h2, show addrOkL 9 1 = false by decide, Bool.false_and]
   ·rw [if_neg h2, show ((9 : Int) == 0) = false by decide, Bool.false_and, Bool.and_false]
 show (_ && _ && shapeL a b 9 1) = false
 rw [this, Bool.and_false]
end Go.Proofs.Ytiofkhfmdophpaa.B
