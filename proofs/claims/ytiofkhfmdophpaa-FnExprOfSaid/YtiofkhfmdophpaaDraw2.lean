/- The draws of what is ok, and the copies, end. -/
import Derived.Test.YtiofkhfmdophpaaDraw
import Derived.Test.YtiofkhfmdophpaaPkB
namespace Go.Proofs.Ytiofkhfmdophpaa.B
open Go.RowKit Go.Proofs.YtiofkhfmdophpaaW.PrintWords Go.Proofs.YtiofkhfmdophpaaW.PrintLast Go.Proofs.YtiofkhfmdophpaaW.PrintMore
set_option linter.unusedVariables false

theorem some_total (s : List Int) (hs : Bytes s) (hl : s.length ≤ 2000) (p : Int) (hp : 0 ≤ p) (hp1 : p < 1099500000000) :
  ∃ (e : Ex) (p' : Int) (k : Nat), Tiny e ∧ p ≤ p' ∧ p' ≤ p + 200002 ∧ Drew1 (spec_l3Some.f k s p) e p' := by
 obtain ⟨r, r0, r1, hr⟩ := pick_total s hs hl p 4 hp (by omega) (by omega) (by omega)
 obtain ⟨d, hd⟩ := Int.eq_ofNat_of_zero_le r0
 have hd4 : d < 4 := by omega
 have b1 := bnd_le (d + 1) (by omega)
 have b2 := bnd_le 2 (by omega)
 have b3 := bnd_pos (d + 1)
 have b4 := bnd_pos 2
 obtain ⟨e, p1, k1, he, q1, q2, h1⟩ := expr_total s hs hl (d + 1) (by omega) (p + 1) (by omega) (by omega)
 obtain ⟨k2, h2⟩ := exprOk_spec e he.short
 obtain ⟨e', p2, k3, he', q3, q4, h3⟩ := expr_total s hs hl 2 (by omega) p1 (by omega) (by omega)
 unfold Drew1 at h1 h3
 have m1 : spec_l3Expr.f (k1 + k2 + k3 + 1) s (p + 1) ((d + 1 : Nat) : Int) = _ := up_le (mono_ef _ _ _) (by omega) h1
 have m2 : spec_ExprOk.f (k1 + k2 + k3 + 1) e.f0 e.f1 e.f2.f0 e.f2.f1 e.f3 = _ := up_le (f := fun k => spec_ExprOk.f k e.f0 e.f1 e.f2.f0 e.f2.f1 e.f3) (fun k => spec_ExprOk.mono _ _ _ _ _ k) (show k2 ≤ k1 + k2 + k3 + 1 by omega) h2
 have m3 : spec_l3Expr.f (k1 + k2 + k3 + 1) s p1 2 = _ := up_le (mono_ef _ _ _) (by omega) h3
 have e1 : wrap64 (1 + r) = ((d + 1 : Nat) : Int) := by rw [wrap_id (by omega) (by omega)]; omega
 cases hv : (formS 6 e && decide (manyS 6 e ≤ 14)) with
 | true =>
  refine ⟨e, p1, k1 + k2 + k3 + 1, he, by omega, by omega, ?_⟩
  unfold Drew1
  rw [spec_l3Some.f, hr (k1 + k2 + k3)]
  simp only [Option.bind_some]
  rw [e1, m1]
  simp only [Option.bind_some]
  rw [m2, hv]
  simp
 | false =>
  refine ⟨e', p2, k1 + k2 + k3 + 1, he', by omega, by omega, ?_⟩
  unfold Drew1
  rw [spec_l3Some.f, hr (k1 + k2 + k3)]
  simp only [Option.bind_some]
  rw [e1, m1]
  simp only [Option.bind_some]
  rw [m2, hv]
  simp only [Option.bind_some, Bool.false_eq_true, if_false]
  rw [m3]
  simp

theorem addrBent_total (s : List Int) (hs : Bytes s) (hl : s.length ≤ 2000) (p : Int) (hp : 0 ≤ p) (hp1 : p < 1099500000000) :
  ∃ (a b p' : Int), p ≤ p' ∧ p' ≤ p + 4 ∧ ∀ k, spec_l2AddrBent.f (k + 1) s p = some (a, b, p') := by
 obtain ⟨a, b, ha, hb, hq⟩ := addr_total s hs hl p hp (by omega)
 obtain ⟨r, r0, r1, hr⟩ := pick_total s hs hl (p + 2) 16 (by omega) (by omega) (by omega) (by omega)
 obtain ⟨x, hx, hn⟩ := num_total s hs hl (p + 2 + 1) (by omega) (by omega) [0, 4, (-1)] (by simp) (by simp)
 obtain ⟨y, hy, hm⟩ := num_total s hs hl (p + 2 + 1) (by omega) (by omega) [(-1), 6, 5] (by simp) (by simp)
 by_cases h0 : r = 0
 ·refine ⟨x, b, p + 2 + 1 + 1, by omega, by omega, fun k => ?_⟩
  rw [spec_l2AddrBent.f, hq k]
  simp only [Option.bind_some]
  rw [hr k]
  simp only [Option.bind_some, if_pos h0]
  rw [hn k]; rfl
 ·by_cases h1 : r = 1
  ·refine ⟨a, y, p + 2 + 1 + 1, by omega, by omega, fun k => ?_⟩
   rw [spec_l2AddrBent.f, hq k]
   simp only [Option.bind_some]
   rw [hr k]
   simp only [Option.bind_some, if_neg h0, if_pos h1]
   rw [hm k]; rfl
  ·refine ⟨a, b, p + 2 + 1, by omega, by omega, fun k => ?_⟩
   rw [spec_l2AddrBent.f, hq k]
   simp only [Option.bind_some]
   rw [hr k]
   simp only [Option.bind_some, if_neg h0, if_neg h1]
theorem mono_cf (a b c d : Int) (l : List Ex) : ∀ k, LeO (spec_l3Copy.f k a b c d l) (spec_l3Copy.f (k + 1) a b c d l) := fun k => (spec_l3Copy.mono_l k).1 a b c d l
theorem mono_cl (x a b c d : Int) (l : List Ex) (a' b' c' d' : Int) (l' : List Ex) : ∀ k, LeO (spec_l3Copy.l0 k x a b c d l a' b' c' d' l') (spec_l3Copy.l0 (k + 1) x a b c d l a' b' c' d' l') := fun k => (spec_l3Copy.mono_l k).2 x a b c d l a' b' c' d' l'
theorem copy_total (e : Ex) (he : Tiny e) : ∃ k, spec_l3Copy.f k e.f0 e.f1 e.f2.f0 e.f2.f1 e.f3 = some (e.f0, e.f1, e.f2.f0, e.f2.f1, e.f3) := by
 induction he with
 | mk e hl hk ih =>
  have loop : ∀ (n j : Nat), n + j = e.f3.length → ∃ k, spec_l3Copy.l0 k j e.f0 e.f1 e.f2.f0 e.f2.f1 e.f3 e.f0 e.f1 e.f2.f0 e.f2.f1 (e.f3.take j) = some (e.f0, e.f1, e.f2.f0, e.f2.f1, e.f3) := by
   intro n
   induction n with
   | zero => intro j hj; exact ⟨1, by rw [spec_l3Copy.l0, if_neg (by omega), List.take_of_length_le (by omega)]⟩
   | succ n ihn =>
    intro j hj
    have hlt : j < e.f3.length := by omega
    obtain ⟨k1, h1⟩ := ih e.f3[j] (List.getElem_mem hlt)
    obtain ⟨k2, h2⟩ := ihn (j + 1) (by omega)
    refine ⟨k1 + k2 + 1, ?_⟩
    have eta : (⟨e.f3[j].f0, e.f3[j].f1, ⟨e.f3[j].f2.f0, e.f3[j].f2.f1⟩, e.f3[j].f3⟩ : Ex) = e.f3[j] := by cases e.f3[j] with | mk a b c l => cases c; rfl
    rw [spec_l3Copy.l0, if_pos (by omega), if_pos (by omega), rd_get e.f3 j hlt, up_le (mono_cf _ _ _ _ _) (Nat.le_add_right k1 k2) h1]
    simp only [Option.bind_some]
    rw [if_pos (by simp; omega), wrap_id (by omega) (by omega), eta, ← List.take_succ_eq_append_getElem hlt]
    exact up_le (mono_cl _ _ _ _ _ _ _ _ _ _ _) (Nat.le_add_left k2 k1) h2
  obtain ⟨k, h⟩ := loop e.f3.length 0 (by omega)
  exact ⟨k + 1, by rw [spec_l3Copy.f]; simpa using h⟩
end Go.Proofs.Ytiofkhfmdophpaa.B
