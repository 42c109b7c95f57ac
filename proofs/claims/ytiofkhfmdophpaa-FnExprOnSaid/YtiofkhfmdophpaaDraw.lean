/- The draws of numbers, places and expressions end. -/
import Derived.Test.YtiofkhfmdophpaaPick
import Derived.Test.YtiofkhfmdophpaaOkSpec
import Derived.Test.YtiofkhfmdophpaaPkB
namespace Go.Proofs.Ytiofkhfmdophpaa.B
open Go.RowKit Go.Proofs.YtiofkhfmdophpaaW.PrintWords Go.Proofs.YtiofkhfmdophpaaW.PrintLast Go.Proofs.YtiofkhfmdophpaaW.PrintMore
set_option linter.unusedVariables false

/-- A tree whose lists are short indeed. -/
inductive Tiny : Ex → Prop
 | mk (e : Ex) : e.f3.length ≤ 1000 → (∀ x ∈ e.f3, Tiny x) → Tiny e
theorem Tiny.short {e : Ex} (h : Tiny e) : Short e := by
 induction h with
 | mk e hl _ ih => exact .mk e (by omega) ih
theorem rd_mem (l : List Int) (i : Int) (h0 : 0 ≤ i) (h1 : i < l.length) : rd l i ∈ l := by
 have : i.toNat < l.length := by omega
 have e : rd l i = l[i.toNat] := by simp [rd, this]
 rw [e]; exact List.getElem_mem this
theorem num_total (s : List Int) (hs : Bytes s) (hl : s.length ≤ 2000) (p : Int) (hp : 0 ≤ p) (hp1 : p < 1099511627776) (l : List Int) (h1 : 1 ≤ l.length) (h2 : l.length < 1000) :
  ∃ x, x ∈ l ∧ ∀ k, spec_l12Rd_num.f (k + 1) s p l = some (x, p + 1) := by
 obtain ⟨r, r0, r1, hr⟩ := pick_total s hs hl p l.length hp hp1 (by omega) (by omega)
 refine ⟨rd l r, rd_mem l r r0 r1, fun k => ?_⟩
 rw [spec_l12Rd_num.f, hr k]
 simp only [Option.bind_some, if_pos r0, if_pos r1]
theorem addr_total (s : List Int) (hs : Bytes s) (hl : s.length ≤ 2000) (p : Int) (hp : 0 ≤ p) (hp1 : p < 1099511627770) :
  ∃ a b : Int, (1 ≤ a ∧ a ≤ 3) ∧ (0 ≤ b ∧ b < 3) ∧ ∀ k, spec_l2Addr.f (k + 1) s p = some (a, b, p + 2) := by
 obtain ⟨r, r0, r1, hr⟩ := pick_total s hs hl p 3 hp (by omega) (by omega) (by omega)
 obtain ⟨q, q0, q1, hq⟩ := pick_total s hs hl (p + 1) 3 (by omega) (by omega) (by omega) (by omega)
 refine ⟨1 + r, q, by omega, by omega, fun k => ?_⟩
 rw [spec_l2Addr.f, hr k]
 simp only [Option.bind_some]
 rw [hq k]
 simp only [Option.bind_some]
 rw [wrap_id (by omega) (by omega), show p + 1 + 1 = p + 2 by omega]
/-- What a draw of an expression leaves. -/
def Drew1 (o : Option (Int × Int × Int × Int × List Ex × Int)) (e : Ex) (p : Int) : Prop := o = some (e.f0, e.f1, e.f2.f0, e.f2.f1, e.f3, p)
theorem leaf_total (s : List Int) (hs : Bytes s) (hl : s.length ≤ 2000) (p : Int) (hp : 0 ≤ p) (hp1 : p < 1099511627000) (a1 : Int) :
  ∃ (e : Ex) (p' : Int), Tiny e ∧ p ≤ p' ∧ p' ≤ p + 3 ∧ ∀ k, Drew1 (spec_l3Expr.j0 (k + 2) a1 true s p) e p' := by
 obtain ⟨r, r0, r1, hr⟩ := pick_total s hs hl p 3 hp (by omega) (by omega) (by omega)
 by_cases hz : r = 0
 ·obtain ⟨x, hx, hn⟩ := num_total s hs hl (p + 1) (by omega) (by omega) [0, 1, 2, 3, (-1), 5, 1000000] (by simp) (by simp)
  refine ⟨⟨1, x, ⟨0, 0⟩, []⟩, p + 1 + 1, .mk _ (by simp) (by simp), by omega, by omega, fun k => ?_⟩
  unfold Drew1
  rw [spec_l3Expr.j0, if_pos rfl, hr k]
  simp only [Option.bind_some, if_pos hz]
  rw [hn k]; rfl
 ·obtain ⟨a, b, ha, hb, hq⟩ := addr_total s hs hl (p + 1) (by omega) (by omega)
  refine ⟨⟨2, 0, ⟨a, b⟩, []⟩, p + 1 + 2, .mk _ (by simp) (by simp), by omega, by omega, fun k => ?_⟩
  unfold Drew1
  rw [spec_l3Expr.j0, if_pos rfl, hr k]
  simp only [Option.bind_some, if_neg hz]
  rw [hq k]; rfl
theorem mono_ef (s : List Int) (p a : Int) : ∀ k, LeO (spec_l3Expr.f k s p a) (spec_l3Expr.f (k + 1) s p a) := fun k => (spec_l3Expr.mono_l k).1 s p a
theorem mono_el (x n : Int) (s : List Int) (p a b c d : Int) (l : List Ex) : ∀ k, LeO (spec_l3Expr.l0 k x n s p a b c d l) (spec_l3Expr.l0 (k + 1) x n s p a b c d l) := fun k => (spec_l3Expr.mono_l k).2.2 x n s p a b c d l
def bnd : Nat → Int
 | 0 => 10
 | d + 1 => 10 + 2 * bnd d
theorem kids_total (s : List Int) (d : Nat) (kd : Int) (B : Int) (hB : 0 ≤ B) (ih : ∀ p : Int, 0 ≤ p → p + B < 1099510000000 → ∃ (e : Ex) (p' : Int) (k : Nat), Tiny e ∧ p ≤ p' ∧ p' ≤ p + B ∧ Drew1 (spec_l3Expr.f k s p d) e p') (hd : d < 1000) :
  ∀ (n : Nat) (p : Int) (acc : List Ex), 0 ≤ p → p + n * B < 1099510000000 → acc.length + n ≤ 2 → (∀ x ∈ acc, Tiny x) →
   ∃ (l : List Ex) (p' : Int) (k : Nat), l.length = acc.length + n ∧ (∀ x ∈ l, Tiny x) ∧ p ≤ p' ∧ p' ≤ p + n * B ∧ spec_l3Expr.l0 k ((d : Int) + 1) n s p kd 0 0 0 acc = some (kd, 0, 0, 0, l, p') := by
 intro n
 induction n with
 | zero =>
  intro p acc hp hpb ha hacc
  exact ⟨acc, p, 1, by omega, hacc, by omega, by omega, by rw [spec_l3Expr.l0, if_neg (by omega)]⟩
 | succ n ihn =>
  intro p acc hp hpb ha hacc
  have e1 : ((n + 1 : Nat) : Int) * B = n * B + B := by rw [Int.natCast_add, Int.add_mul]; simp
  have nb : 0 ≤ (n : Int) * B := Int.mul_nonneg (by omega) hB
  rw [e1] at hpb
  obtain ⟨e, p1, k1, he, q1, q2, hk1⟩ := ih p hp (by omega)
  obtain ⟨l, p2, k2, hl1, hl2, q3, q4, hk2⟩ := ihn p1 (acc ++ [e]) (by omega) (by omega) (by simp; omega) (by intro x hx; rcases List.mem_append.1 hx with hx | hx; exact hacc x hx; simp at hx; rw [hx]; exact he)
  refine ⟨l, p2, k1 + k2 + 1, by rw [hl1]; simp; omega, hl2, by omega, by rw [e1]; omega, ?_⟩
  unfold Drew1 at hk1
  rw [spec_l3Expr.l0, if_pos (by omega), show (d : Int) + 1 - 1 = d by omega, wrap_id (n := (d : Int)) (by omega) (by omega), up_le (mono_ef _ _ _) (Nat.le_add_right k1 k2) hk1]
  simp only [Option.bind_some]
  rw [if_pos (by omega), show (((n + 1 : Nat) : Int) - 1) = (n : Int) by omega, wrap_id (n := (n : Int)) (by omega) (by omega)]
  have eta : (⟨e.f0, e.f1, ⟨e.f2.f0, e.f2.f1⟩, e.f3⟩ : Ex) = e := by cases e with | mk a b c l => cases c; rfl
  rw [eta]
  exact up_le (mono_el _ _ _ _ _ _ _ _ _) (Nat.le_add_left k2 k1) hk2
theorem bnd_pos (d : Nat) : 10 ≤ bnd d := by
 induction d with
 | zero => simp [bnd]
 | succ d ih => simp [bnd]; omega
theorem bnd_le (d : Nat) : d ≤ 10 → bnd d ≤ 100000 := by
 intro h
 have : d = 0 ∨ d = 1 ∨ d = 2 ∨ d = 3 ∨ d = 4 ∨ d = 5 ∨ d = 6 ∨ d = 7 ∨ d = 8 ∨ d = 9 ∨ d = 10 := by omega
 rcases this with rfl | rfl | rfl | rfl | rfl | rfl | rfl | rfl | rfl | rfl | rfl <;> decide
theorem expr_total (s : List Int) (hs : Bytes s) (hl : s.length ≤ 2000) (d : Nat) : d ≤ 10 → ∀ p : Int, 0 ≤ p → p + bnd d < 1099510000000 → ∃ (e : Ex) (p' : Int) (k : Nat), Tiny e ∧ p ≤ p' ∧ p' ≤ p + bnd d ∧ Drew1 (spec_l3Expr.f k s p d) e p' := by
 induction d with
 | zero =>
  intro _ p hp hp1
  have h10 := bnd_pos 0
  obtain ⟨e, p', he, q1, q2, h⟩ := leaf_total s hs hl p hp (by omega) 0
  refine ⟨e, p', 3, he, q1, by simp only [bnd]; omega, ?_⟩
  have := h 0
  unfold Drew1 at this ⊢
  rw [spec_l3Expr.f, if_pos (by omega)]
  exact this
 | succ d ih =>
  intro hd p hp hp1
  have hb := bnd_pos d
  have hb2 := bnd_le d (by omega)
  have hbd : bnd (d + 1) = 10 + 2 * bnd d := rfl
  by_cases h0 : d = 0
  ·subst h0
   obtain ⟨e, p', he, q1, q2, h⟩ := leaf_total s hs hl p hp (by omega) 1
   refine ⟨e, p', 3, he, q1, by omega, ?_⟩
   have := h 0
   unfold Drew1 at this ⊢
   rw [spec_l3Expr.f, if_pos (by omega)]
   exact this
  ·obtain ⟨r, r0, r1, hr⟩ := pick_total s hs hl p 4 hp (by omega) (by omega) (by omega)
   by_cases hz : r = 0
   ·obtain ⟨e, p', he, q1, q2, h⟩ := leaf_total s hs hl (p + 1) (by omega) (by omega) ((d + 1 : Nat) : Int)
    refine ⟨e, p', 3, he, by omega, by omega, ?_⟩
    have := h 0
    unfold Drew1 at this ⊢
    rw [spec_l3Expr.f, if_neg (by omega), hr 1]
    simp only [Option.bind_some, hz]
    exact this
   ·obtain ⟨x, hx, hn⟩ := num_total s hs hl (p + 1) (by omega) (by omega) [3, 3, 4, 5, 6, 6, 7, 8, 9, 10] (by simp) (by simp)
    have hx' : 3 ≤ x ∧ x ≤ 10 := by
     simp only [List.mem_cons, List.mem_nil_iff, or_false] at hx
     omega
    have hk2 : kidsN x = 1 ∨ kidsN x = 2 := by
     unfold kidsN
     rw [if_neg (by omega)]
     split
     ·exact .inr rfl
     ·exact .inl rfl
    obtain ⟨n, hn2, hnk⟩ : ∃ n : Nat, n ≤ 2 ∧ kidsN x = (n : Int) := by
     rcases hk2 with h | h
     ·exact ⟨1, by omega, by rw [h]; rfl⟩
     ·exact ⟨2, by omega, by rw [h]; rfl⟩
    have hmul : (n : Int) * bnd d ≤ 2 * bnd d := Int.mul_le_mul_of_nonneg_right (by omega) (by omega)
    obtain ⟨l, p', k, hl1, hl2, q1, q2, h⟩ := kids_total s d x (bnd d) (by omega) (fun q hq0 hq1 => ih (by omega) q hq0 hq1) (by omega) n (p + 2) [] (by omega) (by omega) (by simpa using hn2) (by simp)
    simp only [List.length_nil, Nat.zero_add] at hl1
    refine ⟨⟨x, 0, ⟨0, 0⟩, l⟩, p', k + 4, .mk _ (by show l.length ≤ _; omega) hl2, by omega, by omega, ?_⟩
    unfold Drew1
    have hz' : (r == 0) = false := beq_false_of_ne hz
    have hko : kindOk x = true := by unfold kindOk; exact decide_eq_true (by omega)
    rw [spec_l3Expr.f, if_neg (by omega), hr (k + 2)]
    simp only [Option.bind_some, hz']
    rw [spec_l3Expr.j0, if_neg (by decide), hn (k + 1)]
    simp only [Option.bind_some]
    rw [l3Kids_is (k + 1), hko, if_pos rfl, hnk]
    simp only [Option.bind_some]
    rw [show p + 1 + 1 = p + 2 by omega, show ((d + 1 : Nat) : Int) = (d : Int) + 1 by omega]
    exact up_le (mono_el _ _ _ _ _ _ _ _ _) (by omega) h
end Go.Proofs.Ytiofkhfmdophpaa.B
