import Derived.Test.YtendbgedpjcocaaGreatDoorPkB
import Derived.Test.YtendbgedpjcocaaGreatDoorB0
import Derived.Outline
import Derived.Test.YtendbgedpjcocaaGreatDoorJnF
import Derived.Deep.RegionHeld3
import Derived.RangeFuncBox
import Derived.Test.YtendbgedpjcocaaGreatDoorPkA
import Derived.Test.YtendbgedpjcocaaGreatDoorJnE
import Derived.Test.YtendbgedpjcocaaGreatDoorJnG
import Derived.Deep.MidRow
import Derived.Ground.Names2Prog
import Derived.Shelf.Slices.Clone
import Derived.Ground.SlgnProg
import Derived.Shelf.SlicesE.Clone
import Derived.Test.YtendbgedpjcocaaGreatDoorProg
import Derived.Test.YtendbgedpjcocaaGreatDoorSq
import Derived.Test.YtendbgedpjcocaaGreatDoorExprOk
/- Plain law: the specification's own reckoning of ExprOk ends, and says so. -/
namespace Go.Proofs.YtendbgedpjcocaaGreatDoor.B
open Go.RowKit Go.Proofs.YtendbgedpjcocaaGreatDoorW.PrintWords Go.Proofs.YtendbgedpjcocaaGreatDoorW.PrintLast Go.Proofs.YtendbgedpjcocaaGreatDoorW.PrintMore
set_option linter.unusedVariables false

theorem up_le {α : Type} {f : Nat → Option α} (h : ∀ k, LeO (f k) (f (k + 1))) {k k' : Nat} (hk : k ≤ k') {r : α} (hr : f k = some r) : f k' = some r := by
 induction hk with
 | refl => exact hr
 | step _ ih => exact h _ _ ih
theorem rd_get (l : List Ex) (j : Nat) (h : j < l.length) : rd_T27 l (j : Int) = l[j] := by simp [rd_T27, h]
theorem wrap_small {n : Int} (h0 : -9223372036854775808 ≤ n) (h1 : n ≤ 9223372036854775807) : wrap64 n = n := by
 unfold wrap64
 omega
theorem numCut_is (n : Int) : spec_NumCut.f n = some (if n < -1000000 then -1000000 else if 1000000 < n then 1000000 else n) := by
 unfold spec_NumCut.f spec_l1Min.f spec_l1Max.f
 by_cases h1 : n < -1000000
 ·have : ¬ (1000000 : Int) < n := by omega
  simp [h1, this]
 ·by_cases h2 : (1000000 : Int) < n
  ·simp [h1, h2]
  ·have h3 : n > -1000000 ∨ n = -1000000 := by omega
   rcases h3 with h3 | h3
   ·simp [h1, h2]
   ·subst h3; simp
theorem addrOk_is (a b : Int) : spec_AddrOk.f a b = some (addrOkL a b) := by
 unfold spec_AddrOk.f addrOkL
 by_cases h : 1 ≤ a <;> by_cases h' : a ≤ 3 <;> by_cases h'' : 0 ≤ b <;> simp [h, h', h'']
theorem l3Kids_is (k : Nat) (n : Int) : spec_l3Kids.f (k + 1) n = some (if kindOk n then kidsN n else -1) := by
 unfold spec_l3Kids.f spec_l3Kids.j0 kindOk kidsN
 by_cases h1 : n = 1
 ·simp [h1]
 ·by_cases h2 : n = 2
  ·simp [h2]
  ·by_cases h10 : n = 10
   ·simp [h10]
   ·by_cases h3 : 3 ≤ n
    ·by_cases h9 : n ≤ 9
     ·have : 1 ≤ n ∧ n ≤ 10 := by omega
      simp [h1, h2, h10, h3, h9, this]
     ·have : ¬ (1 ≤ n ∧ n ≤ 10) := by omega
      simp [h1, h2, h10, h3, h9, this]
    ·have : ¬ (1 ≤ n ∧ n ≤ 10) := by omega
     simp [h1, h2, h10, h3, this]
theorem form_step (k : Nat) (d : Nat) (e : Ex) : spec_l3Form.f (k + 4) e.f0 e.f1 e.f2.f0 e.f2.f1 e.f3 ((d : Int) + 1) =
  if headOk e then spec_l3Form.l0 k ((d : Int) + 1) 0 e.f0 e.f1 e.f2.f0 e.f2.f1 e.f3 else some false := by
 rw [spec_l3Form.f, if_neg (by omega), l3Kids_is (k + 2)]
 simp only [Option.bind_some, spec_l3Form.j0, spec_l3Form.j1, spec_l3Form.j2, numCut_is, addrOk_is]
 unfold headOk shapeL isNumL
 cases hk : kindOk e.f0 with
 | false =>
  have : ((-1 : Int) != (e.f3.length : Int)) = true := by rw [bne_iff_ne]; omega
  simp [this]
 | true =>
  by_cases hl : (e.f3.length : Int) = kidsN e.f0
  ·rw [← hl]
   simp only [if_true, bne_self_eq_false, Bool.false_eq_true, if_false, beq_self_eq_true, Bool.true_and]
   by_cases h1 : e.f0 = 1
   ·have h12 : ¬ (1 : Int) = 2 := by omega
    simp only [h1, if_true, h12, if_false]
    by_cases c1 : e.f1 < -1000000
    ·have q1 : ¬ (-1000000 : Int) = e.f1 := by omega
     have q2 : ¬ (-1000000 ≤ e.f1 ∧ e.f1 ≤ 1000000) := by omega
     simp [c1, q1, q2]
    ·by_cases c2 : 1000000 < e.f1
     ·have q1 : ¬ (1000000 : Int) = e.f1 := by omega
      have q2 : ¬ (-1000000 ≤ e.f1 ∧ e.f1 ≤ 1000000) := by omega
      simp [c1, c2, q1, q2]
     ·have q2 : (-1000000 ≤ e.f1 ∧ e.f1 ≤ 1000000) := by omega
      by_cases z1 : e.f2.f0 = 0 <;> by_cases z2 : e.f2.f1 = 0 <;> simp [c1, c2, q2, z1, z2]
   ·by_cases h2 : e.f0 = 2
    ·have h12 : ¬ (2 : Int) = 1 := by omega
     simp only [h2, if_true, h12, if_false]
     by_cases z1 : e.f1 = 0 <;> cases z2 : addrOkL e.f2.f0 e.f2.f1 <;> simp [z1]
    ·simp only [h1, h2, if_false]
     by_cases z : e.f1 = 0 <;> by_cases z1 : e.f2.f0 = 0 <;> by_cases z2 : e.f2.f1 = 0 <;> simp [z, z1, z2]
  ·have h1 : (kidsN e.f0 != (e.f3.length : Int)) = true := by rw [bne_iff_ne]; exact fun h => hl h.symm
   have h2 : ((e.f3.length : Int) == kidsN e.f0) = false := by rw [beq_eq_false_iff_ne]; exact hl
   simp [h1, h2]
theorem mono_f (a b c d : Int) (l : List Ex) (n : Int) : ∀ k, LeO (spec_l3Form.f k a b c d l n) (spec_l3Form.f (k + 1) a b c d l n) := fun k => (spec_l3Form.mono_l k).1 a b c d l n
theorem mono_l0 (x i a b c d : Int) (l : List Ex) : ∀ k, LeO (spec_l3Form.l0 k x i a b c d l) (spec_l3Form.l0 (k + 1) x i a b c d l) := fun k => (spec_l3Form.mono_l k).2.2.2.2 x i a b c d l
theorem form_loop (d : Nat) (hd : d < 100) (a b c c' : Int) (l : List Ex) (hl : l.length < 9223372036854775807) (ih : ∀ x ∈ l, ∃ k, spec_l3Form.f k x.f0 x.f1 x.f2.f0 x.f2.f1 x.f3 d = some (formS d x)) :
  ∀ (n j : Nat), n + j = l.length → ∃ k, spec_l3Form.l0 k ((d : Int) + 1) j a b c c' l = some ((l.drop j).all (formS d)) := by
 intro n
 induction n with
 | zero =>
  intro j hj
  refine ⟨1, ?_⟩
  rw [spec_l3Form.l0, if_neg (by omega), List.drop_eq_nil_of_le (by omega)]; rfl
 | succ n ihn =>
  intro j hj
  have hlt : j < l.length := by omega
  obtain ⟨k1, h1⟩ := ih l[j] (List.getElem_mem hlt)
  obtain ⟨k2, h2⟩ := ihn (j + 1) (by omega)
  refine ⟨k1 + k2 + 1, ?_⟩
  rw [spec_l3Form.l0, if_pos (by omega), if_pos (by omega), rd_get l j hlt, wrap_small (by omega) (by omega), wrap_small (by omega) (by omega), show (d : Int) + 1 - 1 = d by omega, up_le (mono_f _ _ _ _ _ _) (Nat.le_add_right k1 k2) h1, Option.bind_some, List.drop_eq_getElem_cons hlt, List.all_cons]
  cases formS d l[j] with
  | false => simp
  | true => simpa using up_le (mono_l0 _ _ _ _ _ _ _) (Nat.le_add_left k2 k1) h2
/-- The lists within are short enough to be counted. -/
inductive Short : Ex → Prop
 | mk (e : Ex) : e.f3.length < 9223372036854775807 → (∀ x ∈ e.f3, Short x) → Short e
theorem form_spec (d : Nat) : d < 100 → ∀ e : Ex, Short e → ∃ k, spec_l3Form.f k e.f0 e.f1 e.f2.f0 e.f2.f1 e.f3 d = some (formS d e) := by
 induction d with
 | zero => intro _ e _; exact ⟨2, by rw [spec_l3Form.f, if_pos (by omega), spec_l3Form.j0, if_pos rfl]; rfl⟩
 | succ d ih =>
  intro hd e he
  cases he with
  | mk _ hlen hk =>
  obtain ⟨k, h⟩ := form_loop d (by omega) e.f0 e.f1 e.f2.f0 e.f2.f1 e.f3 hlen (fun x hx => ih (by omega) x (hk x hx)) e.f3.length 0 (by omega)
  refine ⟨k + 4, ?_⟩
  have := form_step k d e
  rw [show (((d + 1 : Nat)) : Int) = (d : Int) + 1 by omega, this, formS]
  cases headOk e with
  | false => simp
  | true => simpa using h

theorem mono_m (a b c d : Int) (l : List Ex) (n : Int) : ∀ k, LeO (spec_l3Many.f k a b c d l n) (spec_l3Many.f (k + 1) a b c d l n) := fun k => (spec_l3Many.mono_l k).1 a b c d l n
theorem mono_m0 (x i j a b c d : Int) (l : List Ex) : ∀ k, LeO (spec_l3Many.l0 k x i j a b c d l) (spec_l3Many.l0 (k + 1) x i j a b c d l) := fun k => (spec_l3Many.mono_l k).2 x i j a b c d l
theorem kidsN_le (k : Int) : kidsN k ≤ 2 := by
 unfold kidsN; split
 ·omega
 ·split <;> omega
theorem sum_two (f : Ex → Nat) (b : Nat) (l : List Ex) (h : ∀ x ∈ l, f x ≤ b) : (l.map f).sum ≤ l.length * b := by
 induction l with
 | nil => simp
 | cons x l ih =>
  have h1 := h x (by simp)
  have h2 := ih (fun y hy => h y (by simp [hy]))
  simp [Nat.add_mul]; omega
theorem manyS_le (d : Nat) : ∀ e : Ex, formS d e = true → manyS d e + 1 ≤ 2 ^ d := by
 induction d with
 | zero => intro e h; cases h
 | succ d ih =>
  intro e h
  rw [formS, Bool.and_eq_true] at h
  have hl : e.f3.length ≤ 2 := by
   have h1 := h.1
   unfold headOk at h1
   simp only [Bool.and_eq_true, beq_iff_eq] at h1
   have := kidsN_le e.f0
   omega
  have hs := sum_two (manyS d) (2 ^ d - 1) e.f3 (fun x hx => by have := ih x (List.all_eq_true.1 h.2 x hx); omega)
  have : e.f3.length * (2 ^ d - 1) ≤ 2 * (2 ^ d - 1) := Nat.mul_le_mul_right _ hl
  have hp : 1 ≤ 2 ^ d := Nat.one_le_two_pow
  rw [manyS, Nat.pow_succ]
  omega
theorem many_loop (d : Nat) (hd : d < 40) (a b c c' : Int) (l : List Ex) (hl : l.length < 9223372036854775807) (hb : ∀ x ∈ l, manyS d x ≤ 1099511627776) (ih : ∀ x ∈ l, ∃ k, spec_l3Many.f k x.f0 x.f1 x.f2.f0 x.f2.f1 x.f3 d = some (manyS d x : Int)) :
  ∀ (n j acc : Nat), n + j = l.length → acc + ((l.drop j).map (manyS d)).sum ≤ 4611686018427387904 → ∃ k, spec_l3Many.l0 k ((d : Int) + 1) acc j a b c c' l = some ((acc + ((l.drop j).map (manyS d)).sum : Nat) : Int) := by
 intro n
 induction n with
 | zero =>
  intro j acc hj _
  refine ⟨1, ?_⟩
  rw [spec_l3Many.l0, if_neg (by omega), List.drop_eq_nil_of_le (by omega)]; simp
 | succ n ihn =>
  intro j acc hj hacc
  have hlt : j < l.length := by omega
  obtain ⟨k1, h1⟩ := ih l[j] (List.getElem_mem hlt)
  rw [List.drop_eq_getElem_cons hlt, List.map_cons, List.sum_cons, ← Nat.add_assoc] at hacc
  obtain ⟨k2, h2⟩ := ihn (j + 1) (acc + manyS d l[j]) (by omega) hacc
  refine ⟨k1 + k2 + 1, ?_⟩
  rw [spec_l3Many.l0, if_pos (by omega), if_pos (by omega), if_pos (by omega), rd_get l j hlt, wrap_small (n := (d : Int) + 1 - 1) (by omega) (by omega), wrap_small (n := (j : Int) + 1) (by omega) (by omega), show (d : Int) + 1 - 1 = d by omega, up_le (mono_m _ _ _ _ _ _) (Nat.le_add_right k1 k2) h1, Option.bind_some, List.drop_eq_getElem_cons hlt, List.map_cons, List.sum_cons, ← Nat.add_assoc]
  rw [wrap_small (by omega) (by omega)]
  have := up_le (mono_m0 _ _ _ _ _ _ _ _) (Nat.le_add_left k2 k1) h2
  simpa using this
theorem many_spec (d : Nat) : d < 40 → ∀ e : Ex, Short e → formS d e = true → ∃ k, spec_l3Many.f k e.f0 e.f1 e.f2.f0 e.f2.f1 e.f3 d = some (manyS d e : Int) := by
 induction d with
 | zero => intro _ e _ h; cases h
 | succ d ih =>
  intro hd e he hf
  have hle := manyS_le (d + 1) e hf
  have hpow : 2 ^ (d + 1) ≤ 1099511627776 := Nat.le_trans (Nat.pow_le_pow_right (by omega) (show d + 1 ≤ 40 by omega)) (by decide)
  have hf' := hf
  rw [formS, Bool.and_eq_true] at hf'
  cases he with
  | mk _ hlen hk =>
  have hpow' : 2 ^ d ≤ 1099511627776 := Nat.le_trans (Nat.pow_le_pow_right (by omega) (show d ≤ 40 by omega)) (by decide)
  obtain ⟨k, h⟩ := many_loop d (by omega) e.f0 e.f1 e.f2.f0 e.f2.f1 e.f3 hlen (fun x hx => by have := manyS_le d x (List.all_eq_true.1 hf'.2 x hx); omega) (fun x hx => ih (by omega) x (hk x hx) (List.all_eq_true.1 hf'.2 x hx)) e.f3.length 0 1 (by omega) (by rw [manyS] at hle; simp only [List.drop_zero]; omega)
  refine ⟨k + 1, ?_⟩
  rw [show (((d + 1 : Nat)) : Int) = (d : Int) + 1 by omega, spec_l3Many.f, manyS]
  simpa using h
theorem exprOk_spec (e : Ex) (he : Short e) : ∃ k, spec_ExprOk.f k e.f0 e.f1 e.f2.f0 e.f2.f1 e.f3 = some (formS 6 e && decide (manyS 6 e ≤ 14)) := by
 obtain ⟨k1, h1⟩ := form_spec 6 (by omega) e he
 cases hf : formS 6 e with
 | false =>
  refine ⟨k1, ?_⟩
  rw [hf] at h1
  unfold spec_ExprOk.f
  have h1' : spec_l3Form.f k1 e.f0 e.f1 e.f2.f0 e.f2.f1 e.f3 6 = some false := h1
  rw [h1']; simp
 | true =>
  obtain ⟨k2, h2⟩ := many_spec 6 (by omega) e he hf
  rw [hf] at h1
  have h1' : spec_l3Form.f (k1 + k2) e.f0 e.f1 e.f2.f0 e.f2.f1 e.f3 6 = some true := up_le (mono_f _ _ _ _ _ _) (Nat.le_add_right k1 k2) h1
  have h2' : spec_l3Many.f (k1 + k2) e.f0 e.f1 e.f2.f0 e.f2.f1 e.f3 6 = some (manyS 6 e : Int) := up_le (mono_m _ _ _ _ _ _) (Nat.le_add_left k2 k1) h2
  refine ⟨k1 + k2, ?_⟩
  unfold spec_ExprOk.f
  rw [h1']
  simp only [Option.bind_some, if_true, h2', Bool.true_and]
  by_cases h14 : manyS 6 e ≤ 14
  ·rw [decide_eq_true h14, decide_eq_true (by omega)]
  ·rw [decide_eq_false h14, decide_eq_false (by omega)]
end Go.Proofs.YtendbgedpjcocaaGreatDoor.B
/- The draws of numbers, places and expressions end. -/
namespace Go.Proofs.YtendbgedpjcocaaGreatDoor.B
open Go.RowKit Go.Proofs.YtendbgedpjcocaaGreatDoorW.PrintWords Go.Proofs.YtendbgedpjcocaaGreatDoorW.PrintLast Go.Proofs.YtendbgedpjcocaaGreatDoorW.PrintMore
set_option linter.unusedVariables false

/-- A tree whose lists are short indeed. -/
inductive Tiny : Ex → Prop
 | mk (e : Ex) : e.f3.length ≤ 1000 → (∀ x ∈ e.f3, Tiny x) → Tiny e
theorem Tiny.short {e : Ex} (h : Tiny e) : Short e := by
 induction h with
 | mk e hl _ ih => exact .mk e (by omega) ih
theorem rd_mem (l : List Int) (i : Int) (h0 : 0 ≤ i) (h1 : i < l.length) : rd l i ∈ l := by
 have : i.toNat < l.length := by omega
 have e : rd l i = l[i.toNat] := by simp [rd, this]
 rw [e]; exact List.getElem_mem this
theorem num_total (s : List Int) (hs : Bytes s) (hl : s.length ≤ 2000) (p : Int) (hp : 0 ≤ p) (hp1 : p < 1099511627776) (l : List Int) (h1 : 1 ≤ l.length) (h2 : l.length < 1000) :
  ∃ x, x ∈ l ∧ ∀ k, spec_l12Rd_num.f (k + 1) s p l = some (x, p + 1) := by
 obtain ⟨r, r0, r1, hr⟩ := pick_total s hs hl p l.length hp hp1 (by omega) (by omega)
 refine ⟨rd l r, rd_mem l r r0 r1, fun k => ?_⟩
 rw [spec_l12Rd_num.f, hr k]
 simp only [Option.bind_some, if_pos r0, if_pos r1]
theorem addr_total (s : List Int) (hs : Bytes s) (hl : s.length ≤ 2000) (p : Int) (hp : 0 ≤ p) (hp1 : p < 1099511627770) :
  ∃ a b : Int, (1 ≤ a ∧ a ≤ 3) ∧ (0 ≤ b ∧ b < 3) ∧ ∀ k, spec_l2Addr.f (k + 1) s p = some (a, b, p + 2) := by
 obtain ⟨r, r0, r1, hr⟩ := pick_total s hs hl p 3 hp (by omega) (by omega) (by omega)
 obtain ⟨q, q0, q1, hq⟩ := pick_total s hs hl (p + 1) 3 (by omega) (by omega) (by omega) (by omega)
 refine ⟨1 + r, q, by omega, by omega, fun k => ?_⟩
 rw [spec_l2Addr.f, hr k]
 simp only [Option.bind_some]
 rw [hq k]
 simp only [Option.bind_some]
 rw [wrap_id (by omega) (by omega), show p + 1 + 1 = p + 2 by omega]
/-- What a draw of an expression leaves. -/
def Drew1 (o : Option (Int × Int × Int × Int × List Ex × Int)) (e : Ex) (p : Int) : Prop := o = some (e.f0, e.f1, e.f2.f0, e.f2.f1, e.f3, p)
theorem leaf_total (s : List Int) (hs : Bytes s) (hl : s.length ≤ 2000) (p : Int) (hp : 0 ≤ p) (hp1 : p < 1099511627000) (a1 : Int) :
  ∃ (e : Ex) (p' : Int), Tiny e ∧ p ≤ p' ∧ p' ≤ p + 3 ∧ ∀ k, Drew1 (spec_l3Expr.j0 (k + 2) a1 true s p) e p' := by
 obtain ⟨r, r0, r1, hr⟩ := pick_total s hs hl p 3 hp (by omega) (by omega) (by omega)
 by_cases hz : r = 0
 ·obtain ⟨x, hx, hn⟩ := num_total s hs hl (p + 1) (by omega) (by omega) [0, 1, 2, 3, (-1), 5, 1000000] (by simp) (by simp)
  refine ⟨⟨1, x, ⟨0, 0⟩, []⟩, p + 1 + 1, .mk _ (by simp) (by simp), by omega, by omega, fun k => ?_⟩
  unfold Drew1
  rw [spec_l3Expr.j0, if_pos rfl, hr k]
  simp only [Option.bind_some, if_pos hz]
  rw [hn k]; rfl
 ·obtain ⟨a, b, ha, hb, hq⟩ := addr_total s hs hl (p + 1) (by omega) (by omega)
  refine ⟨⟨2, 0, ⟨a, b⟩, []⟩, p + 1 + 2, .mk _ (by simp) (by simp), by omega, by omega, fun k => ?_⟩
  unfold Drew1
  rw [spec_l3Expr.j0, if_pos rfl, hr k]
  simp only [Option.bind_some, if_neg hz]
  rw [hq k]; rfl
theorem mono_ef (s : List Int) (p a : Int) : ∀ k, LeO (spec_l3Expr.f k s p a) (spec_l3Expr.f (k + 1) s p a) := fun k => (spec_l3Expr.mono_l k).1 s p a
theorem mono_el (x n : Int) (s : List Int) (p a b c d : Int) (l : List Ex) : ∀ k, LeO (spec_l3Expr.l0 k x n s p a b c d l) (spec_l3Expr.l0 (k + 1) x n s p a b c d l) := fun k => (spec_l3Expr.mono_l k).2.2 x n s p a b c d l
def bnd : Nat → Int
 | 0 => 10
 | d + 1 => 10 + 2 * bnd d
theorem kids_total (s : List Int) (d : Nat) (kd : Int) (B : Int) (hB : 0 ≤ B) (ih : ∀ p : Int, 0 ≤ p → p + B < 1099510000000 → ∃ (e : Ex) (p' : Int) (k : Nat), Tiny e ∧ p ≤ p' ∧ p' ≤ p + B ∧ Drew1 (spec_l3Expr.f k s p d) e p') (hd : d < 1000) :
  ∀ (n : Nat) (p : Int) (acc : List Ex), 0 ≤ p → p + n * B < 1099510000000 → acc.length + n ≤ 2 → (∀ x ∈ acc, Tiny x) →
   ∃ (l : List Ex) (p' : Int) (k : Nat), l.length = acc.length + n ∧ (∀ x ∈ l, Tiny x) ∧ p ≤ p' ∧ p' ≤ p + n * B ∧ spec_l3Expr.l0 k ((d : Int) + 1) n s p kd 0 0 0 acc = some (kd, 0, 0, 0, l, p') := by
 intro n
 induction n with
 | zero =>
  intro p acc hp hpb ha hacc
  exact ⟨acc, p, 1, by omega, hacc, by omega, by omega, by rw [spec_l3Expr.l0, if_neg (by omega)]⟩
 | succ n ihn =>
  intro p acc hp hpb ha hacc
  have e1 : ((n + 1 : Nat) : Int) * B = n * B + B := by rw [Int.natCast_add, Int.add_mul]; simp
  have nb : 0 ≤ (n : Int) * B := Int.mul_nonneg (by omega) hB
  rw [e1] at hpb
  obtain ⟨e, p1, k1, he, q1, q2, hk1⟩ := ih p hp (by omega)
  obtain ⟨l, p2, k2, hl1, hl2, q3, q4, hk2⟩ := ihn p1 (acc ++ [e]) (by omega) (by omega) (by simp; omega) (by intro x hx; rcases List.mem_append.1 hx with hx | hx; exact hacc x hx; simp at hx; rw [hx]; exact he)
  refine ⟨l, p2, k1 + k2 + 1, by rw [hl1]; simp; omega, hl2, by omega, by rw [e1]; omega, ?_⟩
  unfold Drew1 at hk1
  rw [spec_l3Expr.l0, if_pos (by omega), show (d : Int) + 1 - 1 = d by omega, wrap_id (n := (d : Int)) (by omega) (by omega), up_le (mono_ef _ _ _) (Nat.le_add_right k1 k2) hk1]
  simp only [Option.bind_some]
  rw [if_pos (by omega), show (((n + 1 : Nat) : Int) - 1) = (n : Int) by omega, wrap_id (n := (n : Int)) (by omega) (by omega)]
  have eta : (⟨e.f0, e.f1, ⟨e.f2.f0, e.f2.f1⟩, e.f3⟩ : Ex) = e := by cases e with | mk a b c l => cases c; rfl
  rw [eta]
  exact up_le (mono_el _ _ _ _ _ _ _ _ _) (Nat.le_add_left k2 k1) hk2
theorem bnd_pos (d : Nat) : 10 ≤ bnd d := by
 induction d with
 | zero => simp [bnd]
 | succ d ih => simp [bnd]; omega
theorem bnd_le (d : Nat) : d ≤ 10 → bnd d ≤ 100000 := by
 intro h
 have : d = 0 ∨ d = 1 ∨ d = 2 ∨ d = 3 ∨ d = 4 ∨ d = 5 ∨ d = 6 ∨ d = 7 ∨ d = 8 ∨ d = 9 ∨ d = 10 := by omega
 rcases this with rfl | rfl | rfl | rfl | rfl | rfl | rfl | rfl | rfl | rfl | rfl <;> decide
theorem expr_total (s : List Int) (hs : Bytes s) (hl : s.length ≤ 2000) (d : Nat) : d ≤ 10 → ∀ p : Int, 0 ≤ p → p + bnd d < 1099510000000 → ∃ (e : Ex) (p' : Int) (k : Nat), Tiny e ∧ p ≤ p' ∧ p' ≤ p + bnd d ∧ Drew1 (spec_l3Expr.f k s p d) e p' := by
 induction d with
 | zero =>
  intro _ p hp hp1
  have h10 := bnd_pos 0
  obtain ⟨e, p', he, q1, q2, h⟩ := leaf_total s hs hl p hp (by omega) 0
  refine ⟨e, p', 3, he, q1, by simp only [bnd]; omega, ?_⟩
  have := h 0
  unfold Drew1 at this ⊢
  rw [spec_l3Expr.f, if_pos (by omega)]
  exact this
 | succ d ih =>
  intro hd p hp hp1
  have hb := bnd_pos d
  have hb2 := bnd_le d (by omega)
  have hbd : bnd (d + 1) = 10 + 2 * bnd d := rfl
  by_cases h0 : d = 0
  ·subst h0
   obtain ⟨e, p', he, q1, q2, h⟩ := leaf_total s hs hl p hp (by omega) 1
   refine ⟨e, p', 3, he, q1, by omega, ?_⟩
   have := h 0
   unfold Drew1 at this ⊢
   rw [spec_l3Expr.f, if_pos (by omega)]
   exact this
  ·obtain ⟨r, r0, r1, hr⟩ := pick_total s hs hl p 4 hp (by omega) (by omega) (by omega)
   by_cases hz : r = 0
   ·obtain ⟨e, p', he, q1, q2, h⟩ := leaf_total s hs hl (p + 1) (by omega) (by omega) ((d + 1 : Nat) : Int)
    refine ⟨e, p', 3, he, by omega, by omega, ?_⟩
    have := h 0
    unfold Drew1 at this ⊢
    rw [spec_l3Expr.f, if_neg (by omega), hr 1]
    simp only [Option.bind_some, hz]
    exact this
   ·obtain ⟨x, hx, hn⟩ := num_total s hs hl (p + 1) (by omega) (by omega) [3, 3, 4, 5, 6, 6, 7, 8, 9, 10] (by simp) (by simp)
    have hx' : 3 ≤ x ∧ x ≤ 10 := by
     simp only [List.mem_cons, List.mem_nil_iff, or_false] at hx
     omega
    have hk2 : kidsN x = 1 ∨ kidsN x = 2 := by
     unfold kidsN
     rw [if_neg (by omega)]
     split
     ·exact .inr rfl
     ·exact .inl rfl
    obtain ⟨n, hn2, hnk⟩ : ∃ n : Nat, n ≤ 2 ∧ kidsN x = (n : Int) := by
     rcases hk2 with h | h
     ·exact ⟨1, by omega, by rw [h]; rfl⟩
     ·exact ⟨2, by omega, by rw [h]; rfl⟩
    have hmul : (n : Int) * bnd d ≤ 2 * bnd d := Int.mul_le_mul_of_nonneg_right (by omega) (by omega)
    obtain ⟨l, p', k, hl1, hl2, q1, q2, h⟩ := kids_total s d x (bnd d) (by omega) (fun q hq0 hq1 => ih (by omega) q hq0 hq1) (by omega) n (p + 2) [] (by omega) (by omega) (by simpa using hn2) (by simp)
    simp only [List.length_nil, Nat.zero_add] at hl1
    refine ⟨⟨x, 0, ⟨0, 0⟩, l⟩, p', k + 4, .mk _ (by show l.length ≤ _; omega) hl2, by omega, by omega, ?_⟩
    unfold Drew1
    have hz' : (r == 0) = false := beq_false_of_ne hz
    have hko : kindOk x = true := by unfold kindOk; exact decide_eq_true (by omega)
    rw [spec_l3Expr.f, if_neg (by omega), hr (k + 2)]
    simp only [Option.bind_some, hz']
    rw [spec_l3Expr.j0, if_neg (by decide), hn (k + 1)]
    simp only [Option.bind_some]
    rw [l3Kids_is (k + 1), hko, if_pos rfl, hnk]
    simp only [Option.bind_some]
    rw [show p + 1 + 1 = p + 2 by omega, show ((d + 1 : Nat) : Int) = (d : Int) + 1 by omega]
    exact up_le (mono_el _ _ _ _ _ _ _ _ _) (by omega) h
end Go.Proofs.YtendbgedpjcocaaGreatDoor.B
/- Worlds in which only whole numbers of some blocks have been written over: what the laws' own marks do. -/
namespace Go.Proofs.YtendbgedpjcocaaGreatDoor.B
open Go.RowKit Go.Proofs.YtendbgedpjcocaaGreatDoorW.PrintWords Go.Proofs.YtendbgedpjcocaaGreatDoorW.PrintLast Go.Proofs.YtendbgedpjcocaaGreatDoorW.PrintMore
set_option linter.unusedVariables false

def SameInt (a b : Option Value) : Prop := b = a ∨ ∃ z z' : Int, a = some (.int .i64 z) ∧ b = some (.int .i64 z')
/-- Elder blocks stay, but for whole numbers in blocks of F. -/
structure Ed (F : Nat → Prop) (w w' : World) : Prop where
 os : w'.os = w.os
 tape : w'.tape = w.tape
 output : w'.output = w.output
 size : w.heap.size ≤ w'.heap.size
 far : ∀ i, i < w.heap.size → ¬ F i → w'.heap[i]? = w.heap[i]?
 near : ∀ i (cs : Array Value) (t : TypeId), F i → w.heap[i]? = some (.cells cs t (0, 0)) → ∃ cs' : Array Value, w'.heap[i]? = some (.cells cs' t (0, 0)) ∧ cs'.size = cs.size ∧ ∀ j : Nat, SameInt cs[j]? cs'[j]?
theorem SameInt.trans {a b c : Option Value} (h : SameInt a b) (k : SameInt b c) : SameInt a c := by
 rcases h with rfl | ⟨z, z', rfl, rfl⟩
 ·exact k
 ·rcases k with rfl | ⟨y, y', h1, rfl⟩
  ·exact .inr ⟨z, z', rfl, rfl⟩
  ·exact .inr ⟨z, y', rfl, rfl⟩
theorem Ed.refl (F : Nat → Prop) (w : World) : Ed F w w := ⟨rfl, rfl, rfl, Nat.le_refl _, fun _ _ _ => rfl, fun i cs t _ h => ⟨cs, h, rfl, fun _ => .inl rfl⟩⟩
theorem Ed.trans {F : Nat → Prop} {w w1 w2 : World} (h : Ed F w w1) (k : Ed F w1 w2) : Ed F w w2 :=
 ⟨k.os.trans h.os, k.tape.trans h.tape, k.output.trans h.output, Nat.le_trans h.size k.size, fun i hi hn => (k.far i (Nat.lt_of_lt_of_le hi h.size) hn).trans (h.far i hi hn), fun i cs t hf hc => by
  obtain ⟨c1, h1, s1, q1⟩ := h.near i cs t hf hc
  obtain ⟨c2, h2, s2, q2⟩ := k.near i c1 t hf h1
  exact ⟨c2, h2, s2.trans s1, fun j => (q1 j).trans (q2 j)⟩⟩
theorem Ed.of_below {F : Nat → Prop} {w w' : World} (h : Below w.heap.size w w') : Ed F w w' :=
 ⟨h.os, h.tape, h.output, h.size, fun i hi _ => h.block i hi, fun i cs t _ hc => ⟨cs, (h.block i (blk_lt hc)).trans hc, rfl, fun _ => .inl rfl⟩⟩
theorem Ed.set {F : Nat → Prop} {w : World} {g t : Nat} {cur : Array Value} (hF : F g) (hb : w.heap[g]? = some (.cells cur t (0, 0))) (i : Nat) (z : Int) (hi : cur[i]? = some (.int .i64 z)) (z' : Int) : Ed F w (w.setCell ⟨g, i, none⟩ (.int .i64 z')) := by
 have hs : (w.setCell ⟨g, i, none⟩ (.int .i64 z')).heap[g]? = some (.cells (cur.setIfInBounds i (.int .i64 z')) t (0, 0)) := blk_set hb i _
 have ho : ∀ k, k ≠ g → (w.setCell ⟨g, i, none⟩ (.int .i64 z')).heap[k]? = w.heap[k]? := fun k hk => Below.heap_setCell w _ _ k hk
 refine ⟨rfl, rfl, rfl, ?_, fun k hk hn => ho k (fun h => hn (h ▸ hF)), fun k cs t' hf hc => ?_⟩
 ·refine Nat.le_of_not_lt (fun h => ?_)
  by_cases hg : (w.setCell ⟨g, i, none⟩ (.int .i64 z')).heap.size = g
  ·have := blk_lt hs; omega
  ·have h1 := ho _ hg
   rw [Array.getElem?_eq_none (Nat.le_refl _), Array.getElem?_eq_getElem h] at h1
   cases h1
 ·by_cases hk : k = g
  ·subst hk
   rw [hb] at hc
   injection hc with hc
   injection hc with h1 h2
   subst h1 h2
   refine ⟨_, hs, by simp, fun j => ?_⟩
   by_cases hj : i = j
   ·subst hj
    refine .inr ⟨z, z', hi, ?_⟩
    rw [Array.getElem?_setIfInBounds_self_of_lt]
    exact (Array.getElem?_eq_some_iff.1 hi).1
   ·exact .inl (Array.getElem?_setIfInBounds_ne hj)
  ·exact ⟨cs, (ho k hk).trans hc, rfl, fun _ => .inl rfl⟩
theorem Ed.below {F : Nat → Prop} {w w' : World} {B : Nat} (h : Ed F w w') (hF : ∀ b, F b → B ≤ b) (hB : B ≤ w.heap.size) : Below B w w' :=
 ⟨h.os, h.tape, h.output, h.size, fun k hk => h.far k (by omega) (fun hf => by have := hF k hf; omega)⟩
end Go.Proofs.YtendbgedpjcocaaGreatDoor.B
/- What impl.ExprOk's callers ask of it. -/
namespace Go.Proofs.YtendbgedpjcocaaGreatDoor.B
open Go.RowKit Go.Proofs.YtendbgedpjcocaaGreatDoorW.PrintWords Go.Proofs.YtendbgedpjcocaaGreatDoorW.PrintLast Go.Proofs.YtendbgedpjcocaaGreatDoorW.PrintMore
set_option linter.unusedVariables false

theorem three_blk (w : World) (a b c : Obj) : (((w.alloc a).alloc b).alloc c).heap.size = w.heap.size + 1 + 1 + 1 ∧ (((w.alloc a).alloc b).alloc c).heap[w.heap.size]? = some a ∧ (((w.alloc a).alloc b).alloc c).heap[w.heap.size + 1]? = some b ∧ (((w.alloc a).alloc b).alloc c).heap[w.heap.size + 1 + 1]? = some c ∧ Below w.heap.size w (((w.alloc a).alloc b).alloc c) := by
 have s1 : (w.alloc a).heap.size = w.heap.size + 1 := by simp
 have s2 : ((w.alloc a).alloc b).heap.size = w.heap.size + 1 + 1 := by simp
 have s3 : (((w.alloc a).alloc b).alloc c).heap.size = w.heap.size + 1 + 1 + 1 := by simp
 refine ⟨s3, ?_, ?_, ?_, (((Below.refl w.heap.size w).alloc (Nat.le_refl _) _).alloc (by omega) _).alloc (by omega) _⟩
 ·rw [Below.heap_alloc _ _ _ (by omega), Below.heap_alloc _ _ _ (by omega)]; exact heap_alloc_new w a
 ·rw [Below.heap_alloc _ _ _ (by omega), ← s1]; exact heap_alloc_new _ b
 ·rw [← s2]; exact heap_alloc_new _ c

def OkCon : Prop := ∀ (e : Ex) (A : Option Addr) (c : Nat) (w : World), Kd.C exK w A e.f3.length e.f3 → e.f3.length ≤ c →
 Calls Tryz.prog 48 #[.agg #[.int .i64 e.f0, .int .i64 e.f1, .int .i64 e.f2.f0, .int .i64 e.f2.f1, .slice A e.f3.length c]] w fun en w' => en = .returned (.bool (okL 0 (partsL e))) ∧ Below w.heap.size w w'
end Go.Proofs.YtendbgedpjcocaaGreatDoor.B
/- impl.count: statements are counted one by one. -/
namespace Go.Proofs.YtendbgedpjcocaaGreatDoor.B
open Go.RowKit Go.Shelf Go.Proofs.YtendbgedpjcocaaGreatDoorW.PrintWords Go.Proofs.YtendbgedpjcocaaGreatDoorW.PrintLast Go.Proofs.YtendbgedpjcocaaGreatDoorW.PrintMore
set_option linter.unusedVariables false

def headSt (s : St) : Bool := plainL s && okL 0 (partsL s.f2)
/-- Statements that are counted: are all ok, and how many there are then; at most d of them around one another. -/
def countL : Nat → List St → Int → Bool × Int
 | 0, [], m => (true, m)
 | 0, _ :: _, m => (false, m + 1)
 | d + 1, l, m => l.foldl (fun r s => if r.1 then (if r.2 + 1 > 16 || !headSt s then (false, r.2 + 1) else let r1 := countL d s.f3 (r.2 + 1); if r1.1 then countL d s.f4 r1.2 else r1) else r) (true, m)
/-- One statement more. -/
def cntStep (d : Nat) (s : St) (m : Int) : Bool × Int := if m + 1 > 16 || !headSt s then (false, m + 1) else let r1 := countL d s.f3 (m + 1); if r1.1 then countL d s.f4 r1.2 else r1
theorem countL_succ (d : Nat) (l : List St) (m : Int) : countL (d + 1) l m = l.foldl (fun r s => if r.1 then cntStep d s r.2 else r) (true, m) := rfl
theorem cnt_stop (d : Nat) (l : List St) (m : Int) : l.foldl (fun r s => if r.1 then cntStep d s r.2 else r) (false, m) = (false, m) := by
 induction l with
 | nil => rfl
 | cons a l ih => exact ih
/-- While all is ok the count is within its bounds. -/
theorem count_in : ∀ (d : Nat) (l : List St) (m : Int), m ≤ 16 → ((countL d l m).1 = true → (countL d l m).2 ≤ 16 ∧ m ≤ (countL d l m).2) ∧ (countL d l m).2 ≤ 17 ∧ m ≤ (countL d l m).2 := by
 intro d
 induction d with
 | zero =>
  intro l m hm
  cases l with
  | nil => exact ⟨fun _ => ⟨hm, Int.le_refl _⟩, by show m ≤ 17; omega, Int.le_refl _⟩
  | cons a l => exact ⟨fun h => (by cases h), by show m + 1 ≤ 17; omega, by show m ≤ m + 1; omega⟩
 | succ d ih =>
  intro l
  induction l with
  | nil => intro m hm; exact ⟨fun _ => ⟨hm, Int.le_refl _⟩, by show m ≤ 17; omega, Int.le_refl _⟩
  | cons a l ihl =>
   intro m hm
   rw [countL_succ, List.foldl_cons]
   simp only [if_true]
   have hst : ((cntStep d a m).1 = true → (cntStep d a m).2 ≤ 16) ∧ (cntStep d a m).2 ≤ 17 ∧ m ≤ (cntStep d a m).2 := by
    unfold cntStep
    by_cases h : (decide (m + 1 > 16) || !headSt a) = true
    ·rw [if_pos h]; exact ⟨fun h => (by cases h), by show m + 1 ≤ 17; omega, by show m ≤ m + 1; omega⟩
    ·rw [if_neg h]
     simp only [Bool.or_eq_true, decide_eq_true_eq, not_or] at h
     have h1 := ih a.f3 (m + 1) (by omega)
     by_cases hr : (countL d a.f3 (m + 1)).1 = true
     ·have h2 := ih a.f4 (countL d a.f3 (m + 1)).2 (h1.1 hr).1
      simp only [hr, if_true]
      exact ⟨fun h => (h2.1 h).1, h2.2.1, by have := h1.2.2; have := h2.2.2; omega⟩
     ·simp only [hr]
      exact ⟨fun h => absurd h hr, h1.2.1, by have := h1.2.2; show m ≤ (countL d a.f3 (m + 1)).2; omega⟩
   obtain ⟨r, hr⟩ : ∃ r, r = cntStep d a m := ⟨_, rfl⟩
   rw [← hr] at hst ⊢
   obtain ⟨b, n⟩ := r
   cases b with
   | false => rw [cnt_stop]; exact ⟨fun h => (by cases h), hst.2.1, hst.2.2⟩
   | true =>
    have := ihl n (hst.1 rfl)
    rw [countL_succ] at this
    exact ⟨fun h => ⟨(this.1 h).1, by have := (this.1 h).2; have := hst.2.2; show m ≤ _; omega⟩, this.2.1, by have := this.2.2; have := hst.2.2; show m ≤ _; omega⟩
end Go.Proofs.YtendbgedpjcocaaGreatDoor.B
/- A printed function that ends from some fuel on; the loops of the laws' own helpers, once for all types. -/
namespace Go.Proofs.YtendbgedpjcocaaGreatDoor.B
open Go.RowKit Go.Proofs.YtendbgedpjcocaaGreatDoorW.PrintWords Go.Proofs.YtendbgedpjcocaaGreatDoorW.PrintLast Go.Proofs.YtendbgedpjcocaaGreatDoorW.PrintMore
set_option linter.unusedVariables false

def Ends {α : Type} (f : Nat → Option α) (r : α) : Prop := ∃ K, ∀ k, K ≤ k → f k = some r
theorem Ends.const {α : Type} {f : Nat → Option α} {r : α} (h : ∀ k, f k = some r) : Ends f r := ⟨0, fun k _ => h k⟩
theorem Ends.bind {α β : Type} {f : Nat → Option α} {g : Nat → α → Option β} {a : α} {r : β} (h : Ends f a) (h' : Ends (fun k => g k a) r) : Ends (fun k => (f k).bind (g k)) r := by
 obtain ⟨K, hK⟩ := h
 obtain ⟨K', hK'⟩ := h'
 exact ⟨max K K', fun k hk => by show (f k).bind (g k) = some r; rw [hK k (by omega), Option.bind_some]; exact hK' k (by omega)⟩
theorem Ends.succ {α : Type} {f g : Nat → Option α} {r : α} (h : ∀ k, f (k + 1) = g k) (hg : Ends g r) : Ends f r := by
 obtain ⟨K, hK⟩ := hg
 exact ⟨K + 1, fun k hk => by obtain ⟨k', rfl⟩ : ∃ k', k = k' + 1 := ⟨k - 1, by omega⟩; rw [h]; exact hK k' (by omega)⟩
theorem Ends.of {α : Type} {f g : Nat → Option α} {r : α} (hg : Ends g r) (h : ∀ k, f k = g k) : Ends f r := by
 obtain ⟨K, hK⟩ := hg
 exact ⟨K, fun k hk => by rw [h]; exact hK k hk⟩
theorem wrap_in {n : Int} (h0 : -9223372036854775808 ≤ n) (h1 : n ≤ 9223372036854775807) : wrap64 n = n := by
 unfold wrap64
 omega
section loops
variable {α β : Type} {rd : List α → Int → α} (hrd : ∀ (l : List α) (j : Nat) (h : j < l.length), rd l (j : Int) = l[j])
include hrd
end loops
end Go.Proofs.YtendbgedpjcocaaGreatDoor.B
/- Expressions of the laws and of the program: bounds, inductions, rows. -/
namespace Go.Proofs.YtendbgedpjcocaaGreatDoor.B
open Go.RowKit Go.Proofs.YtendbgedpjcocaaGreatDoorW.PrintWords Go.Proofs.YtendbgedpjcocaaGreatDoorW.PrintLast Go.Proofs.YtendbgedpjcocaaGreatDoorW.PrintMore
set_option linter.unusedVariables false

abbrev LExT := S27
def iexOk : S27 → Prop
 | ⟨_, _, _, l⟩ => l.length ≤ 1048576 ∧ ∀ x ∈ l.attach, iexOk x.1
termination_by e => SizeOf.sizeOf e
decreasing_by have := List.sizeOf_lt_of_mem x.2; simp; omega
theorem iexOk_eq (e : S27) : iexOk e ↔ e.f3.length ≤ 1048576 ∧ ∀ x ∈ e.f3, iexOk x := by
 cases e with
 | mk a b c l => rw [iexOk]; simp
theorem iexInd {P : S27 → Prop} (h : ∀ e : S27, (∀ x ∈ e.f3, P x) → P e) : ∀ e, P e
 | ⟨a, b, c, l⟩ => h _ (fun x hx => iexInd h x)
termination_by e => SizeOf.sizeOf e
decreasing_by have := List.sizeOf_lt_of_mem hx; simp at this ⊢; omega
theorem mem_sum : ∀ (l : List Nat) (x : Nat), x ∈ l → x ≤ l.sum
 | [], x, h => by simp at h
 | a :: l, x, h => by
  rw [List.sum_cons]
  rcases List.mem_cons.mp h with rfl | h
  ·omega
  ·have := mem_sum l x h; omega
end Go.Proofs.YtendbgedpjcocaaGreatDoor.B
/- Statements of the laws and of the program: bounds, inductions, rows. -/
namespace Go.Proofs.YtendbgedpjcocaaGreatDoor.B
open Go.RowKit Go.Proofs.YtendbgedpjcocaaGreatDoorW.PrintWords Go.Proofs.YtendbgedpjcocaaGreatDoorW.PrintLast Go.Proofs.YtendbgedpjcocaaGreatDoorW.PrintMore
set_option linter.unusedVariables false

abbrev LSt := S35
abbrev ISt := S35
def istOk : ISt → Prop
 | ⟨_, _, c, l, l'⟩ => iexOk c ∧ (l.length ≤ 1048576 ∧ ∀ x ∈ l.attach, istOk x.1) ∧ (l'.length ≤ 1048576 ∧ ∀ x ∈ l'.attach, istOk x.1)
termination_by e => SizeOf.sizeOf e
decreasing_by all_goals (have := List.sizeOf_lt_of_mem x.2; simp; omega)
theorem istOk_eq (e : ISt) : istOk e ↔ iexOk e.f2 ∧ (e.f3.length ≤ 1048576 ∧ ∀ x ∈ e.f3, istOk x) ∧ (e.f4.length ≤ 1048576 ∧ ∀ x ∈ e.f4, istOk x) := by
 cases e with
 | mk a b c l l' => rw [istOk]; simp
theorem rdI_st (l : List ISt) (j : Nat) (h : j < l.length) : rd_T35 l (j : Int) = l[j] := by simp [rd_T35, h]
end Go.Proofs.YtendbgedpjcocaaGreatDoor.B
/- Plain law: the specification's own reckoning of StmtsOk and StmtsMany ends, and says what count says. -/
namespace Go.Proofs.YtendbgedpjcocaaGreatDoor.B
open Go.RowKit Go.Proofs.YtendbgedpjcocaaGreatDoorW.PrintWords Go.Proofs.YtendbgedpjcocaaGreatDoorW.PrintLast Go.Proofs.YtendbgedpjcocaaGreatDoorW.PrintMore
set_option linter.unusedVariables false

theorem Ends.of_up {α : Type} {f : Nat → Option α} {r : α} (hm : ∀ k, LeO (f k) (f (k + 1))) (h : ∃ k, f k = some r) : Ends f r := by
 obtain ⟨k, hk⟩ := h
 exact ⟨k, fun k' hk' => up_le hm hk' hk⟩
theorem and_part {f g : Nat → Option Bool} {a b : Bool} (hf : Ends f a) (hg : a = true → Ends g b) : Ends (fun k => (f k).bind fun t => if t = true then g k else some false) (a && b) := by
 refine hf.bind (g := fun k t => if t = true then g k else some false) ?_
 cases a with
 | false => exact Ends.const fun k => rfl
 | true => exact (hg rfl).of fun k => by rw [if_pos rfl]
/-- How many statements there are, up to so deep. -/
def manyT : Nat → List ISt → Nat
 | 0, l => l.length
 | d + 1, l => l.length + (l.map fun s => manyT d s.f3 + manyT d s.f4).sum
def formT : Nat → List ISt → Bool
 | 0, l => l.isEmpty
 | d + 1, l => l.all fun s => headSt s && (formT d s.f3 && formT d s.f4)
theorem many0_stop (k : Nat) (l : List ISt) (hl : l.length ≤ 9223372036854775807) : spec_l4Many.f (k + 3) l 0 = some (l.length : Int) := by
 rw [spec_l4Many.f, spec_l4Many.l0]
 by_cases h : (0 : Int) < (l.length : Int)
 ·rw [if_pos h, decide_eq_false (by omega), spec_l4Many.j1, if_neg (by simp)]
 ·rw [if_neg h, spec_l4Many.j1, if_neg (by simp)]
theorem many_loopT (d : Nat) (hd : d ≤ 100) (l : List ISt) (hl : l.length ≤ 1048576) (ih : ∀ s ∈ l, manyT d s.f3 + manyT d s.f4 ≤ 1048576 → Ends (fun k => spec_l4Many.f k s.f3 (d : Int)) (manyT d s.f3 : Int) ∧ Ends (fun k => spec_l4Many.f k s.f4 (d : Int)) (manyT d s.f4 : Int)) :
  ∀ (e j : Nat) (n : Nat), j + e = l.length → n + ((l.drop j).map fun s => manyT d s.f3 + manyT d s.f4).sum ≤ 1048576 → Ends (fun k => spec_l4Many.l0 k l ((d + 1 : Nat) : Int) (n : Int) j) ((n + ((l.drop j).map fun s => manyT d s.f3 + manyT d s.f4).sum : Nat) : Int) := by
 intro e
 induction e with
 | zero =>
  intro j n hj hn
  refine Ends.succ (fun k => by rw [spec_l4Many.l0, if_neg (by omega)]) ?_
  refine Ends.succ (fun k => by rw [spec_l4Many.j1, if_neg (by simp)]) (Ends.const fun k => ?_)
  rw [List.drop_of_length_le (by omega)]; simp
 | succ e ihe =>
  intro j n hj hn
  have hjl : j < l.length := by omega
  have hdr : l.drop j = l[j] :: l.drop (j + 1) := List.drop_eq_getElem_cons hjl
  rw [hdr, List.map_cons, List.sum_cons] at hn ⊢
  refine Ends.succ (fun k => by rw [spec_l4Many.l0, if_pos (by omega), decide_eq_true (by omega)]) ?_
  refine Ends.succ (fun k => by rw [spec_l4Many.j1, if_pos rfl, if_pos (by omega), if_pos (by omega), rdI_st l j hjl, show wrap64 (((d + 1 : Nat) : Int) - 1) = (d : Int) by rw [wrap_in (by omega) (by omega)]; omega]) ?_
  obtain ⟨h3, h4⟩ := ih l[j] (List.getElem_mem hjl) (by omega)
  refine Ends.bind h3 (Ends.bind h4 ?_)
  have := ihe (j + 1) (n + (manyT d l[j].f3 + manyT d l[j].f4)) (by omega) (by omega)
  rw [Nat.add_assoc] at this
  refine this.of fun k => ?_
  rw [show wrap64 ((n : Int) + (manyT d l[j].f3 : Int)) = (n : Int) + (manyT d l[j].f3 : Int) from wrap_in (by omega) (by omega), show wrap64 ((n : Int) + (manyT d l[j].f3 : Int) + (manyT d l[j].f4 : Int)) = (n : Int) + (manyT d l[j].f3 : Int) + (manyT d l[j].f4 : Int) from wrap_in (by omega) (by omega), show wrap64 ((j : Int) + 1) = ((j + 1 : Nat) : Int) by rw [wrap_in (by omega) (by omega)]; omega]
  congr 1
  omega
theorem manyT_spec (d : Nat) : d ≤ 100 → ∀ l : List ISt, manyT d l ≤ 1048576 → Ends (fun k => spec_l4Many.f k l (d : Int)) (manyT d l : Int) := by
 induction d with
 | zero =>
  intro _ l hl
  rw [manyT] at *
  exact ⟨3, fun k hk => by obtain ⟨k', rfl⟩ : ∃ k', k = k' + 3 := ⟨k - 3, by omega⟩; exact many0_stop k' l (by omega)⟩
 | succ d ih =>
  intro hd l hl
  rw [manyT] at hl ⊢
  refine Ends.succ (fun k => by rw [spec_l4Many.f]) ?_
  have := many_loopT d (by omega) l (by omega) (fun s hs h => ⟨ih (by omega) s.f3 (by omega), ih (by omega) s.f4 (by omega)⟩) l.length 0 l.length (by omega) (by rw [List.drop_zero]; exact hl)
  rw [List.drop_zero] at this
  exact this
/-- One round of l4Form. -/
theorem form_headT (k : Nat) (l : List ISt) (x1 : Int) (j : Nat) (hj : j < l.length) : spec_l4Form.l0 (k + 1) l x1 (j : Int) = spec_l4Form.j2 k l x1 j (plainL l[j]) l[j].f0 l[j].f1.f0 l[j].f1.f1 l[j].f2.f0 l[j].f2.f1 l[j].f2.f2.f0 l[j].f2.f2.f1 l[j].f2.f3 l[j].f3 l[j].f4 := by
 rw [spec_l4Form.l0, if_pos (by omega), if_pos (by omega), rdI_st l j hj]
 generalize l[j] = s
 have hlen3 : ((s.f3.length : Int) == 0) = (s.f3.length == 0) := by rw [Bool.eq_iff_iff, beq_iff_eq, beq_iff_eq]; omega
 have hlen4 : ((s.f4.length : Int) == 0) = (s.f4.length == 0) := by rw [Bool.eq_iff_iff, beq_iff_eq, beq_iff_eq]; omega
 unfold plainL putsL
 simp only [addrOk_is, Option.bind_some]
 by_cases h1 : s.f0 = 1
 ·rw [if_pos h1, if_pos h1]
  cases ha : addrOkL s.f1.f0 s.f1.f1 with
  | false => rw [if_neg (by simp)]; simp
  | true =>
   rw [if_pos rfl]
   by_cases h2 : s.f1.f0 = 1
   ·rw [if_pos h2, h2]; simp
   ·rw [if_neg h2]
    by_cases h3 : s.f3.length = 0
    ·rw [if_pos (by omega), hlen4, h3, show (s.f1.f0 != 1) = true from bne_iff_ne.mpr h2]; simp
    ·rw [if_neg (by omega), show (s.f3.length == 0) = false from beq_false_of_ne h3]; simp
 ·rw [if_neg h1, if_neg h1]
  by_cases h2 : s.f0 = 2
  ·rw [if_pos h2, if_pos h2]
  ·rw [if_neg h2, if_neg h2]
   by_cases h3 : s.f0 = 3
   ·rw [if_pos h3, if_pos h3]
    cases hz : (s.f1.f0 == 0 && s.f1.f1 == 0) with
    | false => simp
    | true => simp [hlen4]
   ·rw [if_neg h3, if_neg h3]
theorem form_loopT (d : Nat) (hd : d ≤ 100) (l : List ISt) (hl : l.length ≤ 1048576) (hs : ∀ s ∈ l, Short s.f2) (ih : ∀ s ∈ l, Ends (fun k => spec_l4Form.f k s.f3 (d : Int)) (formT d s.f3) ∧ Ends (fun k => spec_l4Form.f k s.f4 (d : Int)) (formT d s.f4)) :
  ∀ (e j : Nat), j + e = l.length → Ends (fun k => spec_l4Form.l0 k l ((d + 1 : Nat) : Int) j) ((l.drop j).all fun s => headSt s && (formT d s.f3 && formT d s.f4)) := by
 intro e
 induction e with
 | zero =>
  intro j hj
  refine Ends.succ (fun k => by rw [spec_l4Form.l0, if_neg (by omega)]) (Ends.const fun k => ?_)
  rw [List.drop_of_length_le (by omega)]; rfl
 | succ e ihe =>
  intro j hj
  have hjl : j < l.length := by omega
  have hdr : l.drop j = l[j] :: l.drop (j + 1) := List.drop_eq_getElem_cons hjl
  rw [hdr, List.all_cons]
  refine Ends.succ (fun k => form_headT k l _ j hjl) ?_
  obtain ⟨h3, h4⟩ := ih l[j] (List.getElem_mem hjl)
  refine Ends.succ (fun k => by rw [spec_l4Form.j2, show wrap64 (((d + 1 : Nat) : Int) - 1) = (d : Int) by rw [wrap_in (by omega) (by omega)]; omega, show wrap64 ((j : Int) + 1) = ((j + 1 : Nat) : Int) by rw [wrap_in (by omega) (by omega)]; omega]) ?_
  cases hp : plainL l[j] with
  | false =>
   refine Ends.const fun k => ?_
   rw [if_neg (by simp), headSt, hp]; simp
  | true =>
   have hx := Ends.of_up (f := fun k => spec_ExprOk.f k l[j].f2.f0 l[j].f2.f1 l[j].f2.f2.f0 l[j].f2.f2.f1 l[j].f2.f3) (fun k => spec_ExprOk.mono _ _ _ _ _ k) (exprOk_spec l[j].f2 (hs l[j] (List.getElem_mem hjl)))
   rw [headSt, hp, Bool.true_and, okL_eq, Bool.and_assoc, Bool.and_assoc]
   rw [show (formS 6 l[j].f2 && (decide (manyS 6 l[j].f2 ≤ 14) && (formT d l[j].f3 && formT d l[j].f4 && (l.drop (j + 1)).all fun s => headSt s && (formT d s.f3 && formT d s.f4)))) = ((formS 6 l[j].f2 && decide (manyS 6 l[j].f2 ≤ 14)) && (formT d l[j].f3 && (formT d l[j].f4 && (l.drop (j + 1)).all fun s => headSt s && (formT d s.f3 && formT d s.f4)))) by simp only [Bool.and_assoc]]
   refine (and_part hx fun _ => and_part h3 fun _ => and_part h4 fun _ => ihe (j + 1) (by omega)).of fun k => ?_
   rw [if_pos rfl]
theorem formT_spec (d : Nat) : d ≤ 100 → ∀ l : List ISt, manyT d l ≤ 1048576 → (∀ s ∈ l, istOk s) → (∀ s : ISt, istOk s → Short s.f2) → Ends (fun k => spec_l4Form.f k l (d : Int)) (formT d l) := by
 induction d with
 | zero =>
  intro _ l hl ho hsh
  refine Ends.succ (fun k => by rw [spec_l4Form.f]) ?_
  cases l with
  | nil => exact ⟨2, fun k hk => by obtain ⟨k', rfl⟩ : ∃ k', k = k' + 2 := ⟨k - 2, by omega⟩; show (if (([] : List ISt).length : Int) > 0 then _ else spec_l4Form.j0 (k' + 2) [] 0 false) = _; rw [if_neg (by simp), spec_l4Form.j0, if_neg (by simp), spec_l4Form.l0, if_neg (by simp)]; rfl⟩
  | cons a l => exact ⟨1, fun k hk => by obtain ⟨k', rfl⟩ : ∃ k', k = k' + 1 := ⟨k - 1, by omega⟩; show (if ((a :: l).length : Int) > 0 then spec_l4Form.j0 (k' + 1) (a :: l) 0 (decide ((0 : Int) < 1)) else _) = _; rw [if_pos (by simp), spec_l4Form.j0, if_pos (by simp)]; rfl⟩
 | succ d ih =>
  intro hd l hl ho hsh
  have hkid : ∀ s ∈ l, manyT d s.f3 + manyT d s.f4 ≤ 1048576 := fun s hs => by
   have : manyT d s.f3 + manyT d s.f4 ≤ (l.map fun s => manyT d s.f3 + manyT d s.f4).sum := mem_sum _ _ (List.mem_map_of_mem (f := fun s => manyT d s.f3 + manyT d s.f4) hs)
   rw [manyT] at hl
   omega
  have hll : l.length ≤ 1048576 := by rw [manyT] at hl; omega
  have hlo := form_loopT d (by omega) l hll (fun s hs => hsh s (ho s hs)) (fun s hs => ⟨ih (by omega) s.f3 (by have := hkid s hs; omega) ((istOk_eq s).1 (ho s hs)).2.1.2 hsh, ih (by omega) s.f4 (by have := hkid s hs; omega) ((istOk_eq s).1 (ho s hs)).2.2.2 hsh⟩) l.length 0 (by omega)
  rw [List.drop_zero] at hlo
  rw [formT]
  refine Ends.succ (g := fun k => spec_l4Form.j0 k l ((d + 1 : Nat) : Int) false) (fun k => ?_) (Ends.succ (fun k => by rw [spec_l4Form.j0, if_neg (by simp)]; rfl) hlo)
  rw [spec_l4Form.f]
  by_cases h : (l.length : Int) > 0
  ·rw [if_pos h, decide_eq_false (by omega)]
  ·rw [if_neg h]
end Go.Proofs.YtendbgedpjcocaaGreatDoor.B
/- Plain law: count and the specification's reckoning of statements agree. -/
namespace Go.Proofs.YtendbgedpjcocaaGreatDoor.B
open Go.RowKit Go.Proofs.YtendbgedpjcocaaGreatDoorW.PrintWords Go.Proofs.YtendbgedpjcocaaGreatDoorW.PrintLast Go.Proofs.YtendbgedpjcocaaGreatDoorW.PrintMore
set_option linter.unusedVariables false

def stepOk (d : Nat) (s : ISt) : Bool := headSt s && (formT d s.f3 && formT d s.f4)
def stepN (d : Nat) (s : ISt) : Nat := 1 + manyT d s.f3 + manyT d s.f4
def CntR (r : Bool × Int) (b : Bool) (n : Int) : Prop := r.1 = (b && decide (n ≤ 16)) ∧ (r.1 = true → r.2 = n)
theorem step_law (d : Nat) (ih : ∀ (l : List ISt) (m : Int), m ≤ 16 → CntR (countL d l m) (formT d l) (m + manyT d l)) (s : ISt) (m : Int) (hm : m ≤ 16) : CntR (cntStep d s m) (stepOk d s) (m + stepN d s) := by
 unfold cntStep stepOk stepN
 by_cases h : (decide (m + 1 > 16) || !headSt s) = true
 ·rw [if_pos h]
  rw [Bool.or_eq_true, decide_eq_true_eq] at h
  refine ⟨?_, fun h => by cases h⟩
  rcases h with h | h
  ·rw [decide_eq_false (by omega), Bool.and_false]
  ·rw [Bool.not_eq_true'] at h
   rw [h]; rfl
 ·rw [if_neg h]
  simp only [Bool.or_eq_true, decide_eq_true_eq, not_or, Bool.not_eq_true', Bool.not_eq_false] at h
  rw [h.2, Bool.true_and]
  have h1 := ih s.f3 (m + 1) (by omega)
  cases hr : (countL d s.f3 (m + 1)).1 with
  | false =>
   simp only [hr]
   refine ⟨?_, fun h => by rw [if_neg (by simp)] at h; rw [hr] at h; cases h⟩
   rw [if_neg (by simp), hr]
   have := h1.1
   rw [hr] at this
   cases hf : formT d s.f3 with
   | false => rfl
   | true =>
    rw [hf, Bool.true_and] at this
    have := of_decide_eq_false this.symm
    rw [decide_eq_false (by omega), Bool.and_false]
  | true =>
   simp only [hr, if_true]
   have h2 := h1.2 hr
   have h3 := h1.1
   rw [hr] at h3
   have h4 := Bool.and_eq_true_iff.1 h3.symm
   have h5 := of_decide_eq_true h4.2
   have h6 := ih s.f4 (countL d s.f3 (m + 1)).2 (by rw [h2]; omega)
   rw [h4.1, Bool.true_and]
   rw [h2] at h6 ⊢
   rw [show m + ((1 + manyT d s.f3 + manyT d s.f4 : Nat) : Int) = m + 1 + (manyT d s.f3 : Int) + (manyT d s.f4 : Int) by omega]
   exact h6
theorem count_law (d : Nat) : ∀ (l : List ISt) (m : Int), m ≤ 16 → CntR (countL d l m) (formT d l) (m + manyT d l) := by
 induction d with
 | zero =>
  intro l m hm
  cases l with
  | nil => exact ⟨by show true = (true && decide (m + 0 ≤ 16)); rw [decide_eq_true (by omega)]; rfl, fun _ => by show m = m + 0; omega⟩
  | cons a l => exact ⟨rfl, fun h => by cases h⟩
 | succ d ih =>
  intro l
  induction l with
  | nil => intro m hm; exact ⟨by show true = (true && decide (m + 0 ≤ 16)); rw [decide_eq_true (by omega)]; rfl, fun _ => by show m = m + 0; omega⟩
  | cons a l ihl =>
   intro m hm
   have hs := step_law d ih a m hm
   rw [countL_succ, List.foldl_cons]
   have hf : formT (d + 1) (a :: l) = (stepOk d a && formT (d + 1) l) := rfl
   have hn : ((manyT (d + 1) (a :: l) : Nat) : Int) = (stepN d a : Int) + (manyT (d + 1) l : Int) := by
    have : manyT (d + 1) (a :: l) = stepN d a + manyT (d + 1) l := by
     rw [manyT, manyT, stepN, List.map_cons, List.sum_cons, List.length_cons]; omega
    omega
   rw [hf, hn]
   simp only [if_true]
   obtain ⟨r, hr⟩ : ∃ r, r = cntStep d a m := ⟨_, rfl⟩
   rw [← hr] at hs ⊢
   obtain ⟨b, n⟩ := r
   cases b with
   | false =>
    rw [cnt_stop]
    refine ⟨?_, fun h => by cases h⟩
    have h1 : false = (stepOk d a && decide (m + stepN d a ≤ 16)) := hs.1
    cases ha : stepOk d a with
    | false => rfl
    | true =>
     rw [ha, Bool.true_and] at h1
     have := of_decide_eq_false h1.symm
     rw [decide_eq_false (by omega), Bool.and_false]
   | true =>
    have h1 : true = (stepOk d a && decide (m + stepN d a ≤ 16)) := hs.1
    have h2 : n = m + stepN d a := hs.2 rfl
    have h4 := Bool.and_eq_true_iff.1 h1.symm
    have h5 := of_decide_eq_true h4.2
    have h6 := ihl n (by omega)
    rw [countL_succ] at h6
    rw [h4.1, Bool.true_and]
    rw [h2] at h6 ⊢
    rw [← Int.add_assoc]
    exact h6
/-- StmtsOk, StmtsMany: what they say. -/
theorem stOk_is (l : List ISt) : (countL 4 l 0).1 = (formT 4 l && decide (manyT 4 l ≤ 16)) := by
 rw [(count_law 4 l 0 (by omega)).1]
 congr 1
 by_cases h : manyT 4 l ≤ 16
 ·rw [decide_eq_true (by omega), decide_eq_true h]
 ·rw [decide_eq_false (by omega), decide_eq_false h]
end Go.Proofs.YtendbgedpjcocaaGreatDoor.B
/- impl.ExprOf, over impl.ExprOk's contract. -/
namespace Go.Proofs.YtendbgedpjcocaaGreatDoor.B
open Go.RowKit Go.Proofs.YtendbgedpjcocaaGreatDoorW.PrintWords Go.Proofs.YtendbgedpjcocaaGreatDoorW.PrintLast Go.Proofs.YtendbgedpjcocaaGreatDoorW.PrintMore
set_option linter.unusedVariables false

def memOkL (l0 l1 l2 : List Int) : Bool := listOk l0 && (listOk l1 && listOk l2)
def ofV (e : Ex) (l0 l1 l2 : List Int) : Int := if memOkL l0 l1 l2 && okL 0 (partsL e) then evalI (l0 ++ l1 ++ l2) e else 0
set_option maxRecDepth 100000 in
set_option maxHeartbeats 4000000 in
theorem exprOf_any (hok : OkCon) (e : Ex) (A : Option Addr) (c : Nat) (l0 l1 l2 : List Int) (A0 A1 A2 : Option Addr) (c0 c1 c2 : Nat) (w : World) (hC : Kd.C exK w A e.f3.length e.f3) (hc : e.f3.length ≤ c)
  (h0 : Kd.C (Kd.int .i64) w A0 l0.length l0) (h1 : Kd.C (Kd.int .i64) w A1 l1.length l1) (h2 : Kd.C (Kd.int .i64) w A2 l2.length l2) (m0 : l0.length ≤ c0) (m1 : l1.length ≤ c1) (m2 : l2.length ≤ c2) :
  Calls Tryz.prog 19 #[.agg #[.int .i64 e.f0, .int .i64 e.f1, .int .i64 e.f2.f0, .int .i64 e.f2.f1, .slice A e.f3.length c], .agg #[.slice A0 l0.length c0, .slice A1 l1.length c1, .slice A2 l2.length c2]] w fun en w' => en = .returned (.int .i64 (ofV e l0 l1 l2)) ∧ Below w.heap.size w w' := by
 obtain ⟨hs, k1, k2, hB0⟩ := two_blocks' w (.cells #[.int .i64 e.f0, .int .i64 e.f1, .int .i64 e.f2.f0, .int .i64 e.f2.f1, .slice A e.f3.length c] 27 (0, 0)) (.cells #[.slice A0 l0.length c0, .slice A1 l1.length c1, .slice A2 l2.length c2] 30 (0, 0))
 have HK := Aside0.mk (And.intro k1 hB0)
 have HX := Aside0.mk (And.intro hC hc)
 have HM := Aside0.mk (fun (W : World) (h : Below w.heap.size w W) => readMem_any l0 l1 l2 A0 A1 A2 c0 c1 c2 W (Kd.C_below h0 h) (Kd.C_below h1 h) (Kd.C_below h2 h) m0 m1 m2)
 clear hs k1 k2 hB0 hC hc h0 h1 h2 m0 m1 m2
 go_enter Tryz.func19, Tryz.ntmps19
 go_wp2_with fail
 refine (HM.out _ HK.out.2).mono ?_
 rintro en w1 ⟨hr, hb1⟩
 have HB1 := Aside0.mk (HK.out.2.trans (hb1.mono HK.out.2.size))
 have k1 := (hb1.block _ (blk_lt HK.out.1)).trans HK.out.1
 clear hb1 HM
 have q0 : w1.cell? ⟨w.heap.size, 0, none⟩ = some (.int .i64 e.f0) := by rw [blk_cell k1]; rfl
 have q1 : w1.cell? ⟨w.heap.size, 1, none⟩ = some (.int .i64 e.f1) := by rw [blk_cell k1]; rfl
 have q2 : w1.cell? ⟨w.heap.size, 2, none⟩ = some (.int .i64 e.f2.f0) := by rw [blk_cell k1]; rfl
 have q3 : w1.cell? ⟨w.heap.size, 3, none⟩ = some (.int .i64 e.f2.f1) := by rw [blk_cell k1]; rfl
 have q4 : w1.cell? ⟨w.heap.size, 4, none⟩ = some (.slice A e.f3.length c) := by rw [blk_cell k1]; rfl
 have HK1 := Aside0.mk k1
 clear k1 HK
 rcases hr with ⟨hv, g, rfl, hm⟩ | ⟨hv, rfl⟩
 ·have HV := Aside0.mk (show memOkL l0 l1 l2 = true from hv)
  have HM := Aside0.mk hm
  clear hv hm
  go_wp2_with fail
  refine (hok e A c w1 (Kd.C_below HX.out.1 HB1.out) HX.out.2).mono ?_
  rintro en w2 ⟨rfl, hb2⟩
  have k2 := (hb2.block _ (blk_lt HK1.out)).trans HK1.out
  have HB2 := Aside0.mk (HB1.out.trans (hb2.mono HB1.out.size))
  have HM2 := Aside0.mk (HM.out.below hb2)
  clear hb2 q0 q1 q2 q3 q4
  cases ho : okL 0 (partsL e) with
  | false =>
   have HO := Aside0.mk ho; clear ho k2
   go_wp2
   go_ret
   exact ⟨by rw [ofV, HO.out, Bool.and_false]; rfl, HB2.out⟩
  | true =>
   have hf : formS 6 e = true := by rw [okL_eq, Bool.and_eq_true] at ho; exact ho.1
   have hcall := reckon_any (l0 ++ l1 ++ l2) 6 e hf g A c w2 HM2.out (Kd.C_below HX.out.1 HB2.out) HX.out.2
   simp only [List.append_toArray, List.nil_append] at hcall
   have HO := Aside0.mk (And.intro ho hcall)
   clear ho hf hcall
   have q0 : w2.cell? ⟨w.heap.size, 0, none⟩ = some (.int .i64 e.f0) := by rw [blk_cell k2]; rfl
   have q1 : w2.cell? ⟨w.heap.size, 1, none⟩ = some (.int .i64 e.f1) := by rw [blk_cell k2]; rfl
   have q2 : w2.cell? ⟨w.heap.size, 2, none⟩ = some (.int .i64 e.f2.f0) := by rw [blk_cell k2]; rfl
   have q3 : w2.cell? ⟨w.heap.size, 3, none⟩ = some (.int .i64 e.f2.f1) := by rw [blk_cell k2]; rfl
   have q4 : w2.cell? ⟨w.heap.size, 4, none⟩ = some (.slice A e.f3.length c) := by rw [blk_cell k2]; rfl
   clear k2
   go_wp2_with fail
   refine HO.out.2.mono ?_
   rintro en w3 ⟨rfl, hb3⟩
   have HB3 := Aside0.mk (HB2.out.trans (hb3.mono HB2.out.size))
   clear hb3 q0 q1 q2 q3 q4
   go_wp2
   go_ret
   exact ⟨by rw [ofV, HO.out.1, HV.out, List.append_assoc]; rfl, HB3.out⟩
 ·have HV := Aside0.mk (show memOkL l0 l1 l2 = false from hv)
  clear hv
  go_wp2
  go_ret
  exact ⟨by rw [ofV, HV.out, Bool.false_and]; rfl, HB1.out⟩
end Go.Proofs.YtendbgedpjcocaaGreatDoor.B
/- Boxes: a variable in a block of its own, known whole; how operations meet it, in plain regions and in those that draw their order. -/
namespace Go.Proofs.YtendbgedpjcocaaGreatDoor.B
open Go Go.RowKit Go.Proofs.YtendbgedpjcocaaGreatDoorW.PrintWords Go.Proofs.YtendbgedpjcocaaGreatDoorW.PrintLast Go.Proofs.YtendbgedpjcocaaGreatDoorW.PrintMore
set_option linter.unusedVariables false

abbrev Box (W : World) (g : Nat) (T : TypeId) (cs : Array Value) : Prop := W.heap[g]? = some (.cells cs T (0, 0))
/-- What a store into block g leaves: all other blocks. -/
structure Put1 (g : Nat) (W W' : World) : Prop where
 os : W'.os = W.os
 tape : W'.tape = W.tape
 output : W'.output = W.output
 size : W'.heap.size = W.heap.size
 far : ∀ j, j ≠ g → W'.heap[j]? = W.heap[j]?
theorem Put1.below {g B : Nat} {w W W' : World} (h : Put1 g W W') (hb : Below B w W) (hg : B ≤ g) : Below B w W' :=
 hb.trans ⟨h.os, h.tape, h.output, by rw [h.size]; exact Nat.le_refl _, fun k hk => h.far k (by omega)⟩
theorem setCells_put1 (g : Nat) : ∀ (vs : List Value) (o : Nat) (W : World), Put1 g W (W.setCells g o vs)
 | [], _, W => ⟨rfl, rfl, rfl, rfl, fun _ _ => rfl⟩
 | v :: r, o, W => by
  have h := setCells_put1 g r (o + 1) (W.setCell ⟨g, o, none⟩ v)
  exact ⟨h.os, h.tape, h.output, h.size.trans (by simp [World.setCell]), fun j hj => (h.far j hj).trans (Below.heap_setCell _ _ _ _ hj)⟩
theorem setCells_row (g : Nat) (T : TypeId) : ∀ (vs : List Value) (o : Nat) (W : World) (cs : Array Value), Box W g T cs → ∃ R : Array Value, Box (W.setCells g o vs) g T R ∧ R.size = cs.size ∧ (∀ i, i < o → R[i]? = cs[i]?) ∧ ∀ i, i < vs.length → o + i < cs.size → R[o + i]? = vs[i]?
 | [], o, W, cs, h => ⟨cs, h, rfl, fun _ _ => rfl, fun i hi => absurd hi (Nat.not_lt_zero i)⟩
 | v :: r, o, W, cs, h => by
  obtain ⟨R, h1, h2, h3, h4⟩ := setCells_row g T r (o + 1) (W.setCell ⟨g, o, none⟩ v) (cs.setIfInBounds o v) (blk_set h o v)
  refine ⟨R, h1, by rw [h2]; simp, fun i hi => ?_, fun i hi ho => ?_⟩
  ·rw [h3 i (by omega), Array.getElem?_setIfInBounds_ne (by omega)]
  ·cases i with
   | zero =>
    rw [Nat.add_zero, h3 o (by omega), List.getElem?_cons_zero, Array.getElem?_setIfInBounds_self_of_lt (by simpa using ho)]
   | succ i =>
    have := h4 i (by simpa using hi) (by simp; omega)
    rw [show o + (i + 1) = o + 1 + i by omega, List.getElem?_cons_succ]
    exact this
theorem setCells_box {g : Nat} {T : TypeId} {W : World} {cs cs' : Array Value} (h : Box W g T cs) (hs : cs'.size = cs.size) : Box (W.setCells g 0 cs'.toList) g T cs' := by
 obtain ⟨R, h1, h2, _, h4⟩ := setCells_row g T cs'.toList 0 W cs h
 have : R = cs' := by
  apply Array.ext_getElem?
  intro i
  by_cases hi : i < cs'.size
  ·have := h4 i (by simpa using hi) (by omega)
   rw [Nat.zero_add] at this
   simpa using this
  ·rw [Array.getElem?_eq_none (by omega), Array.getElem?_eq_none (by omega)]
 exact this ▸ h1
theorem Box.range {W : World} {g : Nat} {T : TypeId} {cs : Array Value} (h : Box W g T cs) : W.rangeAt g 0 cs.toList := fun j v hv => by
 rw [Nat.zero_add, blk_cell h]
 simpa using hv
theorem Box.there {W : World} {g : Nat} {T : TypeId} {cs : Array Value} (h : Box W g T cs) : W.there g 0 cs.size := fun j hj => by
 rw [Nat.zero_add, blk_cell h, blk_frozen h]
 simp [hj]
theorem Box.put1 {W W' : World} {g b : Nat} {T : TypeId} {cs : Array Value} (h : Box W g T cs) (hp : Put1 b W W') (hne : g ≠ b) : Box W' g T cs := (hp.far g hne).trans h
theorem drew_below (W : World) : Below W.heap.size W W.drew := (Below.refl _ _).drew

section
variable {P : Program} {ops : Array Oper} {rest : List Oper} {o : Oper} {a : Act} {Q : Exit → Act → World → Prop} {W : World}
/-- A box is made. -/
theorem boxNew_ {N : Tmp} (hd : o.dst = some N) (hg : o.guard = none) (cs : Array Value) (T : TypeId) (hrun : (execOp a.eval o).run P W = .ok (.value (.pointer (some ⟨W.heap.size, 0, none⟩))) (W.alloc (.cells cs T (0, 0))))
  (h : ∀ g W', g = W.heap.size → Box W' g T cs → Below W.heap.size W W' → wpList P ops Q rest (a.put (some N) (.pointer (some ⟨g, 0, none⟩))) W') : wpList P ops Q (o :: rest) a W := by
 refine box_event hg hd hrun fun g hg w1 h1 h2 => ?_
 rw [hd]
 exact h g w1 hg h1 h2
/-- A box is written whole. -/
theorem boxPut_ {T : TypeId} {p : Tmp} {x : Operand} (ho : o.op = .store T (.tmp p) x) (hN : o.dst = none) (hg : o.guard = none) {g : Nat} {cs : Array Value} (hp : a.eval (.tmp p) = .pointer (some ⟨g, 0, none⟩)) (cs' : Array Value) (hx : a.eval x = .agg cs')
  (hb : Box W g T cs) (hs : cs'.size = cs.size) (hi : (P.info? T).map (·.size) = some cs'.size) (h1 : cs'.all (·.oneCell') = true)
  (h : ∀ W', Box W' g T cs' → Put1 g W W' → wpList P ops Q rest a W') : wpList P ops Q (o :: rest) a W := by
 refine wpList_store_mid hg T (.tmp p) x ho g 0 cs' hp hx (by rw [hs]; exact Box.there hb) hi h1 ?_
 rw [hN]
 exact h _ (setCells_box hb hs) (setCells_put1 g _ 0 W)
/-- A box is read whole. -/
theorem boxGet_ {T : TypeId} {x : Operand} {N : Tmp} (ho : o.op = .load T x) (hd : o.dst = some N) (hg : o.guard = none) {g : Nat} {cs : Array Value} (hx : a.eval x = .pointer (some ⟨g, 0, none⟩)) (hb : Box W g T cs) {d : TypeDesc} (hu : P.underlying T = some d) (hr : d.isRow = true)
  (hi : (P.info? T).map (·.size) = some cs.size) (h : wpList P ops Q rest (a.put (some N) (.agg cs)) W) : wpList P ops Q (o :: rest) a W := by
 refine wpList_load_mid hg T x ho g 0 hx cs.toList d (Box.range hb) hu hr (by simpa using hi) ?_
 rw [hd]
 simpa using h
theorem eval_put_same {a : Act} {N : Tmp} (h : N < a.tmps.size) (v : Value) : (a.put (some N) v).eval (.tmp N) = v := by simp [Act.eval, Act.put, h]
theorem eval_put_ne {a : Act} {N t : Tmp} (h : N ≠ t) (v : Value) : (a.put (some N) v).eval (.tmp t) = a.eval (.tmp t) := Act.eval_put fun d hd hx => h (by injection hx with hx; injection hd with hd; rw [hd, hx])
/-- A variable is made and filled: x := f(..). -/
theorem new1_ {rest : List Oper} {o1 o2 : Oper} {N x : Tmp} {T : TypeId} (cs : Array Value) {zs : Array Value} (h1 : cs.all (·.oneCell') = true)
  (hd1 : o1.dst = some N := by rfl) (hg1 : o1.guard = none := by rfl) (ho1 : o1.op = .alloc T := by rfl) (hz : ∀ ev W, (execOp ev o1).run P W = .ok (.value (.pointer (some ⟨W.heap.size, 0, none⟩))) (W.alloc (.cells zs T (0, 0))) := by (intro _ _; go_simp; first | done | rfl))
  (ho2 : o2.op = .store T (.tmp N) (.tmp x) := by rfl) (hd2 : o2.dst = none := by rfl) (hg2 : o2.guard = none := by rfl)
  (hN : decide (N < a.tmps.size) = true := by rfl) (hNx : N ≠ x := by decide) (hx : a.eval (.tmp x) = .agg cs := by rfl)
  (hs : cs.size = zs.size := by rfl) (hi : (P.info? T).map (·.size) = some cs.size := by kernel_rfl)
  (h : ∀ g W', W.heap.size ≤ g → Box W' g T cs → Below W.heap.size W W' → wpList P ops Q rest (a.put (some N) (.pointer (some ⟨g, 0, none⟩))) W') : wpList P ops Q (o1 :: o2 :: rest) a W := by
 refine boxNew_ hd1 hg1 zs T (hz _ _) fun g W1 hg hb hB => ?_
 refine boxPut_ ho2 hd2 hg2 (eval_put_same (of_decide_eq_true hN) _) cs ((eval_put_ne hNx _).trans hx) hb hs hi h1 fun W2 hb2 hp => ?_
 exact h g W2 (Nat.le_of_eq hg.symm) hb2 (hp.below hB (Nat.le_of_eq hg.symm))
/-- Two variables are made and filled: x, y := f(..). -/
theorem new2_ {rest : List Oper} {o1 o2 o3 o4 : Oper} {N M x y : Tmp} {T U : TypeId} (cs ds : Array Value) {zs ys : Array Value} (h1 : cs.all (·.oneCell') = true) (h2 : ds.all (·.oneCell') = true)
  (hd1 : o1.dst = some N := by rfl) (hg1 : o1.guard = none := by rfl) (ho1 : o1.op = .alloc T := by rfl) (hz : ∀ ev W, (execOp ev o1).run P W = .ok (.value (.pointer (some ⟨W.heap.size, 0, none⟩))) (W.alloc (.cells zs T (0, 0))) := by (intro _ _; go_simp; first | done | rfl))
  (hd2 : o2.dst = some M := by rfl) (hg2 : o2.guard = none := by rfl) (ho2 : o2.op = .alloc U := by rfl) (hy : ∀ ev W, (execOp ev o2).run P W = .ok (.value (.pointer (some ⟨W.heap.size, 0, none⟩))) (W.alloc (.cells ys U (0, 0))) := by (intro _ _; go_simp; first | done | rfl))
  (ho3 : o3.op = .store T (.tmp N) (.tmp x) := by rfl) (hd3 : o3.dst = none := by rfl) (hg3 : o3.guard = none := by rfl) (ho4 : o4.op = .store U (.tmp M) (.tmp y) := by rfl) (hd4 : o4.dst = none := by rfl) (hg4 : o4.guard = none := by rfl)
  (hN : decide (N < a.tmps.size) = true := by rfl) (hM : decide (M < a.tmps.size) = true := by rfl) (hNM : N ≠ M := by decide) (hNx : N ≠ x := by decide) (hMx : M ≠ x := by decide) (hNy : N ≠ y := by decide) (hMy : M ≠ y := by decide) (hx : a.eval (.tmp x) = .agg cs := by rfl) (hy' : a.eval (.tmp y) = .agg ds := by rfl)
  (hs : cs.size = zs.size := by rfl) (hi : (P.info? T).map (·.size) = some cs.size := by kernel_rfl) (ht : ds.size = ys.size := by rfl) (hj : (P.info? U).map (·.size) = some ds.size := by kernel_rfl)
  (h : ∀ g g' W', W.heap.size ≤ g → W.heap.size ≤ g' → g ≠ g' → Box W' g T cs → Box W' g' U ds → Below W.heap.size W W' → wpList P ops Q rest ((a.put (some N) (.pointer (some ⟨g, 0, none⟩))).put (some M) (.pointer (some ⟨g', 0, none⟩))) W') : wpList P ops Q (o1 :: o2 :: o3 :: o4 :: rest) a W := by
 refine boxNew_ hd1 hg1 zs T (hz _ _) fun g W1 hg hb hB => ?_
 refine boxNew_ hd2 hg2 ys U (hy _ _) fun g' W2 hg' hb' hB' => ?_
 have hlt : g < W1.heap.size := blk_lt hb
 have hne : g ≠ g' := by omega
 have hle : W.heap.size ≤ g' := by have := hB.size; omega
 refine boxPut_ ho3 hd3 hg3 ((eval_put_ne (Ne.symm hNM) _).trans (eval_put_same (of_decide_eq_true hN) _)) cs ((eval_put_ne hMx _).trans ((eval_put_ne hNx _).trans hx)) (blk_below hb hB') hs hi h1 fun W3 hb3 hp3 => ?_
 refine boxPut_ ho4 hd4 hg4 (eval_put_same (by simpa [Act.put] using of_decide_eq_true hM) _) ds ((eval_put_ne hMy _).trans ((eval_put_ne hNy _).trans hy')) (Box.put1 hb' hp3 (Ne.symm hne)) ht hj h2 fun W4 hb4 hp4 => ?_
 have hB2 : Below W.heap.size W W2 := hB.trans (hB'.mono hB.size)
 exact h g g' W4 (Nat.le_of_eq hg.symm) hle hne (Box.put1 hb3 hp4 hne) hb4 (hp4.below (hp3.below hB2 (Nat.le_of_eq hg.symm)) hle)
theorem Box.cell {W : World} {g : Nat} {T : TypeId} {cs : Array Value} (h : Box W g T cs) (i : Nat) (v : Value) (hv : cs[i]? = some v) : W.cell? ⟨g, i, none⟩ = some v ∧ W.frozen? ⟨g, i, none⟩ = false := ⟨(blk_cell h i).trans hv, blk_frozen h i⟩
end

section
variable {ops : Array Oper} {o : Oper} {b : Act}
theorem wanted_on {g : Nat} {want : Bool} {t : Tmp} (hg : o.guard = some (g, want)) (hd : (ops[g]?).bind (·.dst) = some t) (ht : b.tmps[t]? = some (.bool want)) : Region.wanted o (yielded ops b.tmps) = true := by
 simp [Region.wanted, hg, yielded, hd, ht]
end
section
variable {P : Program} {ops : Array Oper} {o : Oper} {b : Act} {W : World} {Ψ : Value → World → Prop}
theorem stepVal {v : Value} (hw : Region.wanted o (yielded ops b.tmps) = true) (hrun : (execOp b.eval o).run P W = .ok (.value v) W) (h : Ψ v W) : StepOK P ops o b W Ψ := fun K Q hK => value_ hw rfl hrun (hK v W h)
theorem stepGet {T : TypeId} {x : Operand} (hw : Region.wanted o (yielded ops b.tmps) = true) (ho : o.op = .load T x) {g : Nat} {cs : Array Value} (hx : b.eval x = .pointer (some ⟨g, 0, none⟩)) (hb : Box W g T cs) {d : TypeDesc} (hu : P.underlying T = some d) (hr : d.isRow = true)
  (hi : (P.info? T).map (·.size) = some cs.size) (h : Ψ (.agg cs) W) : StepOK P ops o b W Ψ := by
 refine stepVal hw ?_ h
 have := run_loadVar_mid (P := P) W g 0 T cs.toList d (Box.range hb) hu hr (by simpa using hi)
 unfold execOp
 simp only [ho, hx, Instr.loadAt, Instr.sureAddr, Sem.run_bind, Sem.run_pure, Result.andThen_ok, this]
theorem stepCall {f : FuncId} {fn : Func} {ys : Array Operand} {ts : Array TypeId} (hw : Region.wanted o (yielded ops b.tmps) = true) (hf : P.funcs[f]? = some fn) (hname : (fn.name == "runtime.NumGoroutine") = false) (hbd : fn.body.isSome = true) (args : Array Value)
  (hop : o.op = .call { callee := .value (.func f), args := ys, argTypes := ts }) (hargs : ys.map b.eval = args) {R : Ending → World → Prop} (hc : Calls P f args W R) (h : ∀ e w', R e w' → ∃ v, e = .returned v ∧ Ψ v w') : StepOK P ops o b W Ψ :=
 fun K Q hK => goes_ hf hname hbd args hw rfl hop hargs (hc.mono fun e w' hr => by
  obtain ⟨v, rfl, hv⟩ := h e w' hr
  exact ⟨v, rfl, hK v w' hv⟩)
end
/-- What stays, as memory is made. -/
def Lasts (p : World → Prop) : Prop := ∀ W W', Below W.heap.size W W' → p W → p W'
theorem Lasts.const (p : Prop) : Lasts fun _ => p := fun _ _ _ h => h
theorem Lasts.below (w : World) : Lasts fun W => Below w.heap.size w W := fun _ _ hb h => h.trans (hb.mono h.size)
/-- Facts of values, one by one. -/
def FAt (Fs : List (Value → World → Prop)) (i : Nat) (v : Value) (W : World) : Prop := Fs.getD i (fun _ _ => True) v W
def LastAll : List (Value → World → Prop) → Prop
 | [] => True
 | F :: r => (∀ v, Lasts (F v)) ∧ LastAll r
theorem FAt.last : ∀ (Fs : List (Value → World → Prop)), LastAll Fs → ∀ i v a b, Below a.heap.size a b → FAt Fs i v a → FAt Fs i v b
 | [], _, _, _, _, _, _, _ => trivial
 | F :: r, h, 0, v, a, b, hb, hf => h.1 v a b hb hf
 | F :: r, h, i + 1, v, a, b, hb, hf => FAt.last r h.2 i v a b hb hf
section
variable {P : Program} {ops : Array Oper} {Q : Exit → Act → World → Prop}
/-- A region that draws its order, where nothing but new memory is written: p is what is known of the world. -/
theorem weaveB_ {id : Nat} {a0 : Act} {w : World} (p : World → Prop) (hp : Lasts p) (h0 : p w) (ds : List (Tmp × Nat)) (Fs : List (Value → World → Prop)) (hm : P.follows .mixedOrders = true) (hB : weaveB ops ds = true) (hF : LastAll Fs)
  (hstep : OpsAll (fun i o => ∀ vs W, p W → (∀ j ∈ waitsOn o, FAt Fs j (vs j) W) → ∀ b, Sees a0 ds o vs b → StepOK P ops o b W fun v W' => Below W.heap.size W W' ∧ FAt Fs i v W') ops.toList 0)
  (hend : ∀ (vs : Nat → Value) W, p W → (∀ j, j < ops.size → FAt Fs j (vs j) W) → Q .normal (putL a0 (ds.map fun q => (q.1, vs q.2))) W) : (Code.region id ops true).wp P Q a0 w :=
 weaveR (fun a b => Below a.heap.size a b) (FAt Fs) ds hm hB (fun w => Below.refl _ _) (fun a b c h k => h.trans (k.mono h.size)) (fun i v a b h => FAt.last Fs hF i v a b h)
  (OpsAll.imp (fun i o h vs W hW hv => h vs W (hp _ _ hW (hp _ _ (drew_below w) h0)) hv) _ _ hstep) (fun vs W hW hv => hend vs W (hp _ _ hW (hp _ _ (drew_below w) h0)) hv)
end

/-- What is known of a value: it lasts as memory is made; what it leads to lies in ok, and no store elsewhere touches it. -/
structure Good (F : Value → World → (Nat → Prop) → Prop) : Prop where
 last : ∀ v ok W W', Below W.heap.size W W' → F v W ok → F v W' ok
 mono : ∀ v W ok ok', (∀ k, ok k → ok' k) → F v W ok → F v W ok'
 bound : ∀ v W ok, F v W ok → F v W fun k => ok k ∧ k < W.heap.size
 far : ∀ v W W' ok g, Put1 g W W' → ¬ ok g → F v W ok → F v W' ok
section
variable {P : Program} {ops : Array Oper} {Q : Exit → Act → World → Prop}
end
end Go.Proofs.YtendbgedpjcocaaGreatDoor.B
/- Contracts of Go's library, laid out of the kit's shelf at this seat's program. -/
namespace Go.Proofs
open Go Go.Shelf Go.RowKit Go.Lib
def Tryz.laysNm215_ren : Go.Shelf.Ren := ⟨fun | 15 => 80 | n => n, fun | 22 => 28 | 3 => 3 | 4 => 4 | n => n, fun | n => n⟩
theorem Tryz.laysNm215 : Go.Proofs.Lays2.n15 Tryz.prog Tryz.laysNm215_ren := {
 mixed := by kernel_rfl
 f15 := Tryz.func80.trans (congrArg some (by kernel_rfl))
 t3 := Tryz.underlying3
 a3 := Tryz.isAgg3
 z3 := Tryz.sizeOf3
 v3 := Tryz.zeroValue3
 t4 := Tryz.underlying4
 a4 := Tryz.isAgg4
 z4 := Tryz.sizeOf4
 v4 := Tryz.zeroValue4
 t22 := Tryz.underlying28
 a22 := Tryz.isAgg28
 z22 := Tryz.sizeOf28
 v22 := Tryz.zeroValue28
 i3 := by kernel_rfl }
theorem Tryz.slices_Clone_int (b off n c : Nat) (zs : List Int) (w : World) (hz : n ≤ zs.length) (hbig : n * 8 ≤ 140737488355328) (hc : ∀ j, j < zs.length → w.cell? ⟨b, off + j, none⟩ = some (.int .i64 (zs.getD j 0))) :
  Calls Tryz.prog 80 #[.slice (some ⟨b, off, none⟩) n c] w fun e w' => ∃ v', e = .returned v' ∧ w'.ownsRow w.heap.size 3 1 v' n ((zs.take n).map (Value.int .i64)) ∧ v' ≠ .slice none 0 0 ∧ Below w.heap.size w w' := Any.slices_Clone_int Tryz.laysNm215 b off n c zs w hz hbig hc
end Go.Proofs
/- impl.count: the walk. -/
namespace Go.Proofs.YtendbgedpjcocaaGreatDoor.B
open Go.RowKit Go.Shelf Go.Proofs.YtendbgedpjcocaaGreatDoorW.PrintWords Go.Proofs.YtendbgedpjcocaaGreatDoorW.PrintLast Go.Proofs.YtendbgedpjcocaaGreatDoorW.PrintMore
set_option linter.unusedVariables false

def stepD : Nat → St → Int → Bool × Int
 | 0, _, m => (false, m + 1)
 | d + 1, s, m => cntStep d s m
theorem stepD_stop (d : Nat) (l : List St) (m : Int) : l.foldl (fun r s => if r.1 then stepD d s r.2 else r) (false, m) = (false, m) := by
 induction l with
 | nil => rfl
 | cons a l ih => exact ih
theorem countL_fold (d : Nat) (l : List St) (m : Int) : countL d l m = l.foldl (fun r s => if r.1 then stepD d s r.2 else r) (true, m) := by
 cases d with
 | succ d => rfl
 | zero =>
  cases l with
  | nil => rfl
  | cons a l => rw [List.foldl_cons]; exact (stepD_stop 0 l (m + 1)).symm
theorem count_take (d : Nat) (l : List St) (m : Int) (j : Nat) (hj : j < l.length) (n : Int) (h : countL d (l.take j) m = (true, n)) : countL d (l.take (j + 1)) m = stepD d l[j] n := by
 rw [countL_fold] at h ⊢
 rw [List.take_succ_eq_append_getElem hj, List.foldl_append, h]; rfl
theorem count_stop (d : Nat) (l : List St) (m : Int) (j : Nat) (hj : j < l.length) (n n' : Int) (h : countL d (l.take j) m = (true, n)) (hs : stepD d l[j] n = (false, n')) : countL d l m = (false, n') := by
 have h1 := count_take d l m j hj n h
 rw [hs, countL_fold] at h1
 rw [countL_fold, ← List.take_append_drop (j + 1) l, List.foldl_append, h1, stepD_stop]
structure CntEnd (w0 w : World) (gm : Nat) (r : Bool × Int) (e : Ending) (w' : World) : Prop where
 e : e = .returned (.bool r.1)
 box : Boxed w' gm 3 (.int .i64 r.2)
 below : Below w0.heap.size w0 w'
 keep : KeepBut w w' gm none
def CntCon (d : Nat) : Prop := ∀ (l : List St) (A : Option Addr) (c gm : Nat) (deep m : Int) (w0 w : World), deep = 4 - d → 0 ≤ m → m ≤ 16 → w0.heap.size ≤ gm → Boxed w gm 3 (.int .i64 m) → Below w0.heap.size w0 w → Kd.C stK w0 A l.length l → l.length ≤ c →
 Calls Tryz.prog 67 #[.slice A l.length c, .int .i64 deep, .pointer (some ⟨gm, 0, none⟩)] w (CntEnd w0 w gm (countL d l m))
set_option maxRecDepth 100000 in
set_option maxHeartbeats 8000000 in
theorem count_step (hok : OkCon) (d : Nat) (hd : d ≤ 4) (ih : ∀ d', d = d' + 1 → CntCon d') : CntCon d := by
 intro l A c gm deep m w0 w hdeep hm0 hm1 hg hbox hB hC hc
 have hmax : l.length ≤ 9223372036854775807 := hC.2.1
 have HI := Aside0.mk (And.intro hdeep (And.intro hd (And.intro hm0 (And.intro hm1 (And.intro hg (And.intro hB (And.intro hC (And.intro hc hmax))))))))
 have HBX := Aside0.mk hbox
 clear hdeep hm0 hm1 hg hbox hB hC
 go_enter Tryz.func67, Tryz.ntmps67
 go_wp2
 go_loopw [8, 9, 12] (fun _ _ i wr => ∃ (j : Nat), i = .int .i64 j ∧ Aside0 (j ≤ l.length ∧ (∃ n, countL d (l.take j) m = (true, n) ∧ Boxed wr gm 3 (.int .i64 n)) ∧ Below w0.heap.size w0 wr ∧ KeepBut w wr gm none)) (fun _ _ i _ => l.length - (intOf i).toNat)
 case atStart => exact ⟨0, rfl, ⟨Nat.zero_le _, ⟨m, by cases d <;> rfl, HBX.out⟩, HI.out.2.2.2.2.2.1, KeepBut.refl _ _ _⟩⟩
 case round =>
  obtain ⟨j, rfl, HR⟩ := hrel
  by_cases hj : j < l.length
  ·obtain ⟨ad, A7, c7, A8, c8, A9, c9, hA, e0, e1, e2, e3, e4, e5, e6, e7, e8, e9, hl7, hi7, hl8, hi8, hl9, hi9⟩ := at_T35 HI.out.2.2.2.2.2.2.1 (j : Int) (by omega) (by omega)
   cases hA
   have hkid : rd_T35 l (j : Int) = l[j] := by simp [rd_T35, hj]
   have hb := HR.out.2.2.1
   replace e0 := (hb.cell (World.block_lt_of_cell? w0 _ e0)).trans e0
   replace e1 := (hb.cell (World.block_lt_of_cell? w0 _ e1)).trans e1
   replace e2 := (hb.cell (World.block_lt_of_cell? w0 _ e2)).trans e2
   replace e3 := (hb.cell (World.block_lt_of_cell? w0 _ e3)).trans e3
   replace e4 := (hb.cell (World.block_lt_of_cell? w0 _ e4)).trans e4
   replace e5 := (hb.cell (World.block_lt_of_cell? w0 _ e5)).trans e5
   replace e6 := (hb.cell (World.block_lt_of_cell? w0 _ e6)).trans e6
   replace e7 := (hb.cell (World.block_lt_of_cell? w0 _ e7)).trans e7
   replace e8 := (hb.cell (World.block_lt_of_cell? w0 _ e8)).trans e8
   replace e9 := (hb.cell (World.block_lt_of_cell? w0 _ e9)).trans e9
   rw [hkid] at e0 e1 e2 e3 e4 e5 e6 e7 e8 e9 hl7 hi7 hl8 hi8 hl9 hi9
   simp only [Int.toNat_natCast] at e0 e1 e2 e3 e4 e5 e6 e7 e8 e9
   obtain ⟨x, hx⟩ : ∃ x, x = l[j] := ⟨_, rfl⟩
   rw [← hx] at e0 e1 e2 e3 e4 e5 e6 e7 e8 e9 hl7 hi7 hl8 hi8 hl9 hi9
   obtain ⟨n, hn, hbn⟩ := HR.out.2.1
   have hmn := count_in d (l.take j) m HI.out.2.2.2.1
   rw [hn] at hmn
   have n16 : n ≤ 16 := (hmn.1 rfl).1
   have n0 : 0 ≤ n := by have h1 := (hmn.1 rfl).2; have h2 := HI.out.2.2.1; exact Int.le_trans h2 h1
   have HX := Aside0.mk (And.intro hx (And.intro hj (And.intro hn (And.intro n0 n16))))
   have HC := Aside0.mk (And.intro hi7 (And.intro hl7 (And.intro hi8 (And.intro hl8 (And.intro hi9 hl9)))))
   have HBN := Aside0.mk hbn
   clear hb hkid hx hi7 hl7 hi8 hl8 hi9 hl9 hn hbn hmn n0 n16
   go_upto_region 4 with (fail)
   have j1 := heap_alloc_new wr (.cells (stCells x A7 c7 A8 c8 A9 c9) 35)
   have hb1 : Below wr.heap.size wr (wr.alloc (.cells (stCells x A7 c7 A8 c8 A9 c9) 35)) := (Below.refl _ _).alloc (Nat.le_refl _) _
   unfold stCells at j1 hb1
   generalize wr.alloc (.cells #[.int .i64 x.f0, .int .i64 x.f1.f0, .int .i64 x.f1.f1, .int .i64 x.f2.f0, .int .i64 x.f2.f1, .int .i64 x.f2.f2.f0, .int .i64 x.f2.f2.f1, .slice A7 x.f2.f3.length c7, .slice A8 x.f3.length c8, .slice A9 x.f4.length c9] 35) = W1 at j1 hb1 ⊢
   have q0 : W1.cell? ⟨gm, 0, none⟩ = some (.int .i64 n) := Boxed.cell ((hb1.block _ HBN.out.lt).trans HBN.out)
   have q1 : W1.frozen? ⟨gm, 0, none⟩ = false := Boxed.frozen ((hb1.block _ HBN.out.lt).trans HBN.out)
   have n0 := HX.out.2.2.2.1
   have n16 := HX.out.2.2.2.2
   clear e0 e1 e2 e3 e4 e5 e6 e7 e8 e9
   go_upto_region 5 with (fail)
   have hgw : wr.heap.size ≠ gm := by have := HBN.out.lt; omega
   have j2 : (W1.setCell ⟨gm, 0, none⟩ (.int .i64 (n + 1))).heap[wr.heap.size]? = _ := blk_far j1 hgw _
   have bx2 : Boxed (W1.setCell ⟨gm, 0, none⟩ (.int .i64 (n + 1))) gm 3 (.int .i64 (n + 1)) := Boxed.set _ ((hb1.block _ HBN.out.lt).trans HBN.out)
   have hB2 : Below w0.heap.size w0 (W1.setCell ⟨gm, 0, none⟩ (.int .i64 (n + 1))) := below_set (HR.out.2.2.1.trans (hb1.mono HR.out.2.2.1.size)) HI.out.2.2.2.2.1
   have hK2 : KeepBut w (W1.setCell ⟨gm, 0, none⟩ (.int .i64 (n + 1))) gm none := KeepBut.set_ (HR.out.2.2.2.trans (KeepBut.of_below hb1 gm none) (.inl rfl)) 0 _
   generalize W1.setCell ⟨gm, 0, none⟩ (.int .i64 (n + 1)) = W2 at j2 bx2 hB2 hK2 ⊢
   have HW2 := Aside0.mk (And.intro j2 (And.intro bx2 (And.intro hB2 hK2)))
   have HG := Aside0.mk hgw
   clear q0 q1 j1 hb1 bx2 hB2 hK2 hgw
   obtain ⟨e0, e1, e2, e3, e4, e5, e6, e7, e8, e9, _⟩ := cel10 j2
   clear j2
   go_wp2_with fail
   refine (doing_any x A7 c7 A8 c8 A9 c9 W2).mono ?_
   rintro e w1 ⟨rfl, hb2⟩
   have j3 := (hb2.block _ (blk_lt HW2.out.1)).trans HW2.out.1
   have bx3 : Boxed w1 gm 3 (.int .i64 (n + 1)) := (hb2.block _ HW2.out.2.1.lt).trans HW2.out.2.1
   have q0 := Boxed.cell bx3
   have HW3 := Aside0.mk (And.intro j3 (And.intro bx3 (And.intro (HW2.out.2.2.1.trans (hb2.mono HW2.out.2.2.1.size)) (HW2.out.2.2.2.trans (KeepBut.of_below hb2 gm none) (.inl rfl)))))
   clear hb2 bx3 e0 e1 e2 e3 e4 e5 e6 e7 e8 e9 HW2 HBN
   obtain ⟨e0, e1, e2, e3, e4, e5, e6, e7, e8, e9, _⟩ := cel10 j3
   clear j3
   have HDV := Aside0.mk (show n + 1 > 16 → doV x A7 c7 A8 c8 A9 c9 = doV x A7 c7 A8 c8 A9 c9 from fun _ => rfl)
   by_cases h16 : n + 1 > 16
   ·have b16 : decide (16 < n + 1) = true := decide_eq_true h16
    have HS : Aside0 (stepD d x n = (false, n + 1)) := Aside0.mk (by
     cases d with
     | zero => rfl
     | succ d => show cntStep d x n = _; rw [cntStep, if_pos (by rw [decide_eq_true h16]; rfl)])
    clear h16
    obtain ⟨v, hv⟩ : ∃ v, v = doV x A7 c7 A8 c8 A9 c9 := ⟨_, rfl⟩
    rw [← hv]
    clear hv
    go_wp2
    go_ret
    exact ⟨by rw [count_stop d l m j HX.out.2.1 n (n + 1) HX.out.2.2.1 (by rw [← HX.out.1]; exact HS.out)]; rfl, by rw [count_stop d l m j HX.out.2.1 n (n + 1) HX.out.2.2.1 (by rw [← HX.out.1]; exact HS.out)]; exact HW3.out.2.1, HW3.out.2.2.1, HW3.out.2.2.2⟩
   ·have b16 : decide (16 < n + 1) = false := decide_eq_false h16
    have H16 := Aside0.mk h16; clear h16 HDV
    by_cases hd0 : d = 0
    ·have hdp : deep = 4 := by have := HI.out.1; omega
     have b4 : decide (4 ≤ deep) = true := decide_eq_true (by omega)
     have HS : Aside0 (stepD d x n = (false, n + 1)) := Aside0.mk (by rw [hd0]; rfl)
     clear hd0 hdp
     obtain ⟨v, hv⟩ : ∃ v, v = doV x A7 c7 A8 c8 A9 c9 := ⟨_, rfl⟩
     rw [← hv]
     clear hv
     go_wp2
     go_ret
     exact ⟨by rw [count_stop d l m j HX.out.2.1 n (n + 1) HX.out.2.2.1 (by rw [← HX.out.1]; exact HS.out)]; rfl, by rw [count_stop d l m j HX.out.2.1 n (n + 1) HX.out.2.2.1 (by rw [← HX.out.1]; exact HS.out)]; exact HW3.out.2.1, HW3.out.2.2.1, HW3.out.2.2.2⟩
    ·obtain ⟨d', hd'⟩ : ∃ d', d = d' + 1 := ⟨d - 1, by omega⟩
     have hdp : ¬ (4 ≤ deep) := by have := HI.out.1; omega
     have b4 : decide (4 ≤ deep) = false := decide_eq_false hdp
     have HD := Aside0.mk (And.intro hd' (ih d' hd'))
     have HDP := Aside0.mk hdp
     clear hd0 hdp hd'
     by_cases hk : x.f0 = 1 ∨ x.f0 = 2 ∨ x.f0 = 3
     rotate_left
     ·have hnil := do_nil x A7 c7 A8 c8 A9 c9 hk
      have HS : Aside0 (stepD d x n = (false, n + 1)) := Aside0.mk (by
       rw [HD.out.1]; show cntStep d' x n = _; rw [cntStep, if_pos (by rw [headSt, hnil.2]; simp)])
      rw [hnil.1]
      clear hk hnil
      go_wp2
      go_ret
      exact ⟨by rw [count_stop d l m j HX.out.2.1 n (n + 1) HX.out.2.2.1 (by rw [← HX.out.1]; exact HS.out)]; rfl, by rw [count_stop d l m j HX.out.2.1 n (n + 1) HX.out.2.2.1 (by rw [← HX.out.1]; exact HS.out)]; exact HW3.out.2.1, HW3.out.2.2.1, HW3.out.2.2.2⟩
     ·obtain ⟨T, v, fp, hdo⟩ := do_is x A7 c7 A8 c8 A9 c9 hk
      rw [hdo.v']
      have hm := hdo.m
      have hep := hdo.ep
      have HDO := Aside0.mk hdo
      clear hk hdo
      have HP := Aside0.mk (HDO.out.cp w1 (Kd.C_below HC.out.1 HW3.out.2.2.1) HC.out.2.1 (Kd.C_below HC.out.2.2.1 HW3.out.2.2.1) HC.out.2.2.2.1 (Kd.C_below HC.out.2.2.2.2.1 HW3.out.2.2.1) HC.out.2.2.2.2.2)
      cases hp : plainL x with
      | false =>
       have HS : Aside0 (stepD d x n = (false, n + 1)) := Aside0.mk (by
        rw [HD.out.1]; show cntStep d' x n = _; rw [cntStep, if_pos (by rw [headSt, hp]; simp)])
       have HPL := Aside0.mk hp; clear hp
       go_wp2_with fail
       refine HP.out.mono ?_
       clear HP
       rintro e w2 ⟨rfl, hb3⟩
       rw [HPL.out]
       have j4 := (hb3.block _ (blk_lt HW3.out.1)).trans HW3.out.1
       have bx4 : Boxed w2 gm 3 (.int .i64 (n + 1)) := (hb3.block _ HW3.out.2.1.lt).trans HW3.out.2.1
       have HW4 := Aside0.mk (And.intro j4 (And.intro bx4 (And.intro (HW3.out.2.2.1.trans (hb3.mono HW3.out.2.2.1.size)) (HW3.out.2.2.2.trans (KeepBut.of_below hb3 gm none) (.inl rfl)))))
       clear hb3 bx4 q0 e0 e1 e2 e3 e4 e5 e6 e7 e8 e9 j4
       go_wp2
       go_ret
       exact ⟨by rw [count_stop d l m j HX.out.2.1 n (n + 1) HX.out.2.2.1 (by rw [← HX.out.1]; exact HS.out)]; rfl, by rw [count_stop d l m j HX.out.2.1 n (n + 1) HX.out.2.2.1 (by rw [← HX.out.1]; exact HS.out)]; exact HW4.out.2.1, HW4.out.2.2.1, HW4.out.2.2.2⟩
      | true =>
       have HPL := Aside0.mk hp; clear hp
       go_wp2_with fail
       refine HP.out.mono ?_
       clear HP
       rintro e w2 ⟨rfl, hb3⟩
       rw [HPL.out]
       have j4 := (hb3.block _ (blk_lt HW3.out.1)).trans HW3.out.1
       have bx4 : Boxed w2 gm 3 (.int .i64 (n + 1)) := (hb3.block _ HW3.out.2.1.lt).trans HW3.out.2.1
       have HW4 := Aside0.mk (And.intro j4 (And.intro bx4 (And.intro (HW3.out.2.2.1.trans (hb3.mono HW3.out.2.2.1.size)) (HW3.out.2.2.2.trans (KeepBut.of_below hb3 gm none) (.inl rfl)))))
       clear hb3 bx4 q0 e0 e1 e2 e3 e4 e5 e6 e7 e8 e9
       obtain ⟨e0, e1, e2, e3, e4, e5, e6, e7, e8, e9, _⟩ := cel10 j4
       clear j4
       go_wp2_with fail
       refine (hok x.f2 A7 c7 w2 (Kd.C_below HC.out.1 HW4.out.2.2.1) HC.out.2.1).mono ?_
       rintro e w3 ⟨rfl, hb3⟩
       have j4 := (hb3.block _ (blk_lt HW4.out.1)).trans HW4.out.1
       have bx4 : Boxed w3 gm 3 (.int .i64 (n + 1)) := (hb3.block _ HW4.out.2.1.lt).trans HW4.out.2.1
       have HW5 := Aside0.mk (And.intro j4 (And.intro bx4 (And.intro (HW4.out.2.2.1.trans (hb3.mono HW4.out.2.2.1.size)) (HW4.out.2.2.2.trans (KeepBut.of_below hb3 gm none) (.inl rfl)))))
       clear hb3 bx4 e0 e1 e2 e3 e4 e5 e6 e7 e8 e9
       cases ho : okL 0 (partsL x.f2) with
       | false =>
        have HS : Aside0 (stepD d x n = (false, n + 1)) := Aside0.mk (by
         rw [HD.out.1]; show cntStep d' x n = _; rw [cntStep, if_pos (by rw [headSt, ho, Bool.and_false]; simp)])
        have HO := Aside0.mk ho; clear ho j4
        go_wp2
        go_ret
        exact ⟨by rw [count_stop d l m j HX.out.2.1 n (n + 1) HX.out.2.2.1 (by rw [← HX.out.1]; exact HS.out)]; rfl, by rw [count_stop d l m j HX.out.2.1 n (n + 1) HX.out.2.2.1 (by rw [← HX.out.1]; exact HS.out)]; exact HW5.out.2.1, HW5.out.2.2.1, HW5.out.2.2.2⟩
       | true =>
        have HS : Aside0 (stepD d x n = let r1 := countL d' x.f3 (n + 1); if r1.1 then countL d' x.f4 r1.2 else r1) := Aside0.mk (by
         rw [HD.out.1]; show cntStep d' x n = _; rw [cntStep, if_neg (by rw [headSt, HPL.out, ho, decide_eq_false (show ¬ (16 < n + 1) by have := H16.out; omega)]; simp)])
        have HO := Aside0.mk ho; clear ho
        obtain ⟨e0, e1, e2, e3, e4, e5, e6, e7, e8, e9, _⟩ := cel10 j4
        clear j4
        have dl : deep ≤ 4 := by have := HDP.out; omega
        have d0 : 0 ≤ deep := by have h1 := HI.out.1; have h2 := HI.out.2.1; omega
        have n17 : n + 1 ≤ 16 := by have := H16.out; omega
        have HCALL := Aside0.mk (HD.out.2 x.f3 A8 c8 gm (deep + 1) (n + 1) w0 w3 (by have h1 := HI.out.1; have h2 := HD.out.1; omega) (by have := HX.out.2.2.2.1; omega) n17 HI.out.2.2.2.2.1 HW5.out.2.1 HW5.out.2.2.1 HC.out.2.2.1 HC.out.2.2.2.1)
        go_wp2_with fail
        refine HCALL.out.mono ?_
        clear HCALL
        rintro e w4 ⟨rfl, hbx, hB4, hK4⟩
        have j4 := hK4.blk HW5.out.1 HG.out (by simp)
        have HW6 := Aside0.mk (And.intro hbx (And.intro hB4 (HW5.out.2.2.2.trans hK4 (.inl rfl))))
        have HJ4 := Aside0.mk j4
        have hin := count_in d' x.f3 (n + 1) n17
        have HIN := Aside0.mk hin
        clear hbx hB4 hK4 e0 e1 e2 e3 e4 e5 e6 e7 e8 e9 n17 hin dl d0
        obtain ⟨r1, hr1⟩ : ∃ r1, r1 = countL d' x.f3 (n + 1) := ⟨_, rfl⟩
        rw [← hr1] at HW6 HIN ⊢
        have HS1 : Aside0 (stepD d x n = if r1.1 then countL d' x.f4 r1.2 else r1) := Aside0.mk (by rw [HS.out, ← hr1])
        clear HS hr1
        obtain ⟨b1, n1⟩ := r1
        cases b1 with
        | false =>
         clear j4
         have HS2 : Aside0 (stepD d x n = (false, n1)) := Aside0.mk (by rw [HS1.out]; rfl)
         go_wp2
         go_ret
         exact ⟨by rw [count_stop d l m j HX.out.2.1 n n1 HX.out.2.2.1 (by rw [← HX.out.1]; exact HS2.out)]; rfl, by rw [count_stop d l m j HX.out.2.1 n n1 HX.out.2.2.1 (by rw [← HX.out.1]; exact HS2.out)]; exact HW6.out.1, HW6.out.2.1, HW6.out.2.2⟩
        | true =>
         obtain ⟨e0, e1, e2, e3, e4, e5, e6, e7, e8, e9, _⟩ := cel10 j4
         clear j4
         have HS2 : Aside0 (stepD d x n = countL d' x.f4 n1) := Aside0.mk (by rw [HS1.out]; rfl)
         have dl : deep ≤ 4 := by have := HDP.out; omega
         have d0 : 0 ≤ deep := by have h1 := HI.out.1; have h2 := HI.out.2.1; omega
         have n17 : n1 ≤ 16 := (HIN.out.1 rfl).1
         have HCALL := Aside0.mk (HD.out.2 x.f4 A9 c9 gm (deep + 1) n1 w0 w4 (by have h1 := HI.out.1; have h2 := HD.out.1; omega) (by have h1 := HX.out.2.2.2.1; have h2 := (HIN.out.1 rfl).2; omega) n17 HI.out.2.2.2.2.1 HW6.out.1 HW6.out.2.1 HC.out.2.2.2.2.1 HC.out.2.2.2.2.2)
         go_wp2_with fail
         refine HCALL.out.mono ?_
         clear HCALL
         rintro e w5 ⟨rfl, hbx, hB4, hK4⟩
         have HW7 := Aside0.mk (And.intro hbx (And.intro hB4 (HW6.out.2.2.trans hK4 (.inl rfl))))
         clear hbx hB4 hK4 e0 e1 e2 e3 e4 e5 e6 e7 e8 e9 n17 dl d0
         obtain ⟨r2, hr2⟩ : ∃ r2, r2 = countL d' x.f4 n1 := ⟨_, rfl⟩
         rw [← hr2] at HW7 HS2 ⊢
         clear hr2
         obtain ⟨b2, n2⟩ := r2
         cases b2 with
         | false =>
          go_wp2
          go_ret
          exact ⟨by rw [count_stop d l m j HX.out.2.1 n n2 HX.out.2.2.1 (by rw [← HX.out.1]; exact HS2.out)]; rfl, by rw [count_stop d l m j HX.out.2.1 n n2 HX.out.2.2.1 (by rw [← HX.out.1]; exact HS2.out)]; exact HW7.out.1, HW7.out.2.1, HW7.out.2.2⟩
         | true =>
          go_wp2
          go_roundw
          case rel => exact ⟨j + 1, by go_num, ⟨HX.out.2.1, ⟨n2, by rw [count_take d l m j HX.out.2.1 n HX.out.2.2.1, ← HX.out.1]; exact HS2.out, HW7.out.1⟩, HW7.out.2.1, HW7.out.2.2⟩⟩
          case measure => have := HX.out.2.1; simp [intOf]; omega
  ·have hjl : j = l.length := by have := HR.out.1; omega
   obtain ⟨n, hn, hbn⟩ := HR.out.2.1
   rw [hjl, List.take_of_length_le (Nat.le_refl _)] at hn
   have HN := Aside0.mk (And.intro hn hbn); clear hn hbn hjl
   go_wp2
   go_ret
   exact ⟨by rw [HN.out.1]; rfl, by rw [HN.out.1]; exact HN.out.2, HR.out.2.2.1, HR.out.2.2.2⟩
end Go.Proofs.YtendbgedpjcocaaGreatDoor.B
/- The law FnExactExprOk, whole. -/
namespace Go.Proofs.YtendbgedpjcocaaGreatDoor.B
theorem okCon : OkCon := fun e A c w hC hc => exprOk_any e A c w hC hc
end Go.Proofs.YtendbgedpjcocaaGreatDoor.B
/- impl.ExprOk, in the print's form. -/
namespace Go.Proofs.YtendbgedpjcocaaGreatDoor.B
open Go.RowKit Go.Proofs.YtendbgedpjcocaaGreatDoorW.PrintWords Go.Proofs.YtendbgedpjcocaaGreatDoorW.PrintLast Go.Proofs.YtendbgedpjcocaaGreatDoorW.PrintMore
set_option linter.unusedVariables false

end Go.Proofs.YtendbgedpjcocaaGreatDoor.B
/- impl.MemGet, in the print's form. -/
namespace Go.Proofs.YtendbgedpjcocaaGreatDoor.B
open Go.RowKit Go.Proofs.YtendbgedpjcocaaGreatDoorW.PrintWords Go.Proofs.YtendbgedpjcocaaGreatDoorW.PrintLast Go.Proofs.YtendbgedpjcocaaGreatDoorW.PrintMore
set_option linter.unusedVariables false

end Go.Proofs.YtendbgedpjcocaaGreatDoor.B
