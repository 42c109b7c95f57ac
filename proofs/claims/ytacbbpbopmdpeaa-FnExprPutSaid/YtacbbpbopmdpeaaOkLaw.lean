/- Plain law: what the parts say and what the specification says of an expression are the same. -/
import Derived.Test.YtacbbpbopmdpeaaOkL
import Derived.Test.YtacbbpbopmdpeaaPkA
namespace Go.Proofs.Ytacbbpbopmdpeaa.B
open Go.RowKit Go.Proofs.YtacbbpbopmdpeaaW.PrintWords Go.Proofs.YtacbbpbopmdpeaaW.PrintLast Go.Proofs.YtacbbpbopmdpeaaW.PrintMore
set_option linter.unusedVariables false

def headOk (e : Ex) : Bool := kindOk e.f0 && ((e.f3.length : Int) == kidsN e.f0) && shapeL e.f0 e.f1 e.f2.f0 e.f2.f1
def formS : Nat → Ex → Bool
 | 0, _ => false
 | d + 1, e => headOk e && e.f3.all (formS d)
def manyS : Nat → Ex → Nat
 | 0, _ => 1
 | d + 1, e => 1 + (e.f3.map (manyS d)).sum
theorem manyS_pos (d : Nat) (e : Ex) : 1 ≤ manyS d e := by cases d <;> simp [manyS]
theorem okL_pre {xs ys : List (Int × Ex)} (h : xs <+: ys) (hx : okL 0 xs = false) : okL 0 ys = false := by
 obtain ⟨zs, rfl⟩ := h
 rw [okL_append, hx]; rfl

/-- What a walk leaves, where all that had come is ok. -/
def WalkOk (r : List (Int × Ex) × Bool) (ok : Bool) (n : Nat) : Prop := okL 0 r.1 = (ok && decide (n ≤ 14)) ∧ (okL 0 r.1 = true → r.2 = true ∧ r.1.length = n)
theorem fold_ok (d : Nat) (ih : ∀ (e : Ex) (acc : List (Int × Ex)), acc.length ≤ 14 → okL 0 acc = true → WalkOk (walkP d e acc) (formS d e) (acc.length + manyS d e)) (ks : List Ex) :
  ∀ acc : List (Int × Ex), acc.length ≤ 14 → okL 0 acc = true → WalkOk (ks.foldl (fun s k => if s.2 then walkP d k s.1 else s) (acc, true)) (ks.all (formS d)) (acc.length + (ks.map (manyS d)).sum) := by
 induction ks with
 | nil => intro acc h1 h2; exact ⟨by simp [h2, h1], fun _ => ⟨rfl, by simp⟩⟩
 | cons k ks ihk =>
  intro acc h1 h2
  have hw := ih k acc h1 h2
  show WalkOk (ks.foldl (fun s k => if s.2 then walkP d k s.1 else s) (walkP d k acc)) _ _
  by_cases hr : okL 0 (walkP d k acc).1 = true
  ·obtain ⟨hr2, hlen⟩ := hw.2 hr
   have hf : formS d k = true ∧ acc.length + manyS d k ≤ 14 := by have := hw.1; rw [hr] at this; simpa using this.symm
   have h3 := ihk (walkP d k acc).1 (by omega) hr
   rw [show walkP d k acc = ((walkP d k acc).1, true) from Prod.ext rfl hr2]
   rw [hlen] at h3
   rw [List.all_cons, hf.1, Bool.true_and, List.map_cons, List.sum_cons, ← Nat.add_assoc]
   exact h3
  ·have hr' : okL 0 (walkP d k acc).1 = false := by simpa using hr
   have hz : okL 0 (ks.foldl (fun s k => if s.2 then walkP d k s.1 else s) (walkP d k acc)).1 = false := okL_pre (fold_pre d ks _) hr'
   refine ⟨?_, fun h => by rw [hz] at h; cases h⟩
   rw [hz]
   have hw1 := hw.1
   rw [hr'] at hw1
   cases hfk : formS d k with
   | false => simp [hfk]
   | true =>
    have : ¬ (acc.length + manyS d k ≤ 14) := by rw [hfk] at hw1; simpa using hw1
    symm
    rw [Bool.and_eq_false_iff]
    right
    simp
    omega
theorem walk_ok (d : Nat) : d ≤ 6 → ∀ (e : Ex) (acc : List (Int × Ex)), acc.length ≤ 14 → okL 0 acc = true → WalkOk (walkP d e acc) (formS d e) (acc.length + manyS d e) := by
 induction d with
 | zero =>
  intro _ e acc h1 h2
  have : okL 0 (walkP 0 e acc).1 = false := by simp [walkP, okL_snoc, partOk]
  exact ⟨by rw [this]; simp [formS], fun h => by rw [this] at h; cases h⟩
 | succ d ih =>
  intro hd e acc h1 h2
  have hp : partOk (acc.length + 1) ((5 : Int) - d, e) = (decide (acc.length + 1 ≤ 14) && headOk e) := by
   simp only [partOk, headOk, decide_eq_true (show (5 : Int) - d < 6 by omega), Bool.and_true, Bool.and_assoc]
  have hs : okL 0 (acc ++ [((5 : Int) - d, e)]) = (decide (acc.length + 1 ≤ 14) && headOk e) := by rw [okL_snoc, h2, Nat.zero_add, hp]; rfl
  by_cases h14 : (acc ++ [((5 : Int) - d, e)]).length > 14
  ·have h13 : decide (acc.length + 1 ≤ 14) = false := by simp at h14 ⊢; omega
   have : okL 0 (walkP (d + 1) e acc).1 = false := by rw [walkP, if_pos h14]; rw [hs, h13]; rfl
   refine ⟨?_, fun h => by rw [this] at h; cases h⟩
   rw [this]
   have := manyS_pos (d + 1) e
   symm; rw [Bool.and_eq_false_iff]; right
   simp at h14 ⊢; omega
  ·have h13 : acc.length + 1 ≤ 14 := by simp at h14; omega
   have hwk : walkP (d + 1) e acc = e.f3.foldl (fun s k => if s.2 then walkP d k s.1 else s) (acc ++ [((5 : Int) - d, e)], true) := by rw [walkP, if_neg h14]
   rw [decide_eq_true h13, Bool.true_and] at hs
   rw [hwk]
   cases hh : headOk e with
   | false =>
    rw [hh] at hs
    have hz := okL_pre (fold_pre d e.f3 (acc ++ [((5 : Int) - d, e)], true)) hs
    refine ⟨?_, fun h => by rw [hz] at h; cases h⟩
    rw [hz]; simp [formS, hh]
   | true =>
    rw [hh] at hs
    have := fold_ok d (ih (by omega)) e.f3 (acc ++ [((5 : Int) - d, e)]) (by simp; omega) hs
    simp only [List.length_append, List.length_cons, List.length_nil] at this
    simp only [formS, hh, Bool.true_and, manyS]
    rw [show acc.length + (1 + (e.f3.map (manyS d)).sum) = acc.length + (0 + 1) + (e.f3.map (manyS d)).sum by omega]
    exact this
theorem okL_eq (e : Ex) : okL 0 (partsL e) = (formS 6 e && decide (manyS 6 e ≤ 14)) := by
 have := (walk_ok 6 (Nat.le_refl _) e [] (by simp) rfl).1
 simpa [partsL] using this
end Go.Proofs.Ytacbbpbopmdpeaa.B
