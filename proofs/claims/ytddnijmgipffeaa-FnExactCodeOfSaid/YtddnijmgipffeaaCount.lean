/- impl.count: statements are counted one by one. -/
import Derived.Test.YtddnijmgipffeaaDoing
import Derived.Test.YtddnijmgipffeaaOkCon
import Derived.Deep.RegionHeld3
import Derived.RangeFuncBox
namespace Go.Proofs.Ytddnijmgipffeaa.B
open Go.RowKit Go.Shelf Go.Proofs.YtddnijmgipffeaaW.PrintWords Go.Proofs.YtddnijmgipffeaaW.PrintLast Go.Proofs.YtddnijmgipffeaaW.PrintMore
set_option linter.unusedVariables false

def headSt (s : St) : Bool := plainL s && okL 0 (partsL s.f2)
/-- Statements that are counted: are all ok, and how many there are then; at most d of them around one another. -/
def countL : Nat → List St → Int → Bool × Int
 | 0, [], m => (true, m)
 | 0, _ :: _, m => (false, m + 1)
 | d + 1, l, m => l.foldl (fun r s => if r.1 then (if r.2 + 1 > 16 || !headSt s then (false, r.2 + 1) else let r1 := countL d s.f3 (r.2 + 1); if r1.1 then countL d s.f4 r1.2 else r1) else r) (true, m)
/-- One statement more. -/
def cntStep (d : Nat) (s : St) (m : Int) : Bool × Int := if m + 1 > 16 || !headSt s then (false, m + 1) else let r1 := countL d s.f3 (m + 1); if r1.1 then countL d s.f4 r1.2 else r1
theorem countL_succ (d : Nat) (l : List St) (m : Int) : countL (d + 1) l m = l.foldl (fun r s => if r.1 then cntStep d s r.2 else r) (true, m) := rfl
theorem cnt_stop (d : Nat) (l : List St) (m : Int) : l.foldl (fun r s => if r.1 then cntStep d s r.2 else r) (false, m) = (false, m) := by
 induction l with
 | nil => rfl
 | cons a l ih => exact ih
/-- While all is ok the count is within its bounds. -/
theorem count_in : ∀ (d : Nat) (l : List St) (m : Int), m ≤ 16 → ((countL d l m).1 = true → (countL d l m).2 ≤ 16 ∧ m ≤ (countL d l m).2) ∧ (countL d l m).2 ≤ 17 ∧ m ≤ (countL d l m).2 := by
 intro d
 induction d with
 | zero =>
  intro l m hm
  cases l with
  | nil => exact ⟨fun _ => ⟨hm, Int.le_refl _⟩, by show m ≤ 17; omega, Int.le_refl _⟩
  | cons a l => exact ⟨fun h => (by cases h), by show m + 1 ≤ 17; omega, by show m ≤ m + 1; omega⟩
 | succ d ih =>
  intro l
  induction l with
  | nil => intro m hm; exact ⟨fun _ => ⟨hm, Int.le_refl _⟩, by show m ≤ 17; omega, Int.le_refl _⟩
  | cons a l ihl =>
   intro m hm
   rw [countL_succ, List.foldl_cons]
   simp only [if_true]
   have hst : ((cntStep d a m).1 = true → (cntStep d a m).2 ≤ 16) ∧ (cntStep d a m).2 ≤ 17 ∧ m ≤ (cntStep d a m).2 := by
    unfold cntStep
    by_cases h : (decide (m + 1 > 16) || !headSt a) = true
    ·rw [if_pos h]; exact ⟨fun h => (by cases h), by show m + 1 ≤ 17; omega, by show m ≤ m + 1; omega⟩
    ·rw [if_neg h]
     simp only [Bool.or_eq_true, decide_eq_true_eq, not_or] at h
     have h1 := ih a.f3 (m + 1) (by omega)
     by_cases hr : (countL d a.f3 (m + 1)).1 = true
     ·have h2 := ih a.f4 (countL d a.f3 (m + 1)).2 (h1.1 hr).1
      simp only [hr, if_true]
      exact ⟨fun h => (h2.1 h).1, h2.2.1, by have := h1.2.2; have := h2.2.2; omega⟩
     ·simp only [hr]
      exact ⟨fun h => absurd h hr, h1.2.1, by have := h1.2.2; show m ≤ (countL d a.f3 (m + 1)).2; omega⟩
   obtain ⟨r, hr⟩ : ∃ r, r = cntStep d a m := ⟨_, rfl⟩
   rw [← hr] at hst ⊢
   obtain ⟨b, n⟩ := r
   cases b with
   | false => rw [cnt_stop]; exact ⟨fun h => (by cases h), hst.2.1, hst.2.2⟩
   | true =>
    have := ihl n (hst.1 rfl)
    rw [countL_succ] at this
    exact ⟨fun h => ⟨(this.1 h).1, by have := (this.1 h).2; have := hst.2.2; show m ≤ _; omega⟩, this.2.1, by have := this.2.2; have := hst.2.2; show m ≤ _; omega⟩
end Go.Proofs.Ytddnijmgipffeaa.B
