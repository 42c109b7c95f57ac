/- A loop that asks the same of each place. -/
import Derived.Test.YtlmchfcfkfegaaaEnds
namespace Go.Proofs.Ytlmchfcfkfegaaa.B
open Go.RowKit Go.Proofs.YtlmchfcfkfegaaaW.PrintWords Go.Proofs.YtlmchfcfkfegaaaW.PrintLast Go.Proofs.YtlmchfcfkfegaaaW.PrintMore
set_option linter.unusedVariables false
theorem all_loop {L : Nat → Int → Option Bool} {p : Nat → Bool} {b : Bool} (n : Nat) (hend : Ends (fun k => L k (n : Int)) b) (hstep : ∀ j r, j < n → Ends (fun k => L k ((j + 1 : Nat) : Int)) r → Ends (fun k => L k (j : Int)) (p j && r)) :
  Ends (fun k => L k 0) ((List.range n).all p && b) := by
 have h : ∀ d j, j + d = n → Ends (fun k => L k (j : Int)) ((List.range' j d).all p && b) := by
  intro d
  induction d with
  | zero =>
   intro j hj
   obtain rfl : j = n := by omega
   exact hend
  | succ d ih =>
   intro j hj
   rw [List.range'_succ, List.all_cons, Bool.and_assoc]
   exact hstep j _ (by omega) (ih (j + 1) (by omega))
 have := h n 0 (by omega)
 rw [← List.range_eq_range'] at this
 exact this
theorem and_part {f g : Nat → Option Bool} {a b : Bool} (hf : Ends f a) (hg : Ends g b) : Ends (fun k => (f k).bind fun t => if t = true then g k else some false) (a && b) := by
 refine hf.bind (g := fun k t => if t = true then g k else some false) ?_
 cases a with
 | false => exact Ends.const fun k => rfl
 | true => exact hg.of fun k => by rw [if_pos rfl]
theorem next_in {n j : Nat} (hn : n ≤ 9223372036854775807) (hj : j < n) : wrap64 ((j : Int) + 1) = ((j + 1 : Nat) : Int) := by rw [wrap_in (by omega) (by omega)]; omega
end Go.Proofs.Ytlmchfcfkfegaaa.B
