/- The laws FnExactStmtsOk and FnExactStmtsMany, as the row asks for them. -/
import Derived.Test.YtfikglnnkbldaaaPureStOk
import Derived.Test.YtfikglnnkbldaaaOpensSt
namespace Go.Proofs.Ytfikglnnkbldaaa.B
open Go.RowKit Go.Proofs.YtfikglnnkbldaaaW.PrintWords Go.Proofs.YtfikglnnkbldaaaW.PrintLast Go.Proofs.YtfikglnnkbldaaaW.PrintMore
set_option linter.unusedVariables false
theorem law_StmtsOk (x : List LSt) (A : Option Addr) (c : Nat) (W : World) (g : k60.C W A x.length x) (l : x.length ≤ c) : Calls Try.prog 3 #[.slice A x.length c] W fun e w' => e = .returned (.bool true) ∧ Below W.heap.size W w' := by
 obtain ⟨h1, h2⟩ := stsOk_of g
 obtain ⟨k, hk⟩ := pure_StmtsOk x h1 h2
 exact laws_FnExactStmtsOk.calls k A c x true W g l hk
theorem law_StmtsMany (x : List LSt) (A : Option Addr) (c : Nat) (W : World) (g : k60.C W A x.length x) (l : x.length ≤ c) : Calls Try.prog 4 #[.slice A x.length c] W fun e w' => e = .returned (.bool true) ∧ Below W.heap.size W w' := by
 obtain ⟨h1, h2⟩ := stsOk_of g
 obtain ⟨k, hk⟩ := pure_StmtsMany x h1 h2
 exact laws_FnExactStmtsMany.calls k A c x true W g l hk
end Go.Proofs.Ytfikglnnkbldaaa.B
