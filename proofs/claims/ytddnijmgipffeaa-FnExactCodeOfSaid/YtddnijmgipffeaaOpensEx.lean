/- An expression of the laws that reads as data: its lists are of a length that a number holds. -/
import Derived.Test.YtddnijmgipffeaaOpens
import Derived.Test.YtddnijmgipffeaaEndsEx
namespace Go.Proofs.Ytddnijmgipffeaa.B
open Go.RowKit Go.Proofs.YtddnijmgipffeaaW.PrintWords Go.Proofs.YtddnijmgipffeaaW.PrintLast Go.Proofs.YtddnijmgipffeaaW.PrintMore
set_option linter.unusedVariables false
theorem C_kid {α : Type} {d : Kd α} {w : World} {A : Option Addr} {n : Nat} {xs : List α} (h : d.C w A n xs) {x : α} (hx : x ∈ xs) : ∃ cs, d.K w x cs := by
 obtain ⟨j, hj, rfl⟩ := List.getElem_of_mem hx
 obtain ⟨h1, _, h2⟩ := h
 obtain ⟨a, _, h3⟩ := h2 (by omega)
 obtain ⟨c, _, hc, _⟩ := h3 j xs[j] (List.getElem?_eq_getElem hj)
 exact ⟨c, hc⟩
theorem exOk_of (e : S64) : ∀ (w : World) (cs : List Value), k64.K w e cs → exOk e := by
 refine exInd (P := fun e => ∀ (w : World) (cs : List Value), k64.K w e cs → exOk e) ?_ e
 intro e ih w cs h
 obtain ⟨A, c, _, hl, hC⟩ := k64_open h
 rw [exOk_eq]
 exact ⟨hC.2.1, fun x hx => by obtain ⟨cs, hc⟩ := C_kid hC hx; exact ih x hx w cs hc⟩
end Go.Proofs.Ytddnijmgipffeaa.B
