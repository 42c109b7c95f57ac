/- A statement of the laws: what reads as data is of a kind, and its lists are of a length that a number holds. -/
import Derived.Test.YtfikglnnkbldaaaOpens
import Derived.Test.YtfikglnnkbldaaaEndsSt
namespace Go.Proofs.Ytfikglnnkbldaaa.B
open Go.RowKit Go.Proofs.YtfikglnnkbldaaaW.PrintWords Go.Proofs.YtfikglnnkbldaaaW.PrintLast Go.Proofs.YtfikglnnkbldaaaW.PrintMore
set_option linter.unusedVariables false
section
variable {H : Type} (enc : TypeId × Value → H) (w : World)
theorem opens_lStmtUp (N : Nat) : Opens enc Try.prog w 60 (Kd.upto F60 10 [58, 60] N) N := by
 induction N with
 | zero => exact ⟨by rw [sz60]; kernel_rfl, fun fuel cs x hf hx => by obtain rfl : fuel = 0 := (by omega); simp [DataW.trod] at hx⟩
 | succ N ih =>
  refine Opens.less (N := N + 1 + 1) (opens_iso (fun a => ⟨a.1, a.2.1, a.2.2.1, a.2.2.2.1, a.2.2.2.2⟩) (fun _ => rfl) (opens_struct Try.underlying60 (by kernel_rfl)
   (fields_cons rfl (opens_int Try.underlying3 (by kernel_rfl) _) (fields_cons rfl (opens_lAddr enc w _) (fields_cons rfl (opens_lExpr enc w _) (fields_cons rfl (opens_slice Try.underlying22 (by kernel_rfl) ih) (fields_one rfl (opens_slice Try.underlying22 (by kernel_rfl) ih)))))))) (Nat.le_succ _)
theorem opens_lStmt (N : Nat) : Opens enc Try.prog w 60 k60 N :=
 ⟨by rw [show (k60).sz = 10 from rfl]; kernel_rfl, fun fuel cs x hf hx => by obtain ⟨a, ha⟩ := (opens_lStmtUp enc w fuel).2 fuel cs x (Nat.le_refl _) hx; exact ⟨a, fuel, ha⟩⟩
theorem opens_lStmts (N : Nat) : Opens enc Try.prog w 22 (Kd.slice 60 k60) N :=
 Opens.less (N := N + 1) (opens_slice Try.underlying22 (by kernel_rfl) (opens_lStmt enc w _)) (Nat.le_succ _)
end
theorem C_kid {α : Type} {d : Kd α} {w : World} {A : Option Addr} {n : Nat} {xs : List α} (h : d.C w A n xs) {x : α} (hx : x ∈ xs) : ∃ cs, d.K w x cs := by
 obtain ⟨j, hj, rfl⟩ := List.getElem_of_mem hx
 obtain ⟨h1, _, h2⟩ := h
 obtain ⟨a, _, h3⟩ := h2 (by omega)
 obtain ⟨c, _, hc, _⟩ := h3 j xs[j] (List.getElem?_eq_getElem hj)
 exact ⟨c, hc⟩
theorem exOk_of (e : S58) : ∀ (w : World) (cs : List Value), k58.K w e cs → exOk e := by
 refine exInd (P := fun e => ∀ (w : World) (cs : List Value), k58.K w e cs → exOk e) ?_ e
 intro e ih w cs h
 obtain ⟨A, c, _, hl, hC⟩ := k58_open h
 rw [exOk_eq]
 exact ⟨hC.2.1, fun x hx => by obtain ⟨cs, hc⟩ := C_kid hC hx; exact ih x hx w cs hc⟩
theorem stOk_of (e : LSt) : ∀ (w : World) (cs : List Value), k60.K w e cs → stOk e := by
 refine stInd (P := fun e => ∀ (w : World) (cs : List Value), k60.K w e cs → stOk e) ?_ e
 intro e ih ih' w cs h
 obtain ⟨A, c, A1, c1, A2, c2, _, hl, hC, hl1, hC1, hl2, hC2⟩ := k60_open h
 rw [stOk_eq, exOk_eq]
 exact ⟨⟨hC.2.1, fun x hx => by obtain ⟨cs, hc⟩ := C_kid hC hx; exact exOk_of x w cs hc⟩, ⟨hC1.2.1, fun x hx => by obtain ⟨cs, hc⟩ := C_kid hC1 hx; exact ih x hx w cs hc⟩, ⟨hC2.2.1, fun x hx => by obtain ⟨cs, hc⟩ := C_kid hC2 hx; exact ih' x hx w cs hc⟩⟩
theorem stsOk_of {w : World} {A : Option Addr} {n : Nat} {l : List LSt} (h : k60.C w A n l) : l.length ≤ 9223372036854775807 ∧ ∀ x ∈ l, stOk x :=
 ⟨by have h1 := h.1; have h2 := h.2.1; omega, fun x hx => by obtain ⟨cs, hc⟩ := C_kid h hx; exact stOk_of x w cs hc⟩
end Go.Proofs.Ytfikglnnkbldaaa.B
