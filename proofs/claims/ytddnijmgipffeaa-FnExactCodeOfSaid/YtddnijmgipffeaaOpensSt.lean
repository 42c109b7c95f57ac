/- A statement of the laws: what reads as data is of a kind, and its lists are of a length that a number holds. -/
import Derived.Test.YtddnijmgipffeaaOpensEx
import Derived.Test.YtddnijmgipffeaaEndsSt
namespace Go.Proofs.Ytddnijmgipffeaa.B
open Go.RowKit Go.Proofs.YtddnijmgipffeaaW.PrintWords Go.Proofs.YtddnijmgipffeaaW.PrintLast Go.Proofs.YtddnijmgipffeaaW.PrintMore
set_option linter.unusedVariables false
section
variable {H : Type} (enc : TypeId × Value → H) (w : World)
theorem opens_lStmtUp (N : Nat) : Opens enc Try.prog w 66 (Kd.upto F66 10 [64, 66] N) N := by
 induction N with
 | zero => exact ⟨by rw [sz66]; kernel_rfl, fun fuel cs x hf hx => by obtain rfl : fuel = 0 := (by omega); simp [DataW.trod] at hx⟩
 | succ N ih =>
  refine Opens.less (N := N + 1 + 1) (opens_iso (fun a => ⟨a.1, a.2.1, a.2.2.1, a.2.2.2.1, a.2.2.2.2⟩) (fun _ => rfl) (opens_struct Try.underlying66 (by kernel_rfl)
   (fields_cons rfl (opens_int Try.underlying3 (by kernel_rfl) _) (fields_cons rfl (opens_lAddr enc w _) (fields_cons rfl (opens_lExpr enc w _) (fields_cons rfl (opens_slice Try.underlying22 (by kernel_rfl) ih) (fields_one rfl (opens_slice Try.underlying22 (by kernel_rfl) ih)))))))) (Nat.le_succ _)
theorem opens_lStmt (N : Nat) : Opens enc Try.prog w 66 k66 N :=
 ⟨by rw [show (k66).sz = 10 from rfl]; kernel_rfl, fun fuel cs x hf hx => by obtain ⟨a, ha⟩ := (opens_lStmtUp enc w fuel).2 fuel cs x (Nat.le_refl _) hx; exact ⟨a, fuel, ha⟩⟩
theorem opens_lStmts (N : Nat) : Opens enc Try.prog w 22 (Kd.slice 66 k66) N :=
 Opens.less (N := N + 1) (opens_slice Try.underlying22 (by kernel_rfl) (opens_lStmt enc w _)) (Nat.le_succ _)
end
theorem stOk_of (e : LSt) : ∀ (w : World) (cs : List Value), k66.K w e cs → stOk e := by
 refine stInd (P := fun e => ∀ (w : World) (cs : List Value), k66.K w e cs → stOk e) ?_ e
 intro e ih ih' w cs h
 obtain ⟨A, c, A1, c1, A2, c2, _, hl, hC, hl1, hC1, hl2, hC2⟩ := k66_open h
 rw [stOk_eq, exOk_eq]
 exact ⟨⟨hC.2.1, fun x hx => by obtain ⟨cs, hc⟩ := C_kid hC hx; exact exOk_of x w cs hc⟩, ⟨hC1.2.1, fun x hx => by obtain ⟨cs, hc⟩ := C_kid hC1 hx; exact ih x hx w cs hc⟩, ⟨hC2.2.1, fun x hx => by obtain ⟨cs, hc⟩ := C_kid hC2 hx; exact ih' x hx w cs hc⟩⟩
theorem stsOk_of {w : World} {A : Option Addr} {n : Nat} {l : List LSt} (h : k66.C w A n l) : l.length ≤ 9223372036854775807 ∧ ∀ x ∈ l, stOk x :=
 ⟨by have h1 := h.1; have h2 := h.2.1; omega, fun x hx => by obtain ⟨cs, hc⟩ := C_kid h hx; exact stOk_of x w cs hc⟩
end Go.Proofs.Ytddnijmgipffeaa.B
