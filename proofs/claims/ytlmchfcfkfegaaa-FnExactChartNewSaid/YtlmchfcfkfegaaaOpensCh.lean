/- A chart of the laws: what reads as data is of a kind, and its lists are of a length that a number holds. -/
import Derived.Test.YtlmchfcfkfegaaaOpensEx
import Derived.Test.YtlmchfcfkfegaaaOpensMem
import Derived.Test.YtlmchfcfkfegaaaEndsCh
namespace Go.Proofs.Ytlmchfcfkfegaaa.B
open Go.RowKit Go.Proofs.YtlmchfcfkfegaaaW.PrintWords Go.Proofs.YtlmchfcfkfegaaaW.PrintLast Go.Proofs.YtlmchfcfkfegaaaW.PrintMore
set_option linter.unusedVariables false
structure S25 where
 f0 : Int
 f1 : List LTr
 f2 : List LAc
def k25 : Kd S25 := Kd.iso (Kd.pair (Kd.int .i64) (Kd.pair (Kd.slice 151 k151) (Kd.slice 155 k155))) (fun x : S25 => (x.f0, x.f1, x.f2))
theorem k25_open {w : World} {x : S25} {cs : List Value} (h : k25.K w x cs) : ∃ A1 c1 A2 c2, cs = [.int .i64 x.f0, .slice A1 x.f1.length c1, .slice A2 x.f2.length c2] ∧ x.f1.length ≤ c1 ∧ k151.C w A1 x.f1.length x.f1 ∧ x.f2.length ≤ c2 ∧ k155.C w A2 x.f2.length x.f2 := by
 obtain ⟨_, _, rfl, rfl, ⟨_, _, rfl, ⟨A1, c1, rfl, l1, g1⟩, ⟨A2, c2, rfl, l2, g2⟩⟩⟩ := h
 exact ⟨A1, c1, A2, c2, rfl, l1, g1, l2, g2⟩
section
variable {H : Type} (enc : TypeId × Value → H) (w : World)
theorem opens_lTrans (N : Nat) : Opens enc Try.prog w 151 k151 N :=
 Opens.less (N := N + 1) (opens_iso (fun a => ⟨a.1, a.2.1, a.2.2⟩) (fun _ => rfl) (opens_struct Try.underlying151 (by kernel_rfl)
  (fields_cons rfl (opens_lInts enc w _) (fields_cons rfl (opens_lInts enc w _) (fields_one rfl (opens_lExpr enc w _)))))) (Nat.le_succ _)
theorem opens_lAct (N : Nat) : Opens enc Try.prog w 155 k155 N :=
 Opens.less (N := N + 1) (opens_iso (fun a => ⟨a.1, a.2.1, a.2.2⟩) (fun _ => rfl) (opens_struct Try.underlying155 (by kernel_rfl)
  (fields_cons rfl (opens_int Try.underlying3 (by kernel_rfl) _) (fields_cons rfl (opens_int Try.underlying3 (by kernel_rfl) _) (fields_one rfl (opens_lAddr enc w _)))))) (Nat.le_succ _)
theorem opens_lChart (N : Nat) : Opens enc Try.prog w 25 k25 N :=
 Opens.less (N := N + 1) (opens_iso (fun a => ⟨a.1, a.2.1, a.2.2⟩) (fun _ => rfl) (opens_struct Try.underlying25 (by kernel_rfl)
  (fields_cons rfl (opens_int Try.underlying3 (by kernel_rfl) _) (fields_cons rfl (Opens.less (N := _ + 1) (opens_slice Try.underlying22 (by kernel_rfl) (opens_lTrans enc w _)) (Nat.le_succ _)) (fields_one rfl (Opens.less (N := _ + 1) (opens_slice Try.underlying23 (by kernel_rfl) (opens_lAct enc w _)) (Nat.le_succ _))))))) (Nat.le_succ _)
end
theorem trOk_of (e : LTr) (w : World) (cs : List Value) (h : k151.K w e cs) : trOk e := by
 obtain ⟨A0, c0, A1, c1, A6, c6, _, hl0, hC0, hl1, hC1, hl6, hC6⟩ := k151_open h
 refine ⟨hC0.2.1, hC1.2.1, ?_⟩
 rw [exOk_eq]
 exact ⟨hC6.2.1, fun x hx => by obtain ⟨cs, hc⟩ := C_kid hC6 hx; exact exOk_of x w cs hc⟩
theorem trsOk_of {w : World} {A : Option Addr} {n : Nat} {l : List LTr} (h : k151.C w A n l) : l.length ≤ 9223372036854775807 ∧ ∀ x ∈ l, trOk x :=
 ⟨by have h1 := h.1; have h2 := h.2.1; omega, fun x hx => by obtain ⟨cs, hc⟩ := C_kid h hx; exact trOk_of x w cs hc⟩
theorem acsOk_of {w : World} {A : Option Addr} {n : Nat} {l : List LAc} (h : k155.C w A n l) : l.length ≤ 9223372036854775807 := by
 have h1 := h.1; have h2 := h.2.1; omega
end Go.Proofs.Ytlmchfcfkfegaaa.B
