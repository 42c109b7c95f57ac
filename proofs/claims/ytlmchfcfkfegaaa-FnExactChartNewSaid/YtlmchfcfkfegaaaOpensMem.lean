/- A memory of the laws: what reads as data is of a kind. -/
import Derived.Test.YtlmchfcfkfegaaaOpens
namespace Go.Proofs.Ytlmchfcfkfegaaa.B
open Go.RowKit Go.Proofs.YtlmchfcfkfegaaaW.PrintWords Go.Proofs.YtlmchfcfkfegaaaW.PrintLast Go.Proofs.YtlmchfcfkfegaaaW.PrintMore
set_option linter.unusedVariables false
structure S70 where
 f0 : List Int
 f1 : List Int
 f2 : List Int
def k70 : Kd S70 := Kd.iso (Kd.pair (Kd.slice 3 (Kd.int .i64)) (Kd.pair (Kd.slice 3 (Kd.int .i64)) (Kd.slice 3 (Kd.int .i64)))) (fun x : S70 => (x.f0, x.f1, x.f2))
theorem k70_open {w : World} {x : S70} {cs : List Value} (h : k70.K w x cs) : ∃ A0 c0 A1 c1 A2 c2, cs = [.slice A0 x.f0.length c0, .slice A1 x.f1.length c1, .slice A2 x.f2.length c2] ∧ x.f0.length ≤ c0 ∧ (Kd.int .i64).C w A0 x.f0.length x.f0 ∧ x.f1.length ≤ c1 ∧ (Kd.int .i64).C w A1 x.f1.length x.f1 ∧ x.f2.length ≤ c2 ∧ (Kd.int .i64).C w A2 x.f2.length x.f2 := by
 obtain ⟨_, _, rfl, ⟨A0, c0, rfl, l0, g0⟩, ⟨_, _, rfl, ⟨A1, c1, rfl, l1, g1⟩, ⟨A2, c2, rfl, l2, g2⟩⟩⟩ := h
 exact ⟨A0, c0, A1, c1, A2, c2, rfl, l0, g0, l1, g1, l2, g2⟩
section
variable {H : Type} (enc : TypeId × Value → H) (w : World)
theorem opens_lInts (N : Nat) : Opens enc Try.prog w 45 (Kd.slice 3 (Kd.int .i64)) N :=
 Opens.less (N := N + 1) (opens_slice Try.underlying45 (by kernel_rfl) (opens_int Try.underlying3 (by kernel_rfl) _)) (Nat.le_succ _)
theorem opens_lMem (N : Nat) : Opens enc Try.prog w 70 k70 N :=
 Opens.less (N := N + 1) (opens_iso (fun a => ⟨a.1, a.2.1, a.2.2⟩) (fun _ => rfl) (opens_struct Try.underlying70 (by kernel_rfl)
  (fields_cons rfl (opens_lInts enc w _) (fields_cons rfl (opens_lInts enc w _) (fields_one rfl (opens_lInts enc w _)))))) (Nat.le_succ _)
end
end Go.Proofs.Ytlmchfcfkfegaaa.B
