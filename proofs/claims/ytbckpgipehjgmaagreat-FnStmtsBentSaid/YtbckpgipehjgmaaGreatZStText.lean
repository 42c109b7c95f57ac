/- impl.StmtsText of what is not ok, in the print's form. -/
import Derived.Test.YtbckpgipehjgmaaGreatZStOk
namespace Go.Proofs.YtbckpgipehjgmaaGreat.B
open Go.RowKit Go.Shelf Go.Proofs.YtbckpgipehjgmaaGreatW.PrintWords Go.Proofs.YtbckpgipehjgmaaGreatW.PrintLast Go.Proofs.YtbckpgipehjgmaaGreatW.PrintMore
set_option linter.unusedVariables false
def impl_StmtsText.f (l0 : List S33) : Option ByteArray := if (countL 4 l0 0).1 = true then none else some ⟨#[]⟩
set_option maxRecDepth 100000 in
set_option maxHeartbeats 4000000 in
theorem impl_StmtsText.calls (A0 : Option Addr) (c0 : Nat) (l0 : List S33) (r : ByteArray) (w : World) (hr0 : Kd.C k33 w A0 l0.length l0) (hc0 : l0.length ≤ c0) (h : impl_StmtsText.f l0 = some r) :
  Calls Tryz.prog 9 #[.slice A0 l0.length c0] w fun e w' => e = .returned (.string r) ∧ Below w.heap.size w w' := by
 unfold impl_StmtsText.f at h
 cases ho : (countL 4 l0 0).1 with
 | true => rw [if_pos ho] at h; cases h
 | false =>
  rw [if_neg (by rw [ho]; simp)] at h
  obtain rfl := Option.some.inj h
  have HC := Aside0.mk (impl_StmtsOk.calls A0 c0 l0 false w hr0 hc0 (by rw [impl_StmtsOk.f, ho]))
  clear hr0 hc0 ho h
  go_enter Tryz.func9, Tryz.ntmps9
  go_wp2_with fail
  refine HC.out.mono ?_
  clear HC
  rintro e w1 ⟨rfl, hb1⟩
  have HB1 := Aside0.mk hb1
  clear hb1
  go_wp2
  go_ret
  exact ⟨rfl, HB1.out⟩
end Go.Proofs.YtbckpgipehjgmaaGreat.B
