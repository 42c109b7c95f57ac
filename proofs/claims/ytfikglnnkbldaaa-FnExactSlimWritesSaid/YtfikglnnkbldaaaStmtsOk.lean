/- impl.StmtsOk and impl.StmtsMany, over count. -/
import Derived.Test.YtfikglnnkbldaaaCountW
namespace Go.Proofs.Ytfikglnnkbldaaa.B
open Go.RowKit Go.Shelf Go.Proofs.YtfikglnnkbldaaaW.PrintWords Go.Proofs.YtfikglnnkbldaaaW.PrintLast Go.Proofs.YtfikglnnkbldaaaW.PrintMore
set_option linter.unusedVariables false
theorem count_all (hok : OkCon) : ∀ d, d ≤ 4 → CntCon d := by
 intro d
 induction d with
 | zero => exact fun hd => count_step hok 0 hd (fun d' h => absurd h (by omega))
 | succ d ih => exact fun hd => count_step hok (d + 1) hd (fun d' h => by have := ih (by omega); cases (show d = d' by omega); exact this)
set_option maxRecDepth 100000 in
set_option maxHeartbeats 4000000 in
theorem stmtsOk_of (hok : OkCon) (A0 : Option Addr) (c0 : Nat) (l0 : List S64) (w : World) (hr0 : Kd.C k64 w A0 l0.length l0) (hc0 : l0.length ≤ c0) :
  Calls Try.prog 10 #[.slice A0 l0.length c0] w fun e w' => e = .returned (.bool (countL 4 l0 0).1) ∧ Below w.heap.size w w' := by
 have HCALL := Aside0.mk (count_all hok 4 (by omega) l0 A0 c0 w.heap.size 0 0 w (w.alloc (.cells #[.int .i64 0] 3)) (by rfl) (by omega) (by omega) (Nat.le_refl _) (Boxed.new w _ _) ((Below.refl _ _).alloc (Nat.le_refl _) _) hr0 hc0)
 clear hr0 hc0
 go_enter Try.func10, Try.ntmps10
 go_wp2_with fail
 refine HCALL.out.mono ?_
 rintro e w1 ⟨rfl, _, hB, _⟩
 have HB := Aside0.mk hB
 clear hB HCALL
 go_wp2
 go_ret
 exact ⟨rfl, HB.out⟩
/-- What StmtsMany says. -/
def cntV (r : Bool × Int) : Int := if r.1 = true then r.2 else 0
set_option maxRecDepth 100000 in
set_option maxHeartbeats 4000000 in
theorem stmtsMany_of (hok : OkCon) (A0 : Option Addr) (c0 : Nat) (l0 : List S64) (w : World) (hr0 : Kd.C k64 w A0 l0.length l0) (hc0 : l0.length ≤ c0) :
  Calls Try.prog 13 #[.slice A0 l0.length c0] w fun e w' => e = .returned (.int .i64 (cntV (countL 4 l0 0))) ∧ Below w.heap.size w w' := by
 have HCALL := Aside0.mk (count_all hok 4 (by omega) l0 A0 c0 w.heap.size 0 0 w (w.alloc (.cells #[.int .i64 0] 3)) (by rfl) (by omega) (by omega) (Nat.le_refl _) (Boxed.new w _ _) ((Below.refl _ _).alloc (Nat.le_refl _) _) hr0 hc0)
 clear hr0 hc0
 go_enter Try.func13, Try.ntmps13
 go_wp2_with fail
 refine HCALL.out.mono ?_
 rintro e w1 ⟨rfl, hx, hB, _⟩
 have HB := Aside0.mk hB
 have q0 := Boxed.cell hx
 clear hB HCALL hx
 obtain ⟨r, hr⟩ : ∃ r, r = countL 4 l0 0 := ⟨_, rfl⟩
 rw [← hr] at q0 ⊢
 have HR := Aside0.mk hr
 clear hr
 obtain ⟨b, n⟩ := r
 cases b with
 | false =>
  go_wp2
  go_ret
  exact ⟨by rw [← HR.out]; rfl, HB.out⟩
 | true =>
  go_wp2
  go_ret
  exact ⟨by rw [← HR.out]; rfl, HB.out⟩
end Go.Proofs.Ytfikglnnkbldaaa.B
