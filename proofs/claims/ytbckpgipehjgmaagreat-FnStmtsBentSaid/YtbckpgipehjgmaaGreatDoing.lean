/- impl.doingOf: a statement by its kind; whether it is plain. -/
import Derived.Test.YtbckpgipehjgmaaGreatReck
import Derived.Test.YtbckpgipehjgmaaGreatPkC
import Derived.Deep.QuietTactic
import Derived.BigQuiet
namespace Go.Proofs.YtbckpgipehjgmaaGreat.B
open Go.RowKit Go.Shelf Go.Proofs.YtbckpgipehjgmaaGreatW.PrintWords Go.Proofs.YtbckpgipehjgmaaGreatW.PrintLast Go.Proofs.YtbckpgipehjgmaaGreatW.PrintMore
set_option linter.unusedVariables false

abbrev St := S33
abbrev stK := k33
abbrev stCells (s : St) (A7 : Option Addr) (c7 : Nat) (A8 : Option Addr) (c8 : Nat) (A9 : Option Addr) (c9 : Nat) : Array Value :=
 #[.int .i64 s.f0, .int .i64 s.f1.f0, .int .i64 s.f1.f1, .int .i64 s.f2.f0, .int .i64 s.f2.f1, .int .i64 s.f2.f2.f0, .int .i64 s.f2.f2.f1, .slice A7 s.f2.f3.length c7, .slice A8 s.f3.length c8, .slice A9 s.f4.length c9]
/-- The value that doingOf hands back. -/
def doV (s : St) (A7 : Option Addr) (c7 : Nat) (A8 : Option Addr) (c8 : Nat) (A9 : Option Addr) (c9 : Nat) : Value :=
 if s.f0 = 1 then .iface 74 (.agg #[.int .i64 s.f1.f0, .int .i64 s.f1.f1, .int .i64 s.f2.f0, .int .i64 s.f2.f1, .int .i64 s.f2.f2.f0, .int .i64 s.f2.f2.f1, .slice A7 s.f2.f3.length c7])
 else if s.f0 = 2 then .iface 76 (.agg #[.int .i64 s.f2.f0, .int .i64 s.f2.f1, .int .i64 s.f2.f2.f0, .int .i64 s.f2.f2.f1, .slice A7 s.f2.f3.length c7, .slice A8 s.f3.length c8, .slice A9 s.f4.length c9])
 else if s.f0 = 3 then .iface 78 (.agg #[.int .i64 s.f2.f0, .int .i64 s.f2.f1, .int .i64 s.f2.f2.f0, .int .i64 s.f2.f2.f1, .slice A7 s.f2.f3.length c7, .slice A8 s.f3.length c8])
 else .nilIface
set_option maxRecDepth 100000 in
set_option maxHeartbeats 4000000 in
theorem doing_any (s : St) (A7 : Option Addr) (c7 : Nat) (A8 : Option Addr) (c8 : Nat) (A9 : Option Addr) (c9 : Nat) (w : World) :
  Calls Tryz.prog 24 #[.agg (stCells s A7 c7 A8 c8 A9 c9)] w fun e w' => e = .returned (doV s A7 c7 A8 c8 A9 c9) ∧ Below w.heap.size w w' := by
 have HB := Aside0.mk (Below.refl w.heap.size w)
 obtain ⟨k, hk⟩ : ∃ k, k = s.f0 := ⟨_, rfl⟩
 have HV : Aside0 (doV s A7 c7 A8 c8 A9 c9 = _) := Aside0.mk (by unfold doV; rw [← hk])
 unfold stCells
 rw [← hk]
 clear hk
 by_cases h1 : k = 1
 ·subst h1
  go_enter Tryz.func24, Tryz.ntmps24
  go_wp2
  try (go_quiet (fail); go_wp2)
  go_ret
  exact ⟨by rw [HV.out]; rfl, by repeat (first | (with_reducible first | exact HB.out | apply below_alloc | apply pw_below_drewN | apply below_drew1) | exact HB.out)⟩
 ·by_cases h2 : k = 2
  ·subst h2
   go_enter Tryz.func24, Tryz.ntmps24
   go_wp2
   try (go_quiet (fail); go_wp2)
   go_ret
   exact ⟨by rw [HV.out]; rfl, by repeat (first | (with_reducible first | exact HB.out | apply below_alloc | apply pw_below_drewN | apply below_drew1) | exact HB.out)⟩
  ·by_cases h3 : k = 3
   ·subst h3
    go_enter Tryz.func24, Tryz.ntmps24
    go_wp2
    try (go_quiet (fail); go_wp2)
    go_ret
    exact ⟨by rw [HV.out]; rfl, by repeat (first | (with_reducible first | exact HB.out | apply below_alloc | apply pw_below_drewN | apply below_drew1) | exact HB.out)⟩
   ·have e1 : (k == 1) = false := beq_false_of_ne h1
    have e2 : (k == 2) = false := beq_false_of_ne h2
    have e3 : (k == 3) = false := beq_false_of_ne h3
    have HK := Aside0.mk (And.intro h1 (And.intro h2 h3)); clear h1 h2 h3
    go_enter Tryz.func24, Tryz.ntmps24
    go_wp2
    go_ret
    exact ⟨by rw [HV.out, if_neg HK.out.1, if_neg HK.out.2.1, if_neg HK.out.2.2]; rfl, by repeat (first | (with_reducible first | exact HB.out | apply below_alloc | apply pw_below_drewN | apply below_drew1) | exact HB.out)⟩
theorem meth_plain1 (v : Value) : ∀ w, (method 251 74 v "loop.example/stopgate/impl.plain").run Tryz.prog w = .ok (70, v) w := fun _ => by kernel_rfl
theorem meth_plain2 (v : Value) : ∀ w, (method 251 76 v "loop.example/stopgate/impl.plain").run Tryz.prog w = .ok (93, v) w := fun _ => by kernel_rfl
theorem meth_plain3 (v : Value) : ∀ w, (method 251 78 v "loop.example/stopgate/impl.plain").run Tryz.prog w = .ok (97, v) w := fun _ => by kernel_rfl
def putsL (k a : Int) : Bool := addrOkL k a && k != 1
/-- Whether a statement has nothing that its kind has not. -/
def plainL (s : St) : Bool :=
 if s.f0 = 1 then putsL s.f1.f0 s.f1.f1 && (s.f3.length == 0 && s.f4.length == 0)
 else if s.f0 = 2 then s.f1.f0 == 0 && s.f1.f1 == 0
 else if s.f0 = 3 then (s.f1.f0 == 0 && s.f1.f1 == 0) && s.f4.length == 0
 else false
/-- A statement of a kind: what is called to learn whether it is plain. -/
structure DoIs (s : St) (A7 : Option Addr) (c7 : Nat) (A8 : Option Addr) (c8 : Nat) (A9 : Option Addr) (c9 : Nat) (T : TypeId) (v : Value) (fp : Nat) : Prop where
 v' : doV s A7 c7 A8 c8 A9 c9 = .iface T v
 m : ∀ w, (method 251 T v "loop.example/stopgate/impl.plain").run Tryz.prog w = .ok (fp, v) w
 ep : ∀ args w, (callFunc fp args).run Tryz.prog w = .ok (.enter fp args) w
 cp : ∀ w, Kd.C k31 w A7 s.f2.f3.length s.f2.f3 → s.f2.f3.length ≤ c7 → Kd.C stK w A8 s.f3.length s.f3 → s.f3.length ≤ c8 → Kd.C stK w A9 s.f4.length s.f4 → s.f4.length ≤ c9 →
  Calls Tryz.prog fp #[v, .agg (stCells s A7 c7 A8 c8 A9 c9)] w fun e w' => e = .returned (.bool (plainL s)) ∧ Below w.heap.size w w'
theorem puts_is (k a : Int) : impl_puts.f k a = some (putsL k a) := by
 rw [impl_puts.f, impl_AddrOk.f, putsL, addrOkL]
 by_cases h1 : k ≥ 1
 ·by_cases h2 : k ≤ 3
  ·by_cases h3 : a ≥ 0
   ·rw [if_pos h1, if_pos h2, if_pos h3]
    by_cases h4 : a < 6
    ·rw [decide_eq_true h4, decide_eq_true (show 1 ≤ k ∧ k ≤ 3 ∧ 0 ≤ a ∧ a < 6 by omega)]; simp
    ·rw [decide_eq_false h4, decide_eq_false (show ¬ (1 ≤ k ∧ k ≤ 3 ∧ 0 ≤ a ∧ a < 6) by omega)]; simp
   ·rw [if_pos h1, if_pos h2, if_neg h3, decide_eq_false (show ¬ (1 ≤ k ∧ k ≤ 3 ∧ 0 ≤ a ∧ a < 6) by omega)]; simp
  ·rw [if_pos h1, if_neg h2, decide_eq_false (show ¬ (1 ≤ k ∧ k ≤ 3 ∧ 0 ≤ a ∧ a < 6) by omega)]; simp
 ·rw [if_neg h1, decide_eq_false (show ¬ (1 ≤ k ∧ k ≤ 3 ∧ 0 ≤ a ∧ a < 6) by omega)]; simp
theorem do_is (s : St) (A7 : Option Addr) (c7 : Nat) (A8 : Option Addr) (c8 : Nat) (A9 : Option Addr) (c9 : Nat) (h : s.f0 = 1 ∨ s.f0 = 2 ∨ s.f0 = 3) : ∃ T v fp, DoIs s A7 c7 A8 c8 A9 c9 T v fp := by
 rcases h with h | h | h
 ·refine ⟨_, _, _, by rw [doV, if_pos h], meth_plain1 _, enters_of Tryz.func70 (by kernel_rfl) rfl, fun w h1 h2 h3 h4 h5 h6 => ?_⟩
  refine impl_setDoing_plain.calls _ _ _ _ _ _ A7 c7 s.f2.f3 _ _ _ _ _ _ _ A7 c7 s.f2.f3 A8 c8 s.f3 A9 c9 s.f4 (plainL s) w h1 h2 h1 h2 h3 h4 h5 h6 ?_
  rw [impl_setDoing_plain.f, puts_is, plainL, if_pos h]
  simp only [Option.bind_some]
  cases putsL s.f1.f0 s.f1.f1 with
  | false => rfl
  | true =>
   rw [if_pos rfl]
   by_cases h0 : s.f3.length = 0
   ·rw [if_pos (by omega), h0]
    by_cases h1 : s.f4.length = 0
    ·rw [h1]; rfl
    ·rw [show ((s.f4.length : Int) == 0) = false from beq_false_of_ne (by omega), show (s.f4.length == 0) = false from beq_false_of_ne h1]; rfl
   ·rw [if_neg (by omega), show (s.f3.length == 0) = false from beq_false_of_ne h0]; rfl
 ·refine ⟨_, _, _, by rw [doV, if_neg (by omega), if_pos h], meth_plain2 _, enters_of Tryz.func93 (by kernel_rfl) rfl, fun w h1 h2 h3 h4 h5 h6 => ?_⟩
  refine impl_ifDoing_plain.calls _ _ _ _ A7 c7 s.f2.f3 A8 c8 s.f3 A9 c9 s.f4 _ _ _ _ _ _ _ A7 c7 s.f2.f3 A8 c8 s.f3 A9 c9 s.f4 (plainL s) w h1 h2 h3 h4 h5 h6 h1 h2 h3 h4 h5 h6 ?_
  rw [impl_ifDoing_plain.f, plainL, if_neg (by omega), if_pos h]
 ·refine ⟨_, _, _, by rw [doV, if_neg (by omega), if_neg (by omega), if_pos h], meth_plain3 _, enters_of Tryz.func97 (by kernel_rfl) rfl, fun w h1 h2 h3 h4 h5 h6 => ?_⟩
  refine impl_whileDoing_plain.calls _ _ _ _ A7 c7 s.f2.f3 A8 c8 s.f3 _ _ _ _ _ _ _ A7 c7 s.f2.f3 A8 c8 s.f3 A9 c9 s.f4 (plainL s) w h1 h2 h3 h4 h1 h2 h3 h4 h5 h6 ?_
  have hp : plainL s = ((s.f1.f0 == 0 && s.f1.f1 == 0) && s.f4.length == 0) := by rw [plainL, if_neg (by omega), if_neg (by omega), if_pos h]
  rw [impl_whileDoing_plain.f, hp]
  cases (s.f1.f0 == 0 && s.f1.f1 == 0) with
  | false => rfl
  | true =>
   rw [if_pos rfl]
   by_cases h1 : s.f4.length = 0
   ·rw [h1]; rfl
   ·rw [show ((s.f4.length : Int) == 0) = false from beq_false_of_ne (by omega), show (s.f4.length == 0) = false from beq_false_of_ne h1]; rfl
theorem do_nil (s : St) (A7 : Option Addr) (c7 : Nat) (A8 : Option Addr) (c8 : Nat) (A9 : Option Addr) (c9 : Nat) (h : ¬ (s.f0 = 1 ∨ s.f0 = 2 ∨ s.f0 = 3)) : doV s A7 c7 A8 c8 A9 c9 = .nilIface ∧ plainL s = false := by
 unfold doV plainL
 rw [if_neg (fun e => h (.inl e)), if_neg (fun e => h (.inr (.inl e))), if_neg (fun e => h (.inr (.inr e))), if_neg (fun e => h (.inl e)), if_neg (fun e => h (.inr (.inl e))), if_neg (fun e => h (.inr (.inr e)))]
 exact ⟨rfl, rfl⟩
end Go.Proofs.YtbckpgipehjgmaaGreat.B
