/- The kinds of what is reckoned: reckoningOf, and the methods kids and shape. -/
import Derived.Test.YtacbbpbopmdpeaaB0
import Derived.Test.YtacbbpbopmdpeaaPkA
import Derived.Outline
import Derived.RangeFuncLeaves
import Derived.Shelf.Abstract
import Derived.OwnWalkIn
namespace Go.Proofs.Ytacbbpbopmdpeaa.B
open Go.RowKit Go.Proofs.YtacbbpbopmdpeaaW.PrintWords Go.Proofs.YtacbbpbopmdpeaaW.PrintLast Go.Proofs.YtacbbpbopmdpeaaW.PrintMore
set_option linter.unusedVariables false
attribute [local go_sem high] eqA24

/-- What reckoningOf hands back. -/
def kindV (k : Int) : Value :=
 if k = 1 then .iface 84 (.agg #[]) else if k = 2 then .iface 85 (.agg #[]) else if 3 ≤ k ∧ k ≤ 9 then .iface 86 (.agg #[]) else if k = 10 then .iface 87 (.agg #[]) else .nilIface

set_option maxHeartbeats 800000 in
theorem reckoningOf_calls (k : Int) (w : World) : Calls Try.prog 27 #[.int .i64 k] w fun e w' => e = .returned (kindV k) ∧ w = w' := by
 by_cases h1 : k = 1
 ·subst h1
  go_enter Try.func27, Try.ntmps27
  go_wp2
  go_ret
  exact ⟨rfl, rfl⟩
 ·have b1 : (k == 1) = false := beq_eq_false_iff_ne.mpr h1
  by_cases h2 : k = 2
  ·subst h2
   go_enter Try.func27, Try.ntmps27
   go_wp2
   go_ret
   exact ⟨rfl, rfl⟩
  ·have b2 : (k == 2) = false := beq_eq_false_iff_ne.mpr h2
   by_cases h3 : 3 ≤ k
   ·by_cases h4 : k ≤ 9
    ·have HK := Aside0.mk (show Ending.returned (.iface 86 (.agg #[])) = .returned (kindV k) by simp [kindV, h1, h2, h3, h4])
     go_enter Try.func27, Try.ntmps27
     go_wp2
     go_ret
     exact ⟨HK.out, rfl⟩
    ·by_cases h5 : k = 10
     ·subst h5
      go_enter Try.func27, Try.ntmps27
      go_wp2
      go_ret
      exact ⟨rfl, rfl⟩
     ·have b5 : (k == 10) = false := beq_eq_false_iff_ne.mpr h5
      have HK := Aside0.mk (show Ending.returned .nilIface = .returned (kindV k) by simp [kindV, h1, h2, h3, h4, h5])
      go_enter Try.func27, Try.ntmps27
      go_wp2
      go_ret
      exact ⟨HK.out, rfl⟩
   ·have h5 : ¬ k = 10 := by omega
    have b5 : (k == 10) = false := beq_eq_false_iff_ne.mpr h5
    have HK := Aside0.mk (show Ending.returned .nilIface = .returned (kindV k) by simp [kindV, h1, h2, h3, h5])
    go_enter Try.func27, Try.ntmps27
    go_wp2
    go_ret
    exact ⟨HK.out, rfl⟩

theorem kids1_calls (w : World) : Calls Try.prog 75 #[.agg #[]] w fun e w' => e = .returned (.int .i64 0) ∧ Below w.heap.size w w' := by
 go_enter Try.func75, Try.ntmps75
 go_wp2
 go_ret
 exact ⟨rfl, (Below.refl _ _).alloc (Nat.le_refl _) _⟩
theorem kids2_calls (w : World) : Calls Try.prog 93 #[.agg #[]] w fun e w' => e = .returned (.int .i64 0) ∧ Below w.heap.size w w' := by
 go_enter Try.func93, Try.ntmps93
 go_wp2
 go_ret
 exact ⟨rfl, (Below.refl _ _).alloc (Nat.le_refl _) _⟩
theorem kids3_calls (w : World) : Calls Try.prog 98 #[.agg #[]] w fun e w' => e = .returned (.int .i64 2) ∧ Below w.heap.size w w' := by
 go_enter Try.func98, Try.ntmps98
 go_wp2
 go_ret
 exact ⟨rfl, (Below.refl _ _).alloc (Nat.le_refl _) _⟩
theorem kids4_calls (w : World) : Calls Try.prog 111 #[.agg #[]] w fun e w' => e = .returned (.int .i64 1) ∧ Below w.heap.size w w' := by
 go_enter Try.func111, Try.ntmps111
 go_wp2
 go_ret
 exact ⟨rfl, (Below.refl _ _).alloc (Nat.le_refl _) _⟩

def isNumL (n : Int) : Bool := decide (-1000000 ≤ n ∧ n ≤ 1000000)
def addrOkL (k a : Int) : Bool := decide (1 ≤ k ∧ k ≤ 3 ∧ 0 ≤ a ∧ a < 6)
def shapeL (k n ak aa : Int) : Bool := if k = 1 then isNumL n && (ak == 0 && aa == 0) else if k = 2 then addrOkL ak aa && n == 0 else n == 0 && (ak == 0 && aa == 0)

theorem isNum_any (n : Int) (w : World) : Calls Try.prog 37 #[.int .i64 n] w fun e w' => e = .returned (.bool (isNumL n)) ∧ Drawn0 w w' := by
 refine impl_isNum.calls n _ w ?_
 unfold impl_isNum.f isNumL
 by_cases h : -1000000 ≤ n <;> by_cases h' : n ≤ 1000000 <;> simp [h, h']
theorem addrOk_any (k a : Int) (w : World) : Calls Try.prog 44 #[.agg #[.int .i64 k, .int .i64 a]] w fun e w' => e = .returned (.bool (addrOkL k a)) ∧ Below w.heap.size w w' := by
 refine impl_AddrOk.calls k a _ w ?_
 unfold impl_AddrOk.f addrOkL
 by_cases h1 : 1 ≤ k <;> by_cases h2 : k ≤ 3 <;> by_cases h3 : 0 ≤ a <;> by_cases h4 : a < 6 <;> simp [h1, h2, h3, h4]

theorem i64_eq0 (n : Int) : (n == 0) = decide (n = 0) := by rw [Bool.eq_iff_iff]; simp

set_option maxHeartbeats 1600000 in
theorem shape1_calls (k n ak aa : Int) (A : Option Addr) (l c : Nat) (w : World) : Calls Try.prog 77 #[.agg #[], .agg #[.int .i64 k, .int .i64 n, .int .i64 ak, .int .i64 aa, .slice A l c]] w fun e w' => e = .returned (.bool (isNumL n && (ak == 0 && aa == 0))) ∧ Below w.heap.size w w' := by
 have HB := Aside0.mk (Below.refl w.heap.size w)
 cases hb : isNumL n with
 | false =>
  have Hb := Aside0.mk hb; clear hb
  go_enter Try.func77, Try.ntmps77
  go_wp2_with (go_at_call 37; refine (isNum_any _ _).mono ?_; rintro e w1 ⟨rfl, n1, rfl⟩; rw [Hb.out])
  go_ret
  exact ⟨rfl, by repeat (first | (with_reducible first | exact HB.out | apply below_alloc | apply pw_below_drewN | apply below_drew1) | exact HB.out)⟩
 | true =>
  have Hb := Aside0.mk hb; clear hb
  go_enter Try.func77, Try.ntmps77
  go_wp2_with (go_at_call 37; refine (isNum_any _ _).mono ?_; rintro e w1 ⟨rfl, n1, rfl⟩; rw [Hb.out])
  go_ret
  exact ⟨by first | rfl | (simp; done), by repeat (first | (with_reducible first | exact HB.out | apply below_alloc | apply pw_below_drewN | apply below_drew1) | exact HB.out)⟩

set_option maxHeartbeats 1600000 in
theorem shape2_calls (k n ak aa : Int) (A : Option Addr) (l c : Nat) (w : World) : Calls Try.prog 95 #[.agg #[], .agg #[.int .i64 k, .int .i64 n, .int .i64 ak, .int .i64 aa, .slice A l c]] w fun e w' => e = .returned (.bool (addrOkL ak aa && n == 0)) ∧ Below w.heap.size w w' := by
 have HB := Aside0.mk (Below.refl w.heap.size w)
 cases hb : addrOkL ak aa with
 | false =>
  have Hb := Aside0.mk hb; clear hb
  go_enter Try.func95, Try.ntmps95
  go_wp2_with (go_at_call 44; refine (addrOk_any _ _ _).mono ?_; rintro e w1 ⟨rfl, hb1⟩; rw [Hb.out]; have HB1 := Aside0.mk hb1; clear hb1)
  go_ret
  exact ⟨rfl, Below.trans (by repeat (first | (with_reducible first | exact HB.out | apply below_alloc) | exact HB.out)) (HB1.out.mono (by simp; omega))⟩
 | true =>
  have Hb := Aside0.mk hb; clear hb
  go_enter Try.func95, Try.ntmps95
  go_wp2_with (go_at_call 44; refine (addrOk_any _ _ _).mono ?_; rintro e w1 ⟨rfl, hb1⟩; rw [Hb.out]; have hc1 : w1.cell? ⟨w.heap.size + 1, 1, none⟩ = some (.int .i64 n) := (by rw [hb1.cell (p := ⟨w.heap.size + 1, 1, none⟩) (by simp)]; simp [go_sem]); have HB1 := Aside0.mk hb1; clear hb1)
  go_ret
  exact ⟨by first | rfl | (simp; done), Below.trans (by repeat (first | (with_reducible first | exact HB.out | apply below_alloc) | exact HB.out)) (HB1.out.mono (by simp; omega))⟩

set_option maxHeartbeats 1600000 in
theorem shape3_calls (k n ak aa : Int) (A : Option Addr) (l c : Nat) (w : World) : Calls Try.prog 100 #[.agg #[], .agg #[.int .i64 k, .int .i64 n, .int .i64 ak, .int .i64 aa, .slice A l c]] w fun e w' => e = .returned (.bool (n == 0 && (ak == 0 && aa == 0))) ∧ Below w.heap.size w w' := by
 have HB := Aside0.mk (Below.refl w.heap.size w)
 cases hb : n == 0 with
 | false =>
  go_enter Try.func100, Try.ntmps100
  go_wp2
  go_ret
  exact ⟨by first | rfl | (simp; done), by repeat (first | (with_reducible first | exact HB.out | apply below_alloc) | exact HB.out)⟩
 | true =>
  go_enter Try.func100, Try.ntmps100
  go_wp2
  go_ret
  exact ⟨by first | rfl | (simp; done), by repeat (first | (with_reducible first | exact HB.out | apply below_alloc) | exact HB.out)⟩

set_option maxHeartbeats 1600000 in
theorem shape4_calls (k n ak aa : Int) (A : Option Addr) (l c : Nat) (w : World) : Calls Try.prog 113 #[.agg #[], .agg #[.int .i64 k, .int .i64 n, .int .i64 ak, .int .i64 aa, .slice A l c]] w fun e w' => e = .returned (.bool (n == 0 && (ak == 0 && aa == 0))) ∧ Below w.heap.size w w' := by
 have HB := Aside0.mk (Below.refl w.heap.size w)
 cases hb : n == 0 with
 | false =>
  go_enter Try.func113, Try.ntmps113
  go_wp2
  go_ret
  exact ⟨by first | rfl | (simp; done), by repeat (first | (with_reducible first | exact HB.out | apply below_alloc) | exact HB.out)⟩
 | true =>
  go_enter Try.func113, Try.ntmps113
  go_wp2
  go_ret
  exact ⟨by first | rfl | (simp; done), by repeat (first | (with_reducible first | exact HB.out | apply below_alloc) | exact HB.out)⟩

/-! the methods that the interface's values have -/
theorem meth_kids1 : ∀ w, (method 228 84 (.agg #[]) "loop.example/stopgate/impl.kids").run Try.prog w = .ok (75, .agg #[]) w := fun _ => by kernel_rfl
theorem meth_kids2 : ∀ w, (method 228 85 (.agg #[]) "loop.example/stopgate/impl.kids").run Try.prog w = .ok (93, .agg #[]) w := fun _ => by kernel_rfl
theorem meth_kids3 : ∀ w, (method 228 86 (.agg #[]) "loop.example/stopgate/impl.kids").run Try.prog w = .ok (98, .agg #[]) w := fun _ => by kernel_rfl
theorem meth_kids4 : ∀ w, (method 228 87 (.agg #[]) "loop.example/stopgate/impl.kids").run Try.prog w = .ok (111, .agg #[]) w := fun _ => by kernel_rfl
theorem meth_shape1 : ∀ w, (method 228 84 (.agg #[]) "loop.example/stopgate/impl.shape").run Try.prog w = .ok (77, .agg #[]) w := fun _ => by kernel_rfl
theorem meth_shape2 : ∀ w, (method 228 85 (.agg #[]) "loop.example/stopgate/impl.shape").run Try.prog w = .ok (95, .agg #[]) w := fun _ => by kernel_rfl
theorem meth_shape3 : ∀ w, (method 228 86 (.agg #[]) "loop.example/stopgate/impl.shape").run Try.prog w = .ok (100, .agg #[]) w := fun _ => by kernel_rfl
theorem meth_shape4 : ∀ w, (method 228 87 (.agg #[]) "loop.example/stopgate/impl.shape").run Try.prog w = .ok (113, .agg #[]) w := fun _ => by kernel_rfl

def kidsN (k : Int) : Int := if k = 1 ∨ k = 2 then 0 else if 3 ≤ k ∧ k ≤ 9 then 2 else 1
def kindOk (k : Int) : Bool := decide (1 ≤ k ∧ k ≤ 10)
/-- A kind that is one: its type, its methods. -/
structure KindIs (k : Int) (T fk fs : Nat) : Prop where
 v : kindV k = .iface T (.agg #[])
 mk' : ∀ w, (method 228 T (.agg #[]) "loop.example/stopgate/impl.kids").run Try.prog w = .ok (fk, .agg #[]) w
 ms' : ∀ w, (method 228 T (.agg #[]) "loop.example/stopgate/impl.shape").run Try.prog w = .ok (fs, .agg #[]) w
 ek : ∀ args w, (callFunc fk args).run Try.prog w = .ok (.enter fk args) w
 es : ∀ args w, (callFunc fs args).run Try.prog w = .ok (.enter fs args) w
 ck : ∀ w, Calls Try.prog fk #[.agg #[]] w fun e w' => e = .returned (.int .i64 (kidsN k)) ∧ Below w.heap.size w w'
 cs : ∀ n ak aa A l c w, Calls Try.prog fs #[.agg #[], .agg #[.int .i64 k, .int .i64 n, .int .i64 ak, .int .i64 aa, .slice A l c]] w fun e w' => e = .returned (.bool (shapeL k n ak aa)) ∧ Below w.heap.size w w'
theorem kind_is (k : Int) (h : kindOk k = true) : ∃ T fk fs, KindIs k T fk fs := by
 have h' : 1 ≤ k ∧ k ≤ 10 := of_decide_eq_true h
 by_cases h1 : k = 1
 ·subst h1
  exact ⟨_, _, _, rfl, meth_kids1, meth_shape1, enters_of Try.func75 (by kernel_rfl) rfl, enters_of Try.func77 (by kernel_rfl) rfl, kids1_calls, shape1_calls 1⟩
 ·by_cases h2 : k = 2
  ·subst h2
   exact ⟨_, _, _, rfl, meth_kids2, meth_shape2, enters_of Try.func93 (by kernel_rfl) rfl, enters_of Try.func95 (by kernel_rfl) rfl, kids2_calls, shape2_calls 2⟩
  ·by_cases h3 : k = 10
   ·subst h3
    exact ⟨_, _, _, rfl, meth_kids4, meth_shape4, enters_of Try.func111 (by kernel_rfl) rfl, enters_of Try.func113 (by kernel_rfl) rfl, kids4_calls, shape4_calls 10⟩
   ·have h39 : 3 ≤ k ∧ k ≤ 9 := by omega
    refine ⟨86, 98, 100, by simp [kindV, h1, h2, h39], meth_kids3, meth_shape3, enters_of Try.func98 (by kernel_rfl) rfl, enters_of Try.func100 (by kernel_rfl) rfl, ?_, ?_⟩
    ·rw [show kidsN k = 2 by simp [kidsN, h1, h2, h39]]; exact kids3_calls
    ·intro n ak aa A l c w
     rw [show shapeL k n ak aa = (n == 0 && (ak == 0 && aa == 0)) by simp [shapeL, h1, h2]]
     exact shape3_calls k n ak aa A l c w
theorem kind_nil (k : Int) (h : kindOk k = false) : kindV k = .nilIface := by
 have h' : ¬ (1 ≤ k ∧ k ≤ 10) := of_decide_eq_false h
 unfold kindV
 rw [if_neg (by omega), if_neg (by omega), if_neg (by omega), if_neg (by omega)]
end Go.Proofs.Ytacbbpbopmdpeaa.B
