import Derived.Test.YtendbgedpjcocaaGreatDoorB0
import Derived.WalkKit
import Derived.LaidEql
import Derived.Stop.Asserts
import Derived.RowKitTokens
import Derived.Test.YtendbgedpjcocaaGreatDoorPkA
import Derived.Outline
import Derived.RangeFuncLeaves
import Derived.Shelf.Abstract
import Derived.OwnWalkIn
import Derived.Test.YtendbgedpjcocaaGreatDoorJnF
import Derived.Deep.RegionHeld3
import Derived.Deep.QuietTactic
import Derived.BigQuiet
import Derived.Test.YtendbgedpjcocaaGreatDoorPkB
import Derived.Laws.BitsLemmas
/- errors.Is, asked whether an error is the program's one sentinel. -/
namespace Go.Proofs.YtendbgedpjcocaaGreatDoor.B
open Go Go.RowKit Go.Extern.Stop Go.Stop Go.Extern
set_option linter.unusedVariables false
theorem errTypeOf (v : Value) (w : World) : (Extern.ReflectliteType.typeOf #[.iface 156 v]).run Tryz.prog w = .ok (.iface 146 (.agg #[.pointer (some ⟨1, 156, none⟩)])) w := by kernel_rfl
theorem errComparable (w : World) : ((Extern.ReflectliteType.method fun t => do Extern.Rtype.noPackHeld "Comparable" t; pure (.bool (← typeInfo t).comparable)) #[.agg #[.pointer (some ⟨1, 156, none⟩)]]).run Tryz.prog w = .ok (.bool true) w := by kernel_rfl
theorem errMethod (v : Value) (w : World) : (Go.method 299 146 v "Comparable").run Tryz.prog w = .ok (159, v) w := by kernel_rfl
theorem errComp : (Tryz.prog.info? 156).map (·.comparable) = some true := by kernel_rfl
theorem errSize : (Tryz.prog.info? 185).map (·.size) = some 1 := by kernel_rfl
theorem errCallTypeOf (v : Value) (w : World) : (callFunc 93 #[.iface 156 v]).run Tryz.prog w = .ok (.value (.iface 146 (.agg #[.pointer (some ⟨1, 156, none⟩)]))) w := by
 rw [@run_callFunc_extern Tryz.prog 93 _ Extern.ReflectliteType.typeOf Tryz.func93 (by kernel_rfl) (by kernel_rfl) (by kernel_rfl) (by kernel_rfl), errTypeOf]
 rfl
theorem errCallComparable (w : World) : (callFunc 159 #[.agg #[.pointer (some ⟨1, 156, none⟩)]]).run Tryz.prog w = .ok (.value (.bool true)) w := by
 rw [@run_callFunc_extern Tryz.prog 159 _ (Extern.ReflectliteType.method fun t => do Extern.Rtype.noPackHeld "Comparable" t; pure (.bool (← typeInfo t).comparable)) Tryz.func159 (by kernel_rfl) (by kernel_rfl) (by kernel_rfl) (by kernel_rfl), errComparable]
 rfl
set_option maxRecDepth 100000 in
/-- errors.Is(x, x), x a pointer to an errors.errorString. -/
theorem is_same (a : Addr) (w : World) :
  Calls Tryz.prog 69 #[.iface 156 (.pointer (some a)), .iface 156 (.pointer (some a))] w fun e w' => e = .returned (.bool true) ∧ w' = w := by
 obtain ⟨i, hi, hcmp⟩ := Option.map_eq_some_iff.1 errComp
 obtain ⟨j, hj, hjs⟩ := Option.map_eq_some_iff.1 errSize
 have h8 := errCallTypeOf
 have h32 := errCallComparable
 have mR := errMethod
 have heq := run_eql_iface_ptr_same (P := Tryz.prog) w a Tryz.underlying71 Tryz.underlying156 hi hcmp hj
 go_enter Tryz.func69, Tryz.ntmps69
 go_wp2
 refine wp_loop_rounds 1 ?_
 rw [rounds_succ]
 go_wp2
 go_ret
 exact ⟨rfl, rfl⟩
set_option maxRecDepth 100000 in
/-- errors.Is(nil, x). -/
theorem is_nil (b : Addr) (w : World) :
  Calls Tryz.prog 69 #[.nilIface, .iface 156 (.pointer (some b))] w fun e w' => e = .returned (.bool false) ∧ w' = w := by
 have hn := run_eql_iface_nil_left (P := Tryz.prog) w 156 (.pointer (some b)) Tryz.underlying71
 go_enter Tryz.func69, Tryz.ntmps69
 go_wp2
 go_ret
 exact ⟨rfl, rfl⟩
/-- What the program's sentinel holds. -/
def ErrAt (w : World) (a : Addr) : Prop := w.cell? ⟨0, 0, none⟩ = some (.iface 156 (.pointer (some a)))
theorem ErrAt.below {w W : World} {a : Addr} (h : ErrAt w a) (hb : Below w.heap.size w W) : ErrAt W a := (hb.cell (World.block_lt_of_cell? w _ h)).trans h
/-- How a run ends, as an error. -/
def errOf (a : Addr) (c : Int) : Value := if c = 0 then .nilIface else .iface 156 (.pointer (some a))
theorem is_any (a : Addr) (c : Int) (w : World) : Calls Tryz.prog 69 #[errOf a c, .iface 156 (.pointer (some a))] w fun e w' => e = .returned (.bool (c != 0)) ∧ w' = w := by
 by_cases h : c = 0
 ·rw [errOf, if_pos h, h]; exact is_nil a w
 ·rw [errOf, if_neg h, show (c != 0) = true by simpa using h]; exact is_same a w
end Go.Proofs.YtendbgedpjcocaaGreatDoor.B
/- The kinds of what is reckoned: reckoningOf, and the methods kids and shape. -/
namespace Go.Proofs.YtendbgedpjcocaaGreatDoor.B
open Go.RowKit Go.Proofs.YtendbgedpjcocaaGreatDoorW.PrintWords Go.Proofs.YtendbgedpjcocaaGreatDoorW.PrintLast Go.Proofs.YtendbgedpjcocaaGreatDoorW.PrintMore
set_option linter.unusedVariables false
attribute [local go_sem high] eqA24

/-- What reckoningOf hands back. -/
def kindV (k : Int) : Value :=
 if k = 1 then .iface 138 (.agg #[]) else if k = 2 then .iface 139 (.agg #[]) else if 3 ≤ k ∧ k ≤ 9 then .iface 140 (.agg #[]) else if k = 10 then .iface 141 (.agg #[]) else .nilIface

set_option maxHeartbeats 800000 in
theorem reckoningOf_calls (k : Int) (w : World) : Calls Tryz.prog 81 #[.int .i64 k] w fun e w' => e = .returned (kindV k) ∧ w = w' := by
 by_cases h1 : k = 1
 ·subst h1
  go_enter Tryz.func81, Tryz.ntmps81
  go_wp2
  go_ret
  exact ⟨rfl, rfl⟩
 ·have b1 : (k == 1) = false := beq_eq_false_iff_ne.mpr h1
  by_cases h2 : k = 2
  ·subst h2
   go_enter Tryz.func81, Tryz.ntmps81
   go_wp2
   go_ret
   exact ⟨rfl, rfl⟩
  ·have b2 : (k == 2) = false := beq_eq_false_iff_ne.mpr h2
   by_cases h3 : 3 ≤ k
   ·by_cases h4 : k ≤ 9
    ·have HK := Aside0.mk (show Ending.returned (.iface 140 (.agg #[])) = .returned (kindV k) by simp [kindV, h1, h2, h3, h4])
     go_enter Tryz.func81, Tryz.ntmps81
     go_wp2
     go_ret
     exact ⟨HK.out, rfl⟩
    ·by_cases h5 : k = 10
     ·subst h5
      go_enter Tryz.func81, Tryz.ntmps81
      go_wp2
      go_ret
      exact ⟨rfl, rfl⟩
     ·have b5 : (k == 10) = false := beq_eq_false_iff_ne.mpr h5
      have HK := Aside0.mk (show Ending.returned .nilIface = .returned (kindV k) by simp [kindV, h1, h2, h3, h4, h5])
      go_enter Tryz.func81, Tryz.ntmps81
      go_wp2
      go_ret
      exact ⟨HK.out, rfl⟩
   ·have h5 : ¬ k = 10 := by omega
    have b5 : (k == 10) = false := beq_eq_false_iff_ne.mpr h5
    have HK := Aside0.mk (show Ending.returned .nilIface = .returned (kindV k) by simp [kindV, h1, h2, h3, h5])
    go_enter Tryz.func81, Tryz.ntmps81
    go_wp2
    go_ret
    exact ⟨HK.out, rfl⟩

theorem kids1_calls (w : World) : Calls Tryz.prog 134 #[.agg #[]] w fun e w' => e = .returned (.int .i64 0) ∧ Below w.heap.size w w' := by
 go_enter Tryz.func134, Tryz.ntmps134
 go_wp2
 go_ret
 exact ⟨rfl, (Below.refl _ _).alloc (Nat.le_refl _) _⟩
theorem kids2_calls (w : World) : Calls Tryz.prog 138 #[.agg #[]] w fun e w' => e = .returned (.int .i64 0) ∧ Below w.heap.size w w' := by
 go_enter Tryz.func138, Tryz.ntmps138
 go_wp2
 go_ret
 exact ⟨rfl, (Below.refl _ _).alloc (Nat.le_refl _) _⟩
theorem kids3_calls (w : World) : Calls Tryz.prog 142 #[.agg #[]] w fun e w' => e = .returned (.int .i64 2) ∧ Below w.heap.size w w' := by
 go_enter Tryz.func142, Tryz.ntmps142
 go_wp2
 go_ret
 exact ⟨rfl, (Below.refl _ _).alloc (Nat.le_refl _) _⟩
theorem kids4_calls (w : World) : Calls Tryz.prog 152 #[.agg #[]] w fun e w' => e = .returned (.int .i64 1) ∧ Below w.heap.size w w' := by
 go_enter Tryz.func152, Tryz.ntmps152
 go_wp2
 go_ret
 exact ⟨rfl, (Below.refl _ _).alloc (Nat.le_refl _) _⟩

def isNumL (n : Int) : Bool := decide (-1000000 ≤ n ∧ n ≤ 1000000)
def addrOkL (k a : Int) : Bool := decide (1 ≤ k ∧ k ≤ 3 ∧ 0 ≤ a ∧ a < 6)
def shapeL (k n ak aa : Int) : Bool := if k = 1 then isNumL n && (ak == 0 && aa == 0) else if k = 2 then addrOkL ak aa && n == 0 else n == 0 && (ak == 0 && aa == 0)

theorem isNum_any (n : Int) (w : World) : Calls Tryz.prog 66 #[.int .i64 n] w fun e w' => e = .returned (.bool (isNumL n)) ∧ Drawn0 w w' := by
 refine impl_isNum.calls n _ w ?_
 unfold impl_isNum.f isNumL
 by_cases h : -1000000 ≤ n <;> by_cases h' : n ≤ 1000000 <;> simp [h, h']
theorem addrOk_any (k a : Int) (w : World) : Calls Tryz.prog 90 #[.agg #[.int .i64 k, .int .i64 a]] w fun e w' => e = .returned (.bool (addrOkL k a)) ∧ Below w.heap.size w w' := by
 refine impl_AddrOk.calls k a _ w ?_
 unfold impl_AddrOk.f addrOkL
 by_cases h1 : 1 ≤ k <;> by_cases h2 : k ≤ 3 <;> by_cases h3 : 0 ≤ a <;> by_cases h4 : a < 6 <;> simp [h1, h2, h3, h4]

theorem i64_eq0 (n : Int) : (n == 0) = decide (n = 0) := by rw [Bool.eq_iff_iff]; simp

set_option maxHeartbeats 1600000 in
theorem shape1_calls (k n ak aa : Int) (A : Option Addr) (l c : Nat) (w : World) : Calls Tryz.prog 136 #[.agg #[], .agg #[.int .i64 k, .int .i64 n, .int .i64 ak, .int .i64 aa, .slice A l c]] w fun e w' => e = .returned (.bool (isNumL n && (ak == 0 && aa == 0))) ∧ Below w.heap.size w w' := by
 have HB := Aside0.mk (Below.refl w.heap.size w)
 cases hb : isNumL n with
 | false =>
  have Hb := Aside0.mk hb; clear hb
  go_enter Tryz.func136, Tryz.ntmps136
  go_wp2_with (go_at_call 66; refine (isNum_any _ _).mono ?_; rintro e w1 ⟨rfl, n1, rfl⟩; rw [Hb.out])
  go_ret
  exact ⟨rfl, by repeat (first | (with_reducible first | exact HB.out | apply below_alloc | apply pw_below_drewN | apply below_drew1) | exact HB.out)⟩
 | true =>
  have Hb := Aside0.mk hb; clear hb
  go_enter Tryz.func136, Tryz.ntmps136
  go_wp2_with (go_at_call 66; refine (isNum_any _ _).mono ?_; rintro e w1 ⟨rfl, n1, rfl⟩; rw [Hb.out])
  go_ret
  exact ⟨by first | rfl | (simp; done), by repeat (first | (with_reducible first | exact HB.out | apply below_alloc | apply pw_below_drewN | apply below_drew1) | exact HB.out)⟩

set_option maxHeartbeats 1600000 in
theorem shape2_calls (k n ak aa : Int) (A : Option Addr) (l c : Nat) (w : World) : Calls Tryz.prog 140 #[.agg #[], .agg #[.int .i64 k, .int .i64 n, .int .i64 ak, .int .i64 aa, .slice A l c]] w fun e w' => e = .returned (.bool (addrOkL ak aa && n == 0)) ∧ Below w.heap.size w w' := by
 have HB := Aside0.mk (Below.refl w.heap.size w)
 cases hb : addrOkL ak aa with
 | false =>
  have Hb := Aside0.mk hb; clear hb
  go_enter Tryz.func140, Tryz.ntmps140
  go_wp2_with (go_at_call 90; refine (addrOk_any _ _ _).mono ?_; rintro e w1 ⟨rfl, hb1⟩; rw [Hb.out]; have HB1 := Aside0.mk hb1; clear hb1)
  go_ret
  exact ⟨rfl, Below.trans (by repeat (first | (with_reducible first | exact HB.out | apply below_alloc) | exact HB.out)) (HB1.out.mono (by simp; omega))⟩
 | true =>
  have Hb := Aside0.mk hb; clear hb
  go_enter Tryz.func140, Tryz.ntmps140
  go_wp2_with (go_at_call 90; refine (addrOk_any _ _ _).mono ?_; rintro e w1 ⟨rfl, hb1⟩; rw [Hb.out]; have hc1 : w1.cell? ⟨w.heap.size + 1, 1, none⟩ = some (.int .i64 n) := (by rw [hb1.cell (p := ⟨w.heap.size + 1, 1, none⟩) (by simp)]; simp [go_sem]); have HB1 := Aside0.mk hb1; clear hb1)
  go_ret
  exact ⟨by first | rfl | (simp; done), Below.trans (by repeat (first | (with_reducible first | exact HB.out | apply below_alloc) | exact HB.out)) (HB1.out.mono (by simp; omega))⟩

set_option maxHeartbeats 1600000 in
theorem shape3_calls (k n ak aa : Int) (A : Option Addr) (l c : Nat) (w : World) : Calls Tryz.prog 144 #[.agg #[], .agg #[.int .i64 k, .int .i64 n, .int .i64 ak, .int .i64 aa, .slice A l c]] w fun e w' => e = .returned (.bool (n == 0 && (ak == 0 && aa == 0))) ∧ Below w.heap.size w w' := by
 have HB := Aside0.mk (Below.refl w.heap.size w)
 cases hb : n == 0 with
 | false =>
  go_enter Tryz.func144, Tryz.ntmps144
  go_wp2
  go_ret
  exact ⟨by first | rfl | (simp; done), by repeat (first | (with_reducible first | exact HB.out | apply below_alloc) | exact HB.out)⟩
 | true =>
  go_enter Tryz.func144, Tryz.ntmps144
  go_wp2
  go_ret
  exact ⟨by first | rfl | (simp; done), by repeat (first | (with_reducible first | exact HB.out | apply below_alloc) | exact HB.out)⟩

set_option maxHeartbeats 1600000 in
theorem shape4_calls (k n ak aa : Int) (A : Option Addr) (l c : Nat) (w : World) : Calls Tryz.prog 154 #[.agg #[], .agg #[.int .i64 k, .int .i64 n, .int .i64 ak, .int .i64 aa, .slice A l c]] w fun e w' => e = .returned (.bool (n == 0 && (ak == 0 && aa == 0))) ∧ Below w.heap.size w w' := by
 have HB := Aside0.mk (Below.refl w.heap.size w)
 cases hb : n == 0 with
 | false =>
  go_enter Tryz.func154, Tryz.ntmps154
  go_wp2
  go_ret
  exact ⟨by first | rfl | (simp; done), by repeat (first | (with_reducible first | exact HB.out | apply below_alloc) | exact HB.out)⟩
 | true =>
  go_enter Tryz.func154, Tryz.ntmps154
  go_wp2
  go_ret
  exact ⟨by first | rfl | (simp; done), by repeat (first | (with_reducible first | exact HB.out | apply below_alloc) | exact HB.out)⟩

/-! the methods that the interface's values have -/
theorem meth_kids1 : ∀ w, (method 299 138 (.agg #[]) "loop.example/stopgate/impl.kids").run Tryz.prog w = .ok (134, .agg #[]) w := fun _ => by kernel_rfl
theorem meth_kids2 : ∀ w, (method 299 139 (.agg #[]) "loop.example/stopgate/impl.kids").run Tryz.prog w = .ok (138, .agg #[]) w := fun _ => by kernel_rfl
theorem meth_kids3 : ∀ w, (method 299 140 (.agg #[]) "loop.example/stopgate/impl.kids").run Tryz.prog w = .ok (142, .agg #[]) w := fun _ => by kernel_rfl
theorem meth_kids4 : ∀ w, (method 299 141 (.agg #[]) "loop.example/stopgate/impl.kids").run Tryz.prog w = .ok (152, .agg #[]) w := fun _ => by kernel_rfl
theorem meth_shape1 : ∀ w, (method 299 138 (.agg #[]) "loop.example/stopgate/impl.shape").run Tryz.prog w = .ok (136, .agg #[]) w := fun _ => by kernel_rfl
theorem meth_shape2 : ∀ w, (method 299 139 (.agg #[]) "loop.example/stopgate/impl.shape").run Tryz.prog w = .ok (140, .agg #[]) w := fun _ => by kernel_rfl
theorem meth_shape3 : ∀ w, (method 299 140 (.agg #[]) "loop.example/stopgate/impl.shape").run Tryz.prog w = .ok (144, .agg #[]) w := fun _ => by kernel_rfl
theorem meth_shape4 : ∀ w, (method 299 141 (.agg #[]) "loop.example/stopgate/impl.shape").run Tryz.prog w = .ok (154, .agg #[]) w := fun _ => by kernel_rfl

def kidsN (k : Int) : Int := if k = 1 ∨ k = 2 then 0 else if 3 ≤ k ∧ k ≤ 9 then 2 else 1
def kindOk (k : Int) : Bool := decide (1 ≤ k ∧ k ≤ 10)
/-- A kind that is one: its type, its methods. -/
structure KindIs (k : Int) (T fk fs : Nat) : Prop where
 v : kindV k = .iface T (.agg #[])
 mk' : ∀ w, (method 299 T (.agg #[]) "loop.example/stopgate/impl.kids").run Tryz.prog w = .ok (fk, .agg #[]) w
 ms' : ∀ w, (method 299 T (.agg #[]) "loop.example/stopgate/impl.shape").run Tryz.prog w = .ok (fs, .agg #[]) w
 ek : ∀ args w, (callFunc fk args).run Tryz.prog w = .ok (.enter fk args) w
 es : ∀ args w, (callFunc fs args).run Tryz.prog w = .ok (.enter fs args) w
 ck : ∀ w, Calls Tryz.prog fk #[.agg #[]] w fun e w' => e = .returned (.int .i64 (kidsN k)) ∧ Below w.heap.size w w'
 cs : ∀ n ak aa A l c w, Calls Tryz.prog fs #[.agg #[], .agg #[.int .i64 k, .int .i64 n, .int .i64 ak, .int .i64 aa, .slice A l c]] w fun e w' => e = .returned (.bool (shapeL k n ak aa)) ∧ Below w.heap.size w w'
theorem kind_is (k : Int) (h : kindOk k = true) : ∃ T fk fs, KindIs k T fk fs := by
 have h' : 1 ≤ k ∧ k ≤ 10 := of_decide_eq_true h
 by_cases h1 : k = 1
 ·subst h1
  exact ⟨_, _, _, rfl, meth_kids1, meth_shape1, enters_of Tryz.func134 (by kernel_rfl) rfl, enters_of Tryz.func136 (by kernel_rfl) rfl, kids1_calls, shape1_calls 1⟩
 ·by_cases h2 : k = 2
  ·subst h2
   exact ⟨_, _, _, rfl, meth_kids2, meth_shape2, enters_of Tryz.func138 (by kernel_rfl) rfl, enters_of Tryz.func140 (by kernel_rfl) rfl, kids2_calls, shape2_calls 2⟩
  ·by_cases h3 : k = 10
   ·subst h3
    exact ⟨_, _, _, rfl, meth_kids4, meth_shape4, enters_of Tryz.func152 (by kernel_rfl) rfl, enters_of Tryz.func154 (by kernel_rfl) rfl, kids4_calls, shape4_calls 10⟩
   ·have h39 : 3 ≤ k ∧ k ≤ 9 := by omega
    refine ⟨140, 142, 144, by simp [kindV, h1, h2, h39], meth_kids3, meth_shape3, enters_of Tryz.func142 (by kernel_rfl) rfl, enters_of Tryz.func144 (by kernel_rfl) rfl, ?_, ?_⟩
    ·rw [show kidsN k = 2 by simp [kidsN, h1, h2, h39]]; exact kids3_calls
    ·intro n ak aa A l c w
     rw [show shapeL k n ak aa = (n == 0 && (ak == 0 && aa == 0)) by simp [shapeL, h1, h2]]
     exact shape3_calls k n ak aa A l c w
theorem kind_nil (k : Int) (h : kindOk k = false) : kindV k = .nilIface := by
 have h' : ¬ (1 ≤ k ∧ k ≤ 10) := of_decide_eq_false h
 unfold kindV
 rw [if_neg (by omega), if_neg (by omega), if_neg (by omega), if_neg (by omega)]
end Go.Proofs.YtendbgedpjcocaaGreatDoor.B
/- impl's memory: a place's address, the number at a place. -/
namespace Go.Proofs.YtendbgedpjcocaaGreatDoor.B
open Go.RowKit Go.Proofs.YtendbgedpjcocaaGreatDoorW.PrintWords Go.Proofs.YtendbgedpjcocaaGreatDoorW.PrintLast Go.Proofs.YtendbgedpjcocaaGreatDoorW.PrintMore
set_option linter.unusedVariables false

theorem addr_cases {k a : Int} (h : addrOkL k a = true) : (k = 1 ∨ k = 2 ∨ k = 3) ∧ (a = 0 ∨ a = 1 ∨ a = 2 ∨ a = 3 ∨ a = 4 ∨ a = 5) := by
 unfold addrOkL at h
 have := of_decide_eq_true h
 omega
set_option maxRecDepth 100000 in
set_option maxHeartbeats 4000000 in
theorem place_any (g : Nat) (k a : Int) (w : World) (h : addrOkL k a = true) : Calls Tryz.prog 79 #[.pointer (some ⟨g, 0, none⟩), .agg #[.int .i64 k, .int .i64 a]] w fun e w' => e = .returned (.pointer (some ⟨g, ((k - 1) * 6 + a).toNat, none⟩)) ∧ Below w.heap.size w w' := by
 have HB := Aside0.mk (Below.refl w.heap.size w)
 obtain ⟨hk, ha⟩ := addr_cases h
 clear h
 rcases hk with rfl | rfl | rfl <;> rcases ha with rfl | rfl | rfl | rfl | rfl | rfl
 all_goals
  go_enter Tryz.func79, Tryz.ntmps79
  go_wp2
  go_quiet (fail)
  go_wp2
  go_ret
  exact ⟨rfl, by repeat (first | (with_reducible first | exact HB.out | apply below_alloc | apply pw_below_drewN | apply below_drew1) | exact HB.out)⟩
/-- The number at a place of a memory's 18. -/
def getL (bs : List Int) (k a : Int) : Int := if addrOkL k a then bs.getD ((k - 1) * 6 + a).toNat 0 else 0
structure MemAt (w : World) (g : Nat) (bs : List Int) : Prop where
 b : w.heap[g]? = some (.cells (bs.map (Value.int .i64)).toArray 100 (0, 0))
 n : bs.length = 18
theorem MemAt.below {w w' : World} {g : Nat} {bs : List Int} (h : MemAt w g bs) (hb : Below w.heap.size w w') : MemAt w' g bs := ⟨(hb.block g (blk_lt h.b)).trans h.b, h.n⟩
theorem MemAt.cell {w : World} {g : Nat} {bs : List Int} (h : MemAt w g bs) (i : Nat) (hi : i < 18) : w.cell? ⟨g, i, none⟩ = some (.int .i64 (bs.getD i 0)) := by
 have hl := h.n
 rw [blk_cell h.b]
 simp [List.getD_eq_getElem?_getD, List.getElem?_eq_getElem (show i < bs.length by omega)]
set_option maxRecDepth 100000 in
set_option maxHeartbeats 4000000 in
theorem get_any (g : Nat) (bs : List Int) (k a : Int) (w : World) (hm : MemAt w g bs) : Calls Tryz.prog 59 #[.pointer (some ⟨g, 0, none⟩), .agg #[.int .i64 k, .int .i64 a]] w fun e w' => e = .returned (.int .i64 (getL bs k a)) ∧ Below w.heap.size w w' := by
 have hb0 := heap_alloc_new w (.cells #[.int .i64 k, .int .i64 a] 24)
 have hB0 : Below w.heap.size w (w.alloc (.cells #[.int .i64 k, .int .i64 a] 24)) := (Below.refl _ _).alloc (Nat.le_refl _) _
 have HM := Aside0.mk (And.intro hm (And.intro hb0 hB0))
 clear hm hb0 hB0
 cases hv : addrOkL k a with
 | false =>
  have HV := Aside0.mk hv; clear hv
  go_enter Tryz.func59, Tryz.ntmps59
  go_wp2_with fail
  refine (addrOk_any _ _ _).mono ?_
  rintro e w1 ⟨rfl, hb1⟩
  rw [HV.out]
  have HB := Aside0.mk (HM.out.2.2.trans (hb1.mono HM.out.2.2.size)); clear hb1
  go_wp2
  go_ret
  exact ⟨by rw [getL, HV.out]; rfl, HB.out⟩
 | true =>
  obtain ⟨hk, ha⟩ := addr_cases hv
  have hlt : ((k - 1) * 6 + a).toNat < 18 := by omega
  have HV := Aside0.mk (And.intro hv hlt); clear hv hk ha hlt
  go_enter Tryz.func59, Tryz.ntmps59
  go_wp2_with fail
  refine (addrOk_any _ _ _).mono ?_
  rintro e w1 ⟨rfl, hb1⟩
  rw [HV.out.1]
  have k1 := (hb1.block _ (blk_lt HM.out.2.1)).trans HM.out.2.1
  have c0 : w1.cell? ⟨w.heap.size, 0, none⟩ = some (.int .i64 k) := by rw [blk_cell k1]; rfl
  have c1 : w1.cell? ⟨w.heap.size, 1, none⟩ = some (.int .i64 a) := by rw [blk_cell k1]; rfl
  have HB := Aside0.mk (HM.out.2.2.trans (hb1.mono HM.out.2.2.size)); clear hb1 k1
  go_wp2_with fail
  refine (place_any g k a w1 HV.out.1).mono ?_
  rintro e w2 ⟨rfl, hb2⟩
  have hB2 := HB.out.trans (hb2.mono HB.out.size)
  have d := (HM.out.1.below hB2).cell _ HV.out.2
  have HB2 := Aside0.mk hB2; clear hb2 hB2 c0 c1
  go_wp2
  go_ret
  exact ⟨by rw [getL, HV.out.1]; rfl, HB2.out⟩

def twoI (k a b : Int) : Int := (impl_two.f k a b).getD 0
theorem two_some (k a b : Int) : impl_two.f k a b = some (twoI k a b) := by
 have : ∃ r, impl_two.f k a b = some r := by
  unfold impl_two.f impl_NumAdd.f impl_NumSub.f impl_NumMul.f impl_maker_of.f impl_NumCut.f impl_NumIs.f impl_NumOn.f
  simp only [Option.bind_some]
  repeat' split
  all_goals simp
 obtain ⟨r, h⟩ := this
 rw [twoI, h]; rfl
/-- What something that is ok comes to. -/
def evalI (bs : List Int) : Ex → Int
 | ⟨k, n, a, l⟩ => if k = 1 then n else if k = 2 then getL bs a.f0 a.f1 else
  if k = 10 then (if (l.attach.map fun x => evalI bs x.1).getD 0 0 = 0 then 1 else 0) else twoI k ((l.attach.map fun x => evalI bs x.1).getD 0 0) ((l.attach.map fun x => evalI bs x.1).getD 1 0)
termination_by e => SizeOf.sizeOf e
decreasing_by all_goals have := List.sizeOf_lt_of_mem x.2; simp; omega
theorem evalI_eq (bs : List Int) (e : Ex) : evalI bs e = if e.f0 = 1 then e.f1 else if e.f0 = 2 then getL bs e.f2.f0 e.f2.f1 else
  if e.f0 = 10 then (if (e.f3.map (evalI bs)).getD 0 0 = 0 then 1 else 0) else twoI e.f0 ((e.f3.map (evalI bs)).getD 0 0) ((e.f3.map (evalI bs)).getD 1 0) := by
 cases e with
 | mk k n a l => rw [evalI]; simp
end Go.Proofs.YtendbgedpjcocaaGreatDoor.B
/- What ExprOk asks of the parts that the iterator yields, in plain words. -/
namespace Go.Proofs.YtendbgedpjcocaaGreatDoor.B
open Go.RowKit Go.Proofs.YtendbgedpjcocaaGreatDoorW.PrintWords Go.Proofs.YtendbgedpjcocaaGreatDoorW.PrintLast Go.Proofs.YtendbgedpjcocaaGreatDoorW.PrintMore
set_option linter.unusedVariables false

def partOk (n : Nat) (x : Int × Ex) : Bool := decide (n ≤ 14) && decide (x.1 < 6) && kindOk x.2.f0 && ((x.2.f3.length : Int) == kidsN x.2.f0) && shapeL x.2.f0 x.2.f1 x.2.f2.f0 x.2.f2.f1
def okL : Nat → List (Int × Ex) → Bool
 | _, [] => true
 | n, x :: xs => partOk (n + 1) x && okL (n + 1) xs
theorem okL_snoc (xs : List (Int × Ex)) (x : Int × Ex) : ∀ n, okL n (xs ++ [x]) = (okL n xs && partOk (n + xs.length + 1) x) := by
 induction xs with
 | nil => intro n; simp [okL]
 | cons y ys ih => intro n; simp only [List.cons_append, okL, ih, List.length_cons]; rw [show n + 1 + ys.length + 1 = n + (ys.length + 1) + 1 by omega, Bool.and_assoc]

theorem okL_append (xs ys : List (Int × Ex)) : ∀ n, okL n (xs ++ ys) = (okL n xs && okL (n + xs.length) ys) := by
 induction xs with
 | nil => intro n; simp [okL]
 | cons y zs ih => intro n; simp only [List.cons_append, okL, ih, List.length_cons]; rw [show n + 1 + zs.length = n + (zs.length + 1) by omega, Bool.and_assoc]

theorem walk_le (d : Nat) : ∀ (e : Ex) (acc : List (Int × Ex)), acc.length ≤ 14 → (walkP d e acc).1.length ≤ 15 := by
 induction d with
 | zero => intro e acc h; simp [walkP]; omega
 | succ d ih =>
  intro e acc h
  unfold walkP
  split
  ·simp; omega
  ·rename_i h14
   have hf : ∀ (ks : List Ex) (s : List (Int × Ex) × Bool), s.1.length ≤ 14 → (ks.foldl (fun s k => if s.2 then walkP d k s.1 else s) s).1.length ≤ 15 := by
    intro ks
    induction ks with
    | nil => intro s hs; simp; omega
    | cons k ks ihk =>
     intro s hs
     show (ks.foldl (fun s k => if s.2 then walkP d k s.1 else s) (if s.2 = true then walkP d k s.1 else s)).1.length ≤ 15
     by_cases h2 : s.2 = true
     ·rw [if_pos h2]
      cases hw : (walkP d k s.1).2 with
      | true => exact ihk _ (walk_true d k s.1 hw)
      | false => rw [show walkP d k s.1 = ((walkP d k s.1).1, false) from Prod.ext rfl hw, walk_stop]; exact ih k s.1 hs
     ·rw [if_neg h2]; exact ihk s hs
   exact hf _ _ (by simp at h14 ⊢; omega)
theorem partsL_le (e : Ex) : (partsL e).length ≤ 15 := walk_le 6 e [] (by simp)

end Go.Proofs.YtendbgedpjcocaaGreatDoor.B
/- Plain law: what the parts say and what the specification says of an expression are the same. -/
namespace Go.Proofs.YtendbgedpjcocaaGreatDoor.B
open Go.RowKit Go.Proofs.YtendbgedpjcocaaGreatDoorW.PrintWords Go.Proofs.YtendbgedpjcocaaGreatDoorW.PrintLast Go.Proofs.YtendbgedpjcocaaGreatDoorW.PrintMore
set_option linter.unusedVariables false

def headOk (e : Ex) : Bool := kindOk e.f0 && ((e.f3.length : Int) == kidsN e.f0) && shapeL e.f0 e.f1 e.f2.f0 e.f2.f1
def formS : Nat → Ex → Bool
 | 0, _ => false
 | d + 1, e => headOk e && e.f3.all (formS d)
def manyS : Nat → Ex → Nat
 | 0, _ => 1
 | d + 1, e => 1 + (e.f3.map (manyS d)).sum
theorem manyS_pos (d : Nat) (e : Ex) : 1 ≤ manyS d e := by cases d <;> simp [manyS]
theorem okL_pre {xs ys : List (Int × Ex)} (h : xs <+: ys) (hx : okL 0 xs = false) : okL 0 ys = false := by
 obtain ⟨zs, rfl⟩ := h
 rw [okL_append, hx]; rfl

/-- What a walk leaves, where all that had come is ok. -/
def WalkOk (r : List (Int × Ex) × Bool) (ok : Bool) (n : Nat) : Prop := okL 0 r.1 = (ok && decide (n ≤ 14)) ∧ (okL 0 r.1 = true → r.2 = true ∧ r.1.length = n)
theorem fold_ok (d : Nat) (ih : ∀ (e : Ex) (acc : List (Int × Ex)), acc.length ≤ 14 → okL 0 acc = true → WalkOk (walkP d e acc) (formS d e) (acc.length + manyS d e)) (ks : List Ex) :
  ∀ acc : List (Int × Ex), acc.length ≤ 14 → okL 0 acc = true → WalkOk (ks.foldl (fun s k => if s.2 then walkP d k s.1 else s) (acc, true)) (ks.all (formS d)) (acc.length + (ks.map (manyS d)).sum) := by
 induction ks with
 | nil => intro acc h1 h2; exact ⟨by simp [h2, h1], fun _ => ⟨rfl, by simp⟩⟩
 | cons k ks ihk =>
  intro acc h1 h2
  have hw := ih k acc h1 h2
  show WalkOk (ks.foldl (fun s k => if s.2 then walkP d k s.1 else s) (walkP d k acc)) _ _
  by_cases hr : okL 0 (walkP d k acc).1 = true
  ·obtain ⟨hr2, hlen⟩ := hw.2 hr
   have hf : formS d k = true ∧ acc.length + manyS d k ≤ 14 := by have := hw.1; rw [hr] at this; simpa using this.symm
   have h3 := ihk (walkP d k acc).1 (by omega) hr
   rw [show walkP d k acc = ((walkP d k acc).1, true) from Prod.ext rfl hr2]
   rw [hlen] at h3
   rw [List.all_cons, hf.1, Bool.true_and, List.map_cons, List.sum_cons, ← Nat.add_assoc]
   exact h3
  ·have hr' : okL 0 (walkP d k acc).1 = false := by simpa using hr
   have hz : okL 0 (ks.foldl (fun s k => if s.2 then walkP d k s.1 else s) (walkP d k acc)).1 = false := okL_pre (fold_pre d ks _) hr'
   refine ⟨?_, fun h => by rw [hz] at h; cases h⟩
   rw [hz]
   have hw1 := hw.1
   rw [hr'] at hw1
   cases hfk : formS d k with
   | false => simp [hfk]
   | true =>
    have : ¬ (acc.length + manyS d k ≤ 14) := by rw [hfk] at hw1; simpa using hw1
    symm
    rw [Bool.and_eq_false_iff]
    right
    simp
    omega
theorem walk_ok (d : Nat) : d ≤ 6 → ∀ (e : Ex) (acc : List (Int × Ex)), acc.length ≤ 14 → okL 0 acc = true → WalkOk (walkP d e acc) (formS d e) (acc.length + manyS d e) := by
 induction d with
 | zero =>
  intro _ e acc h1 h2
  have : okL 0 (walkP 0 e acc).1 = false := by simp [walkP, okL_snoc, partOk]
  exact ⟨by rw [this]; simp [formS], fun h => by rw [this] at h; cases h⟩
 | succ d ih =>
  intro hd e acc h1 h2
  have hp : partOk (acc.length + 1) ((5 : Int) - d, e) = (decide (acc.length + 1 ≤ 14) && headOk e) := by
   simp only [partOk, headOk, decide_eq_true (show (5 : Int) - d < 6 by omega), Bool.and_true, Bool.and_assoc]
  have hs : okL 0 (acc ++ [((5 : Int) - d, e)]) = (decide (acc.length + 1 ≤ 14) && headOk e) := by rw [okL_snoc, h2, Nat.zero_add, hp]; rfl
  by_cases h14 : (acc ++ [((5 : Int) - d, e)]).length > 14
  ·have h13 : decide (acc.length + 1 ≤ 14) = false := by simp at h14 ⊢; omega
   have : okL 0 (walkP (d + 1) e acc).1 = false := by rw [walkP, if_pos h14]; rw [hs, h13]; rfl
   refine ⟨?_, fun h => by rw [this] at h; cases h⟩
   rw [this]
   have := manyS_pos (d + 1) e
   symm; rw [Bool.and_eq_false_iff]; right
   simp at h14 ⊢; omega
  ·have h13 : acc.length + 1 ≤ 14 := by simp at h14; omega
   have hwk : walkP (d + 1) e acc = e.f3.foldl (fun s k => if s.2 then walkP d k s.1 else s) (acc ++ [((5 : Int) - d, e)], true) := by rw [walkP, if_neg h14]
   rw [decide_eq_true h13, Bool.true_and] at hs
   rw [hwk]
   cases hh : headOk e with
   | false =>
    rw [hh] at hs
    have hz := okL_pre (fold_pre d e.f3 (acc ++ [((5 : Int) - d, e)], true)) hs
    refine ⟨?_, fun h => by rw [hz] at h; cases h⟩
    rw [hz]; simp [formS, hh]
   | true =>
    rw [hh] at hs
    have := fold_ok d (ih (by omega)) e.f3 (acc ++ [((5 : Int) - d, e)]) (by simp; omega) hs
    simp only [List.length_append, List.length_cons, List.length_nil] at this
    simp only [formS, hh, Bool.true_and, manyS]
    rw [show acc.length + (1 + (e.f3.map (manyS d)).sum) = acc.length + (0 + 1) + (e.f3.map (manyS d)).sum by omega]
    exact this
theorem okL_eq (e : Ex) : okL 0 (partsL e) = (formS 6 e && decide (manyS 6 e ≤ 14)) := by
 have := (walk_ok 6 (Nat.le_refl _) e [] (by simp) rfl).1
 simpa [partsL] using this
end Go.Proofs.YtendbgedpjcocaaGreatDoor.B
/- impl.doingOf: a statement by its kind; whether it is plain. -/
namespace Go.Proofs.YtendbgedpjcocaaGreatDoor.B
open Go.RowKit Go.Shelf Go.Proofs.YtendbgedpjcocaaGreatDoorW.PrintWords Go.Proofs.YtendbgedpjcocaaGreatDoorW.PrintLast Go.Proofs.YtendbgedpjcocaaGreatDoorW.PrintMore
set_option linter.unusedVariables false

abbrev St := S35
abbrev stK := k35
abbrev stCells (s : St) (A7 : Option Addr) (c7 : Nat) (A8 : Option Addr) (c8 : Nat) (A9 : Option Addr) (c9 : Nat) : Array Value :=
 #[.int .i64 s.f0, .int .i64 s.f1.f0, .int .i64 s.f1.f1, .int .i64 s.f2.f0, .int .i64 s.f2.f1, .int .i64 s.f2.f2.f0, .int .i64 s.f2.f2.f1, .slice A7 s.f2.f3.length c7, .slice A8 s.f3.length c8, .slice A9 s.f4.length c9]
/-- The value that doingOf hands back. -/
def doV (s : St) (A7 : Option Addr) (c7 : Nat) (A8 : Option Addr) (c8 : Nat) (A9 : Option Addr) (c9 : Nat) : Value :=
 if s.f0 = 1 then .iface 124 (.agg #[.int .i64 s.f1.f0, .int .i64 s.f1.f1, .int .i64 s.f2.f0, .int .i64 s.f2.f1, .int .i64 s.f2.f2.f0, .int .i64 s.f2.f2.f1, .slice A7 s.f2.f3.length c7])
 else if s.f0 = 2 then .iface 126 (.agg #[.int .i64 s.f2.f0, .int .i64 s.f2.f1, .int .i64 s.f2.f2.f0, .int .i64 s.f2.f2.f1, .slice A7 s.f2.f3.length c7, .slice A8 s.f3.length c8, .slice A9 s.f4.length c9])
 else if s.f0 = 3 then .iface 128 (.agg #[.int .i64 s.f2.f0, .int .i64 s.f2.f1, .int .i64 s.f2.f2.f0, .int .i64 s.f2.f2.f1, .slice A7 s.f2.f3.length c7, .slice A8 s.f3.length c8])
 else .nilIface
set_option maxRecDepth 100000 in
set_option maxHeartbeats 4000000 in
theorem doing_any (s : St) (A7 : Option Addr) (c7 : Nat) (A8 : Option Addr) (c8 : Nat) (A9 : Option Addr) (c9 : Nat) (w : World) :
  Calls Tryz.prog 68 #[.agg (stCells s A7 c7 A8 c8 A9 c9)] w fun e w' => e = .returned (doV s A7 c7 A8 c8 A9 c9) ∧ Below w.heap.size w w' := by
 have HB := Aside0.mk (Below.refl w.heap.size w)
 obtain ⟨k, hk⟩ : ∃ k, k = s.f0 := ⟨_, rfl⟩
 have HV : Aside0 (doV s A7 c7 A8 c8 A9 c9 = _) := Aside0.mk (by unfold doV; rw [← hk])
 unfold stCells
 rw [← hk]
 clear hk
 by_cases h1 : k = 1
 ·subst h1
  go_enter Tryz.func68, Tryz.ntmps68
  go_wp2
  try (go_quiet (fail); go_wp2)
  go_ret
  exact ⟨by rw [HV.out]; rfl, by repeat (first | (with_reducible first | exact HB.out | apply below_alloc | apply pw_below_drewN | apply below_drew1) | exact HB.out)⟩
 ·by_cases h2 : k = 2
  ·subst h2
   go_enter Tryz.func68, Tryz.ntmps68
   go_wp2
   try (go_quiet (fail); go_wp2)
   go_ret
   exact ⟨by rw [HV.out]; rfl, by repeat (first | (with_reducible first | exact HB.out | apply below_alloc | apply pw_below_drewN | apply below_drew1) | exact HB.out)⟩
  ·by_cases h3 : k = 3
   ·subst h3
    go_enter Tryz.func68, Tryz.ntmps68
    go_wp2
    try (go_quiet (fail); go_wp2)
    go_ret
    exact ⟨by rw [HV.out]; rfl, by repeat (first | (with_reducible first | exact HB.out | apply below_alloc | apply pw_below_drewN | apply below_drew1) | exact HB.out)⟩
   ·have e1 : (k == 1) = false := beq_false_of_ne h1
    have e2 : (k == 2) = false := beq_false_of_ne h2
    have e3 : (k == 3) = false := beq_false_of_ne h3
    have HK := Aside0.mk (And.intro h1 (And.intro h2 h3)); clear h1 h2 h3
    go_enter Tryz.func68, Tryz.ntmps68
    go_wp2
    go_ret
    exact ⟨by rw [HV.out, if_neg HK.out.1, if_neg HK.out.2.1, if_neg HK.out.2.2]; rfl, by repeat (first | (with_reducible first | exact HB.out | apply below_alloc | apply pw_below_drewN | apply below_drew1) | exact HB.out)⟩
theorem meth_plain1 (v : Value) : ∀ w, (method 299 124 v "loop.example/stopgate/impl.plain").run Tryz.prog w = .ok (126, v) w := fun _ => by kernel_rfl
theorem meth_plain2 (v : Value) : ∀ w, (method 299 126 v "loop.example/stopgate/impl.plain").run Tryz.prog w = .ok (129, v) w := fun _ => by kernel_rfl
theorem meth_plain3 (v : Value) : ∀ w, (method 299 128 v "loop.example/stopgate/impl.plain").run Tryz.prog w = .ok (132, v) w := fun _ => by kernel_rfl
def putsL (k a : Int) : Bool := addrOkL k a && k != 1
/-- Whether a statement has nothing that its kind has not. -/
def plainL (s : St) : Bool :=
 if s.f0 = 1 then putsL s.f1.f0 s.f1.f1 && (s.f3.length == 0 && s.f4.length == 0)
 else if s.f0 = 2 then s.f1.f0 == 0 && s.f1.f1 == 0
 else if s.f0 = 3 then (s.f1.f0 == 0 && s.f1.f1 == 0) && s.f4.length == 0
 else false
/-- A statement of a kind: what is called to learn whether it is plain. -/
structure DoIs (s : St) (A7 : Option Addr) (c7 : Nat) (A8 : Option Addr) (c8 : Nat) (A9 : Option Addr) (c9 : Nat) (T : TypeId) (v : Value) (fp : Nat) : Prop where
 v' : doV s A7 c7 A8 c8 A9 c9 = .iface T v
 m : ∀ w, (method 299 T v "loop.example/stopgate/impl.plain").run Tryz.prog w = .ok (fp, v) w
 ep : ∀ args w, (callFunc fp args).run Tryz.prog w = .ok (.enter fp args) w
 cp : ∀ w, Kd.C k27 w A7 s.f2.f3.length s.f2.f3 → s.f2.f3.length ≤ c7 → Kd.C stK w A8 s.f3.length s.f3 → s.f3.length ≤ c8 → Kd.C stK w A9 s.f4.length s.f4 → s.f4.length ≤ c9 →
  Calls Tryz.prog fp #[v, .agg (stCells s A7 c7 A8 c8 A9 c9)] w fun e w' => e = .returned (.bool (plainL s)) ∧ Below w.heap.size w w'
theorem puts_is (k a : Int) : impl_puts.f k a = some (putsL k a) := by
 rw [impl_puts.f, impl_AddrOk.f, putsL, addrOkL]
 by_cases h1 : k ≥ 1
 ·by_cases h2 : k ≤ 3
  ·by_cases h3 : a ≥ 0
   ·rw [if_pos h1, if_pos h2, if_pos h3]
    by_cases h4 : a < 6
    ·rw [decide_eq_true h4, decide_eq_true (show 1 ≤ k ∧ k ≤ 3 ∧ 0 ≤ a ∧ a < 6 by omega)]; simp
    ·rw [decide_eq_false h4, decide_eq_false (show ¬ (1 ≤ k ∧ k ≤ 3 ∧ 0 ≤ a ∧ a < 6) by omega)]; simp
   ·rw [if_pos h1, if_pos h2, if_neg h3, decide_eq_false (show ¬ (1 ≤ k ∧ k ≤ 3 ∧ 0 ≤ a ∧ a < 6) by omega)]; simp
  ·rw [if_pos h1, if_neg h2, decide_eq_false (show ¬ (1 ≤ k ∧ k ≤ 3 ∧ 0 ≤ a ∧ a < 6) by omega)]; simp
 ·rw [if_neg h1, decide_eq_false (show ¬ (1 ≤ k ∧ k ≤ 3 ∧ 0 ≤ a ∧ a < 6) by omega)]; simp
theorem do_is (s : St) (A7 : Option Addr) (c7 : Nat) (A8 : Option Addr) (c8 : Nat) (A9 : Option Addr) (c9 : Nat) (h : s.f0 = 1 ∨ s.f0 = 2 ∨ s.f0 = 3) : ∃ T v fp, DoIs s A7 c7 A8 c8 A9 c9 T v fp := by
 rcases h with h | h | h
 ·refine ⟨_, _, _, by rw [doV, if_pos h], meth_plain1 _, enters_of Tryz.func126 (by kernel_rfl) rfl, fun w h1 h2 h3 h4 h5 h6 => ?_⟩
  refine impl_setDoing_plain.calls _ _ _ _ _ _ A7 c7 s.f2.f3 _ _ _ _ _ _ _ A7 c7 s.f2.f3 A8 c8 s.f3 A9 c9 s.f4 (plainL s) w h1 h2 h1 h2 h3 h4 h5 h6 ?_
  rw [impl_setDoing_plain.f, puts_is, plainL, if_pos h]
  simp only [Option.bind_some]
  cases putsL s.f1.f0 s.f1.f1 with
  | false => rfl
  | true =>
   rw [if_pos rfl]
   by_cases h0 : s.f3.length = 0
   ·rw [if_pos (by omega), h0]
    by_cases h1 : s.f4.length = 0
    ·rw [h1]; rfl
    ·rw [show ((s.f4.length : Int) == 0) = false from beq_false_of_ne (by omega), show (s.f4.length == 0) = false from beq_false_of_ne h1]; rfl
   ·rw [if_neg (by omega), show (s.f3.length == 0) = false from beq_false_of_ne h0]; rfl
 ·refine ⟨_, _, _, by rw [doV, if_neg (by omega), if_pos h], meth_plain2 _, enters_of Tryz.func129 (by kernel_rfl) rfl, fun w h1 h2 h3 h4 h5 h6 => ?_⟩
  refine impl_ifDoing_plain.calls _ _ _ _ A7 c7 s.f2.f3 A8 c8 s.f3 A9 c9 s.f4 _ _ _ _ _ _ _ A7 c7 s.f2.f3 A8 c8 s.f3 A9 c9 s.f4 (plainL s) w h1 h2 h3 h4 h5 h6 h1 h2 h3 h4 h5 h6 ?_
  rw [impl_ifDoing_plain.f, plainL, if_neg (by omega), if_pos h]
 ·refine ⟨_, _, _, by rw [doV, if_neg (by omega), if_neg (by omega), if_pos h], meth_plain3 _, enters_of Tryz.func132 (by kernel_rfl) rfl, fun w h1 h2 h3 h4 h5 h6 => ?_⟩
  refine impl_whileDoing_plain.calls _ _ _ _ A7 c7 s.f2.f3 A8 c8 s.f3 _ _ _ _ _ _ _ A7 c7 s.f2.f3 A8 c8 s.f3 A9 c9 s.f4 (plainL s) w h1 h2 h3 h4 h1 h2 h3 h4 h5 h6 ?_
  have hp : plainL s = ((s.f1.f0 == 0 && s.f1.f1 == 0) && s.f4.length == 0) := by rw [plainL, if_neg (by omega), if_neg (by omega), if_pos h]
  rw [impl_whileDoing_plain.f, hp]
  cases (s.f1.f0 == 0 && s.f1.f1 == 0) with
  | false => rfl
  | true =>
   rw [if_pos rfl]
   by_cases h1 : s.f4.length = 0
   ·rw [h1]; rfl
   ·rw [show ((s.f4.length : Int) == 0) = false from beq_false_of_ne (by omega), show (s.f4.length == 0) = false from beq_false_of_ne h1]; rfl
theorem do_nil (s : St) (A7 : Option Addr) (c7 : Nat) (A8 : Option Addr) (c8 : Nat) (A9 : Option Addr) (c9 : Nat) (h : ¬ (s.f0 = 1 ∨ s.f0 = 2 ∨ s.f0 = 3)) : doV s A7 c7 A8 c8 A9 c9 = .nilIface ∧ plainL s = false := by
 unfold doV plainL
 rw [if_neg (fun e => h (.inl e)), if_neg (fun e => h (.inr (.inl e))), if_neg (fun e => h (.inr (.inr e))), if_neg (fun e => h (.inl e)), if_neg (fun e => h (.inr (.inl e))), if_neg (fun e => h (.inr (.inr e)))]
 exact ⟨rfl, rfl⟩
end Go.Proofs.YtendbgedpjcocaaGreatDoor.B
/- slices.ContainsFunc over whole numbers, with readMem's own function. -/
namespace Go.Proofs.YtendbgedpjcocaaGreatDoor.B
open Go.RowKit Go.Proofs.YtendbgedpjcocaaGreatDoorW.PrintWords Go.Proofs.YtendbgedpjcocaaGreatDoorW.PrintLast Go.Proofs.YtendbgedpjcocaaGreatDoorW.PrintMore
set_option linter.unusedVariables false
set_option maxRecDepth 100000 in
theorem notNum_any (n : Int) (w : World) : Calls Tryz.prog 65 #[.int .i64 n] w fun e w' => e = .returned (.bool (!isNumL n)) ∧ Below w.heap.size w w' := by
 have HB := Aside0.mk (Below.refl w.heap.size w)
 go_enter Tryz.func65, Tryz.ntmps65
 go_wp2_with fail
 refine (isNum_any _ _).mono ?_
 rintro e w1 ⟨rfl, n1, rfl⟩
 go_wp2
 go_ret
 exact ⟨rfl, by repeat (first | (with_reducible first | exact HB.out | apply below_alloc | apply pw_below_drewN | apply below_drew1) | exact HB.out)⟩

theorem int_at {w : World} {A : Option Addr} {l : List Int} (h : Kd.C (Kd.int .i64) w A l.length l) (j : Nat) (hj : j < l.length) : ∃ ad, A = some ad ∧ w.cell? (ad.add j) = some (.int .i64 l[j]) := by
 obtain ⟨ad, cs, e, hg, hK, hc⟩ := Kd.C_get h 0 (j : Int) (by omega) (by omega)
 have hcs : cs = [.int .i64 (l.getD (j : Int).toNat 0)] := by
  first | exact hK | (obtain ⟨n, rfl⟩ := hK; rfl) | (obtain rfl := hK; rfl)
 refine ⟨ad, e, ?_⟩
 have := hc 0 _ (by rw [hcs]; rfl)
 simpa [hj, show (Kd.int .i64).sz = 1 from rfl] using this
def Pr (f : Nat) (p : Int → Bool) : Prop := ∀ (n : Int) (w : World), Calls Tryz.prog f #[.int .i64 n] w fun e w' => e = .returned (.bool (p n)) ∧ Below w.heap.size w w'
set_option maxRecDepth 100000 in
set_option maxHeartbeats 2000000 in
theorem indexFunc_any (f : Nat) (p : Int → Bool) (hf : Pr f p) (he : ∀ args w, (callFunc f args).run Tryz.prog w = .ok (.enter f args) w) (l : List Int) (A : Option Addr) (c : Nat) (w : World) (hC : Kd.C (Kd.int .i64) w A l.length l) (hc : l.length ≤ c) :
  Calls Tryz.prog 92 #[.slice A l.length c, .func (.func f) #[] #[]] w fun e w' => (∃ r : Int, decide (0 ≤ r) = l.any p ∧ e = .returned (.int .i64 r)) ∧ Below w.heap.size w w' := by
 have hmax : l.length ≤ 9223372036854775807 := hC.2.1
 go_enter Tryz.func92, Tryz.ntmps92
 go_wp2
 go_loopw [5, 8] (fun _ i wr => ∃ (j : Nat), i = .int .i64 j ∧ Aside0 (j ≤ l.length ∧ (l.take j).any p = false ∧ Below w.heap.size w wr)) (fun _ i _ => l.length - (intOf i).toNat)
 case atStart => exact ⟨0, rfl, ⟨Nat.zero_le _, by simp, Below.refl _ _⟩⟩
 case round =>
  obtain ⟨j, rfl, HR⟩ := hrel
  by_cases hj : j < l.length
  ·obtain ⟨ad, hA, e0⟩ := int_at hC j hj
   cases hA
   have hb := HR.out.2.2
   replace e0 := (hb.cell (World.block_lt_of_cell? w _ e0)).trans e0
   obtain ⟨x, hx⟩ : ∃ x, x = l[j] := ⟨_, rfl⟩
   rw [← hx] at e0
   have HX := Aside0.mk (And.intro hx hmax)
   have HJ := Aside0.mk hj
   have HC := Aside0.mk (hf x wr)
   clear hb hx hf
   go_wp2_with fail
   refine HC.out.mono ?_
   clear HC
   rintro e w1 ⟨rfl, hb1⟩
   have HB := Aside0.mk (HR.out.2.2.trans (hb1.mono HR.out.2.2.size))
   clear hb1
   cases hp : p x with
   | true =>
    have HP := Aside0.mk hp; clear hp
    go_wp2
    go_ret
    refine ⟨⟨j, ?_, rfl⟩, HB.out⟩
    have : l.any p = true := List.any_eq_true.2 ⟨l[j], List.getElem_mem HJ.out, by rw [← HX.out.1]; exact HP.out⟩
    rw [this]; simp
   | false =>
    have HP := Aside0.mk hp; clear hp
    go_wp2
    go_roundw
    case rel => exact ⟨j + 1, by go_num, ⟨HJ.out, by rw [List.take_succ_eq_append_getElem HJ.out, List.any_append, HR.out.2.1]; simp [← HX.out.1, HP.out], HB.out⟩⟩
    case measure => have := HJ.out; simp [intOf]; omega
  ·have hjl : j = l.length := by have := HR.out.1; omega
   have hn := HR.out.2.1
   rw [hjl, List.take_of_length_le (Nat.le_refl _)] at hn
   have HN := Aside0.mk hn; clear hn hjl
   go_wp2
   go_ret
   exact ⟨⟨-1, by rw [HN.out]; rfl, rfl⟩, HR.out.2.2⟩
set_option maxRecDepth 100000 in
theorem containsFunc_any (f : Nat) (p : Int → Bool) (hf : Pr f p) (he : ∀ args w, (callFunc f args).run Tryz.prog w = .ok (.enter f args) w) (l : List Int) (A : Option Addr) (c : Nat) (w : World) (hC : Kd.C (Kd.int .i64) w A l.length l) (hc : l.length ≤ c) :
  Calls Tryz.prog 64 #[.slice A l.length c, .func (.func f) #[] #[]] w fun e w' => e = .returned (.bool (l.any p)) ∧ Below w.heap.size w w' := by
 have HC := Aside0.mk (indexFunc_any f p hf he l A c w hC hc)
 clear hC hc hf
 go_enter Tryz.func64, Tryz.ntmps64
 go_wp2_with fail
 refine HC.out.mono ?_
 clear HC
 rintro e w1 ⟨⟨r, hr, rfl⟩, hb1⟩
 have HB := Aside0.mk (And.intro hr hb1)
 clear hr hb1
 go_wp2
 go_ret
 exact ⟨by rw [← HB.out.1]; rfl, HB.out.2⟩
end Go.Proofs.YtendbgedpjcocaaGreatDoor.B
/- The draws' pick ends, and is in its bounds. -/
namespace Go.Proofs.YtendbgedpjcocaaGreatDoor.B
open Go.RowKit Go.Proofs.YtendbgedpjcocaaGreatDoorW.PrintWords Go.Proofs.YtendbgedpjcocaaGreatDoorW.PrintLast Go.Proofs.YtendbgedpjcocaaGreatDoorW.PrintMore
set_option linter.unusedVariables false

theorem wrap_id {n : Int} (h0 : -9223372036854775808 ≤ n) (h1 : n ≤ 9223372036854775807) : wrap64 n = n := by
 unfold wrap64
 omega
theorem xor_nonneg (a b : Int) (ha : 0 ≤ a) (ha1 : a < 2 ^ 62) (hb : 0 ≤ b) (hb1 : b < 2 ^ 62) : 0 ≤ Go.bits .xor .i64 a b := by
 obtain ⟨m, rfl⟩ := Int.eq_ofNat_of_zero_le ha
 obtain ⟨n, rfl⟩ := Int.eq_ofNat_of_zero_le hb
 have hm : m < 2 ^ 62 := by omega
 have hn : n < 2 ^ 62 := by omega
 have hx := Nat.xor_lt_two_pow hm hn
 have ha' : m % 2 ^ 64 = m := Nat.mod_eq_of_lt (by omega)
 have hb' : n % 2 ^ 64 = n := Nat.mod_eq_of_lt (by omega)
 have hq : (BitVec.ofNat 64 m ^^^ BitVec.ofNat 64 n).toNat = m ^^^ n := by rw [BitVec.toNat_xor, BitVec.toNat_ofNat, BitVec.toNat_ofNat, ha', hb']
 show 0 ≤ IntKind.i64.wrap (((BitVec.ofInt 64 (m : Int)) ^^^ (BitVec.ofInt 64 (n : Int))).toNat : Int)
 rw [BitVec.ofInt_natCast, BitVec.ofInt_natCast, hq, IntKind.wrap_i64]
 omega
theorem tmod_in (a n : Int) (ha : 0 ≤ a) (hn : 1 ≤ n) : 0 ≤ Int.tmod a n ∧ Int.tmod a n < n := by
 rw [Int.tmod_eq_emod_of_nonneg ha]
 exact ⟨Int.emod_nonneg _ (by omega), Int.emod_lt_of_pos _ (by omega)⟩
theorem tdiv_in (a n : Int) (ha : 0 ≤ a) (hn : 1 ≤ n) : 0 ≤ Int.tdiv a n ∧ Int.tdiv a n ≤ a := by
 rw [Int.tdiv_eq_ediv_of_nonneg ha]
 exact ⟨Int.ediv_nonneg ha (by omega), Int.ediv_le_self _ ha⟩
def Bytes (s : List Int) : Prop := ∀ x ∈ s, 0 ≤ x ∧ x < 256
theorem rd_byte (s : List Int) (hs : Bytes s) (i : Int) (h0 : 0 ≤ i) (h1 : i < s.length) : 0 ≤ rd s i ∧ rd s i < 256 := by
 have : i.toNat < s.length := by omega
 have e : rd s i = s[i.toNat] := by simp [rd, this]
 rw [e]; exact hs _ (List.getElem_mem this)
theorem pick_total (s : List Int) (hs : Bytes s) (hl : s.length ≤ 2000) (p n : Int) (hp : 0 ≤ p) (hp1 : p < 1099511627776) (hn : 1 ≤ n) (hn1 : n < 2147483648) :
  ∃ r, 0 ≤ r ∧ r < n ∧ ∀ k, spec_l12Rd_pick.f (k + 1) s p n = some (r, p + 1) := by
 have e1 : wrap64 (p + 1) = p + 1 := wrap_id (by omega) (by omega)
 have e2 : wrap64 (p + 1 - 1) = p := by rw [show p + 1 - 1 = p by omega]; exact wrap_id (by omega) (by omega)
 by_cases hz : s.length = 0
 ·refine ⟨0, by omega, by omega, fun k => ?_⟩
  have hz' : ((s.length : Int) == 0) = true := by rw [hz]; rfl
  rw [spec_l12Rd_pick.f, if_neg (by omega), spec_l12Rd_pick.j0, if_pos hz', e1]
 ·have hz' : ((s.length : Int) == 0) = false := beq_false_of_ne (by omega)
  by_cases hlt : p < (s.length : Int)
  ·have hb := rd_byte s hs p hp hlt
   have hw : wrap64 (rd s p) = rd s p := wrap_id (by omega) (by omega)
   have hm := tmod_in (rd s p) n hb.1 hn
   refine ⟨Int.tmod (rd s p) n, hm.1, hm.2, fun k => ?_⟩
   rw [spec_l12Rd_pick.f, if_neg (by omega), spec_l12Rd_pick.j0, hz', if_neg (by decide), e1, e2, if_pos hlt, if_pos hp, if_neg (by omega), hw]
  ·have i1 := tmod_in p (s.length : Int) hp (by omega)
   have w7 : wrap64 (p * 7) = p * 7 := wrap_id (by omega) (by omega)
   have w73 : wrap64 (p * 7 + 3) = p * 7 + 3 := wrap_id (by omega) (by omega)
   have i2 := tmod_in (p * 7 + 3) (s.length : Int) (by omega) (by omega)
   have q1 := rd_byte s hs _ i1.1 i1.2
   have q2 := rd_byte s hs _ i2.1 i2.2
   have dv := tdiv_in p (s.length : Int) hp (by omega)
   obtain ⟨a, ha⟩ : ∃ a, a = rd s (Int.tmod p (s.length : Int)) := ⟨_, rfl⟩
   obtain ⟨b, hb⟩ : ∃ b, b = rd s (Int.tmod (p * 7 + 3) (s.length : Int)) := ⟨_, rfl⟩
   obtain ⟨d, hd⟩ : ∃ d, d = Int.tdiv p (s.length : Int) := ⟨_, rfl⟩
   rw [← ha] at q1
   rw [← hb] at q2
   rw [← hd] at dv
   have wa : wrap64 a = a := wrap_id (by omega) (by omega)
   have wb : wrap64 b = b := wrap_id (by omega) (by omega)
   have wa1 : wrap64 (a * 131) = a * 131 := wrap_id (by omega) (by omega)
   have wb1 : wrap64 (b * 1117) = b * 1117 := wrap_id (by omega) (by omega)
   have wab : wrap64 (a * 131 + b * 1117) = a * 131 + b * 1117 := wrap_id (by omega) (by omega)
   have wp : wrap64 (p * 29) = p * 29 := wrap_id (by omega) (by omega)
   have wabp : wrap64 (a * 131 + b * 1117 + p * 29) = a * 131 + b * 1117 + p * 29 := wrap_id (by omega) (by omega)
   have wd0 : wrap64 d = d := wrap_id (by omega) (by omega)
   have wd : wrap64 (d * 53) = d * 53 := wrap_id (by omega) (by omega)
   have wx : wrap64 (a * 131 + b * 1117 + p * 29 + d * 53) = a * 131 + b * 1117 + p * 29 + d * 53 := wrap_id (by omega) (by omega)
   have dx := tdiv_in (a * 131 + b * 1117 + p * 29 + d * 53) 64 (by omega) (by omega)
   have wdx : wrap64 (Int.tdiv (a * 131 + b * 1117 + p * 29 + d * 53) 64) = Int.tdiv (a * 131 + b * 1117 + p * 29 + d * 53) 64 := wrap_id (by omega) (by omega)
   have hx := xor_nonneg (a * 131 + b * 1117 + p * 29 + d * 53) (Int.tdiv (a * 131 + b * 1117 + p * 29 + d * 53) 64) (by omega) (by omega) dx.1 (by omega)
   have hm := tmod_in _ n hx hn
   refine ⟨_, hm.1, hm.2, fun k => ?_⟩
   rw [spec_l12Rd_pick.f, if_neg (by omega), spec_l12Rd_pick.j0, hz', if_neg (by decide), e1, e2, if_neg hlt, if_neg (by omega), w7, w73, if_pos i1.1, if_pos i1.2, if_pos i2.1, if_pos i2.2, if_neg (by omega), ← ha, ← hb, ← hd]
   simp only [wa, wb, wa1, wb1, wab, wp, wabp, wd0, wd, wx, wdx]
end Go.Proofs.YtendbgedpjcocaaGreatDoor.B
