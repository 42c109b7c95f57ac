import Derived.Test.YtfmipdhkiahjoaaDoorB0
import Derived.Test.YtfmipdhkiahjoaaDoorPkA
import Derived.Outline
import Derived.RangeFuncLeaves
import Derived.Shelf.Abstract
import Derived.OwnWalkIn
import Derived.Test.YtfmipdhkiahjoaaDoorJnG
import Derived.Deep.MidRow
/- The kinds of what is reckoned: reckoningOf, and the methods kids and shape. -/
namespace Go.Proofs.YtfmipdhkiahjoaaDoor.B
open Go.RowKit Go.Proofs.YtfmipdhkiahjoaaDoorW.PrintWords Go.Proofs.YtfmipdhkiahjoaaDoorW.PrintLast Go.Proofs.YtfmipdhkiahjoaaDoorW.PrintMore
set_option linter.unusedVariables false
attribute [local go_sem high] eqA31

/-- What reckoningOf hands back. -/
def kindV (k : Int) : Value :=
 if k = 1 then .iface 93 (.agg #[]) else if k = 2 then .iface 94 (.agg #[]) else if 3 ≤ k ∧ k ≤ 9 then .iface 96 (.agg #[]) else if k = 10 then .iface 97 (.agg #[]) else .nilIface

set_option maxHeartbeats 800000 in
theorem reckoningOf_calls (k : Int) (w : World) : Calls Tryd.prog 47 #[.int .i64 k] w fun e w' => e = .returned (kindV k) ∧ w = w' := by
 by_cases h1 : k = 1
 ·subst h1
  go_enter Tryd.func47, Tryd.ntmps47
  go_wp2
  go_ret
  exact ⟨rfl, rfl⟩
 ·have b1 : (k == 1) = false := beq_eq_false_iff_ne.mpr h1
  by_cases h2 : k = 2
  ·subst h2
   go_enter Tryd.func47, Tryd.ntmps47
   go_wp2
   go_ret
   exact ⟨rfl, rfl⟩
  ·have b2 : (k == 2) = false := beq_eq_false_iff_ne.mpr h2
   by_cases h3 : 3 ≤ k
   ·by_cases h4 : k ≤ 9
    ·have HK := Aside0.mk (show Ending.returned (.iface 96 (.agg #[])) = .returned (kindV k) by simp [kindV, h1, h2, h3, h4])
     go_enter Tryd.func47, Tryd.ntmps47
     go_wp2
     go_ret
     exact ⟨HK.out, rfl⟩
    ·by_cases h5 : k = 10
     ·subst h5
      go_enter Tryd.func47, Tryd.ntmps47
      go_wp2
      go_ret
      exact ⟨rfl, rfl⟩
     ·have b5 : (k == 10) = false := beq_eq_false_iff_ne.mpr h5
      have HK := Aside0.mk (show Ending.returned .nilIface = .returned (kindV k) by simp [kindV, h1, h2, h3, h4, h5])
      go_enter Tryd.func47, Tryd.ntmps47
      go_wp2
      go_ret
      exact ⟨HK.out, rfl⟩
   ·have h5 : ¬ k = 10 := by omega
    have b5 : (k == 10) = false := beq_eq_false_iff_ne.mpr h5
    have HK := Aside0.mk (show Ending.returned .nilIface = .returned (kindV k) by simp [kindV, h1, h2, h3, h5])
    go_enter Tryd.func47, Tryd.ntmps47
    go_wp2
    go_ret
    exact ⟨HK.out, rfl⟩

theorem kids1_calls (w : World) : Calls Tryd.prog 89 #[.agg #[]] w fun e w' => e = .returned (.int .i64 0) ∧ Below w.heap.size w w' := by
 go_enter Tryd.func89, Tryd.ntmps89
 go_wp2
 go_ret
 exact ⟨rfl, (Below.refl _ _).alloc (Nat.le_refl _) _⟩
theorem kids2_calls (w : World) : Calls Tryd.prog 94 #[.agg #[]] w fun e w' => e = .returned (.int .i64 0) ∧ Below w.heap.size w w' := by
 go_enter Tryd.func94, Tryd.ntmps94
 go_wp2
 go_ret
 exact ⟨rfl, (Below.refl _ _).alloc (Nat.le_refl _) _⟩
theorem kids3_calls (w : World) : Calls Tryd.prog 98 #[.agg #[]] w fun e w' => e = .returned (.int .i64 2) ∧ Below w.heap.size w w' := by
 go_enter Tryd.func98, Tryd.ntmps98
 go_wp2
 go_ret
 exact ⟨rfl, (Below.refl _ _).alloc (Nat.le_refl _) _⟩
theorem kids4_calls (w : World) : Calls Tryd.prog 103 #[.agg #[]] w fun e w' => e = .returned (.int .i64 1) ∧ Below w.heap.size w w' := by
 go_enter Tryd.func103, Tryd.ntmps103
 go_wp2
 go_ret
 exact ⟨rfl, (Below.refl _ _).alloc (Nat.le_refl _) _⟩

def isNumL (n : Int) : Bool := decide (-1000000 ≤ n ∧ n ≤ 1000000)
def addrOkL (k a : Int) : Bool := decide (1 ≤ k ∧ k ≤ 3 ∧ 0 ≤ a ∧ a < 6)
def shapeL (k n ak aa : Int) : Bool := if k = 1 then isNumL n && (ak == 0 && aa == 0) else if k = 2 then addrOkL ak aa && n == 0 else n == 0 && (ak == 0 && aa == 0)

theorem isNum_any (n : Int) (w : World) : Calls Tryd.prog 93 #[.int .i64 n] w fun e w' => e = .returned (.bool (isNumL n)) ∧ Drawn0 w w' := by
 refine impl_isNum.calls n _ w ?_
 unfold impl_isNum.f isNumL
 by_cases h : -1000000 ≤ n <;> by_cases h' : n ≤ 1000000 <;> simp [h, h']
theorem addrOk_any (k a : Int) (w : World) : Calls Tryd.prog 32 #[.agg #[.int .i64 k, .int .i64 a]] w fun e w' => e = .returned (.bool (addrOkL k a)) ∧ Below w.heap.size w w' := by
 refine impl_AddrOk.calls k a _ w ?_
 unfold impl_AddrOk.f addrOkL
 by_cases h1 : 1 ≤ k <;> by_cases h2 : k ≤ 3 <;> by_cases h3 : 0 ≤ a <;> by_cases h4 : a < 6 <;> simp [h1, h2, h3, h4]

theorem i64_eq0 (n : Int) : (n == 0) = decide (n = 0) := by rw [Bool.eq_iff_iff]; simp

set_option maxHeartbeats 1600000 in
theorem shape1_calls (k n ak aa : Int) (A : Option Addr) (l c : Nat) (w : World) : Calls Tryd.prog 91 #[.agg #[], .agg #[.int .i64 k, .int .i64 n, .int .i64 ak, .int .i64 aa, .slice A l c]] w fun e w' => e = .returned (.bool (isNumL n && (ak == 0 && aa == 0))) ∧ Below w.heap.size w w' := by
 have HB := Aside0.mk (Below.refl w.heap.size w)
 cases hb : isNumL n with
 | false =>
  have Hb := Aside0.mk hb; clear hb
  go_enter Tryd.func91, Tryd.ntmps91
  go_wp2_with (go_at_call 93; refine (isNum_any _ _).mono ?_; rintro e w1 ⟨rfl, n1, rfl⟩; rw [Hb.out])
  go_ret
  exact ⟨rfl, by repeat (first | (with_reducible first | exact HB.out | apply below_alloc | apply pw_below_drewN | apply below_drew1) | exact HB.out)⟩
 | true =>
  have Hb := Aside0.mk hb; clear hb
  go_enter Tryd.func91, Tryd.ntmps91
  go_wp2_with (go_at_call 93; refine (isNum_any _ _).mono ?_; rintro e w1 ⟨rfl, n1, rfl⟩; rw [Hb.out])
  go_ret
  exact ⟨by first | rfl | (simp; done), by repeat (first | (with_reducible first | exact HB.out | apply below_alloc | apply pw_below_drewN | apply below_drew1) | exact HB.out)⟩

set_option maxHeartbeats 1600000 in
theorem shape2_calls (k n ak aa : Int) (A : Option Addr) (l c : Nat) (w : World) : Calls Tryd.prog 96 #[.agg #[], .agg #[.int .i64 k, .int .i64 n, .int .i64 ak, .int .i64 aa, .slice A l c]] w fun e w' => e = .returned (.bool (addrOkL ak aa && n == 0)) ∧ Below w.heap.size w w' := by
 have HB := Aside0.mk (Below.refl w.heap.size w)
 cases hb : addrOkL ak aa with
 | false =>
  have Hb := Aside0.mk hb; clear hb
  go_enter Tryd.func96, Tryd.ntmps96
  go_wp2_with (go_at_call 32; refine (addrOk_any _ _ _).mono ?_; rintro e w1 ⟨rfl, hb1⟩; rw [Hb.out]; have HB1 := Aside0.mk hb1; clear hb1)
  go_ret
  exact ⟨rfl, Below.trans (by repeat (first | (with_reducible first | exact HB.out | apply below_alloc) | exact HB.out)) (HB1.out.mono (by simp; omega))⟩
 | true =>
  have Hb := Aside0.mk hb; clear hb
  go_enter Tryd.func96, Tryd.ntmps96
  go_wp2_with (go_at_call 32; refine (addrOk_any _ _ _).mono ?_; rintro e w1 ⟨rfl, hb1⟩; rw [Hb.out]; have hc1 : w1.cell? ⟨w.heap.size + 1, 1, none⟩ = some (.int .i64 n) := (by rw [hb1.cell (p := ⟨w.heap.size + 1, 1, none⟩) (by simp)]; simp [go_sem]); have HB1 := Aside0.mk hb1; clear hb1)
  go_ret
  exact ⟨by first | rfl | (simp; done), Below.trans (by repeat (first | (with_reducible first | exact HB.out | apply below_alloc) | exact HB.out)) (HB1.out.mono (by simp; omega))⟩

set_option maxHeartbeats 1600000 in
theorem shape3_calls (k n ak aa : Int) (A : Option Addr) (l c : Nat) (w : World) : Calls Tryd.prog 100 #[.agg #[], .agg #[.int .i64 k, .int .i64 n, .int .i64 ak, .int .i64 aa, .slice A l c]] w fun e w' => e = .returned (.bool (n == 0 && (ak == 0 && aa == 0))) ∧ Below w.heap.size w w' := by
 have HB := Aside0.mk (Below.refl w.heap.size w)
 cases hb : n == 0 with
 | false =>
  go_enter Tryd.func100, Tryd.ntmps100
  go_wp2
  go_ret
  exact ⟨by first | rfl | (simp; done), by repeat (first | (with_reducible first | exact HB.out | apply below_alloc) | exact HB.out)⟩
 | true =>
  go_enter Tryd.func100, Tryd.ntmps100
  go_wp2
  go_ret
  exact ⟨by first | rfl | (simp; done), by repeat (first | (with_reducible first | exact HB.out | apply below_alloc) | exact HB.out)⟩

set_option maxHeartbeats 1600000 in
theorem shape4_calls (k n ak aa : Int) (A : Option Addr) (l c : Nat) (w : World) : Calls Tryd.prog 105 #[.agg #[], .agg #[.int .i64 k, .int .i64 n, .int .i64 ak, .int .i64 aa, .slice A l c]] w fun e w' => e = .returned (.bool (n == 0 && (ak == 0 && aa == 0))) ∧ Below w.heap.size w w' := by
 have HB := Aside0.mk (Below.refl w.heap.size w)
 cases hb : n == 0 with
 | false =>
  go_enter Tryd.func105, Tryd.ntmps105
  go_wp2
  go_ret
  exact ⟨by first | rfl | (simp; done), by repeat (first | (with_reducible first | exact HB.out | apply below_alloc) | exact HB.out)⟩
 | true =>
  go_enter Tryd.func105, Tryd.ntmps105
  go_wp2
  go_ret
  exact ⟨by first | rfl | (simp; done), by repeat (first | (with_reducible first | exact HB.out | apply below_alloc) | exact HB.out)⟩

/-! the methods that the interface's values have -/
theorem meth_kids1 : ∀ w, (method 245 93 (.agg #[]) "loop.example/stopgate/impl.kids").run Tryd.prog w = .ok (89, .agg #[]) w := fun _ => by kernel_rfl
theorem meth_kids2 : ∀ w, (method 245 94 (.agg #[]) "loop.example/stopgate/impl.kids").run Tryd.prog w = .ok (94, .agg #[]) w := fun _ => by kernel_rfl
theorem meth_kids3 : ∀ w, (method 245 96 (.agg #[]) "loop.example/stopgate/impl.kids").run Tryd.prog w = .ok (98, .agg #[]) w := fun _ => by kernel_rfl
theorem meth_kids4 : ∀ w, (method 245 97 (.agg #[]) "loop.example/stopgate/impl.kids").run Tryd.prog w = .ok (103, .agg #[]) w := fun _ => by kernel_rfl
theorem meth_shape1 : ∀ w, (method 245 93 (.agg #[]) "loop.example/stopgate/impl.shape").run Tryd.prog w = .ok (91, .agg #[]) w := fun _ => by kernel_rfl
theorem meth_shape2 : ∀ w, (method 245 94 (.agg #[]) "loop.example/stopgate/impl.shape").run Tryd.prog w = .ok (96, .agg #[]) w := fun _ => by kernel_rfl
theorem meth_shape3 : ∀ w, (method 245 96 (.agg #[]) "loop.example/stopgate/impl.shape").run Tryd.prog w = .ok (100, .agg #[]) w := fun _ => by kernel_rfl
theorem meth_shape4 : ∀ w, (method 245 97 (.agg #[]) "loop.example/stopgate/impl.shape").run Tryd.prog w = .ok (105, .agg #[]) w := fun _ => by kernel_rfl

def kidsN (k : Int) : Int := if k = 1 ∨ k = 2 then 0 else if 3 ≤ k ∧ k ≤ 9 then 2 else 1
def kindOk (k : Int) : Bool := decide (1 ≤ k ∧ k ≤ 10)
/-- A kind that is one: its type, its methods. -/
structure KindIs (k : Int) (T fk fs : Nat) : Prop where
 v : kindV k = .iface T (.agg #[])
 mk' : ∀ w, (method 245 T (.agg #[]) "loop.example/stopgate/impl.kids").run Tryd.prog w = .ok (fk, .agg #[]) w
 ms' : ∀ w, (method 245 T (.agg #[]) "loop.example/stopgate/impl.shape").run Tryd.prog w = .ok (fs, .agg #[]) w
 ek : ∀ args w, (callFunc fk args).run Tryd.prog w = .ok (.enter fk args) w
 es : ∀ args w, (callFunc fs args).run Tryd.prog w = .ok (.enter fs args) w
 ck : ∀ w, Calls Tryd.prog fk #[.agg #[]] w fun e w' => e = .returned (.int .i64 (kidsN k)) ∧ Below w.heap.size w w'
 cs : ∀ n ak aa A l c w, Calls Tryd.prog fs #[.agg #[], .agg #[.int .i64 k, .int .i64 n, .int .i64 ak, .int .i64 aa, .slice A l c]] w fun e w' => e = .returned (.bool (shapeL k n ak aa)) ∧ Below w.heap.size w w'
theorem kind_is (k : Int) (h : kindOk k = true) : ∃ T fk fs, KindIs k T fk fs := by
 have h' : 1 ≤ k ∧ k ≤ 10 := of_decide_eq_true h
 by_cases h1 : k = 1
 ·subst h1
  exact ⟨_, _, _, rfl, meth_kids1, meth_shape1, enters_of Tryd.func89 (by kernel_rfl) rfl, enters_of Tryd.func91 (by kernel_rfl) rfl, kids1_calls, shape1_calls 1⟩
 ·by_cases h2 : k = 2
  ·subst h2
   exact ⟨_, _, _, rfl, meth_kids2, meth_shape2, enters_of Tryd.func94 (by kernel_rfl) rfl, enters_of Tryd.func96 (by kernel_rfl) rfl, kids2_calls, shape2_calls 2⟩
  ·by_cases h3 : k = 10
   ·subst h3
    exact ⟨_, _, _, rfl, meth_kids4, meth_shape4, enters_of Tryd.func103 (by kernel_rfl) rfl, enters_of Tryd.func105 (by kernel_rfl) rfl, kids4_calls, shape4_calls 10⟩
   ·have h39 : 3 ≤ k ∧ k ≤ 9 := by omega
    refine ⟨96, 98, 100, by simp [kindV, h1, h2, h39], meth_kids3, meth_shape3, enters_of Tryd.func98 (by kernel_rfl) rfl, enters_of Tryd.func100 (by kernel_rfl) rfl, ?_, ?_⟩
    ·rw [show kidsN k = 2 by simp [kidsN, h1, h2, h39]]; exact kids3_calls
    ·intro n ak aa A l c w
     rw [show shapeL k n ak aa = (n == 0 && (ak == 0 && aa == 0)) by simp [shapeL, h1, h2]]
     exact shape3_calls k n ak aa A l c w
theorem kind_nil (k : Int) (h : kindOk k = false) : kindV k = .nilIface := by
 have h' : ¬ (1 ≤ k ∧ k ≤ 10) := of_decide_eq_false h
 unfold kindV
 rw [if_neg (by omega), if_neg (by omega), if_neg (by omega), if_neg (by omega)]
end Go.Proofs.YtfmipdhkiahjoaaDoor.B
/- Boxes: a variable in a block of its own, known whole; how operations meet it, in plain regions and in those that draw their order. -/
namespace Go.Proofs.YtfmipdhkiahjoaaDoor.B
open Go Go.RowKit Go.Proofs.YtfmipdhkiahjoaaDoorW.PrintWords Go.Proofs.YtfmipdhkiahjoaaDoorW.PrintLast Go.Proofs.YtfmipdhkiahjoaaDoorW.PrintMore
set_option linter.unusedVariables false

abbrev Box (W : World) (g : Nat) (T : TypeId) (cs : Array Value) : Prop := W.heap[g]? = some (.cells cs T (0, 0))
/-- What a store into block g leaves: all other blocks. -/
structure Put1 (g : Nat) (W W' : World) : Prop where
 os : W'.os = W.os
 tape : W'.tape = W.tape
 output : W'.output = W.output
 size : W'.heap.size = W.heap.size
 far : ∀ j, j ≠ g → W'.heap[j]? = W.heap[j]?
theorem Put1.below {g B : Nat} {w W W' : World} (h : Put1 g W W') (hb : Below B w W) (hg : B ≤ g) : Below B w W' :=
 hb.trans ⟨h.os, h.tape, h.output, by rw [h.size]; exact Nat.le_refl _, fun k hk => h.far k (by omega)⟩
theorem setCells_put1 (g : Nat) : ∀ (vs : List Value) (o : Nat) (W : World), Put1 g W (W.setCells g o vs)
 | [], _, W => ⟨rfl, rfl, rfl, rfl, fun _ _ => rfl⟩
 | v :: r, o, W => by
  have h := setCells_put1 g r (o + 1) (W.setCell ⟨g, o, none⟩ v)
  exact ⟨h.os, h.tape, h.output, h.size.trans (by simp [World.setCell]), fun j hj => (h.far j hj).trans (Below.heap_setCell _ _ _ _ hj)⟩
theorem setCells_row (g : Nat) (T : TypeId) : ∀ (vs : List Value) (o : Nat) (W : World) (cs : Array Value), Box W g T cs → ∃ R : Array Value, Box (W.setCells g o vs) g T R ∧ R.size = cs.size ∧ (∀ i, i < o → R[i]? = cs[i]?) ∧ ∀ i, i < vs.length → o + i < cs.size → R[o + i]? = vs[i]?
 | [], o, W, cs, h => ⟨cs, h, rfl, fun _ _ => rfl, fun i hi => absurd hi (Nat.not_lt_zero i)⟩
 | v :: r, o, W, cs, h => by
  obtain ⟨R, h1, h2, h3, h4⟩ := setCells_row g T r (o + 1) (W.setCell ⟨g, o, none⟩ v) (cs.setIfInBounds o v) (blk_set h o v)
  refine ⟨R, h1, by rw [h2]; simp, fun i hi => ?_, fun i hi ho => ?_⟩
  ·rw [h3 i (by omega), Array.getElem?_setIfInBounds_ne (by omega)]
  ·cases i with
   | zero =>
    rw [Nat.add_zero, h3 o (by omega), List.getElem?_cons_zero, Array.getElem?_setIfInBounds_self_of_lt (by simpa using ho)]
   | succ i =>
    have := h4 i (by simpa using hi) (by simp; omega)
    rw [show o + (i + 1) = o + 1 + i by omega, List.getElem?_cons_succ]
    exact this
theorem setCells_box {g : Nat} {T : TypeId} {W : World} {cs cs' : Array Value} (h : Box W g T cs) (hs : cs'.size = cs.size) : Box (W.setCells g 0 cs'.toList) g T cs' := by
 obtain ⟨R, h1, h2, _, h4⟩ := setCells_row g T cs'.toList 0 W cs h
 have : R = cs' := by
  apply Array.ext_getElem?
  intro i
  by_cases hi : i < cs'.size
  ·have := h4 i (by simpa using hi) (by omega)
   rw [Nat.zero_add] at this
   simpa using this
  ·rw [Array.getElem?_eq_none (by omega), Array.getElem?_eq_none (by omega)]
 exact this ▸ h1
theorem Box.range {W : World} {g : Nat} {T : TypeId} {cs : Array Value} (h : Box W g T cs) : W.rangeAt g 0 cs.toList := fun j v hv => by
 rw [Nat.zero_add, blk_cell h]
 simpa using hv
theorem Box.there {W : World} {g : Nat} {T : TypeId} {cs : Array Value} (h : Box W g T cs) : W.there g 0 cs.size := fun j hj => by
 rw [Nat.zero_add, blk_cell h, blk_frozen h]
 simp [hj]
theorem Box.put1 {W W' : World} {g b : Nat} {T : TypeId} {cs : Array Value} (h : Box W g T cs) (hp : Put1 b W W') (hne : g ≠ b) : Box W' g T cs := (hp.far g hne).trans h
theorem drew_below (W : World) : Below W.heap.size W W.drew := (Below.refl _ _).drew

section
variable {P : Program} {ops : Array Oper} {rest : List Oper} {o : Oper} {a : Act} {Q : Exit → Act → World → Prop} {W : World}
/-- A box is made. -/
theorem boxNew_ {N : Tmp} (hd : o.dst = some N) (hg : o.guard = none) (cs : Array Value) (T : TypeId) (hrun : (execOp a.eval o).run P W = .ok (.value (.pointer (some ⟨W.heap.size, 0, none⟩))) (W.alloc (.cells cs T (0, 0))))
  (h : ∀ g W', g = W.heap.size → Box W' g T cs → Below W.heap.size W W' → wpList P ops Q rest (a.put (some N) (.pointer (some ⟨g, 0, none⟩))) W') : wpList P ops Q (o :: rest) a W := by
 refine box_event hg hd hrun fun g hg w1 h1 h2 => ?_
 rw [hd]
 exact h g w1 hg h1 h2
/-- A box is written whole. -/
theorem boxPut_ {T : TypeId} {p : Tmp} {x : Operand} (ho : o.op = .store T (.tmp p) x) (hN : o.dst = none) (hg : o.guard = none) {g : Nat} {cs : Array Value} (hp : a.eval (.tmp p) = .pointer (some ⟨g, 0, none⟩)) (cs' : Array Value) (hx : a.eval x = .agg cs')
  (hb : Box W g T cs) (hs : cs'.size = cs.size) (hi : (P.info? T).map (·.size) = some cs'.size) (h1 : cs'.all (·.oneCell') = true)
  (h : ∀ W', Box W' g T cs' → Put1 g W W' → wpList P ops Q rest a W') : wpList P ops Q (o :: rest) a W := by
 refine wpList_store_mid hg T (.tmp p) x ho g 0 cs' hp hx (by rw [hs]; exact Box.there hb) hi h1 ?_
 rw [hN]
 exact h _ (setCells_box hb hs) (setCells_put1 g _ 0 W)
/-- A box is read whole. -/
theorem boxGet_ {T : TypeId} {x : Operand} {N : Tmp} (ho : o.op = .load T x) (hd : o.dst = some N) (hg : o.guard = none) {g : Nat} {cs : Array Value} (hx : a.eval x = .pointer (some ⟨g, 0, none⟩)) (hb : Box W g T cs) {d : TypeDesc} (hu : P.underlying T = some d) (hr : d.isRow = true)
  (hi : (P.info? T).map (·.size) = some cs.size) (h : wpList P ops Q rest (a.put (some N) (.agg cs)) W) : wpList P ops Q (o :: rest) a W := by
 refine wpList_load_mid hg T x ho g 0 hx cs.toList d (Box.range hb) hu hr (by simpa using hi) ?_
 rw [hd]
 simpa using h
theorem eval_put_same {a : Act} {N : Tmp} (h : N < a.tmps.size) (v : Value) : (a.put (some N) v).eval (.tmp N) = v := by simp [Act.eval, Act.put, h]
theorem eval_put_ne {a : Act} {N t : Tmp} (h : N ≠ t) (v : Value) : (a.put (some N) v).eval (.tmp t) = a.eval (.tmp t) := Act.eval_put fun d hd hx => h (by injection hx with hx; injection hd with hd; rw [hd, hx])
/-- A variable is made and filled: x := f(..). -/
theorem new1_ {rest : List Oper} {o1 o2 : Oper} {N x : Tmp} {T : TypeId} (cs : Array Value) {zs : Array Value} (h1 : cs.all (·.oneCell') = true)
  (hd1 : o1.dst = some N := by rfl) (hg1 : o1.guard = none := by rfl) (ho1 : o1.op = .alloc T := by rfl) (hz : ∀ ev W, (execOp ev o1).run P W = .ok (.value (.pointer (some ⟨W.heap.size, 0, none⟩))) (W.alloc (.cells zs T (0, 0))) := by (intro _ _; go_simp; first | done | rfl))
  (ho2 : o2.op = .store T (.tmp N) (.tmp x) := by rfl) (hd2 : o2.dst = none := by rfl) (hg2 : o2.guard = none := by rfl)
  (hN : decide (N < a.tmps.size) = true := by rfl) (hNx : N ≠ x := by decide) (hx : a.eval (.tmp x) = .agg cs := by rfl)
  (hs : cs.size = zs.size := by rfl) (hi : (P.info? T).map (·.size) = some cs.size := by kernel_rfl)
  (h : ∀ g W', W.heap.size ≤ g → Box W' g T cs → Below W.heap.size W W' → wpList P ops Q rest (a.put (some N) (.pointer (some ⟨g, 0, none⟩))) W') : wpList P ops Q (o1 :: o2 :: rest) a W := by
 refine boxNew_ hd1 hg1 zs T (hz _ _) fun g W1 hg hb hB => ?_
 refine boxPut_ ho2 hd2 hg2 (eval_put_same (of_decide_eq_true hN) _) cs ((eval_put_ne hNx _).trans hx) hb hs hi h1 fun W2 hb2 hp => ?_
 exact h g W2 (Nat.le_of_eq hg.symm) hb2 (hp.below hB (Nat.le_of_eq hg.symm))
/-- A cell of a box is written. -/
theorem setF_ {rest : List Oper} {T U : TypeId} {q : Tmp} {x : Operand} {g i : Nat} {cs : Array Value} {v : Value} (ho : o.op = .store T (.tmp q) x) (hd : o.dst = none) (hg : o.guard = none) (hb : Box W g U cs)
  (hrun : (execOp a.eval o).run P W = .ok .skip (W.setCell ⟨g, i, none⟩ v)) (h : ∀ W', Box W' g U (cs.setIfInBounds i v) → Put1 g W W' → wpList P ops Q rest a W') : wpList P ops Q (o :: rest) a W := by
 refine store_event hg ho hd hrun fun w' hw => ?_
 subst hw
 exact h _ (blk_set hb i v) ⟨rfl, rfl, rfl, by simp [World.setCell], fun j hj => Below.heap_setCell _ _ _ _ hj⟩
/-- Two cells of a box are written: a struct of two cells. -/
theorem setF2_ {rest : List Oper} {T U : TypeId} {q : Tmp} {x : Operand} {g i : Nat} {cs : Array Value} {v u : Value} (ho : o.op = .store T (.tmp q) x) (hd : o.dst = none) (hg : o.guard = none) (hb : Box W g U cs)
  (hrun : (execOp a.eval o).run P W = .ok .skip ((W.setCell ⟨g, i, none⟩ v).setCell ⟨g, i + 1, none⟩ u)) (h : ∀ W', Box W' g U ((cs.setIfInBounds i v).setIfInBounds (i + 1) u) → Put1 g W W' → wpList P ops Q rest a W') : wpList P ops Q (o :: rest) a W := by
 refine store_event hg ho hd hrun fun w' hw => ?_
 subst hw
 exact h _ (blk_set (blk_set hb i v) (i + 1) u) ⟨rfl, rfl, rfl, by simp [World.setCell], fun j hj => (Below.heap_setCell _ _ _ _ hj).trans (Below.heap_setCell _ _ _ _ hj)⟩
theorem Box.cell {W : World} {g : Nat} {T : TypeId} {cs : Array Value} (h : Box W g T cs) (i : Nat) (v : Value) (hv : cs[i]? = some v) : W.cell? ⟨g, i, none⟩ = some v ∧ W.frozen? ⟨g, i, none⟩ = false := ⟨(blk_cell h i).trans hv, blk_frozen h i⟩
end

section
variable {ops : Array Oper} {o : Oper} {b : Act}
theorem wanted_on {g : Nat} {want : Bool} {t : Tmp} (hg : o.guard = some (g, want)) (hd : (ops[g]?).bind (·.dst) = some t) (ht : b.tmps[t]? = some (.bool want)) : Region.wanted o (yielded ops b.tmps) = true := by
 simp [Region.wanted, hg, yielded, hd, ht]
end
section
variable {P : Program} {ops : Array Oper} {o : Oper} {b : Act} {W : World} {Ψ : Value → World → Prop}
theorem stepVal {v : Value} (hw : Region.wanted o (yielded ops b.tmps) = true) (hrun : (execOp b.eval o).run P W = .ok (.value v) W) (h : Ψ v W) : StepOK P ops o b W Ψ := fun K Q hK => value_ hw rfl hrun (hK v W h)
theorem stepGet {T : TypeId} {x : Operand} (hw : Region.wanted o (yielded ops b.tmps) = true) (ho : o.op = .load T x) {g : Nat} {cs : Array Value} (hx : b.eval x = .pointer (some ⟨g, 0, none⟩)) (hb : Box W g T cs) {d : TypeDesc} (hu : P.underlying T = some d) (hr : d.isRow = true)
  (hi : (P.info? T).map (·.size) = some cs.size) (h : Ψ (.agg cs) W) : StepOK P ops o b W Ψ := by
 refine stepVal hw ?_ h
 have := run_loadVar_mid (P := P) W g 0 T cs.toList d (Box.range hb) hu hr (by simpa using hi)
 unfold execOp
 simp only [ho, hx, Instr.loadAt, Instr.sureAddr, Sem.run_bind, Sem.run_pure, Result.andThen_ok, this]
theorem stepCall {f : FuncId} {fn : Func} {ys : Array Operand} {ts : Array TypeId} (hw : Region.wanted o (yielded ops b.tmps) = true) (hf : P.funcs[f]? = some fn) (hname : (fn.name == "runtime.NumGoroutine") = false) (hbd : fn.body.isSome = true) (args : Array Value)
  (hop : o.op = .call { callee := .value (.func f), args := ys, argTypes := ts }) (hargs : ys.map b.eval = args) {R : Ending → World → Prop} (hc : Calls P f args W R) (h : ∀ e w', R e w' → ∃ v, e = .returned v ∧ Ψ v w') : StepOK P ops o b W Ψ :=
 fun K Q hK => goes_ hf hname hbd args hw rfl hop hargs (hc.mono fun e w' hr => by
  obtain ⟨v, rfl, hv⟩ := h e w' hr
  exact ⟨v, rfl, hK v w' hv⟩)
end
/-- What stays, as memory is made. -/
def Lasts (p : World → Prop) : Prop := ∀ W W', Below W.heap.size W W' → p W → p W'
theorem Lasts.const (p : Prop) : Lasts fun _ => p := fun _ _ _ h => h
theorem Lasts.below (w : World) : Lasts fun W => Below w.heap.size w W := fun _ _ hb h => h.trans (hb.mono h.size)
/-- Facts of values, one by one. -/
def FAt (Fs : List (Value → World → Prop)) (i : Nat) (v : Value) (W : World) : Prop := Fs.getD i (fun _ _ => True) v W
def LastAll : List (Value → World → Prop) → Prop
 | [] => True
 | F :: r => (∀ v, Lasts (F v)) ∧ LastAll r
theorem FAt.last : ∀ (Fs : List (Value → World → Prop)), LastAll Fs → ∀ i v a b, Below a.heap.size a b → FAt Fs i v a → FAt Fs i v b
 | [], _, _, _, _, _, _, _ => trivial
 | F :: r, h, 0, v, a, b, hb, hf => h.1 v a b hb hf
 | F :: r, h, i + 1, v, a, b, hb, hf => FAt.last r h.2 i v a b hb hf
section
variable {P : Program} {ops : Array Oper} {Q : Exit → Act → World → Prop}
/-- A region that draws its order, where nothing but new memory is written: p is what is known of the world. -/
theorem weaveB_ {id : Nat} {a0 : Act} {w : World} (p : World → Prop) (hp : Lasts p) (h0 : p w) (ds : List (Tmp × Nat)) (Fs : List (Value → World → Prop)) (hm : P.follows .mixedOrders = true) (hB : weaveB ops ds = true) (hF : LastAll Fs)
  (hstep : OpsAll (fun i o => ∀ vs W, p W → (∀ j ∈ waitsOn o, FAt Fs j (vs j) W) → ∀ b, Sees a0 ds o vs b → StepOK P ops o b W fun v W' => Below W.heap.size W W' ∧ FAt Fs i v W') ops.toList 0)
  (hend : ∀ (vs : Nat → Value) W, p W → (∀ j, j < ops.size → FAt Fs j (vs j) W) → Q .normal (putL a0 (ds.map fun q => (q.1, vs q.2))) W) : (Code.region id ops true).wp P Q a0 w :=
 weaveR (fun a b => Below a.heap.size a b) (FAt Fs) ds hm hB (fun w => Below.refl _ _) (fun a b c h k => h.trans (k.mono h.size)) (fun i v a b h => FAt.last Fs hF i v a b h)
  (OpsAll.imp (fun i o h vs W hW hv => h vs W (hp _ _ hW (hp _ _ (drew_below w) h0)) hv) _ _ hstep) (fun vs W hW hv => hend vs W (hp _ _ hW (hp _ _ (drew_below w) h0)) hv)
end

/-- What is known of a value: it lasts as memory is made; what it leads to lies in ok, and no store elsewhere touches it. -/
structure Good (F : Value → World → (Nat → Prop) → Prop) : Prop where
 last : ∀ v ok W W', Below W.heap.size W W' → F v W ok → F v W' ok
 mono : ∀ v W ok ok', (∀ k, ok k → ok' k) → F v W ok → F v W ok'
 bound : ∀ v W ok, F v W ok → F v W fun k => ok k ∧ k < W.heap.size
 far : ∀ v W W' ok g, Put1 g W W' → ¬ ok g → F v W ok → F v W' ok
section
variable {P : Program} {ops : Array Oper} {Q : Exit → Act → World → Prop}
end
end Go.Proofs.YtfmipdhkiahjoaaDoor.B
