import Derived.Test.YtendbgedpjcocaaGreatDoorJnH
import Derived.Test.YtendbgedpjcocaaGreatDoorPkB
import Derived.Test.YtendbgedpjcocaaGreatDoorJnI
import Derived.Test.YtendbgedpjcocaaGreatDoorB0
import Derived.Deep.MidRow
import Derived.Ground.Names2Prog
import Derived.Shelf.Slices.Clone
import Derived.Ground.SlgnProg
import Derived.Shelf.SlicesE.Clone
import Derived.Test.YtendbgedpjcocaaGreatDoorProg
import Derived.Test.YtendbgedpjcocaaGreatDoorJnJ
import Derived.Test.YtendbgedpjcocaaGreatDoorSq
/- Expressions of the laws and of the program: bounds, inductions, rows. -/
namespace Go.Proofs.YtendbgedpjcocaaGreatDoor.B
open Go.RowKit Go.Proofs.YtendbgedpjcocaaGreatDoorW.PrintWords Go.Proofs.YtendbgedpjcocaaGreatDoorW.PrintLast Go.Proofs.YtendbgedpjcocaaGreatDoorW.PrintMore
set_option linter.unusedVariables false

abbrev LExT := S27
def iexOk : S27 → Prop
 | ⟨_, _, _, l⟩ => l.length ≤ 1048576 ∧ ∀ x ∈ l.attach, iexOk x.1
termination_by e => SizeOf.sizeOf e
decreasing_by have := List.sizeOf_lt_of_mem x.2; simp; omega
theorem iexOk_eq (e : S27) : iexOk e ↔ e.f3.length ≤ 1048576 ∧ ∀ x ∈ e.f3, iexOk x := by
 cases e with
 | mk a b c l => rw [iexOk]; simp
theorem iexInd {P : S27 → Prop} (h : ∀ e : S27, (∀ x ∈ e.f3, P x) → P e) : ∀ e, P e
 | ⟨a, b, c, l⟩ => h _ (fun x hx => iexInd h x)
termination_by e => SizeOf.sizeOf e
decreasing_by have := List.sizeOf_lt_of_mem hx; simp at this ⊢; omega
theorem mem_sum : ∀ (l : List Nat) (x : Nat), x ∈ l → x ≤ l.sum
 | [], x, h => by simp at h
 | a :: l, x, h => by
  rw [List.sum_cons]
  rcases List.mem_cons.mp h with rfl | h
  ·omega
  ·have := mem_sum l x h; omega
end Go.Proofs.YtendbgedpjcocaaGreatDoor.B
/- Statements of the laws and of the program: bounds, inductions, rows. -/
namespace Go.Proofs.YtendbgedpjcocaaGreatDoor.B
open Go.RowKit Go.Proofs.YtendbgedpjcocaaGreatDoorW.PrintWords Go.Proofs.YtendbgedpjcocaaGreatDoorW.PrintLast Go.Proofs.YtendbgedpjcocaaGreatDoorW.PrintMore
set_option linter.unusedVariables false

abbrev LSt := S35
abbrev ISt := S35
def istOk : ISt → Prop
 | ⟨_, _, c, l, l'⟩ => iexOk c ∧ (l.length ≤ 1048576 ∧ ∀ x ∈ l.attach, istOk x.1) ∧ (l'.length ≤ 1048576 ∧ ∀ x ∈ l'.attach, istOk x.1)
termination_by e => SizeOf.sizeOf e
decreasing_by all_goals (have := List.sizeOf_lt_of_mem x.2; simp; omega)
theorem istOk_eq (e : ISt) : istOk e ↔ iexOk e.f2 ∧ (e.f3.length ≤ 1048576 ∧ ∀ x ∈ e.f3, istOk x) ∧ (e.f4.length ≤ 1048576 ∧ ∀ x ∈ e.f4, istOk x) := by
 cases e with
 | mk a b c l l' => rw [istOk]; simp
theorem rdI_st (l : List ISt) (j : Nat) (h : j < l.length) : rd_T35 l (j : Int) = l[j] := by simp [rd_T35, h]
end Go.Proofs.YtendbgedpjcocaaGreatDoor.B
/- Plain law: the specification's own reckoning of ExprOf ends, and says so. -/
namespace Go.Proofs.YtendbgedpjcocaaGreatDoor.B
open Go.RowKit Go.Proofs.YtendbgedpjcocaaGreatDoorW.PrintWords Go.Proofs.YtendbgedpjcocaaGreatDoorW.PrintLast Go.Proofs.YtendbgedpjcocaaGreatDoorW.PrintMore
set_option linter.unusedVariables false

theorem cut_eq (n : Int) : spec_NumCut.f n = impl_NumCut.f n := by
 rw [numCut_is, impl_NumCut.f]
 congr 1
 unfold mn mx
 by_cases h1 : n < -1000000
 ·simp [h1]
 ·by_cases h2 : (1000000 : Int) < n
  ·simp [h1, h2]
  ·simp [h1, h2]
theorem two_eq (k a b : Int) : spec_l3Two.f k a b = some (twoI k a b) := by
 rw [← two_some]
 unfold spec_l3Two.f impl_two.f spec_NumAdd.f spec_NumSub.f spec_NumMul.f impl_NumAdd.f impl_NumSub.f impl_NumMul.f impl_maker_of.f spec_NumIs.f spec_NumOn.f impl_NumIs.f impl_NumOn.f
 simp [cut_eq]
theorem get_eq (l0 l1 l2 : List Int) (h0 : l0.length = 6) (h1 : l1.length = 6) (h2 : l2.length = 6) (k a : Int) (h : addrOkL k a = true) : spec_l2Get.f l0 l1 l2 k a = some (getL (l0 ++ l1 ++ l2) k a) := by
 obtain ⟨hk, ha⟩ := addr_cases h
 rw [getL, if_pos h]
 obtain ⟨x0, x1, x2, x3, x4, x5, rfl⟩ := six l0 h0
 obtain ⟨y0, y1, y2, y3, y4, y5, rfl⟩ := six l1 h1
 obtain ⟨z0, z1, z2, z3, z4, z5, rfl⟩ := six l2 h2
 rcases hk with rfl | rfl | rfl <;> rcases ha with rfl | rfl | rfl | rfl | rfl | rfl <;> rfl
theorem mono_o (a b c d : Int) (l : List Ex) (l0 l1 l2 : List Int) : ∀ k, LeO (spec_l3Of.f k a b c d l l0 l1 l2) (spec_l3Of.f (k + 1) a b c d l l0 l1 l2) := fun k => spec_l3Of.mono_l k a b c d l l0 l1 l2
theorem of_spec (l0 l1 l2 : List Int) (h0 : l0.length = 6) (h1 : l1.length = 6) (h2 : l2.length = 6) (d : Nat) : ∀ e : Ex, formS d e = true → ∃ k, spec_l3Of.f k e.f0 e.f1 e.f2.f0 e.f2.f1 e.f3 l0 l1 l2 = some (evalI (l0 ++ l1 ++ l2) e) := by
 induction d with
 | zero => intro e h; cases h
 | succ d ih =>
  intro e h
  rw [formS, Bool.and_eq_true] at h
  have hkids : ∀ x ∈ e.f3, _ := fun x hx => ih x (List.all_eq_true.1 h.2 x hx)
  have hh := h.1
  unfold headOk at hh
  simp only [Bool.and_eq_true, beq_iff_eq] at hh
  obtain ⟨⟨hk, hl⟩, hs⟩ := hh
  have hk' : 1 ≤ e.f0 ∧ e.f0 ≤ 10 := of_decide_eq_true hk
  by_cases c1 : e.f0 = 1
  ·exact ⟨1, by rw [spec_l3Of.f, if_pos c1, evalI_eq, if_pos c1]⟩
  ·by_cases c2 : e.f0 = 2
   ·have ha : addrOkL e.f2.f0 e.f2.f1 = true := by
     rw [shapeL, if_neg c1, if_pos c2, Bool.and_eq_true] at hs; exact hs.1
    exact ⟨1, by rw [spec_l3Of.f, if_neg c1, if_pos c2, get_eq l0 l1 l2 h0 h1 h2 _ _ ha, evalI_eq, if_neg c1, if_pos c2]; rfl⟩
   ·by_cases c10 : e.f0 = 10
    ·have hl' : e.f3.length = 1 := by
      rw [kidsN, if_neg (by omega), if_neg (by omega)] at hl; omega
     obtain ⟨k, hk0⟩ := hkids e.f3[0] (List.getElem_mem (by omega))
     refine ⟨k + 1, ?_⟩
     have hr : rd_T27 e.f3 0 = e.f3[0] := rd_get e.f3 0 (by omega)
     have hv : (e.f3.map (evalI (l0 ++ l1 ++ l2))).getD 0 0 = evalI (l0 ++ l1 ++ l2) e.f3[0] := by
      rw [List.getD_eq_getElem?_getD, List.getElem?_map, List.getElem?_eq_getElem (by omega)]; rfl
     rw [spec_l3Of.f, if_neg c1, if_neg c2, if_pos c10, if_pos (by omega), hr, hk0, evalI_eq _ e, if_neg c1, if_neg c2, if_pos c10, hv]
     by_cases hz : evalI (l0 ++ l1 ++ l2) e.f3[0] = 0
     ·rw [hz]; rfl
     ·rw [if_neg hz]
      simp only [Option.bind_some, spec_NumOn.f, spec_NumIs.f, show (evalI (l0 ++ l1 ++ l2) e.f3[0] != 0) = true from bne_iff_ne.mpr hz, Bool.not_true, Bool.false_eq_true, if_false]
    ·have h39 : 3 ≤ e.f0 ∧ e.f0 ≤ 9 := by omega
     have hl' : e.f3.length = 2 := by
      rw [kidsN, if_neg (by omega), if_pos h39] at hl; omega
     obtain ⟨k0, hk0⟩ := hkids e.f3[0] (List.getElem_mem (by omega))
     obtain ⟨k1, hk1⟩ := hkids e.f3[1] (List.getElem_mem (by omega))
     refine ⟨k0 + k1 + 1, ?_⟩
     have hr0 : rd_T27 e.f3 0 = e.f3[0] := rd_get e.f3 0 (by omega)
     have hr1 : rd_T27 e.f3 1 = e.f3[1] := rd_get e.f3 1 (by omega)
     have hv0 : (e.f3.map (evalI (l0 ++ l1 ++ l2))).getD 0 0 = evalI (l0 ++ l1 ++ l2) e.f3[0] := by
      rw [List.getD_eq_getElem?_getD, List.getElem?_map, List.getElem?_eq_getElem (by omega)]; rfl
     have hv1 : (e.f3.map (evalI (l0 ++ l1 ++ l2))).getD 1 0 = evalI (l0 ++ l1 ++ l2) e.f3[1] := by
      rw [List.getD_eq_getElem?_getD, List.getElem?_map, List.getElem?_eq_getElem (by omega)]; rfl
     rw [spec_l3Of.f, if_neg c1, if_neg c2, if_neg c10, if_pos (by omega), hr0, hr1, up_le (mono_o _ _ _ _ _ _ _ _) (Nat.le_add_right k0 k1) hk0, Option.bind_some, if_pos (by omega), up_le (mono_o _ _ _ _ _ _ _ _) (Nat.le_add_left k1 k0) hk1, Option.bind_some, two_eq, evalI_eq _ e, if_neg c1, if_neg c2, if_neg c10, hv0, hv1]
     rfl
theorem mono_l2 (l : List Int) (j : Int) : ∀ k, LeO (spec_l2List.l0 k l j) (spec_l2List.l0 (k + 1) l j) := fun k => spec_l2List.mono_l k l j
theorem list_loop (l : List Int) (hl : l.length < 9223372036854775807) : ∀ (n j : Nat), n + j = l.length → ∃ k, spec_l2List.l0 k l j = some (l.length == 6 && !(l.drop j).any fun n => !isNumL n) := by
 intro n
 induction n with
 | zero =>
  intro j hj
  refine ⟨1, ?_⟩
  rw [spec_l2List.l0, if_neg (by omega), List.drop_eq_nil_of_le (by omega)]
  by_cases h6 : l.length = 6
  ·simp [h6]
  ·have q1 : ((l.length : Int) == 6) = false := beq_false_of_ne (by omega)
   have q2 : (l.length == 6) = false := beq_false_of_ne h6
   rw [q1, q2]; rfl
 | succ n ihn =>
  intro j hj
  have hlt : j < l.length := by omega
  obtain ⟨k2, h2⟩ := ihn (j + 1) (by omega)
  refine ⟨k2 + 1, ?_⟩
  have hr : rd l (j : Int) = l[j] := by simp [rd, hlt]
  rw [spec_l2List.l0, if_pos (by omega), if_pos (by omega), hr, numCut_is, Option.bind_some, wrap_small (by omega) (by omega), List.drop_eq_getElem_cons hlt, List.any_cons]
  by_cases c1 : l[j] < -1000000
  ·have q1 : ¬ (-1000000 : Int) = l[j] := by omega
   have q2 : isNumL l[j] = false := by unfold isNumL; exact decide_eq_false (by omega)
   simp [c1, q1, q2]
  ·by_cases c2 : 1000000 < l[j]
   ·have q1 : ¬ (1000000 : Int) = l[j] := by omega
    have q2 : isNumL l[j] = false := by unfold isNumL; exact decide_eq_false (by omega)
    simp [c1, c2, q1, q2]
   ·have q2 : isNumL l[j] = true := by unfold isNumL; exact decide_eq_true (by omega)
    simp only [c1, c2, if_false, if_true, q2, Bool.not_true, Bool.false_or]
    exact h2
theorem list_spec (l : List Int) (hl : l.length < 9223372036854775807) : ∃ k, spec_l2List.f k l = some (listOk l) := by
 obtain ⟨k, h⟩ := list_loop l hl l.length 0 (by omega)
 exact ⟨k, h⟩
theorem mono_l2f (l : List Int) : ∀ k, LeO (spec_l2List.f k l) (spec_l2List.f (k + 1) l) := fun k => mono_l2 l 0 k
theorem memOk_spec (l0 l1 l2 : List Int) (h0 : l0.length < 9223372036854775807) (h1 : l1.length < 9223372036854775807) (h2 : l2.length < 9223372036854775807) : ∃ k, spec_MemOk.f k l0 l1 l2 = some (memOkL l0 l1 l2) := by
 obtain ⟨k0, e0⟩ := list_spec l0 h0
 obtain ⟨k1, e1⟩ := list_spec l1 h1
 obtain ⟨k2, e2⟩ := list_spec l2 h2
 refine ⟨k0 + k1 + k2, ?_⟩
 unfold spec_MemOk.f memOkL
 rw [up_le (mono_l2f l0) (by omega) e0, up_le (mono_l2f l1) (by omega) e1, up_le (mono_l2f l2) (by omega) e2]
 cases listOk l0 <;> cases listOk l1 <;> simp
end Go.Proofs.YtendbgedpjcocaaGreatDoor.B
/- What is reckoned of two and of one: plain facts. -/
namespace Go.Proofs.YtendbgedpjcocaaGreatDoor.B
open Go.RowKit Go.Proofs.YtendbgedpjcocaaGreatDoorW.PrintWords Go.Proofs.YtendbgedpjcocaaGreatDoorW.PrintLast Go.Proofs.YtendbgedpjcocaaGreatDoorW.PrintMore
set_option linter.unusedVariables false

def okE (e : Ex) : Bool := formS 6 e && decide (manyS 6 e ≤ 14)
theorem ofV_eq (e : Ex) (l0 l1 l2 : List Int) : ofV e l0 l1 l2 = if memOkL l0 l1 l2 && okE e then evalI (l0 ++ l1 ++ l2) e else 0 := by rw [ofV, okL_eq]; rfl
def cutL (n : Int) : Int := if n < -1000000 then -1000000 else if 1000000 < n then 1000000 else n
theorem cutI (n : Int) : impl_NumCut.f n = some (cutL n) := by rw [← cut_eq, numCut_is]; rfl
end Go.Proofs.YtendbgedpjcocaaGreatDoor.B
/- Boxes: a variable in a block of its own, known whole; how operations meet it, in plain regions and in those that draw their order. -/
namespace Go.Proofs.YtendbgedpjcocaaGreatDoor.B
open Go Go.RowKit Go.Proofs.YtendbgedpjcocaaGreatDoorW.PrintWords Go.Proofs.YtendbgedpjcocaaGreatDoorW.PrintLast Go.Proofs.YtendbgedpjcocaaGreatDoorW.PrintMore
set_option linter.unusedVariables false

abbrev Box (W : World) (g : Nat) (T : TypeId) (cs : Array Value) : Prop := W.heap[g]? = some (.cells cs T (0, 0))
/-- What a store into block g leaves: all other blocks. -/
structure Put1 (g : Nat) (W W' : World) : Prop where
 os : W'.os = W.os
 tape : W'.tape = W.tape
 output : W'.output = W.output
 size : W'.heap.size = W.heap.size
 far : ∀ j, j ≠ g → W'.heap[j]? = W.heap[j]?
theorem Put1.below {g B : Nat} {w W W' : World} (h : Put1 g W W') (hb : Below B w W) (hg : B ≤ g) : Below B w W' :=
 hb.trans ⟨h.os, h.tape, h.output, by rw [h.size]; exact Nat.le_refl _, fun k hk => h.far k (by omega)⟩
theorem setCells_put1 (g : Nat) : ∀ (vs : List Value) (o : Nat) (W : World), Put1 g W (W.setCells g o vs)
 | [], _, W => ⟨rfl, rfl, rfl, rfl, fun _ _ => rfl⟩
 | v :: r, o, W => by
  have h := setCells_put1 g r (o + 1) (W.setCell ⟨g, o, none⟩ v)
  exact ⟨h.os, h.tape, h.output, h.size.trans (by simp [World.setCell]), fun j hj => (h.far j hj).trans (Below.heap_setCell _ _ _ _ hj)⟩
theorem setCells_row (g : Nat) (T : TypeId) : ∀ (vs : List Value) (o : Nat) (W : World) (cs : Array Value), Box W g T cs → ∃ R : Array Value, Box (W.setCells g o vs) g T R ∧ R.size = cs.size ∧ (∀ i, i < o → R[i]? = cs[i]?) ∧ ∀ i, i < vs.length → o + i < cs.size → R[o + i]? = vs[i]?
 | [], o, W, cs, h => ⟨cs, h, rfl, fun _ _ => rfl, fun i hi => absurd hi (Nat.not_lt_zero i)⟩
 | v :: r, o, W, cs, h => by
  obtain ⟨R, h1, h2, h3, h4⟩ := setCells_row g T r (o + 1) (W.setCell ⟨g, o, none⟩ v) (cs.setIfInBounds o v) (blk_set h o v)
  refine ⟨R, h1, by rw [h2]; simp, fun i hi => ?_, fun i hi ho => ?_⟩
  ·rw [h3 i (by omega), Array.getElem?_setIfInBounds_ne (by omega)]
  ·cases i with
   | zero =>
    rw [Nat.add_zero, h3 o (by omega), List.getElem?_cons_zero, Array.getElem?_setIfInBounds_self_of_lt (by simpa using ho)]
   | succ i =>
    have := h4 i (by simpa using hi) (by simp; omega)
    rw [show o + (i + 1) = o + 1 + i by omega, List.getElem?_cons_succ]
    exact this
theorem setCells_box {g : Nat} {T : TypeId} {W : World} {cs cs' : Array Value} (h : Box W g T cs) (hs : cs'.size = cs.size) : Box (W.setCells g 0 cs'.toList) g T cs' := by
 obtain ⟨R, h1, h2, _, h4⟩ := setCells_row g T cs'.toList 0 W cs h
 have : R = cs' := by
  apply Array.ext_getElem?
  intro i
  by_cases hi : i < cs'.size
  ·have := h4 i (by simpa using hi) (by omega)
   rw [Nat.zero_add] at this
   simpa using this
  ·rw [Array.getElem?_eq_none (by omega), Array.getElem?_eq_none (by omega)]
 exact this ▸ h1
theorem Box.range {W : World} {g : Nat} {T : TypeId} {cs : Array Value} (h : Box W g T cs) : W.rangeAt g 0 cs.toList := fun j v hv => by
 rw [Nat.zero_add, blk_cell h]
 simpa using hv
theorem Box.there {W : World} {g : Nat} {T : TypeId} {cs : Array Value} (h : Box W g T cs) : W.there g 0 cs.size := fun j hj => by
 rw [Nat.zero_add, blk_cell h, blk_frozen h]
 simp [hj]
theorem Box.put1 {W W' : World} {g b : Nat} {T : TypeId} {cs : Array Value} (h : Box W g T cs) (hp : Put1 b W W') (hne : g ≠ b) : Box W' g T cs := (hp.far g hne).trans h
theorem drew_below (W : World) : Below W.heap.size W W.drew := (Below.refl _ _).drew

section
variable {P : Program} {ops : Array Oper} {rest : List Oper} {o : Oper} {a : Act} {Q : Exit → Act → World → Prop} {W : World}
/-- A box is made. -/
theorem boxNew_ {N : Tmp} (hd : o.dst = some N) (hg : o.guard = none) (cs : Array Value) (T : TypeId) (hrun : (execOp a.eval o).run P W = .ok (.value (.pointer (some ⟨W.heap.size, 0, none⟩))) (W.alloc (.cells cs T (0, 0))))
  (h : ∀ g W', g = W.heap.size → Box W' g T cs → Below W.heap.size W W' → wpList P ops Q rest (a.put (some N) (.pointer (some ⟨g, 0, none⟩))) W') : wpList P ops Q (o :: rest) a W := by
 refine box_event hg hd hrun fun g hg w1 h1 h2 => ?_
 rw [hd]
 exact h g w1 hg h1 h2
/-- A box is written whole. -/
theorem boxPut_ {T : TypeId} {p : Tmp} {x : Operand} (ho : o.op = .store T (.tmp p) x) (hN : o.dst = none) (hg : o.guard = none) {g : Nat} {cs : Array Value} (hp : a.eval (.tmp p) = .pointer (some ⟨g, 0, none⟩)) (cs' : Array Value) (hx : a.eval x = .agg cs')
  (hb : Box W g T cs) (hs : cs'.size = cs.size) (hi : (P.info? T).map (·.size) = some cs'.size) (h1 : cs'.all (·.oneCell') = true)
  (h : ∀ W', Box W' g T cs' → Put1 g W W' → wpList P ops Q rest a W') : wpList P ops Q (o :: rest) a W := by
 refine wpList_store_mid hg T (.tmp p) x ho g 0 cs' hp hx (by rw [hs]; exact Box.there hb) hi h1 ?_
 rw [hN]
 exact h _ (setCells_box hb hs) (setCells_put1 g _ 0 W)
/-- A box is read whole. -/
theorem boxGet_ {T : TypeId} {x : Operand} {N : Tmp} (ho : o.op = .load T x) (hd : o.dst = some N) (hg : o.guard = none) {g : Nat} {cs : Array Value} (hx : a.eval x = .pointer (some ⟨g, 0, none⟩)) (hb : Box W g T cs) {d : TypeDesc} (hu : P.underlying T = some d) (hr : d.isRow = true)
  (hi : (P.info? T).map (·.size) = some cs.size) (h : wpList P ops Q rest (a.put (some N) (.agg cs)) W) : wpList P ops Q (o :: rest) a W := by
 refine wpList_load_mid hg T x ho g 0 hx cs.toList d (Box.range hb) hu hr (by simpa using hi) ?_
 rw [hd]
 simpa using h
theorem eval_put_same {a : Act} {N : Tmp} (h : N < a.tmps.size) (v : Value) : (a.put (some N) v).eval (.tmp N) = v := by simp [Act.eval, Act.put, h]
theorem eval_put_ne {a : Act} {N t : Tmp} (h : N ≠ t) (v : Value) : (a.put (some N) v).eval (.tmp t) = a.eval (.tmp t) := Act.eval_put fun d hd hx => h (by injection hx with hx; injection hd with hd; rw [hd, hx])
/-- A variable is made and filled: x := f(..). -/
theorem new1_ {rest : List Oper} {o1 o2 : Oper} {N x : Tmp} {T : TypeId} (cs : Array Value) {zs : Array Value} (h1 : cs.all (·.oneCell') = true)
  (hd1 : o1.dst = some N := by rfl) (hg1 : o1.guard = none := by rfl) (ho1 : o1.op = .alloc T := by rfl) (hz : ∀ ev W, (execOp ev o1).run P W = .ok (.value (.pointer (some ⟨W.heap.size, 0, none⟩))) (W.alloc (.cells zs T (0, 0))) := by (intro _ _; go_simp; first | done | rfl))
  (ho2 : o2.op = .store T (.tmp N) (.tmp x) := by rfl) (hd2 : o2.dst = none := by rfl) (hg2 : o2.guard = none := by rfl)
  (hN : decide (N < a.tmps.size) = true := by rfl) (hNx : N ≠ x := by decide) (hx : a.eval (.tmp x) = .agg cs := by rfl)
  (hs : cs.size = zs.size := by rfl) (hi : (P.info? T).map (·.size) = some cs.size := by kernel_rfl)
  (h : ∀ g W', W.heap.size ≤ g → Box W' g T cs → Below W.heap.size W W' → wpList P ops Q rest (a.put (some N) (.pointer (some ⟨g, 0, none⟩))) W') : wpList P ops Q (o1 :: o2 :: rest) a W := by
 refine boxNew_ hd1 hg1 zs T (hz _ _) fun g W1 hg hb hB => ?_
 refine boxPut_ ho2 hd2 hg2 (eval_put_same (of_decide_eq_true hN) _) cs ((eval_put_ne hNx _).trans hx) hb hs hi h1 fun W2 hb2 hp => ?_
 exact h g W2 (Nat.le_of_eq hg.symm) hb2 (hp.below hB (Nat.le_of_eq hg.symm))
/-- Two variables are made and filled: x, y := f(..). -/
theorem new2_ {rest : List Oper} {o1 o2 o3 o4 : Oper} {N M x y : Tmp} {T U : TypeId} (cs ds : Array Value) {zs ys : Array Value} (h1 : cs.all (·.oneCell') = true) (h2 : ds.all (·.oneCell') = true)
  (hd1 : o1.dst = some N := by rfl) (hg1 : o1.guard = none := by rfl) (ho1 : o1.op = .alloc T := by rfl) (hz : ∀ ev W, (execOp ev o1).run P W = .ok (.value (.pointer (some ⟨W.heap.size, 0, none⟩))) (W.alloc (.cells zs T (0, 0))) := by (intro _ _; go_simp; first | done | rfl))
  (hd2 : o2.dst = some M := by rfl) (hg2 : o2.guard = none := by rfl) (ho2 : o2.op = .alloc U := by rfl) (hy : ∀ ev W, (execOp ev o2).run P W = .ok (.value (.pointer (some ⟨W.heap.size, 0, none⟩))) (W.alloc (.cells ys U (0, 0))) := by (intro _ _; go_simp; first | done | rfl))
  (ho3 : o3.op = .store T (.tmp N) (.tmp x) := by rfl) (hd3 : o3.dst = none := by rfl) (hg3 : o3.guard = none := by rfl) (ho4 : o4.op = .store U (.tmp M) (.tmp y) := by rfl) (hd4 : o4.dst = none := by rfl) (hg4 : o4.guard = none := by rfl)
  (hN : decide (N < a.tmps.size) = true := by rfl) (hM : decide (M < a.tmps.size) = true := by rfl) (hNM : N ≠ M := by decide) (hNx : N ≠ x := by decide) (hMx : M ≠ x := by decide) (hNy : N ≠ y := by decide) (hMy : M ≠ y := by decide) (hx : a.eval (.tmp x) = .agg cs := by rfl) (hy' : a.eval (.tmp y) = .agg ds := by rfl)
  (hs : cs.size = zs.size := by rfl) (hi : (P.info? T).map (·.size) = some cs.size := by kernel_rfl) (ht : ds.size = ys.size := by rfl) (hj : (P.info? U).map (·.size) = some ds.size := by kernel_rfl)
  (h : ∀ g g' W', W.heap.size ≤ g → W.heap.size ≤ g' → g ≠ g' → Box W' g T cs → Box W' g' U ds → Below W.heap.size W W' → wpList P ops Q rest ((a.put (some N) (.pointer (some ⟨g, 0, none⟩))).put (some M) (.pointer (some ⟨g', 0, none⟩))) W') : wpList P ops Q (o1 :: o2 :: o3 :: o4 :: rest) a W := by
 refine boxNew_ hd1 hg1 zs T (hz _ _) fun g W1 hg hb hB => ?_
 refine boxNew_ hd2 hg2 ys U (hy _ _) fun g' W2 hg' hb' hB' => ?_
 have hlt : g < W1.heap.size := blk_lt hb
 have hne : g ≠ g' := by omega
 have hle : W.heap.size ≤ g' := by have := hB.size; omega
 refine boxPut_ ho3 hd3 hg3 ((eval_put_ne (Ne.symm hNM) _).trans (eval_put_same (of_decide_eq_true hN) _)) cs ((eval_put_ne hMx _).trans ((eval_put_ne hNx _).trans hx)) (blk_below hb hB') hs hi h1 fun W3 hb3 hp3 => ?_
 refine boxPut_ ho4 hd4 hg4 (eval_put_same (by simpa [Act.put] using of_decide_eq_true hM) _) ds ((eval_put_ne hMy _).trans ((eval_put_ne hNy _).trans hy')) (Box.put1 hb' hp3 (Ne.symm hne)) ht hj h2 fun W4 hb4 hp4 => ?_
 have hB2 : Below W.heap.size W W2 := hB.trans (hB'.mono hB.size)
 exact h g g' W4 (Nat.le_of_eq hg.symm) hle hne (Box.put1 hb3 hp4 hne) hb4 (hp4.below (hp3.below hB2 (Nat.le_of_eq hg.symm)) hle)
/-- A cell of a box is written. -/
theorem setF_ {rest : List Oper} {T U : TypeId} {q : Tmp} {x : Operand} {g i : Nat} {cs : Array Value} {v : Value} (ho : o.op = .store T (.tmp q) x) (hd : o.dst = none) (hg : o.guard = none) (hb : Box W g U cs)
  (hrun : (execOp a.eval o).run P W = .ok .skip (W.setCell ⟨g, i, none⟩ v)) (h : ∀ W', Box W' g U (cs.setIfInBounds i v) → Put1 g W W' → wpList P ops Q rest a W') : wpList P ops Q (o :: rest) a W := by
 refine store_event hg ho hd hrun fun w' hw => ?_
 subst hw
 exact h _ (blk_set hb i v) ⟨rfl, rfl, rfl, by simp [World.setCell], fun j hj => Below.heap_setCell _ _ _ _ hj⟩
/-- Two cells of a box are written: a struct of two cells. -/
theorem setF2_ {rest : List Oper} {T U : TypeId} {q : Tmp} {x : Operand} {g i : Nat} {cs : Array Value} {v u : Value} (ho : o.op = .store T (.tmp q) x) (hd : o.dst = none) (hg : o.guard = none) (hb : Box W g U cs)
  (hrun : (execOp a.eval o).run P W = .ok .skip ((W.setCell ⟨g, i, none⟩ v).setCell ⟨g, i + 1, none⟩ u)) (h : ∀ W', Box W' g U ((cs.setIfInBounds i v).setIfInBounds (i + 1) u) → Put1 g W W' → wpList P ops Q rest a W') : wpList P ops Q (o :: rest) a W := by
 refine store_event hg ho hd hrun fun w' hw => ?_
 subst hw
 exact h _ (blk_set (blk_set hb i v) (i + 1) u) ⟨rfl, rfl, rfl, by simp [World.setCell], fun j hj => (Below.heap_setCell _ _ _ _ hj).trans (Below.heap_setCell _ _ _ _ hj)⟩
theorem Box.cell {W : World} {g : Nat} {T : TypeId} {cs : Array Value} (h : Box W g T cs) (i : Nat) (v : Value) (hv : cs[i]? = some v) : W.cell? ⟨g, i, none⟩ = some v ∧ W.frozen? ⟨g, i, none⟩ = false := ⟨(blk_cell h i).trans hv, blk_frozen h i⟩
end

section
variable {ops : Array Oper} {o : Oper} {b : Act}
end
section
variable {P : Program} {ops : Array Oper} {o : Oper} {b : Act} {W : World} {Ψ : Value → World → Prop}
theorem stepVal {v : Value} (hw : Region.wanted o (yielded ops b.tmps) = true) (hrun : (execOp b.eval o).run P W = .ok (.value v) W) (h : Ψ v W) : StepOK P ops o b W Ψ := fun K Q hK => value_ hw rfl hrun (hK v W h)
theorem stepGet {T : TypeId} {x : Operand} (hw : Region.wanted o (yielded ops b.tmps) = true) (ho : o.op = .load T x) {g : Nat} {cs : Array Value} (hx : b.eval x = .pointer (some ⟨g, 0, none⟩)) (hb : Box W g T cs) {d : TypeDesc} (hu : P.underlying T = some d) (hr : d.isRow = true)
  (hi : (P.info? T).map (·.size) = some cs.size) (h : Ψ (.agg cs) W) : StepOK P ops o b W Ψ := by
 refine stepVal hw ?_ h
 have := run_loadVar_mid (P := P) W g 0 T cs.toList d (Box.range hb) hu hr (by simpa using hi)
 unfold execOp
 simp only [ho, hx, Instr.loadAt, Instr.sureAddr, Sem.run_bind, Sem.run_pure, Result.andThen_ok, this]
theorem stepCall {f : FuncId} {fn : Func} {ys : Array Operand} {ts : Array TypeId} (hw : Region.wanted o (yielded ops b.tmps) = true) (hf : P.funcs[f]? = some fn) (hname : (fn.name == "runtime.NumGoroutine") = false) (hbd : fn.body.isSome = true) (args : Array Value)
  (hop : o.op = .call { callee := .value (.func f), args := ys, argTypes := ts }) (hargs : ys.map b.eval = args) {R : Ending → World → Prop} (hc : Calls P f args W R) (h : ∀ e w', R e w' → ∃ v, e = .returned v ∧ Ψ v w') : StepOK P ops o b W Ψ :=
 fun K Q hK => goes_ hf hname hbd args hw rfl hop hargs (hc.mono fun e w' hr => by
  obtain ⟨v, rfl, hv⟩ := h e w' hr
  exact ⟨v, rfl, hK v w' hv⟩)
end
/-- What stays, as memory is made. -/
def Lasts (p : World → Prop) : Prop := ∀ W W', Below W.heap.size W W' → p W → p W'
theorem Lasts.const (p : Prop) : Lasts fun _ => p := fun _ _ _ h => h
theorem Lasts.below (w : World) : Lasts fun W => Below w.heap.size w W := fun _ _ hb h => h.trans (hb.mono h.size)
/-- Facts of values, one by one. -/
def FAt (Fs : List (Value → World → Prop)) (i : Nat) (v : Value) (W : World) : Prop := Fs.getD i (fun _ _ => True) v W
def LastAll : List (Value → World → Prop) → Prop
 | [] => True
 | F :: r => (∀ v, Lasts (F v)) ∧ LastAll r
theorem FAt.last : ∀ (Fs : List (Value → World → Prop)), LastAll Fs → ∀ i v a b, Below a.heap.size a b → FAt Fs i v a → FAt Fs i v b
 | [], _, _, _, _, _, _, _ => trivial
 | F :: r, h, 0, v, a, b, hb, hf => h.1 v a b hb hf
 | F :: r, h, i + 1, v, a, b, hb, hf => FAt.last r h.2 i v a b hb hf
section
variable {P : Program} {ops : Array Oper} {Q : Exit → Act → World → Prop}
/-- A region that draws its order, where nothing but new memory is written: p is what is known of the world. -/
theorem weaveB_ {id : Nat} {a0 : Act} {w : World} (p : World → Prop) (hp : Lasts p) (h0 : p w) (ds : List (Tmp × Nat)) (Fs : List (Value → World → Prop)) (hm : P.follows .mixedOrders = true) (hB : weaveB ops ds = true) (hF : LastAll Fs)
  (hstep : OpsAll (fun i o => ∀ vs W, p W → (∀ j ∈ waitsOn o, FAt Fs j (vs j) W) → ∀ b, Sees a0 ds o vs b → StepOK P ops o b W fun v W' => Below W.heap.size W W' ∧ FAt Fs i v W') ops.toList 0)
  (hend : ∀ (vs : Nat → Value) W, p W → (∀ j, j < ops.size → FAt Fs j (vs j) W) → Q .normal (putL a0 (ds.map fun q => (q.1, vs q.2))) W) : (Code.region id ops true).wp P Q a0 w :=
 weaveR (fun a b => Below a.heap.size a b) (FAt Fs) ds hm hB (fun w => Below.refl _ _) (fun a b c h k => h.trans (k.mono h.size)) (fun i v a b h => FAt.last Fs hF i v a b h)
  (OpsAll.imp (fun i o h vs W hW hv => h vs W (hp _ _ hW (hp _ _ (drew_below w) h0)) hv) _ _ hstep) (fun vs W hW hv => hend vs W (hp _ _ hW (hp _ _ (drew_below w) h0)) hv)
end

/-- What is known of a value: it lasts as memory is made; what it leads to lies in ok, and no store elsewhere touches it. -/
structure Good (F : Value → World → (Nat → Prop) → Prop) : Prop where
 last : ∀ v ok W W', Below W.heap.size W W' → F v W ok → F v W' ok
 mono : ∀ v W ok ok', (∀ k, ok k → ok' k) → F v W ok → F v W ok'
 bound : ∀ v W ok, F v W ok → F v W fun k => ok k ∧ k < W.heap.size
 far : ∀ v W W' ok g, Put1 g W W' → ¬ ok g → F v W ok → F v W' ok
section
variable {P : Program} {ops : Array Oper} {Q : Exit → Act → World → Prop}
end
end Go.Proofs.YtendbgedpjcocaaGreatDoor.B
/- Contracts of Go's library, laid out of the kit's shelf at this seat's program. -/
namespace Go.Proofs
open Go Go.Shelf Go.RowKit Go.Lib
def Tryz.laysNm215_ren : Go.Shelf.Ren := ⟨fun | 15 => 80 | n => n, fun | 22 => 28 | 3 => 3 | 4 => 4 | n => n, fun | n => n⟩
theorem Tryz.laysNm215 : Go.Proofs.Lays2.n15 Tryz.prog Tryz.laysNm215_ren := {
 mixed := by kernel_rfl
 f15 := Tryz.func80.trans (congrArg some (by kernel_rfl))
 t3 := Tryz.underlying3
 a3 := Tryz.isAgg3
 z3 := Tryz.sizeOf3
 v3 := Tryz.zeroValue3
 t4 := Tryz.underlying4
 a4 := Tryz.isAgg4
 z4 := Tryz.sizeOf4
 v4 := Tryz.zeroValue4
 t22 := Tryz.underlying28
 a22 := Tryz.isAgg28
 z22 := Tryz.sizeOf28
 v22 := Tryz.zeroValue28
 i3 := by kernel_rfl }
theorem Tryz.slices_Clone_int (b off n c : Nat) (zs : List Int) (w : World) (hz : n ≤ zs.length) (hbig : n * 8 ≤ 140737488355328) (hc : ∀ j, j < zs.length → w.cell? ⟨b, off + j, none⟩ = some (.int .i64 (zs.getD j 0))) :
  Calls Tryz.prog 80 #[.slice (some ⟨b, off, none⟩) n c] w fun e w' => ∃ v', e = .returned v' ∧ w'.ownsRow w.heap.size 3 1 v' n ((zs.take n).map (Value.int .i64)) ∧ v' ≠ .slice none 0 0 ∧ Below w.heap.size w w' := Any.slices_Clone_int Tryz.laysNm215 b off n c zs w hz hbig hc
end Go.Proofs
/- The draws of numbers, places and expressions end. -/
namespace Go.Proofs.YtendbgedpjcocaaGreatDoor.B
open Go.RowKit Go.Proofs.YtendbgedpjcocaaGreatDoorW.PrintWords Go.Proofs.YtendbgedpjcocaaGreatDoorW.PrintLast Go.Proofs.YtendbgedpjcocaaGreatDoorW.PrintMore
set_option linter.unusedVariables false

/-- A tree whose lists are short indeed. -/
inductive Tiny : Ex → Prop
 | mk (e : Ex) : e.f3.length ≤ 1000 → (∀ x ∈ e.f3, Tiny x) → Tiny e
theorem Tiny.short {e : Ex} (h : Tiny e) : Short e := by
 induction h with
 | mk e hl _ ih => exact .mk e (by omega) ih
theorem rd_mem (l : List Int) (i : Int) (h0 : 0 ≤ i) (h1 : i < l.length) : rd l i ∈ l := by
 have : i.toNat < l.length := by omega
 have e : rd l i = l[i.toNat] := by simp [rd, this]
 rw [e]; exact List.getElem_mem this
theorem num_total (s : List Int) (hs : Bytes s) (hl : s.length ≤ 2000) (p : Int) (hp : 0 ≤ p) (hp1 : p < 1099511627776) (l : List Int) (h1 : 1 ≤ l.length) (h2 : l.length < 1000) :
  ∃ x, x ∈ l ∧ ∀ k, spec_l12Rd_num.f (k + 1) s p l = some (x, p + 1) := by
 obtain ⟨r, r0, r1, hr⟩ := pick_total s hs hl p l.length hp hp1 (by omega) (by omega)
 refine ⟨rd l r, rd_mem l r r0 r1, fun k => ?_⟩
 rw [spec_l12Rd_num.f, hr k]
 simp only [Option.bind_some, if_pos r0, if_pos r1]
theorem addr_total (s : List Int) (hs : Bytes s) (hl : s.length ≤ 2000) (p : Int) (hp : 0 ≤ p) (hp1 : p < 1099511627770) :
  ∃ a b : Int, (1 ≤ a ∧ a ≤ 3) ∧ (0 ≤ b ∧ b < 3) ∧ ∀ k, spec_l2Addr.f (k + 1) s p = some (a, b, p + 2) := by
 obtain ⟨r, r0, r1, hr⟩ := pick_total s hs hl p 3 hp (by omega) (by omega) (by omega)
 obtain ⟨q, q0, q1, hq⟩ := pick_total s hs hl (p + 1) 3 (by omega) (by omega) (by omega) (by omega)
 refine ⟨1 + r, q, by omega, by omega, fun k => ?_⟩
 rw [spec_l2Addr.f, hr k]
 simp only [Option.bind_some]
 rw [hq k]
 simp only [Option.bind_some]
 rw [wrap_id (by omega) (by omega), show p + 1 + 1 = p + 2 by omega]
/-- What a draw of an expression leaves. -/
def Drew1 (o : Option (Int × Int × Int × Int × List Ex × Int)) (e : Ex) (p : Int) : Prop := o = some (e.f0, e.f1, e.f2.f0, e.f2.f1, e.f3, p)
theorem leaf_total (s : List Int) (hs : Bytes s) (hl : s.length ≤ 2000) (p : Int) (hp : 0 ≤ p) (hp1 : p < 1099511627000) (a1 : Int) :
  ∃ (e : Ex) (p' : Int), Tiny e ∧ p ≤ p' ∧ p' ≤ p + 3 ∧ ∀ k, Drew1 (spec_l3Expr.j0 (k + 2) a1 true s p) e p' := by
 obtain ⟨r, r0, r1, hr⟩ := pick_total s hs hl p 3 hp (by omega) (by omega) (by omega)
 by_cases hz : r = 0
 ·obtain ⟨x, hx, hn⟩ := num_total s hs hl (p + 1) (by omega) (by omega) [0, 1, 2, 3, (-1), 5, 1000000] (by simp) (by simp)
  refine ⟨⟨1, x, ⟨0, 0⟩, []⟩, p + 1 + 1, .mk _ (by simp) (by simp), by omega, by omega, fun k => ?_⟩
  unfold Drew1
  rw [spec_l3Expr.j0, if_pos rfl, hr k]
  simp only [Option.bind_some, if_pos hz]
  rw [hn k]; rfl
 ·obtain ⟨a, b, ha, hb, hq⟩ := addr_total s hs hl (p + 1) (by omega) (by omega)
  refine ⟨⟨2, 0, ⟨a, b⟩, []⟩, p + 1 + 2, .mk _ (by simp) (by simp), by omega, by omega, fun k => ?_⟩
  unfold Drew1
  rw [spec_l3Expr.j0, if_pos rfl, hr k]
  simp only [Option.bind_some, if_neg hz]
  rw [hq k]; rfl
theorem mono_ef (s : List Int) (p a : Int) : ∀ k, LeO (spec_l3Expr.f k s p a) (spec_l3Expr.f (k + 1) s p a) := fun k => (spec_l3Expr.mono_l k).1 s p a
theorem mono_el (x n : Int) (s : List Int) (p a b c d : Int) (l : List Ex) : ∀ k, LeO (spec_l3Expr.l0 k x n s p a b c d l) (spec_l3Expr.l0 (k + 1) x n s p a b c d l) := fun k => (spec_l3Expr.mono_l k).2.2 x n s p a b c d l
def bnd : Nat → Int
 | 0 => 10
 | d + 1 => 10 + 2 * bnd d
theorem kids_total (s : List Int) (d : Nat) (kd : Int) (B : Int) (hB : 0 ≤ B) (ih : ∀ p : Int, 0 ≤ p → p + B < 1099510000000 → ∃ (e : Ex) (p' : Int) (k : Nat), Tiny e ∧ p ≤ p' ∧ p' ≤ p + B ∧ Drew1 (spec_l3Expr.f k s p d) e p') (hd : d < 1000) :
  ∀ (n : Nat) (p : Int) (acc : List Ex), 0 ≤ p → p + n * B < 1099510000000 → acc.length + n ≤ 2 → (∀ x ∈ acc, Tiny x) →
   ∃ (l : List Ex) (p' : Int) (k : Nat), l.length = acc.length + n ∧ (∀ x ∈ l, Tiny x) ∧ p ≤ p' ∧ p' ≤ p + n * B ∧ spec_l3Expr.l0 k ((d : Int) + 1) n s p kd 0 0 0 acc = some (kd, 0, 0, 0, l, p') := by
 intro n
 induction n with
 | zero =>
  intro p acc hp hpb ha hacc
  exact ⟨acc, p, 1, by omega, hacc, by omega, by omega, by rw [spec_l3Expr.l0, if_neg (by omega)]⟩
 | succ n ihn =>
  intro p acc hp hpb ha hacc
  have e1 : ((n + 1 : Nat) : Int) * B = n * B + B := by rw [Int.natCast_add, Int.add_mul]; simp
  have nb : 0 ≤ (n : Int) * B := Int.mul_nonneg (by omega) hB
  rw [e1] at hpb
  obtain ⟨e, p1, k1, he, q1, q2, hk1⟩ := ih p hp (by omega)
  obtain ⟨l, p2, k2, hl1, hl2, q3, q4, hk2⟩ := ihn p1 (acc ++ [e]) (by omega) (by omega) (by simp; omega) (by intro x hx; rcases List.mem_append.1 hx with hx | hx; exact hacc x hx; simp at hx; rw [hx]; exact he)
  refine ⟨l, p2, k1 + k2 + 1, by rw [hl1]; simp; omega, hl2, by omega, by rw [e1]; omega, ?_⟩
  unfold Drew1 at hk1
  rw [spec_l3Expr.l0, if_pos (by omega), show (d : Int) + 1 - 1 = d by omega, wrap_id (n := (d : Int)) (by omega) (by omega), up_le (mono_ef _ _ _) (Nat.le_add_right k1 k2) hk1]
  simp only [Option.bind_some]
  rw [if_pos (by omega), show (((n + 1 : Nat) : Int) - 1) = (n : Int) by omega, wrap_id (n := (n : Int)) (by omega) (by omega)]
  have eta : (⟨e.f0, e.f1, ⟨e.f2.f0, e.f2.f1⟩, e.f3⟩ : Ex) = e := by cases e with | mk a b c l => cases c; rfl
  rw [eta]
  exact up_le (mono_el _ _ _ _ _ _ _ _ _) (Nat.le_add_left k2 k1) hk2
theorem bnd_pos (d : Nat) : 10 ≤ bnd d := by
 induction d with
 | zero => simp [bnd]
 | succ d ih => simp [bnd]; omega
theorem bnd_le (d : Nat) : d ≤ 10 → bnd d ≤ 100000 := by
 intro h
 have : d = 0 ∨ d = 1 ∨ d = 2 ∨ d = 3 ∨ d = 4 ∨ d = 5 ∨ d = 6 ∨ d = 7 ∨ d = 8 ∨ d = 9 ∨ d = 10 := by omega
 rcases this with rfl | rfl | rfl | rfl | rfl | rfl | rfl | rfl | rfl | rfl | rfl <;> decide
theorem expr_total (s : List Int) (hs : Bytes s) (hl : s.length ≤ 2000) (d : Nat) : d ≤ 10 → ∀ p : Int, 0 ≤ p → p + bnd d < 1099510000000 → ∃ (e : Ex) (p' : Int) (k : Nat), Tiny e ∧ p ≤ p' ∧ p' ≤ p + bnd d ∧ Drew1 (spec_l3Expr.f k s p d) e p' := by
 induction d with
 | zero =>
  intro _ p hp hp1
  have h10 := bnd_pos 0
  obtain ⟨e, p', he, q1, q2, h⟩ := leaf_total s hs hl p hp (by omega) 0
  refine ⟨e, p', 3, he, q1, by simp only [bnd]; omega, ?_⟩
  have := h 0
  unfold Drew1 at this ⊢
  rw [spec_l3Expr.f, if_pos (by omega)]
  exact this
 | succ d ih =>
  intro hd p hp hp1
  have hb := bnd_pos d
  have hb2 := bnd_le d (by omega)
  have hbd : bnd (d + 1) = 10 + 2 * bnd d := rfl
  by_cases h0 : d = 0
  ·subst h0
   obtain ⟨e, p', he, q1, q2, h⟩ := leaf_total s hs hl p hp (by omega) 1
   refine ⟨e, p', 3, he, q1, by omega, ?_⟩
   have := h 0
   unfold Drew1 at this ⊢
   rw [spec_l3Expr.f, if_pos (by omega)]
   exact this
  ·obtain ⟨r, r0, r1, hr⟩ := pick_total s hs hl p 4 hp (by omega) (by omega) (by omega)
   by_cases hz : r = 0
   ·obtain ⟨e, p', he, q1, q2, h⟩ := leaf_total s hs hl (p + 1) (by omega) (by omega) ((d + 1 : Nat) : Int)
    refine ⟨e, p', 3, he, by omega, by omega, ?_⟩
    have := h 0
    unfold Drew1 at this ⊢
    rw [spec_l3Expr.f, if_neg (by omega), hr 1]
    simp only [Option.bind_some, hz]
    exact this
   ·obtain ⟨x, hx, hn⟩ := num_total s hs hl (p + 1) (by omega) (by omega) [3, 3, 4, 5, 6, 6, 7, 8, 9, 10] (by simp) (by simp)
    have hx' : 3 ≤ x ∧ x ≤ 10 := by
     simp only [List.mem_cons, List.mem_nil_iff, or_false] at hx
     omega
    have hk2 : kidsN x = 1 ∨ kidsN x = 2 := by
     unfold kidsN
     rw [if_neg (by omega)]
     split
     ·exact .inr rfl
     ·exact .inl rfl
    obtain ⟨n, hn2, hnk⟩ : ∃ n : Nat, n ≤ 2 ∧ kidsN x = (n : Int) := by
     rcases hk2 with h | h
     ·exact ⟨1, by omega, by rw [h]; rfl⟩
     ·exact ⟨2, by omega, by rw [h]; rfl⟩
    have hmul : (n : Int) * bnd d ≤ 2 * bnd d := Int.mul_le_mul_of_nonneg_right (by omega) (by omega)
    obtain ⟨l, p', k, hl1, hl2, q1, q2, h⟩ := kids_total s d x (bnd d) (by omega) (fun q hq0 hq1 => ih (by omega) q hq0 hq1) (by omega) n (p + 2) [] (by omega) (by omega) (by simpa using hn2) (by simp)
    simp only [List.length_nil, Nat.zero_add] at hl1
    refine ⟨⟨x, 0, ⟨0, 0⟩, l⟩, p', k + 4, .mk _ (by show l.length ≤ _; omega) hl2, by omega, by omega, ?_⟩
    unfold Drew1
    have hz' : (r == 0) = false := beq_false_of_ne hz
    have hko : kindOk x = true := by unfold kindOk; exact decide_eq_true (by omega)
    rw [spec_l3Expr.f, if_neg (by omega), hr (k + 2)]
    simp only [Option.bind_some, hz']
    rw [spec_l3Expr.j0, if_neg (by decide), hn (k + 1)]
    simp only [Option.bind_some]
    rw [l3Kids_is (k + 1), hko, if_pos rfl, hnk]
    simp only [Option.bind_some]
    rw [show p + 1 + 1 = p + 2 by omega, show ((d + 1 : Nat) : Int) = (d : Int) + 1 by omega]
    exact up_le (mono_el _ _ _ _ _ _ _ _ _) (by omega) h
end Go.Proofs.YtendbgedpjcocaaGreatDoor.B
/- The draws of what is ok, and the copies, end. -/
namespace Go.Proofs.YtendbgedpjcocaaGreatDoor.B
open Go.RowKit Go.Proofs.YtendbgedpjcocaaGreatDoorW.PrintWords Go.Proofs.YtendbgedpjcocaaGreatDoorW.PrintLast Go.Proofs.YtendbgedpjcocaaGreatDoorW.PrintMore
set_option linter.unusedVariables false

theorem some_total (s : List Int) (hs : Bytes s) (hl : s.length ≤ 2000) (p : Int) (hp : 0 ≤ p) (hp1 : p < 1099500000000) :
  ∃ (e : Ex) (p' : Int) (k : Nat), Tiny e ∧ p ≤ p' ∧ p' ≤ p + 200002 ∧ Drew1 (spec_l3Some.f k s p) e p' := by
 obtain ⟨r, r0, r1, hr⟩ := pick_total s hs hl p 4 hp (by omega) (by omega) (by omega)
 obtain ⟨d, hd⟩ := Int.eq_ofNat_of_zero_le r0
 have hd4 : d < 4 := by omega
 have b1 := bnd_le (d + 1) (by omega)
 have b2 := bnd_le 2 (by omega)
 have b3 := bnd_pos (d + 1)
 have b4 := bnd_pos 2
 obtain ⟨e, p1, k1, he, q1, q2, h1⟩ := expr_total s hs hl (d + 1) (by omega) (p + 1) (by omega) (by omega)
 obtain ⟨k2, h2⟩ := exprOk_spec e he.short
 obtain ⟨e', p2, k3, he', q3, q4, h3⟩ := expr_total s hs hl 2 (by omega) p1 (by omega) (by omega)
 unfold Drew1 at h1 h3
 have m1 : spec_l3Expr.f (k1 + k2 + k3 + 1) s (p + 1) ((d + 1 : Nat) : Int) = _ := up_le (mono_ef _ _ _) (by omega) h1
 have m2 : spec_ExprOk.f (k1 + k2 + k3 + 1) e.f0 e.f1 e.f2.f0 e.f2.f1 e.f3 = _ := up_le (f := fun k => spec_ExprOk.f k e.f0 e.f1 e.f2.f0 e.f2.f1 e.f3) (fun k => spec_ExprOk.mono _ _ _ _ _ k) (show k2 ≤ k1 + k2 + k3 + 1 by omega) h2
 have m3 : spec_l3Expr.f (k1 + k2 + k3 + 1) s p1 2 = _ := up_le (mono_ef _ _ _) (by omega) h3
 have e1 : wrap64 (1 + r) = ((d + 1 : Nat) : Int) := by rw [wrap_id (by omega) (by omega)]; omega
 cases hv : (formS 6 e && decide (manyS 6 e ≤ 14)) with
 | true =>
  refine ⟨e, p1, k1 + k2 + k3 + 1, he, by omega, by omega, ?_⟩
  unfold Drew1
  rw [spec_l3Some.f, hr (k1 + k2 + k3)]
  simp only [Option.bind_some]
  rw [e1, m1]
  simp only [Option.bind_some]
  rw [m2, hv]
  simp
 | false =>
  refine ⟨e', p2, k1 + k2 + k3 + 1, he', by omega, by omega, ?_⟩
  unfold Drew1
  rw [spec_l3Some.f, hr (k1 + k2 + k3)]
  simp only [Option.bind_some]
  rw [e1, m1]
  simp only [Option.bind_some]
  rw [m2, hv]
  simp only [Option.bind_some, Bool.false_eq_true, if_false]
  rw [m3]
  simp

theorem addrBent_total (s : List Int) (hs : Bytes s) (hl : s.length ≤ 2000) (p : Int) (hp : 0 ≤ p) (hp1 : p < 1099500000000) :
  ∃ (a b p' : Int), p ≤ p' ∧ p' ≤ p + 4 ∧ ∀ k, spec_l2AddrBent.f (k + 1) s p = some (a, b, p') := by
 obtain ⟨a, b, ha, hb, hq⟩ := addr_total s hs hl p hp (by omega)
 obtain ⟨r, r0, r1, hr⟩ := pick_total s hs hl (p + 2) 16 (by omega) (by omega) (by omega) (by omega)
 obtain ⟨x, hx, hn⟩ := num_total s hs hl (p + 2 + 1) (by omega) (by omega) [0, 4, (-1)] (by simp) (by simp)
 obtain ⟨y, hy, hm⟩ := num_total s hs hl (p + 2 + 1) (by omega) (by omega) [(-1), 6, 5] (by simp) (by simp)
 by_cases h0 : r = 0
 ·refine ⟨x, b, p + 2 + 1 + 1, by omega, by omega, fun k => ?_⟩
  rw [spec_l2AddrBent.f, hq k]
  simp only [Option.bind_some]
  rw [hr k]
  simp only [Option.bind_some, if_pos h0]
  rw [hn k]; rfl
 ·by_cases h1 : r = 1
  ·refine ⟨a, y, p + 2 + 1 + 1, by omega, by omega, fun k => ?_⟩
   rw [spec_l2AddrBent.f, hq k]
   simp only [Option.bind_some]
   rw [hr k]
   simp only [Option.bind_some, if_neg h0, if_pos h1]
   rw [hm k]; rfl
  ·refine ⟨a, b, p + 2 + 1, by omega, by omega, fun k => ?_⟩
   rw [spec_l2AddrBent.f, hq k]
   simp only [Option.bind_some]
   rw [hr k]
   simp only [Option.bind_some, if_neg h0, if_neg h1]
theorem mono_cf (a b c d : Int) (l : List Ex) : ∀ k, LeO (spec_l3Copy.f k a b c d l) (spec_l3Copy.f (k + 1) a b c d l) := fun k => (spec_l3Copy.mono_l k).1 a b c d l
theorem mono_cl (x a b c d : Int) (l : List Ex) (a' b' c' d' : Int) (l' : List Ex) : ∀ k, LeO (spec_l3Copy.l0 k x a b c d l a' b' c' d' l') (spec_l3Copy.l0 (k + 1) x a b c d l a' b' c' d' l') := fun k => (spec_l3Copy.mono_l k).2 x a b c d l a' b' c' d' l'
theorem copy_total (e : Ex) (he : Tiny e) : ∃ k, spec_l3Copy.f k e.f0 e.f1 e.f2.f0 e.f2.f1 e.f3 = some (e.f0, e.f1, e.f2.f0, e.f2.f1, e.f3) := by
 induction he with
 | mk e hl hk ih =>
  have loop : ∀ (n j : Nat), n + j = e.f3.length → ∃ k, spec_l3Copy.l0 k j e.f0 e.f1 e.f2.f0 e.f2.f1 e.f3 e.f0 e.f1 e.f2.f0 e.f2.f1 (e.f3.take j) = some (e.f0, e.f1, e.f2.f0, e.f2.f1, e.f3) := by
   intro n
   induction n with
   | zero => intro j hj; exact ⟨1, by rw [spec_l3Copy.l0, if_neg (by omega), List.take_of_length_le (by omega)]⟩
   | succ n ihn =>
    intro j hj
    have hlt : j < e.f3.length := by omega
    obtain ⟨k1, h1⟩ := ih e.f3[j] (List.getElem_mem hlt)
    obtain ⟨k2, h2⟩ := ihn (j + 1) (by omega)
    refine ⟨k1 + k2 + 1, ?_⟩
    have eta : (⟨e.f3[j].f0, e.f3[j].f1, ⟨e.f3[j].f2.f0, e.f3[j].f2.f1⟩, e.f3[j].f3⟩ : Ex) = e.f3[j] := by cases e.f3[j] with | mk a b c l => cases c; rfl
    rw [spec_l3Copy.l0, if_pos (by omega), if_pos (by omega), rd_get e.f3 j hlt, up_le (mono_cf _ _ _ _ _) (Nat.le_add_right k1 k2) h1]
    simp only [Option.bind_some]
    rw [if_pos (by simp; omega), wrap_id (by omega) (by omega), eta, ← List.take_succ_eq_append_getElem hlt]
    exact up_le (mono_cl _ _ _ _ _ _ _ _ _ _ _) (Nat.le_add_left k2 k1) h2
  obtain ⟨k, h⟩ := loop e.f3.length 0 (by omega)
  exact ⟨k + 1, by rw [spec_l3Copy.f]; simpa using h⟩
end Go.Proofs.YtendbgedpjcocaaGreatDoor.B
/- impl.count: the walk. -/
namespace Go.Proofs.YtendbgedpjcocaaGreatDoor.B
open Go.RowKit Go.Shelf Go.Proofs.YtendbgedpjcocaaGreatDoorW.PrintWords Go.Proofs.YtendbgedpjcocaaGreatDoorW.PrintLast Go.Proofs.YtendbgedpjcocaaGreatDoorW.PrintMore
set_option linter.unusedVariables false

def stepD : Nat → St → Int → Bool × Int
 | 0, _, m => (false, m + 1)
 | d + 1, s, m => cntStep d s m
theorem stepD_stop (d : Nat) (l : List St) (m : Int) : l.foldl (fun r s => if r.1 then stepD d s r.2 else r) (false, m) = (false, m) := by
 induction l with
 | nil => rfl
 | cons a l ih => exact ih
theorem countL_fold (d : Nat) (l : List St) (m : Int) : countL d l m = l.foldl (fun r s => if r.1 then stepD d s r.2 else r) (true, m) := by
 cases d with
 | succ d => rfl
 | zero =>
  cases l with
  | nil => rfl
  | cons a l => rw [List.foldl_cons]; exact (stepD_stop 0 l (m + 1)).symm
theorem count_take (d : Nat) (l : List St) (m : Int) (j : Nat) (hj : j < l.length) (n : Int) (h : countL d (l.take j) m = (true, n)) : countL d (l.take (j + 1)) m = stepD d l[j] n := by
 rw [countL_fold] at h ⊢
 rw [List.take_succ_eq_append_getElem hj, List.foldl_append, h]; rfl
theorem count_stop (d : Nat) (l : List St) (m : Int) (j : Nat) (hj : j < l.length) (n n' : Int) (h : countL d (l.take j) m = (true, n)) (hs : stepD d l[j] n = (false, n')) : countL d l m = (false, n') := by
 have h1 := count_take d l m j hj n h
 rw [hs, countL_fold] at h1
 rw [countL_fold, ← List.take_append_drop (j + 1) l, List.foldl_append, h1, stepD_stop]
structure CntEnd (w0 w : World) (gm : Nat) (r : Bool × Int) (e : Ending) (w' : World) : Prop where
 e : e = .returned (.bool r.1)
 box : Boxed w' gm 3 (.int .i64 r.2)
 below : Below w0.heap.size w0 w'
 keep : KeepBut w w' gm none
def CntCon (d : Nat) : Prop := ∀ (l : List St) (A : Option Addr) (c gm : Nat) (deep m : Int) (w0 w : World), deep = 4 - d → 0 ≤ m → m ≤ 16 → w0.heap.size ≤ gm → Boxed w gm 3 (.int .i64 m) → Below w0.heap.size w0 w → Kd.C stK w0 A l.length l → l.length ≤ c →
 Calls Tryz.prog 67 #[.slice A l.length c, .int .i64 deep, .pointer (some ⟨gm, 0, none⟩)] w (CntEnd w0 w gm (countL d l m))
set_option maxRecDepth 100000 in
set_option maxHeartbeats 8000000 in
theorem count_step (hok : OkCon) (d : Nat) (hd : d ≤ 4) (ih : ∀ d', d = d' + 1 → CntCon d') : CntCon d := by
 intro l A c gm deep m w0 w hdeep hm0 hm1 hg hbox hB hC hc
 have hmax : l.length ≤ 9223372036854775807 := hC.2.1
 have HI := Aside0.mk (And.intro hdeep (And.intro hd (And.intro hm0 (And.intro hm1 (And.intro hg (And.intro hB (And.intro hC (And.intro hc hmax))))))))
 have HBX := Aside0.mk hbox
 clear hdeep hm0 hm1 hg hbox hB hC
 go_enter Tryz.func67, Tryz.ntmps67
 go_wp2
 go_loopw [8, 9, 12] (fun _ _ i wr => ∃ (j : Nat), i = .int .i64 j ∧ Aside0 (j ≤ l.length ∧ (∃ n, countL d (l.take j) m = (true, n) ∧ Boxed wr gm 3 (.int .i64 n)) ∧ Below w0.heap.size w0 wr ∧ KeepBut w wr gm none)) (fun _ _ i _ => l.length - (intOf i).toNat)
 case atStart => exact ⟨0, rfl, ⟨Nat.zero_le _, ⟨m, by cases d <;> rfl, HBX.out⟩, HI.out.2.2.2.2.2.1, KeepBut.refl _ _ _⟩⟩
 case round =>
  obtain ⟨j, rfl, HR⟩ := hrel
  by_cases hj : j < l.length
  ·obtain ⟨ad, A7, c7, A8, c8, A9, c9, hA, e0, e1, e2, e3, e4, e5, e6, e7, e8, e9, hl7, hi7, hl8, hi8, hl9, hi9⟩ := at_T35 HI.out.2.2.2.2.2.2.1 (j : Int) (by omega) (by omega)
   cases hA
   have hkid : rd_T35 l (j : Int) = l[j] := by simp [rd_T35, hj]
   have hb := HR.out.2.2.1
   replace e0 := (hb.cell (World.block_lt_of_cell? w0 _ e0)).trans e0
   replace e1 := (hb.cell (World.block_lt_of_cell? w0 _ e1)).trans e1
   replace e2 := (hb.cell (World.block_lt_of_cell? w0 _ e2)).trans e2
   replace e3 := (hb.cell (World.block_lt_of_cell? w0 _ e3)).trans e3
   replace e4 := (hb.cell (World.block_lt_of_cell? w0 _ e4)).trans e4
   replace e5 := (hb.cell (World.block_lt_of_cell? w0 _ e5)).trans e5
   replace e6 := (hb.cell (World.block_lt_of_cell? w0 _ e6)).trans e6
   replace e7 := (hb.cell (World.block_lt_of_cell? w0 _ e7)).trans e7
   replace e8 := (hb.cell (World.block_lt_of_cell? w0 _ e8)).trans e8
   replace e9 := (hb.cell (World.block_lt_of_cell? w0 _ e9)).trans e9
   rw [hkid] at e0 e1 e2 e3 e4 e5 e6 e7 e8 e9 hl7 hi7 hl8 hi8 hl9 hi9
   simp only [Int.toNat_natCast] at e0 e1 e2 e3 e4 e5 e6 e7 e8 e9
   obtain ⟨x, hx⟩ : ∃ x, x = l[j] := ⟨_, rfl⟩
   rw [← hx] at e0 e1 e2 e3 e4 e5 e6 e7 e8 e9 hl7 hi7 hl8 hi8 hl9 hi9
   obtain ⟨n, hn, hbn⟩ := HR.out.2.1
   have hmn := count_in d (l.take j) m HI.out.2.2.2.1
   rw [hn] at hmn
   have n16 : n ≤ 16 := (hmn.1 rfl).1
   have n0 : 0 ≤ n := by have h1 := (hmn.1 rfl).2; have h2 := HI.out.2.2.1; exact Int.le_trans h2 h1
   have HX := Aside0.mk (And.intro hx (And.intro hj (And.intro hn (And.intro n0 n16))))
   have HC := Aside0.mk (And.intro hi7 (And.intro hl7 (And.intro hi8 (And.intro hl8 (And.intro hi9 hl9)))))
   have HBN := Aside0.mk hbn
   clear hb hkid hx hi7 hl7 hi8 hl8 hi9 hl9 hn hbn hmn n0 n16
   go_upto_region 4 with (fail)
   have j1 := heap_alloc_new wr (.cells (stCells x A7 c7 A8 c8 A9 c9) 35)
   have hb1 : Below wr.heap.size wr (wr.alloc (.cells (stCells x A7 c7 A8 c8 A9 c9) 35)) := (Below.refl _ _).alloc (Nat.le_refl _) _
   unfold stCells at j1 hb1
   generalize wr.alloc (.cells #[.int .i64 x.f0, .int .i64 x.f1.f0, .int .i64 x.f1.f1, .int .i64 x.f2.f0, .int .i64 x.f2.f1, .int .i64 x.f2.f2.f0, .int .i64 x.f2.f2.f1, .slice A7 x.f2.f3.length c7, .slice A8 x.f3.length c8, .slice A9 x.f4.length c9] 35) = W1 at j1 hb1 ⊢
   have q0 : W1.cell? ⟨gm, 0, none⟩ = some (.int .i64 n) := Boxed.cell ((hb1.block _ HBN.out.lt).trans HBN.out)
   have q1 : W1.frozen? ⟨gm, 0, none⟩ = false := Boxed.frozen ((hb1.block _ HBN.out.lt).trans HBN.out)
   have n0 := HX.out.2.2.2.1
   have n16 := HX.out.2.2.2.2
   clear e0 e1 e2 e3 e4 e5 e6 e7 e8 e9
   go_upto_region 5 with (fail)
   have hgw : wr.heap.size ≠ gm := by have := HBN.out.lt; omega
   have j2 : (W1.setCell ⟨gm, 0, none⟩ (.int .i64 (n + 1))).heap[wr.heap.size]? = _ := blk_far j1 hgw _
   have bx2 : Boxed (W1.setCell ⟨gm, 0, none⟩ (.int .i64 (n + 1))) gm 3 (.int .i64 (n + 1)) := Boxed.set _ ((hb1.block _ HBN.out.lt).trans HBN.out)
   have hB2 : Below w0.heap.size w0 (W1.setCell ⟨gm, 0, none⟩ (.int .i64 (n + 1))) := below_set (HR.out.2.2.1.trans (hb1.mono HR.out.2.2.1.size)) HI.out.2.2.2.2.1
   have hK2 : KeepBut w (W1.setCell ⟨gm, 0, none⟩ (.int .i64 (n + 1))) gm none := KeepBut.set_ (HR.out.2.2.2.trans (KeepBut.of_below hb1 gm none) (.inl rfl)) 0 _
   generalize W1.setCell ⟨gm, 0, none⟩ (.int .i64 (n + 1)) = W2 at j2 bx2 hB2 hK2 ⊢
   have HW2 := Aside0.mk (And.intro j2 (And.intro bx2 (And.intro hB2 hK2)))
   have HG := Aside0.mk hgw
   clear q0 q1 j1 hb1 bx2 hB2 hK2 hgw
   obtain ⟨e0, e1, e2, e3, e4, e5, e6, e7, e8, e9, _⟩ := cel10 j2
   clear j2
   go_wp2_with fail
   refine (doing_any x A7 c7 A8 c8 A9 c9 W2).mono ?_
   rintro e w1 ⟨rfl, hb2⟩
   have j3 := (hb2.block _ (blk_lt HW2.out.1)).trans HW2.out.1
   have bx3 : Boxed w1 gm 3 (.int .i64 (n + 1)) := (hb2.block _ HW2.out.2.1.lt).trans HW2.out.2.1
   have q0 := Boxed.cell bx3
   have HW3 := Aside0.mk (And.intro j3 (And.intro bx3 (And.intro (HW2.out.2.2.1.trans (hb2.mono HW2.out.2.2.1.size)) (HW2.out.2.2.2.trans (KeepBut.of_below hb2 gm none) (.inl rfl)))))
   clear hb2 bx3 e0 e1 e2 e3 e4 e5 e6 e7 e8 e9 HW2 HBN
   obtain ⟨e0, e1, e2, e3, e4, e5, e6, e7, e8, e9, _⟩ := cel10 j3
   clear j3
   have HDV := Aside0.mk (show n + 1 > 16 → doV x A7 c7 A8 c8 A9 c9 = doV x A7 c7 A8 c8 A9 c9 from fun _ => rfl)
   by_cases h16 : n + 1 > 16
   ·have b16 : decide (16 < n + 1) = true := decide_eq_true h16
    have HS : Aside0 (stepD d x n = (false, n + 1)) := Aside0.mk (by
     cases d with
     | zero => rfl
     | succ d => show cntStep d x n = _; rw [cntStep, if_pos (by rw [decide_eq_true h16]; rfl)])
    clear h16
    obtain ⟨v, hv⟩ : ∃ v, v = doV x A7 c7 A8 c8 A9 c9 := ⟨_, rfl⟩
    rw [← hv]
    clear hv
    go_wp2
    go_ret
    exact ⟨by rw [count_stop d l m j HX.out.2.1 n (n + 1) HX.out.2.2.1 (by rw [← HX.out.1]; exact HS.out)]; rfl, by rw [count_stop d l m j HX.out.2.1 n (n + 1) HX.out.2.2.1 (by rw [← HX.out.1]; exact HS.out)]; exact HW3.out.2.1, HW3.out.2.2.1, HW3.out.2.2.2⟩
   ·have b16 : decide (16 < n + 1) = false := decide_eq_false h16
    have H16 := Aside0.mk h16; clear h16 HDV
    by_cases hd0 : d = 0
    ·have hdp : deep = 4 := by have := HI.out.1; omega
     have b4 : decide (4 ≤ deep) = true := decide_eq_true (by omega)
     have HS : Aside0 (stepD d x n = (false, n + 1)) := Aside0.mk (by rw [hd0]; rfl)
     clear hd0 hdp
     obtain ⟨v, hv⟩ : ∃ v, v = doV x A7 c7 A8 c8 A9 c9 := ⟨_, rfl⟩
     rw [← hv]
     clear hv
     go_wp2
     go_ret
     exact ⟨by rw [count_stop d l m j HX.out.2.1 n (n + 1) HX.out.2.2.1 (by rw [← HX.out.1]; exact HS.out)]; rfl, by rw [count_stop d l m j HX.out.2.1 n (n + 1) HX.out.2.2.1 (by rw [← HX.out.1]; exact HS.out)]; exact HW3.out.2.1, HW3.out.2.2.1, HW3.out.2.2.2⟩
    ·obtain ⟨d', hd'⟩ : ∃ d', d = d' + 1 := ⟨d - 1, by omega⟩
     have hdp : ¬ (4 ≤ deep) := by have := HI.out.1; omega
     have b4 : decide (4 ≤ deep) = false := decide_eq_false hdp
     have HD := Aside0.mk (And.intro hd' (ih d' hd'))
     have HDP := Aside0.mk hdp
     clear hd0 hdp hd'
     by_cases hk : x.f0 = 1 ∨ x.f0 = 2 ∨ x.f0 = 3
     rotate_left
     ·have hnil := do_nil x A7 c7 A8 c8 A9 c9 hk
      have HS : Aside0 (stepD d x n = (false, n + 1)) := Aside0.mk (by
       rw [HD.out.1]; show cntStep d' x n = _; rw [cntStep, if_pos (by rw [headSt, hnil.2]; simp)])
      rw [hnil.1]
      clear hk hnil
      go_wp2
      go_ret
      exact ⟨by rw [count_stop d l m j HX.out.2.1 n (n + 1) HX.out.2.2.1 (by rw [← HX.out.1]; exact HS.out)]; rfl, by rw [count_stop d l m j HX.out.2.1 n (n + 1) HX.out.2.2.1 (by rw [← HX.out.1]; exact HS.out)]; exact HW3.out.2.1, HW3.out.2.2.1, HW3.out.2.2.2⟩
     ·obtain ⟨T, v, fp, hdo⟩ := do_is x A7 c7 A8 c8 A9 c9 hk
      rw [hdo.v']
      have hm := hdo.m
      have hep := hdo.ep
      have HDO := Aside0.mk hdo
      clear hk hdo
      have HP := Aside0.mk (HDO.out.cp w1 (Kd.C_below HC.out.1 HW3.out.2.2.1) HC.out.2.1 (Kd.C_below HC.out.2.2.1 HW3.out.2.2.1) HC.out.2.2.2.1 (Kd.C_below HC.out.2.2.2.2.1 HW3.out.2.2.1) HC.out.2.2.2.2.2)
      cases hp : plainL x with
      | false =>
       have HS : Aside0 (stepD d x n = (false, n + 1)) := Aside0.mk (by
        rw [HD.out.1]; show cntStep d' x n = _; rw [cntStep, if_pos (by rw [headSt, hp]; simp)])
       have HPL := Aside0.mk hp; clear hp
       go_wp2_with fail
       refine HP.out.mono ?_
       clear HP
       rintro e w2 ⟨rfl, hb3⟩
       rw [HPL.out]
       have j4 := (hb3.block _ (blk_lt HW3.out.1)).trans HW3.out.1
       have bx4 : Boxed w2 gm 3 (.int .i64 (n + 1)) := (hb3.block _ HW3.out.2.1.lt).trans HW3.out.2.1
       have HW4 := Aside0.mk (And.intro j4 (And.intro bx4 (And.intro (HW3.out.2.2.1.trans (hb3.mono HW3.out.2.2.1.size)) (HW3.out.2.2.2.trans (KeepBut.of_below hb3 gm none) (.inl rfl)))))
       clear hb3 bx4 q0 e0 e1 e2 e3 e4 e5 e6 e7 e8 e9 j4
       go_wp2
       go_ret
       exact ⟨by rw [count_stop d l m j HX.out.2.1 n (n + 1) HX.out.2.2.1 (by rw [← HX.out.1]; exact HS.out)]; rfl, by rw [count_stop d l m j HX.out.2.1 n (n + 1) HX.out.2.2.1 (by rw [← HX.out.1]; exact HS.out)]; exact HW4.out.2.1, HW4.out.2.2.1, HW4.out.2.2.2⟩
      | true =>
       have HPL := Aside0.mk hp; clear hp
       go_wp2_with fail
       refine HP.out.mono ?_
       clear HP
       rintro e w2 ⟨rfl, hb3⟩
       rw [HPL.out]
       have j4 := (hb3.block _ (blk_lt HW3.out.1)).trans HW3.out.1
       have bx4 : Boxed w2 gm 3 (.int .i64 (n + 1)) := (hb3.block _ HW3.out.2.1.lt).trans HW3.out.2.1
       have HW4 := Aside0.mk (And.intro j4 (And.intro bx4 (And.intro (HW3.out.2.2.1.trans (hb3.mono HW3.out.2.2.1.size)) (HW3.out.2.2.2.trans (KeepBut.of_below hb3 gm none) (.inl rfl)))))
       clear hb3 bx4 q0 e0 e1 e2 e3 e4 e5 e6 e7 e8 e9
       obtain ⟨e0, e1, e2, e3, e4, e5, e6, e7, e8, e9, _⟩ := cel10 j4
       clear j4
       go_wp2_with fail
       refine (hok x.f2 A7 c7 w2 (Kd.C_below HC.out.1 HW4.out.2.2.1) HC.out.2.1).mono ?_
       rintro e w3 ⟨rfl, hb3⟩
       have j4 := (hb3.block _ (blk_lt HW4.out.1)).trans HW4.out.1
       have bx4 : Boxed w3 gm 3 (.int .i64 (n + 1)) := (hb3.block _ HW4.out.2.1.lt).trans HW4.out.2.1
       have HW5 := Aside0.mk (And.intro j4 (And.intro bx4 (And.intro (HW4.out.2.2.1.trans (hb3.mono HW4.out.2.2.1.size)) (HW4.out.2.2.2.trans (KeepBut.of_below hb3 gm none) (.inl rfl)))))
       clear hb3 bx4 e0 e1 e2 e3 e4 e5 e6 e7 e8 e9
       cases ho : okL 0 (partsL x.f2) with
       | false =>
        have HS : Aside0 (stepD d x n = (false, n + 1)) := Aside0.mk (by
         rw [HD.out.1]; show cntStep d' x n = _; rw [cntStep, if_pos (by rw [headSt, ho, Bool.and_false]; simp)])
        have HO := Aside0.mk ho; clear ho j4
        go_wp2
        go_ret
        exact ⟨by rw [count_stop d l m j HX.out.2.1 n (n + 1) HX.out.2.2.1 (by rw [← HX.out.1]; exact HS.out)]; rfl, by rw [count_stop d l m j HX.out.2.1 n (n + 1) HX.out.2.2.1 (by rw [← HX.out.1]; exact HS.out)]; exact HW5.out.2.1, HW5.out.2.2.1, HW5.out.2.2.2⟩
       | true =>
        have HS : Aside0 (stepD d x n = let r1 := countL d' x.f3 (n + 1); if r1.1 then countL d' x.f4 r1.2 else r1) := Aside0.mk (by
         rw [HD.out.1]; show cntStep d' x n = _; rw [cntStep, if_neg (by rw [headSt, HPL.out, ho, decide_eq_false (show ¬ (16 < n + 1) by have := H16.out; omega)]; simp)])
        have HO := Aside0.mk ho; clear ho
        obtain ⟨e0, e1, e2, e3, e4, e5, e6, e7, e8, e9, _⟩ := cel10 j4
        clear j4
        have dl : deep ≤ 4 := by have := HDP.out; omega
        have d0 : 0 ≤ deep := by have h1 := HI.out.1; have h2 := HI.out.2.1; omega
        have n17 : n + 1 ≤ 16 := by have := H16.out; omega
        have HCALL := Aside0.mk (HD.out.2 x.f3 A8 c8 gm (deep + 1) (n + 1) w0 w3 (by have h1 := HI.out.1; have h2 := HD.out.1; omega) (by have := HX.out.2.2.2.1; omega) n17 HI.out.2.2.2.2.1 HW5.out.2.1 HW5.out.2.2.1 HC.out.2.2.1 HC.out.2.2.2.1)
        go_wp2_with fail
        refine HCALL.out.mono ?_
        clear HCALL
        rintro e w4 ⟨rfl, hbx, hB4, hK4⟩
        have j4 := hK4.blk HW5.out.1 HG.out (by simp)
        have HW6 := Aside0.mk (And.intro hbx (And.intro hB4 (HW5.out.2.2.2.trans hK4 (.inl rfl))))
        have HJ4 := Aside0.mk j4
        have hin := count_in d' x.f3 (n + 1) n17
        have HIN := Aside0.mk hin
        clear hbx hB4 hK4 e0 e1 e2 e3 e4 e5 e6 e7 e8 e9 n17 hin dl d0
        obtain ⟨r1, hr1⟩ : ∃ r1, r1 = countL d' x.f3 (n + 1) := ⟨_, rfl⟩
        rw [← hr1] at HW6 HIN ⊢
        have HS1 : Aside0 (stepD d x n = if r1.1 then countL d' x.f4 r1.2 else r1) := Aside0.mk (by rw [HS.out, ← hr1])
        clear HS hr1
        obtain ⟨b1, n1⟩ := r1
        cases b1 with
        | false =>
         clear j4
         have HS2 : Aside0 (stepD d x n = (false, n1)) := Aside0.mk (by rw [HS1.out]; rfl)
         go_wp2
         go_ret
         exact ⟨by rw [count_stop d l m j HX.out.2.1 n n1 HX.out.2.2.1 (by rw [← HX.out.1]; exact HS2.out)]; rfl, by rw [count_stop d l m j HX.out.2.1 n n1 HX.out.2.2.1 (by rw [← HX.out.1]; exact HS2.out)]; exact HW6.out.1, HW6.out.2.1, HW6.out.2.2⟩
        | true =>
         obtain ⟨e0, e1, e2, e3, e4, e5, e6, e7, e8, e9, _⟩ := cel10 j4
         clear j4
         have HS2 : Aside0 (stepD d x n = countL d' x.f4 n1) := Aside0.mk (by rw [HS1.out]; rfl)
         have dl : deep ≤ 4 := by have := HDP.out; omega
         have d0 : 0 ≤ deep := by have h1 := HI.out.1; have h2 := HI.out.2.1; omega
         have n17 : n1 ≤ 16 := (HIN.out.1 rfl).1
         have HCALL := Aside0.mk (HD.out.2 x.f4 A9 c9 gm (deep + 1) n1 w0 w4 (by have h1 := HI.out.1; have h2 := HD.out.1; omega) (by have h1 := HX.out.2.2.2.1; have h2 := (HIN.out.1 rfl).2; omega) n17 HI.out.2.2.2.2.1 HW6.out.1 HW6.out.2.1 HC.out.2.2.2.2.1 HC.out.2.2.2.2.2)
         go_wp2_with fail
         refine HCALL.out.mono ?_
         clear HCALL
         rintro e w5 ⟨rfl, hbx, hB4, hK4⟩
         have HW7 := Aside0.mk (And.intro hbx (And.intro hB4 (HW6.out.2.2.trans hK4 (.inl rfl))))
         clear hbx hB4 hK4 e0 e1 e2 e3 e4 e5 e6 e7 e8 e9 n17 dl d0
         obtain ⟨r2, hr2⟩ : ∃ r2, r2 = countL d' x.f4 n1 := ⟨_, rfl⟩
         rw [← hr2] at HW7 HS2 ⊢
         clear hr2
         obtain ⟨b2, n2⟩ := r2
         cases b2 with
         | false =>
          go_wp2
          go_ret
          exact ⟨by rw [count_stop d l m j HX.out.2.1 n n2 HX.out.2.2.1 (by rw [← HX.out.1]; exact HS2.out)]; rfl, by rw [count_stop d l m j HX.out.2.1 n n2 HX.out.2.2.1 (by rw [← HX.out.1]; exact HS2.out)]; exact HW7.out.1, HW7.out.2.1, HW7.out.2.2⟩
         | true =>
          go_wp2
          go_roundw
          case rel => exact ⟨j + 1, by go_num, ⟨HX.out.2.1, ⟨n2, by rw [count_take d l m j HX.out.2.1 n HX.out.2.2.1, ← HX.out.1]; exact HS2.out, HW7.out.1⟩, HW7.out.2.1, HW7.out.2.2⟩⟩
          case measure => have := HX.out.2.1; simp [intOf]; omega
  ·have hjl : j = l.length := by have := HR.out.1; omega
   obtain ⟨n, hn, hbn⟩ := HR.out.2.1
   rw [hjl, List.take_of_length_le (Nat.le_refl _)] at hn
   have HN := Aside0.mk (And.intro hn hbn); clear hn hbn hjl
   go_wp2
   go_ret
   exact ⟨by rw [HN.out.1]; rfl, by rw [HN.out.1]; exact HN.out.2, HR.out.2.2.1, HR.out.2.2.2⟩
end Go.Proofs.YtendbgedpjcocaaGreatDoor.B
