/- Plain laws: the marks of a new chart; marks that are written and read back. -/
import Derived.Test.YtlmchfcfkfegaaaChOkSpec
import Derived.Test.YtlmchfcfkfegaaaZChOk
import Derived.Test.YtlmchfcfkfegaaaPkC
import Derived.Test.YtlmchfcfkfegaaaF16
import Derived.Test.YtlmchfcfkfegaaaPkD
namespace Go.Proofs.Ytlmchfcfkfegaaa.B
open Go.RowKit Go.Proofs.YtlmchfcfkfegaaaW.PrintWords Go.Proofs.YtlmchfcfkfegaaaW.PrintLast Go.Proofs.YtlmchfcfkfegaaaW.PrintMore
set_option linter.unusedVariables false

def newR (s : Int) (b : Bool) : List Bool × List Bool := if b = true then ((List.replicate (s : Int).toNat false).set (0 : Int).toNat true, List.replicate 6 false) else ([], [])
theorem chOk_steps {s : Int} {l : List ITr} {m : List IAc} (h : chOkL s l m = true) : 1 ≤ s ∧ s ≤ 6 := by
 unfold chOkL at h
 simp only [Bool.and_eq_true, Bool.not_eq_true', Bool.or_eq_false_iff, decide_eq_false_iff_not] at h
 omega
theorem newR_len (s : Int) (l : List ITr) (m : List IAc) : (newR s (chOkL s l m)).1.length ≤ 6 ∧ (newR s (chOkL s l m)).2.length ≤ 6 := by
 unfold newR
 cases h : chOkL s l m with
 | false => simp
 | true =>
  have := chOk_steps h
  rw [if_pos rfl]
  refine ⟨?_, by simp⟩
  rw [List.length_set, List.length_replicate]; omega
theorem l8New_is {s : Int} {l : List ITr} {m : List IAc} (h : chOkL s l m = true) : spec_l8New.f s l m = some (newR s true) := by
 have := chOk_steps h
 rw [spec_l8New.f, if_pos (by omega), if_pos (by omega), Option.bind_some, if_pos (by decide), if_pos (by rw [List.length_replicate]; omega)]
 rfl
theorem newMarks_is {s : Int} {l : List ITr} {m : List IAc} (h : chOkL s l m = true) : impl_newMarks.f s l m = some (newR s true) := by
 have := chOk_steps h
 rw [impl_newMarks.f, if_pos (by omega), if_pos (by omega), Option.bind_some, if_pos (by decide), if_pos (by rw [List.length_replicate]; omega)]
 rfl
theorem implNew_is (s : Int) (l : List ITr) (m : List IAc) : impl_ChartNew.f s l m = some (newR s (chOkL s l m)) := by
 rw [impl_ChartNew.f, impl_chartOk.f, Option.bind_some]
 cases h : chOkL s l m with
 | false => rfl
 | true => rw [if_pos rfl, newMarks_is h]; rfl
theorem specNew_is (s : Int) (l : List ITr) (m : List IAc) (ho : chOk l m) : Ends (fun k => spec_ChartNew.f k s l m) (newR s (chOkL s l m)) := by
 refine ((chOk_is s l m ho).bind (g := fun k t => if t = true then ((spec_l8New.f s l m).bind fun bt => some (bt.1, bt.2)) else some (([] : List Bool), ([] : List Bool))) ?_).of fun k => by rw [spec_ChartNew.f]
 cases h : chOkL s l m with
 | false => exact Ends.const fun k => rfl
 | true => exact Ends.const fun k => by rw [if_pos rfl, l8New_is h]; rfl
def markedB (a : Int) (n : Nat) : List Bool := (List.range n).map fun (j : Nat) => (Int.tmod (a + (j : Int)) 3 == 0)
theorem markedB_len (a : Int) (n : Nat) : (markedB a n).length = n := by simp [markedB]
theorem markedB_succ (a : Int) (n : Nat) : markedB a (n + 1) = markedB a n ++ [Int.tmod (a + (n : Int)) 3 == 0] := by simp [markedB, List.range_succ]
theorem markB_loop (l : List Bool) (a : Int) (ha : 0 ≤ a) (ha' : a + l.length ≤ 1000000000) : ∀ (d j : Nat), j + d = l.length → Ends (fun k => laws_markBoolS.l0 k (markedB a j ++ l.drop j) (a + j) j) (a + l.length, markedB a l.length) := by
 intro d
 induction d with
 | zero =>
  intro j hj
  obtain rfl : j = l.length := by omega
  refine Ends.succ (fun k => by rw [laws_markBoolS.l0, if_neg (by simp [markedB_len])]) (Ends.const fun k => ?_)
  rw [List.drop_length, List.append_nil]
 | succ d ih =>
  intro j hj
  have hlt : j < l.length := by omega
  refine Ends.succ (fun k => ?_) (ih (j + 1) (by omega))
  have hd : l.drop j = l[j] :: l.drop (j + 1) := List.drop_eq_getElem_cons hlt
  rw [laws_markBoolS.l0, if_pos (by rw [List.length_append, markedB_len, List.length_drop]; omega), if_pos (by omega), wrap_in (by omega) (by omega), wrap_in (by omega) (by omega), hd, Int.toNat_natCast, List.set_append_right _ _ (by rw [markedB_len]; omega), markedB_len, Nat.sub_self, List.set_cons_zero, markedB_succ, List.append_assoc, Int.add_assoc]
  rfl
theorem markB_is (l : List Bool) (a : Int) (ha : 0 ≤ a) (ha' : a + l.length ≤ 1000000000) : Ends (fun k => laws_markBoolS.f k l a) (a + l.length, markedB a l.length) := by
 refine (markB_loop l a ha ha' l.length 0 (by omega)).of fun k => ?_
 rw [laws_markBoolS.f]; simp [markedB]
theorem heldB_loop (a : Int) (n : Nat) (ha : 0 ≤ a) (ha' : a + n ≤ 1000000000) : ∀ (d j : Nat), j + d = n → Ends (fun k => laws_heldBoolS.l0 k (markedB a n) (a + j) j) (a + n) := by
 intro d
 induction d with
 | zero =>
  intro j hj
  obtain rfl : j = n := by omega
  exact Ends.succ (fun k => by rw [laws_heldBoolS.l0, if_neg (by simp [markedB_len])]) (Ends.const fun k => rfl)
 | succ d ih =>
  intro j hj
  have hlt : j < n := by omega
  refine Ends.succ (fun k => ?_) (ih (j + 1) (by omega))
  have hr : rdOf false (markedB a n) (j : Int) = (Int.tmod (a + (j : Int)) 3 == 0) := by simp [rdOf, markedB, hlt]
  rw [laws_heldBoolS.l0, if_pos (by rw [markedB_len]; omega), if_pos (by omega), hr, if_neg (by simp), wrap_in (by omega) (by omega), wrap_in (by omega) (by omega), Int.add_assoc]
  rfl
theorem heldB_is (a : Int) (n : Nat) (ha : 0 ≤ a) (ha' : a + n ≤ 1000000000) : Ends (fun k => laws_heldBoolS.f k (markedB a n) a) (a + n) := by
 refine (heldB_loop a n ha ha' n 0 (by omega)).of fun k => ?_
 rw [laws_heldBoolS.f]; simp
theorem markMarks_is (l m : List Bool) (hl : l.length ≤ 6) (hm : m.length ≤ 6) : Ends (fun k => laws_markMarks.f k l m 1) (1 + (l.length : Int) + m.length, markedB 1 l.length, markedB (1 + l.length) m.length) := by
 refine ((markB_is l 1 (by omega) (by omega)).bind (g := fun k bt => (laws_markBoolS.f k m bt.1).bind fun bt2 => some (bt2.1, bt.2, bt2.2)) ?_).of fun k => by rw [laws_markMarks.f]
 exact (markB_is m (1 + l.length) (by omega) (by omega)).bind (g := fun k bt2 => some (bt2.1, markedB 1 l.length, bt2.2)) (Ends.const fun k => rfl)
theorem heldMarks_is (n m : Nat) (hl : n ≤ 6) (hm : m ≤ 6) : Ends (fun k => laws_heldMarks.f k (markedB 1 n) (markedB (1 + n) m) 1) (1 + (n : Int) + m) := by
 refine ((heldB_is 1 n (by omega) (by omega)).bind (g := fun k t => if t < 0 then some (-1) else (laws_heldBoolS.f k (markedB (1 + n) m) t).bind fun t => if t < 0 then some (-1) else some t) ?_).of fun k => by rw [laws_heldMarks.f]
 refine ((heldB_is (1 + n) m (by omega) (by omega)).bind (g := fun k t => if t < 0 then some (-1) else some t) (Ends.const fun k => by rw [if_neg (by omega)])).of fun k => by rw [if_neg (by omega)]
theorem eqBs (l : List Bool) (hl : l.length ≤ 9223372036854775807) : Ends (fun k => laws_eqBoolS.f k l l) true := by
 have := all_loop (L := fun k j => laws_eqBoolS.l0 k l l j) (p := fun _ => true) (b := true) l.length (Ends.succ (fun k => by rw [laws_eqBoolS.l0, if_neg (by omega)]) (Ends.const fun k => rfl)) (fun j r hj hr => ?_)
 ·have h : ((List.range l.length).all fun _ => true) = true := by simp
  rw [h] at this
  exact this.of fun k => by rw [laws_eqBoolS.f, if_pos rfl]
 ·exact Ends.succ (fun k => by rw [laws_eqBoolS.l0, if_pos (by omega), if_pos (by omega), if_pos (by omega), if_neg (by simp), next_in hl hj]) (by rw [Bool.true_and]; exact hr)
theorem eqMks (l m : List Bool) (hl : l.length ≤ 6) (hm : m.length ≤ 6) : Ends (fun k => laws_eqMarks.f k l m l m) true :=
 (and_part (eqBs l (by omega)) (and_part (eqBs m (by omega)) (Ends.const fun k => rfl))).of fun k => by rw [laws_eqMarks.f]
end Go.Proofs.Ytlmchfcfkfegaaa.B
