import Derived.Test.YtendbgedpjcocaaGreatDoorB0
import Derived.Outline
import Derived.Test.YtendbgedpjcocaaGreatDoorJnB
import Derived.Test.YtendbgedpjcocaaGreatDoorJnI
import Derived.Test.YtendbgedpjcocaaGreatDoorJnG
import Derived.Test.YtendbgedpjcocaaGreatDoorPkA
import Derived.Ground.Names2Prog
import Derived.Shelf.Slices.Clone
import Derived.Ground.SlgnProg
import Derived.Shelf.SlicesE.Clone
import Derived.Test.YtendbgedpjcocaaGreatDoorProg
import Derived.Test.YtendbgedpjcocaaGreatDoorJnE
/- Worlds in which only whole numbers of some blocks have been written over: what the laws' own marks do. -/
namespace Go.Proofs.YtendbgedpjcocaaGreatDoor.B
open Go.RowKit Go.Proofs.YtendbgedpjcocaaGreatDoorW.PrintWords Go.Proofs.YtendbgedpjcocaaGreatDoorW.PrintLast Go.Proofs.YtendbgedpjcocaaGreatDoorW.PrintMore
set_option linter.unusedVariables false

def SameInt (a b : Option Value) : Prop := b = a ∨ ∃ z z' : Int, a = some (.int .i64 z) ∧ b = some (.int .i64 z')
/-- Elder blocks stay, but for whole numbers in blocks of F. -/
structure Ed (F : Nat → Prop) (w w' : World) : Prop where
 os : w'.os = w.os
 tape : w'.tape = w.tape
 output : w'.output = w.output
 size : w.heap.size ≤ w'.heap.size
 far : ∀ i, i < w.heap.size → ¬ F i → w'.heap[i]? = w.heap[i]?
 near : ∀ i (cs : Array Value) (t : TypeId), F i → w.heap[i]? = some (.cells cs t (0, 0)) → ∃ cs' : Array Value, w'.heap[i]? = some (.cells cs' t (0, 0)) ∧ cs'.size = cs.size ∧ ∀ j : Nat, SameInt cs[j]? cs'[j]?
theorem SameInt.trans {a b c : Option Value} (h : SameInt a b) (k : SameInt b c) : SameInt a c := by
 rcases h with rfl | ⟨z, z', rfl, rfl⟩
 ·exact k
 ·rcases k with rfl | ⟨y, y', h1, rfl⟩
  ·exact .inr ⟨z, z', rfl, rfl⟩
  ·exact .inr ⟨z, y', rfl, rfl⟩
theorem Ed.refl (F : Nat → Prop) (w : World) : Ed F w w := ⟨rfl, rfl, rfl, Nat.le_refl _, fun _ _ _ => rfl, fun i cs t _ h => ⟨cs, h, rfl, fun _ => .inl rfl⟩⟩
theorem Ed.trans {F : Nat → Prop} {w w1 w2 : World} (h : Ed F w w1) (k : Ed F w1 w2) : Ed F w w2 :=
 ⟨k.os.trans h.os, k.tape.trans h.tape, k.output.trans h.output, Nat.le_trans h.size k.size, fun i hi hn => (k.far i (Nat.lt_of_lt_of_le hi h.size) hn).trans (h.far i hi hn), fun i cs t hf hc => by
  obtain ⟨c1, h1, s1, q1⟩ := h.near i cs t hf hc
  obtain ⟨c2, h2, s2, q2⟩ := k.near i c1 t hf h1
  exact ⟨c2, h2, s2.trans s1, fun j => (q1 j).trans (q2 j)⟩⟩
theorem Ed.of_below {F : Nat → Prop} {w w' : World} (h : Below w.heap.size w w') : Ed F w w' :=
 ⟨h.os, h.tape, h.output, h.size, fun i hi _ => h.block i hi, fun i cs t _ hc => ⟨cs, (h.block i (blk_lt hc)).trans hc, rfl, fun _ => .inl rfl⟩⟩
theorem Ed.set {F : Nat → Prop} {w : World} {g t : Nat} {cur : Array Value} (hF : F g) (hb : w.heap[g]? = some (.cells cur t (0, 0))) (i : Nat) (z : Int) (hi : cur[i]? = some (.int .i64 z)) (z' : Int) : Ed F w (w.setCell ⟨g, i, none⟩ (.int .i64 z')) := by
 have hs : (w.setCell ⟨g, i, none⟩ (.int .i64 z')).heap[g]? = some (.cells (cur.setIfInBounds i (.int .i64 z')) t (0, 0)) := blk_set hb i _
 have ho : ∀ k, k ≠ g → (w.setCell ⟨g, i, none⟩ (.int .i64 z')).heap[k]? = w.heap[k]? := fun k hk => Below.heap_setCell w _ _ k hk
 refine ⟨rfl, rfl, rfl, ?_, fun k hk hn => ho k (fun h => hn (h ▸ hF)), fun k cs t' hf hc => ?_⟩
 ·refine Nat.le_of_not_lt (fun h => ?_)
  by_cases hg : (w.setCell ⟨g, i, none⟩ (.int .i64 z')).heap.size = g
  ·have := blk_lt hs; omega
  ·have h1 := ho _ hg
   rw [Array.getElem?_eq_none (Nat.le_refl _), Array.getElem?_eq_getElem h] at h1
   cases h1
 ·by_cases hk : k = g
  ·subst hk
   rw [hb] at hc
   injection hc with hc
   injection hc with h1 h2
   subst h1 h2
   refine ⟨_, hs, by simp, fun j => ?_⟩
   by_cases hj : i = j
   ·subst hj
    refine .inr ⟨z, z', hi, ?_⟩
    rw [Array.getElem?_setIfInBounds_self_of_lt]
    exact (Array.getElem?_eq_some_iff.1 hi).1
   ·exact .inl (Array.getElem?_setIfInBounds_ne hj)
  ·exact ⟨cs, (ho k hk).trans hc, rfl, fun _ => .inl rfl⟩
theorem Ed.below {F : Nat → Prop} {w w' : World} {B : Nat} (h : Ed F w w') (hF : ∀ b, F b → B ≤ b) (hB : B ≤ w.heap.size) : Below B w w' :=
 ⟨h.os, h.tape, h.output, h.size, fun k hk => h.far k (by omega) (fun hf => by have := hF k hf; omega)⟩
end Go.Proofs.YtendbgedpjcocaaGreatDoor.B
/- Plain law: count and the specification's reckoning of statements agree. -/
namespace Go.Proofs.YtendbgedpjcocaaGreatDoor.B
open Go.RowKit Go.Proofs.YtendbgedpjcocaaGreatDoorW.PrintWords Go.Proofs.YtendbgedpjcocaaGreatDoorW.PrintLast Go.Proofs.YtendbgedpjcocaaGreatDoorW.PrintMore
set_option linter.unusedVariables false

def stepOk (d : Nat) (s : ISt) : Bool := headSt s && (formT d s.f3 && formT d s.f4)
def stepN (d : Nat) (s : ISt) : Nat := 1 + manyT d s.f3 + manyT d s.f4
def CntR (r : Bool × Int) (b : Bool) (n : Int) : Prop := r.1 = (b && decide (n ≤ 16)) ∧ (r.1 = true → r.2 = n)
theorem step_law (d : Nat) (ih : ∀ (l : List ISt) (m : Int), m ≤ 16 → CntR (countL d l m) (formT d l) (m + manyT d l)) (s : ISt) (m : Int) (hm : m ≤ 16) : CntR (cntStep d s m) (stepOk d s) (m + stepN d s) := by
 unfold cntStep stepOk stepN
 by_cases h : (decide (m + 1 > 16) || !headSt s) = true
 ·rw [if_pos h]
  rw [Bool.or_eq_true, decide_eq_true_eq] at h
  refine ⟨?_, fun h => by cases h⟩
  rcases h with h | h
  ·rw [decide_eq_false (by omega), Bool.and_false]
  ·rw [Bool.not_eq_true'] at h
   rw [h]; rfl
 ·rw [if_neg h]
  simp only [Bool.or_eq_true, decide_eq_true_eq, not_or, Bool.not_eq_true', Bool.not_eq_false] at h
  rw [h.2, Bool.true_and]
  have h1 := ih s.f3 (m + 1) (by omega)
  cases hr : (countL d s.f3 (m + 1)).1 with
  | false =>
   simp only [hr]
   refine ⟨?_, fun h => by rw [if_neg (by simp)] at h; rw [hr] at h; cases h⟩
   rw [if_neg (by simp), hr]
   have := h1.1
   rw [hr] at this
   cases hf : formT d s.f3 with
   | false => rfl
   | true =>
    rw [hf, Bool.true_and] at this
    have := of_decide_eq_false this.symm
    rw [decide_eq_false (by omega), Bool.and_false]
  | true =>
   simp only [hr, if_true]
   have h2 := h1.2 hr
   have h3 := h1.1
   rw [hr] at h3
   have h4 := Bool.and_eq_true_iff.1 h3.symm
   have h5 := of_decide_eq_true h4.2
   have h6 := ih s.f4 (countL d s.f3 (m + 1)).2 (by rw [h2]; omega)
   rw [h4.1, Bool.true_and]
   rw [h2] at h6 ⊢
   rw [show m + ((1 + manyT d s.f3 + manyT d s.f4 : Nat) : Int) = m + 1 + (manyT d s.f3 : Int) + (manyT d s.f4 : Int) by omega]
   exact h6
theorem count_law (d : Nat) : ∀ (l : List ISt) (m : Int), m ≤ 16 → CntR (countL d l m) (formT d l) (m + manyT d l) := by
 induction d with
 | zero =>
  intro l m hm
  cases l with
  | nil => exact ⟨by show true = (true && decide (m + 0 ≤ 16)); rw [decide_eq_true (by omega)]; rfl, fun _ => by show m = m + 0; omega⟩
  | cons a l => exact ⟨rfl, fun h => by cases h⟩
 | succ d ih =>
  intro l
  induction l with
  | nil => intro m hm; exact ⟨by show true = (true && decide (m + 0 ≤ 16)); rw [decide_eq_true (by omega)]; rfl, fun _ => by show m = m + 0; omega⟩
  | cons a l ihl =>
   intro m hm
   have hs := step_law d ih a m hm
   rw [countL_succ, List.foldl_cons]
   have hf : formT (d + 1) (a :: l) = (stepOk d a && formT (d + 1) l) := rfl
   have hn : ((manyT (d + 1) (a :: l) : Nat) : Int) = (stepN d a : Int) + (manyT (d + 1) l : Int) := by
    have : manyT (d + 1) (a :: l) = stepN d a + manyT (d + 1) l := by
     rw [manyT, manyT, stepN, List.map_cons, List.sum_cons, List.length_cons]; omega
    omega
   rw [hf, hn]
   simp only [if_true]
   obtain ⟨r, hr⟩ : ∃ r, r = cntStep d a m := ⟨_, rfl⟩
   rw [← hr] at hs ⊢
   obtain ⟨b, n⟩ := r
   cases b with
   | false =>
    rw [cnt_stop]
    refine ⟨?_, fun h => by cases h⟩
    have h1 : false = (stepOk d a && decide (m + stepN d a ≤ 16)) := hs.1
    cases ha : stepOk d a with
    | false => rfl
    | true =>
     rw [ha, Bool.true_and] at h1
     have := of_decide_eq_false h1.symm
     rw [decide_eq_false (by omega), Bool.and_false]
   | true =>
    have h1 : true = (stepOk d a && decide (m + stepN d a ≤ 16)) := hs.1
    have h2 : n = m + stepN d a := hs.2 rfl
    have h4 := Bool.and_eq_true_iff.1 h1.symm
    have h5 := of_decide_eq_true h4.2
    have h6 := ihl n (by omega)
    rw [countL_succ] at h6
    rw [h4.1, Bool.true_and]
    rw [h2] at h6 ⊢
    rw [← Int.add_assoc]
    exact h6
/-- StmtsOk, StmtsMany: what they say. -/
theorem stOk_is (l : List ISt) : (countL 4 l 0).1 = (formT 4 l && decide (manyT 4 l ≤ 16)) := by
 rw [(count_law 4 l 0 (by omega)).1]
 congr 1
 by_cases h : manyT 4 l ≤ 16
 ·rw [decide_eq_true (by omega), decide_eq_true h]
 ·rw [decide_eq_false (by omega), decide_eq_false h]
end Go.Proofs.YtendbgedpjcocaaGreatDoor.B
/- What is reckoned of two and of one: plain facts. -/
namespace Go.Proofs.YtendbgedpjcocaaGreatDoor.B
open Go.RowKit Go.Proofs.YtendbgedpjcocaaGreatDoorW.PrintWords Go.Proofs.YtendbgedpjcocaaGreatDoorW.PrintLast Go.Proofs.YtendbgedpjcocaaGreatDoorW.PrintMore
set_option linter.unusedVariables false

def cutL (n : Int) : Int := if n < -1000000 then -1000000 else if 1000000 < n then 1000000 else n
theorem cutI (n : Int) : impl_NumCut.f n = some (cutL n) := by rw [← cut_eq, numCut_is]; rfl
theorem cutL_in (n : Int) : -1000000 ≤ cutL n ∧ cutL n ≤ 1000000 := by
 unfold cutL
 split
 ·omega
 ·split <;> omega
theorem listOk_in {l : List Int} (h : listOk l = true) : ∀ x ∈ l, -1000000 ≤ x ∧ x ≤ 1000000 := by
 unfold listOk at h
 rw [Bool.and_eq_true, Bool.not_eq_true', List.any_eq_false] at h
 intro x hx
 have := h.2 x hx
 simp only [Bool.not_eq_true, Bool.not_eq_false'] at this
 exact of_decide_eq_true this
theorem memOk_in {l0 l1 l2 : List Int} (h : memOkL l0 l1 l2 = true) : ∀ x ∈ l0 ++ l1 ++ l2, -1000000 ≤ x ∧ x ≤ 1000000 := by
 unfold memOkL at h
 rw [Bool.and_eq_true, Bool.and_eq_true] at h
 intro x hx
 rw [List.mem_append, List.mem_append] at hx
 rcases hx with (hx | hx) | hx
 ·exact listOk_in h.1 x hx
 ·exact listOk_in h.2.1 x hx
 ·exact listOk_in h.2.2 x hx
end Go.Proofs.YtendbgedpjcocaaGreatDoor.B
/- Plain law: statements are run: what a run leaves, how it ends, how much fuel is left. -/
namespace Go.Proofs.YtendbgedpjcocaaGreatDoor.B
open Go.RowKit Go.Proofs.YtendbgedpjcocaaGreatDoorW.PrintWords Go.Proofs.YtendbgedpjcocaaGreatDoorW.PrintLast Go.Proofs.YtendbgedpjcocaaGreatDoorW.PrintMore
set_option linter.unusedVariables false

/-- A number is put at a place, cut, if something can be put there. -/
def putB (bs : List Int) (k a n : Int) : List Int := if putsL k a = true then bs.set ((k - 1) * 6 + a).toNat (cutL n) else bs
/-- The numbers, how it ends (0: well, 1: too long), the fuel that is left. -/
abbrev Res := List Int × Int × Int
/-- A list is run; with so many steps at most. -/
def runL : Nat → List Int → List St → Int → Option Res
 | 0, _, _, _ => none
 | _ + 1, bs, [], f => some (bs, 0, f)
 | k + 1, bs, s :: l, f =>
  (if s.f0 = 1 then some (putB bs s.f1.f0 s.f1.f1 (evalI bs s.f2), 0, f)
   else if s.f0 = 3 then (if evalI bs s.f2 = 0 then some (bs, 0, f) else (runL k bs s.f3 f).bind fun r => if r.2.1 = 0 then (if r.2.2 < 1 then some (r.1, 1, 0) else runL k r.1 [s] (r.2.2 - 1)) else some r)
   else runL k bs (if evalI bs s.f2 = 0 then s.f4 else s.f3) f).bind fun r => if r.2.1 = 0 then runL k r.1 l r.2.2 else some r
/-- The first of a list. -/
def stepR (k : Nat) (bs : List Int) (s : St) (f : Int) : Option Res :=
 if s.f0 = 1 then some (putB bs s.f1.f0 s.f1.f1 (evalI bs s.f2), 0, f)
 else if s.f0 = 3 then (if evalI bs s.f2 = 0 then some (bs, 0, f) else (runL k bs s.f3 f).bind fun r => if r.2.1 = 0 then (if r.2.2 < 1 then some (r.1, 1, 0) else runL k r.1 [s] (r.2.2 - 1)) else some r)
 else runL k bs (if evalI bs s.f2 = 0 then s.f4 else s.f3) f
theorem runL_nil (k : Nat) (bs : List Int) (f : Int) : runL (k + 1) bs [] f = some (bs, 0, f) := by rw [runL]
theorem runL_cons (k : Nat) (bs : List Int) (s : St) (l : List St) (f : Int) : runL (k + 1) bs (s :: l) f = (stepR k bs s f).bind fun r => if r.2.1 = 0 then runL k r.1 l r.2.2 else some r := by rw [runL]; rfl
theorem stepR_mono {k : Nat} (ih : ∀ bs l f, LeO (runL k bs l f) (runL (k + 1) bs l f)) (bs : List Int) (s : St) (f : Int) : LeO (stepR k bs s f) (stepR (k + 1) bs s f) := by
 intro r h
 unfold stepR at h ⊢
 by_cases h1 : s.f0 = 1
 ·rw [if_pos h1] at h ⊢; exact h
 ·rw [if_neg h1] at h ⊢
  by_cases h3 : s.f0 = 3
  ·rw [if_pos h3] at h ⊢
   by_cases he : evalI bs s.f2 = 0
   ·rw [if_pos he] at h ⊢; exact h
   ·rw [if_neg he] at h ⊢
    obtain ⟨r1, hr1, h⟩ := Option.bind_eq_some_iff.1 h
    rw [ih _ _ _ r1 hr1, Option.bind_some]
    by_cases hc : r1.2.1 = 0
    ·rw [if_pos hc] at h ⊢
     by_cases hf : r1.2.2 < 1
     ·rw [if_pos hf] at h ⊢; exact h
     ·rw [if_neg hf] at h ⊢; exact ih _ _ _ r h
    ·rw [if_neg hc] at h ⊢; exact h
  ·rw [if_neg h3] at h ⊢
   exact ih _ _ _ r h
theorem runL_mono : ∀ k bs l f, LeO (runL k bs l f) (runL (k + 1) bs l f) := by
 intro k
 induction k with
 | zero => intro bs l f r h; rw [runL] at h; cases h
 | succ k ih =>
  intro bs l f r h
  cases l with
  | nil => rw [runL_nil] at h ⊢; exact h
  | cons s l =>
   rw [runL_cons] at h ⊢
   obtain ⟨r1, hr1, h⟩ := Option.bind_eq_some_iff.1 h
   rw [stepR_mono ih bs s f r1 hr1, Option.bind_some]
   by_cases hc : r1.2.1 = 0
   ·rw [if_pos hc] at h ⊢; exact ih _ _ _ r h
   ·rw [if_neg hc] at h ⊢; exact h
theorem runL_up {k k' : Nat} (hk : k ≤ k') {bs : List Int} {l : List St} {f : Int} {r : Res} (h : runL k bs l f = some r) : runL k' bs l f = some r := up_le (f := fun k => runL k bs l f) (fun k => runL_mono k bs l f) hk h
theorem stepR_up {k k' : Nat} (hk : k ≤ k') {bs : List Int} {s : St} {f : Int} {r : Res} (h : stepR k bs s f = some r) : stepR k' bs s f = some r := up_le (f := fun k => stepR k bs s f) (fun k => stepR_mono (runL_mono k) bs s f) hk h
/-- A list's run. -/
def Run (bs : List Int) (l : List St) (f : Int) (r : Res) : Prop := ∃ k, runL k bs l f = some r
theorem Run.one {bs : List Int} {l : List St} {f : Int} {r r' : Res} (h : Run bs l f r) (h' : Run bs l f r') : r = r' := by
 obtain ⟨k, hk⟩ := h
 obtain ⟨k', hk'⟩ := h'
 have := (runL_up (Nat.le_max_left k k') hk).symm.trans (runL_up (Nat.le_max_right k k') hk')
 exact Option.some.inj this
theorem Run.nil (bs : List Int) (f : Int) : Run bs [] f (bs, 0, f) := ⟨1, runL_nil 0 bs f⟩
/-- The first's run. -/
def RunS (bs : List Int) (s : St) (f : Int) (r : Res) : Prop := ∃ k, stepR k bs s f = some r
theorem Run.cons {bs : List Int} {s : St} {l : List St} {f : Int} {r1 r : Res} (h : RunS bs s f r1) (h' : if r1.2.1 = 0 then Run r1.1 l r1.2.2 r else r = r1) : Run bs (s :: l) f r := by
 obtain ⟨k, hk⟩ := h
 by_cases hc : r1.2.1 = 0
 ·rw [if_pos hc] at h'
  obtain ⟨k', hk'⟩ := h'
  refine ⟨max k k' + 1, ?_⟩
  rw [runL_cons, stepR_up (Nat.le_max_left k k') hk, Option.bind_some, if_pos hc]
  exact runL_up (Nat.le_max_right k k') hk'
 ·rw [if_neg hc] at h'
  refine ⟨k + 1, ?_⟩
  rw [runL_cons, hk, Option.bind_some, if_neg hc, h']
theorem Run.uncons {bs : List Int} {s : St} {l : List St} {f : Int} {r : Res} (h : Run bs (s :: l) f r) : ∃ r1, RunS bs s f r1 ∧ (if r1.2.1 = 0 then Run r1.1 l r1.2.2 r else r = r1) := by
 obtain ⟨k, hk⟩ := h
 cases k with
 | zero => rw [runL] at hk; cases hk
 | succ k =>
  rw [runL_cons] at hk
  obtain ⟨r1, hr1, h⟩ := Option.bind_eq_some_iff.1 hk
  refine ⟨r1, ⟨k, hr1⟩, ?_⟩
  by_cases hc : r1.2.1 = 0
  ·rw [if_pos hc] at h ⊢; exact ⟨k, h⟩
  ·rw [if_neg hc] at h ⊢; exact (Option.some.inj h).symm
theorem RunS.set {bs : List Int} {s : St} {f : Int} (h1 : s.f0 = 1) : RunS bs s f (putB bs s.f1.f0 s.f1.f1 (evalI bs s.f2), 0, f) := ⟨0, by rw [stepR, if_pos h1]⟩
theorem RunS.if {bs : List Int} {s : St} {f : Int} {r : Res} (h1 : s.f0 = 2) (h : Run bs (if evalI bs s.f2 = 0 then s.f4 else s.f3) f r) : RunS bs s f r := by
 obtain ⟨k, hk⟩ := h
 exact ⟨k, by rw [stepR, if_neg (by omega), if_neg (by omega)]; exact hk⟩
theorem RunS.off {bs : List Int} {s : St} {f : Int} (h1 : s.f0 = 3) (he : evalI bs s.f2 = 0) : RunS bs s f (bs, 0, f) := ⟨0, by rw [stepR, if_neg (by omega), if_pos h1, if_pos he]⟩
theorem RunS.stop {bs : List Int} {s : St} {f : Int} {r : Res} (h1 : s.f0 = 3) (he : evalI bs s.f2 ≠ 0) (h : Run bs s.f3 f r) (hc : r.2.1 ≠ 0) : RunS bs s f r := by
 obtain ⟨k, hk⟩ := h
 exact ⟨k, by rw [stepR, if_neg (by omega), if_pos h1, if_neg he, hk, Option.bind_some, if_neg hc]⟩
theorem RunS.long {bs : List Int} {s : St} {f : Int} {r : Res} (h1 : s.f0 = 3) (he : evalI bs s.f2 ≠ 0) (h : Run bs s.f3 f r) (hc : r.2.1 = 0) (hf : r.2.2 < 1) : RunS bs s f (r.1, 1, 0) := by
 obtain ⟨k, hk⟩ := h
 exact ⟨k, by rw [stepR, if_neg (by omega), if_pos h1, if_neg he, hk, Option.bind_some, if_pos hc, if_pos hf]⟩
theorem RunS.again {bs : List Int} {s : St} {f : Int} {r r' : Res} (h1 : s.f0 = 3) (he : evalI bs s.f2 ≠ 0) (h : Run bs s.f3 f r) (hc : r.2.1 = 0) (hf : ¬ r.2.2 < 1) (h' : Run r.1 [s] (r.2.2 - 1) r') : RunS bs s f r' := by
 obtain ⟨k, hk⟩ := h
 obtain ⟨k', hk'⟩ := h'
 exact ⟨max k k', by rw [stepR, if_neg (by omega), if_pos h1, if_neg he, runL_up (Nat.le_max_left k k') hk, Option.bind_some, if_pos hc, if_neg hf]; exact runL_up (Nat.le_max_right k k') hk'⟩
theorem Run.single {bs : List Int} {s : St} {f : Int} {r : Res} : Run bs [s] f r ↔ RunS bs s f r := by
 constructor
 ·intro h
  obtain ⟨r1, h1, h2⟩ := h.uncons
  by_cases hc : r1.2.1 = 0
  ·rw [if_pos hc] at h2
   have := (Run.nil r1.1 r1.2.2).one h2
   obtain ⟨a, b, c⟩ := r1
   simp only at hc
   subst hc
   rw [← this]; exact h1
  ·rw [if_neg hc] at h2; rw [h2]; exact h1
 ·intro h
  refine Run.cons h ?_
  by_cases hc : r.2.1 = 0
  ·rw [if_pos hc]
   obtain ⟨a, b, c⟩ := r
   simp only at hc
   subst hc
   exact Run.nil a c
  ·rw [if_neg hc]
/-- What every run's end is like. -/
structure Fits (f : Int) (r : Res) : Prop where
 lo : 0 ≤ r.2.2
 hi : r.2.2 ≤ f
 how : r.2.1 = 0 ∨ r.2.1 = 1 ∧ r.2.2 = 0
theorem run_total (d : Nat) : ∀ l : List St, formT d l = true → ∀ (f : Int) (bs : List Int), 0 ≤ f → ∃ r, Run bs l f r ∧ Fits f r := by
 induction d with
 | zero =>
  intro l hl f bs hf
  cases l with
  | nil => exact ⟨_, Run.nil bs f, ⟨hf, Int.le_refl _, .inl rfl⟩⟩
  | cons s l => cases hl
 | succ d ih =>
  have one : ∀ s : St, headSt s = true → formT d s.f3 = true → formT d s.f4 = true → ∀ (n : Nat) (f : Int) (bs : List Int), 0 ≤ f → f.toNat ≤ n → ∃ r, RunS bs s f r ∧ Fits f r := by
   intro s hs h3 h4 n
   have hk : s.f0 = 1 ∨ s.f0 = 2 ∨ s.f0 = 3 := by
    unfold headSt plainL at hs
    by_cases h1 : s.f0 = 1
    ·exact .inl h1
    ·by_cases h2 : s.f0 = 2
     ·exact .inr (.inl h2)
     ·by_cases h3 : s.f0 = 3
      ·exact .inr (.inr h3)
      ·rw [if_neg h1, if_neg h2, if_neg h3] at hs; simp at hs
   induction n with
   | zero =>
    intro f bs hf hn
    obtain rfl : f = 0 := by omega
    rcases hk with h | h | h
    ·exact ⟨_, RunS.set h, ⟨Int.le_refl _, Int.le_refl _, .inl rfl⟩⟩
    ·obtain ⟨r, hr, hF⟩ := ih (if evalI bs s.f2 = 0 then s.f4 else s.f3) (by split <;> assumption) 0 bs hf
     exact ⟨r, RunS.if h hr, hF⟩
    ·by_cases he : evalI bs s.f2 = 0
     ·exact ⟨_, RunS.off h he, ⟨Int.le_refl _, Int.le_refl _, .inl rfl⟩⟩
     ·obtain ⟨r, hr, hF⟩ := ih s.f3 h3 0 bs hf
      by_cases hc : r.2.1 = 0
      ·exact ⟨_, RunS.long h he hr hc (by have := hF.hi; omega), ⟨Int.le_refl _, Int.le_refl _, .inr ⟨rfl, rfl⟩⟩⟩
      ·exact ⟨r, RunS.stop h he hr hc, hF⟩
   | succ n ihn =>
    intro f bs hf hn
    rcases hk with h | h | h
    ·exact ⟨_, RunS.set h, ⟨hf, Int.le_refl _, .inl rfl⟩⟩
    ·obtain ⟨r, hr, hF⟩ := ih (if evalI bs s.f2 = 0 then s.f4 else s.f3) (by split <;> assumption) f bs hf
     exact ⟨r, RunS.if h hr, hF⟩
    ·by_cases he : evalI bs s.f2 = 0
     ·exact ⟨_, RunS.off h he, ⟨hf, Int.le_refl _, .inl rfl⟩⟩
     ·obtain ⟨r, hr, hF⟩ := ih s.f3 h3 f bs hf
      by_cases hc : r.2.1 = 0
      ·by_cases hl : r.2.2 < 1
       ·exact ⟨_, RunS.long h he hr hc hl, ⟨Int.le_refl _, hf, .inr ⟨rfl, rfl⟩⟩⟩
       ·have h1 := hF.hi
        obtain ⟨r', hr', hF'⟩ := ihn (r.2.2 - 1) r.1 (by omega) (by omega)
        have h2 := hF'.hi
        exact ⟨r', RunS.again h he hr hc hl (Run.single.2 hr'), ⟨hF'.lo, by omega, hF'.how⟩⟩
      ·exact ⟨r, RunS.stop h he hr hc, hF⟩
  intro l
  induction l with
  | nil => intro _ f bs hf; exact ⟨_, Run.nil bs f, ⟨hf, Int.le_refl _, .inl rfl⟩⟩
  | cons s l ihl =>
   intro hl f bs hf
   have hl' : (headSt s && (formT d s.f3 && formT d s.f4)) = true ∧ formT (d + 1) l = true := by
    have : formT (d + 1) (s :: l) = ((headSt s && (formT d s.f3 && formT d s.f4)) && formT (d + 1) l) := rfl
    rw [this, Bool.and_eq_true] at hl; exact hl
   simp only [Bool.and_eq_true] at hl'
   obtain ⟨⟨hs, h3, h4⟩, hl2⟩ := hl'
   obtain ⟨r1, hr1, hF1⟩ := one s hs h3 h4 f.toNat f bs hf (Nat.le_refl _)
   by_cases hc : r1.2.1 = 0
   ·obtain ⟨r, hr, hF⟩ := ihl hl2 r1.2.2 r1.1 hF1.lo
    have h1 := hF.hi; have h2 := hF1.hi
    exact ⟨r, Run.cons hr1 (by rw [if_pos hc]; exact hr), ⟨hF.lo, by omega, hF.how⟩⟩
   ·exact ⟨r1, Run.cons hr1 (by rw [if_neg hc]), hF1⟩
/-- What holds at the beginning of a run and is kept by each number that is put holds at its end. -/
theorem run_keeps (P : List Int → Prop) : ∀ (k : Nat) (l : List St) (W : St → Prop), (∀ s, W s → ∀ x ∈ s.f3, W x) → (∀ s, W s → ∀ x ∈ s.f4, W x) → (∀ s, W s → s.f0 = 1 → ∀ bs, P bs → P (putB bs s.f1.f0 s.f1.f1 (evalI bs s.f2))) →
  (∀ s ∈ l, W s) → ∀ (bs : List Int) (f : Int) (r : Res), P bs → runL k bs l f = some r → P r.1 := by
 intro k
 induction k with
 | zero => intro l W _ _ _ _ bs f r _ h; rw [runL] at h; cases h
 | succ k ih =>
  intro l W h3 h4 hP hl bs f r hb h
  cases l with
  | nil => rw [runL_nil] at h; cases h; exact hb
  | cons s l =>
   rw [runL_cons] at h
   obtain ⟨r1, hr1, h⟩ := Option.bind_eq_some_iff.1 h
   have hs := hl s List.mem_cons_self
   have hp1 : P r1.1 := by
    unfold stepR at hr1
    by_cases k1 : s.f0 = 1
    ·rw [if_pos k1] at hr1; cases hr1; exact hP s hs k1 bs hb
    ·rw [if_neg k1] at hr1
     by_cases k3 : s.f0 = 3
     ·rw [if_pos k3] at hr1
      by_cases he : evalI bs s.f2 = 0
      ·rw [if_pos he] at hr1; cases hr1; exact hb
      ·rw [if_neg he] at hr1
       obtain ⟨r2, hr2, hr1⟩ := Option.bind_eq_some_iff.1 hr1
       have hp2 := ih s.f3 W h3 h4 hP (h3 s hs) bs f r2 hb hr2
       by_cases hc : r2.2.1 = 0
       ·rw [if_pos hc] at hr1
        by_cases hf : r2.2.2 < 1
        ·rw [if_pos hf] at hr1; cases hr1; exact hp2
        ·rw [if_neg hf] at hr1
         exact ih [s] W h3 h4 hP (fun x hx => by rw [List.mem_singleton] at hx; rw [hx]; exact hs) _ _ _ hp2 hr1
       ·rw [if_neg hc] at hr1; cases hr1; exact hp2
     ·rw [if_neg k3] at hr1
      refine ih _ W h3 h4 hP ?_ bs f r1 hb hr1
      split
      ·exact h4 s hs
      ·exact h3 s hs
   by_cases hc : r1.2.1 = 0
   ·rw [if_pos hc] at h
    exact ih l W h3 h4 hP (fun x hx => hl x (List.mem_cons_of_mem _ hx)) _ _ _ hp1 h
   ·rw [if_neg hc] at h; cases h; exact hp1
/-- One behind the other. -/
theorem run_append {bs : List Int} {a b : List St} {f : Int} {r1 r : Res} (h1 : Run bs a f r1) (h2 : if r1.2.1 = 0 then Run r1.1 b r1.2.2 r else r = r1) : Run bs (a ++ b) f r := by
 induction a generalizing bs f with
 | nil =>
  have := (Run.nil bs f).one h1
  subst this
  rw [if_pos rfl] at h2
  exact h2
 | cons s a ih =>
  obtain ⟨q, hq, h⟩ := h1.uncons
  refine Run.cons (l := a ++ b) hq ?_
  by_cases hc : q.2.1 = 0
  ·rw [if_pos hc] at h ⊢
   exact ih h
  ·rw [if_neg hc] at h ⊢
   subst h
   rw [if_neg hc] at h2
   exact h2
end Go.Proofs.YtendbgedpjcocaaGreatDoor.B
/- impl's runner: one number put, one of the fuel taken. -/
namespace Go.Proofs.YtendbgedpjcocaaGreatDoor.B
open Go Go.RowKit Go.Shelf Go.Proofs.YtendbgedpjcocaaGreatDoorW.PrintWords Go.Proofs.YtendbgedpjcocaaGreatDoorW.PrintLast Go.Proofs.YtendbgedpjcocaaGreatDoorW.PrintMore
set_option linter.unusedVariables false

theorem mem_set {bs : List Int} (i : Nat) (n : Int) : ((bs.map (Value.int .i64)).toArray.setIfInBounds i (.int .i64 n)) = ((bs.set i n).map (Value.int .i64)).toArray := by
 apply Array.ext'
 rw [Array.toList_setIfInBounds]
 simp only [List.map_set]
theorem putB_len (bs : List Int) (k a n : Int) : (putB bs k a n).length = bs.length := by unfold putB; split <;> simp
set_option maxRecDepth 100000 in
set_option maxHeartbeats 4000000 in
theorem put_any (F : Nat → Prop) (g : Nat) (hF : F g) (bs : List Int) (k a n : Int) (w : World) (hm : MemAt w g bs) :
  Calls Tryz.prog 46 #[.pointer (some ⟨g, 0, none⟩), .agg #[.int .i64 k, .int .i64 a], .int .i64 n] w fun e w' => e = .returned (.tuple #[]) ∧ MemAt w' g (putB bs k a n) ∧ Ed F w w' := by
 have hb0 := heap_alloc_new w (.cells #[.int .i64 k, .int .i64 a] 24)
 have hB0 : Below w.heap.size w (w.alloc (.cells #[.int .i64 k, .int .i64 a] 24)) := (Below.refl _ _).alloc (Nat.le_refl _) _
 have HM := Aside0.mk (And.intro hm (And.intro hb0 (And.intro hB0 hF)))
 clear hm hb0 hB0 hF
 go_enter Tryz.func46, Tryz.ntmps46
 go_wp2_with fail
 refine (impl_puts.calls k a _ _ (puts_is k a)).mono ?_
 rintro e w1 ⟨rfl, hb1⟩
 have k1 := (hb1.block _ (blk_lt HM.out.2.1)).trans HM.out.2.1
 have c0 : w1.cell? ⟨w.heap.size, 0, none⟩ = some (.int .i64 k) := by rw [blk_cell k1]; rfl
 have c1 : w1.cell? ⟨w.heap.size, 1, none⟩ = some (.int .i64 a) := by rw [blk_cell k1]; rfl
 have HB := Aside0.mk (HM.out.2.2.1.trans (hb1.mono HM.out.2.2.1.size))
 clear hb1 k1
 cases hv : putsL k a with
 | false =>
  have HV := Aside0.mk hv
  clear hv
  go_wp2
  refine bodyPost_end (results_none rfl _ _ _) rfl ?_
  exact ⟨rfl, by rw [putB, if_neg (by rw [HV.out]; simp)]; exact HM.out.1.below HB.out, Ed.of_below HB.out⟩
 | true =>
  have hA : addrOkL k a = true := by unfold putsL at hv; simp only [Bool.and_eq_true] at hv; exact hv.1
  obtain ⟨hk, ha⟩ := addr_cases hA
  have hlt : ((k - 1) * 6 + a).toNat < 18 := by omega
  have HV := Aside0.mk (And.intro hv (And.intro hA hlt))
  clear hv hA hk ha hlt
  go_wp2_with fail
  refine (place_any g k a w1 HV.out.2.1).mono ?_
  rintro e w2 ⟨rfl, hb2⟩
  have HB2 := Aside0.mk (HB.out.trans (hb2.mono HB.out.size))
  clear hb2 c0 c1
  go_wp2_with fail
  refine (impl_NumCut.calls n (cutL n) w2 (cutI n)).mono ?_
  rintro e w3 ⟨rfl, hb3⟩
  have HB3 := Aside0.mk (HB2.out.trans (hb3.mono HB2.out.size))
  clear hb3
  have h3 := HM.out.1.below HB3.out
  obtain ⟨i, hi⟩ : ∃ i, i = ((k - 1) * 6 + a).toNat := ⟨_, rfl⟩
  have c2 := h3.cell _ (show i < 18 by rw [hi]; exact HV.out.2.2)
  have f2 : w3.frozen? ⟨g, i, none⟩ = false := blk_frozen h3.b i
  rw [← hi]
  have HI := Aside0.mk (And.intro hi h3)
  clear hi h3
  go_wp2
  refine bodyPost_end (results_none rfl _ _ _) rfl ?_
  have hi18 : i < 18 := by rw [HI.out.1]; exact HV.out.2.2
  have hcur : ((bs.map (Value.int .i64)).toArray)[i]? = some (.int .i64 (bs.getD i 0)) := by
   have := HI.out.2.n
   simp [List.getD_eq_getElem?_getD, List.getElem?_eq_getElem (show i < bs.length by omega)]
  refine ⟨rfl, ⟨?_, by rw [putB_len]; exact HI.out.2.n⟩, (Ed.of_below HB3.out).trans (Ed.set HM.out.2.2.2 HI.out.2.b i _ hcur _)⟩
  rw [putB, if_pos HV.out.1, ← HI.out.1, ← mem_set]
  exact blk_set HI.out.2.b i _
/-- A runner: its memory's numbers, its fuel. -/
structure RunAt (w : World) (gr gm : Nat) (bs : List Int) (f : Int) : Prop where
 m : MemAt w gm bs
 r : w.heap[gr]? = some (.cells #[.pointer (some ⟨gm, 0, none⟩), .int .i64 f] 69 (0, 0))
theorem RunAt.below {w w' : World} {gr gm : Nat} {bs : List Int} {f : Int} (h : RunAt w gr gm bs f) (hb : Below w.heap.size w w') : RunAt w' gr gm bs f := ⟨h.m.below hb, blk_below h.r hb⟩
/-- What a run may write over. -/
def Fm (gr gm : Nat) (b : Nat) : Prop := b = gr ∨ b = gm
set_option maxRecDepth 100000 in
theorem take_none (gr gm : Nat) (bs : List Int) (a : Addr) (w : World) (h : RunAt w gr gm bs 0) (he : ErrAt w a) :
  Calls Tryz.prog 124 #[.pointer (some ⟨gr, 0, none⟩)] w fun e w' => e = .returned (errOf a 1) ∧ w' = w := by
 have c1 : w.cell? ⟨gr, 1, none⟩ = some (.int .i64 0) := by rw [blk_cell h.r]; rfl
 have ce : w.cell? ⟨0, 0, none⟩ = some (.iface 156 (.pointer (some a))) := he
 clear h he
 go_enter Tryz.func124, Tryz.ntmps124
 go_wp2
 go_ret
 exact ⟨rfl, rfl⟩
set_option maxRecDepth 100000 in
theorem take_some (gr gm : Nat) (hne : gr ≠ gm) (bs : List Int) (f : Int) (w : World) (h : RunAt w gr gm bs f) (h0 : 0 < f) (h1 : f ≤ 100) :
  Calls Tryz.prog 124 #[.pointer (some ⟨gr, 0, none⟩)] w fun e w' => e = .returned .nilIface ∧ RunAt w' gr gm bs (f - 1) ∧ Ed (Fm gr gm) w w' := by
 have c1 : w.cell? ⟨gr, 1, none⟩ = some (.int .i64 f) := by rw [blk_cell h.r]; rfl
 have f1 : w.frozen? ⟨gr, 1, none⟩ = false := blk_frozen h.r 1
 have b0 : (f == 0) = false := beq_false_of_ne (by omega)
 have wf : IntKind.i64.wrap (f - 1) = f - 1 := by rw [IntKind.wrap_i64]; omega
 have HH := Aside0.mk (And.intro h hne)
 clear h hne h0 h1
 go_enter Tryz.func124, Tryz.ntmps124
 go_wp2
 go_ret
 refine ⟨rfl, ⟨⟨(Below.heap_setCell w _ _ gm (fun e => HH.out.2 e.symm)).trans HH.out.1.m.b, HH.out.1.m.n⟩, ?_⟩, Ed.set (.inl rfl) HH.out.1.r 1 f rfl _⟩
 exact (blk_set HH.out.1.r 1 _).trans rfl
end Go.Proofs.YtendbgedpjcocaaGreatDoor.B
/- Contracts of Go's library, laid out of the kit's shelf at this seat's program. -/
namespace Go.Proofs
open Go Go.Shelf Go.RowKit Go.Lib
def Tryz.laysNm215_ren : Go.Shelf.Ren := ⟨fun | 15 => 80 | n => n, fun | 22 => 28 | 3 => 3 | 4 => 4 | n => n, fun | n => n⟩
theorem Tryz.laysNm215 : Go.Proofs.Lays2.n15 Tryz.prog Tryz.laysNm215_ren := {
 mixed := by kernel_rfl
 f15 := Tryz.func80.trans (congrArg some (by kernel_rfl))
 t3 := Tryz.underlying3
 a3 := Tryz.isAgg3
 z3 := Tryz.sizeOf3
 v3 := Tryz.zeroValue3
 t4 := Tryz.underlying4
 a4 := Tryz.isAgg4
 z4 := Tryz.sizeOf4
 v4 := Tryz.zeroValue4
 t22 := Tryz.underlying28
 a22 := Tryz.isAgg28
 z22 := Tryz.sizeOf28
 v22 := Tryz.zeroValue28
 i3 := by kernel_rfl }
theorem Tryz.slices_Clone_int (b off n c : Nat) (zs : List Int) (w : World) (hz : n ≤ zs.length) (hbig : n * 8 ≤ 140737488355328) (hc : ∀ j, j < zs.length → w.cell? ⟨b, off + j, none⟩ = some (.int .i64 (zs.getD j 0))) :
  Calls Tryz.prog 80 #[.slice (some ⟨b, off, none⟩) n c] w fun e w' => ∃ v', e = .returned v' ∧ w'.ownsRow w.heap.size 3 1 v' n ((zs.take n).map (Value.int .i64)) ∧ v' ≠ .slice none 0 0 ∧ Below w.heap.size w w' := Any.slices_Clone_int Tryz.laysNm215 b off n c zs w hz hbig hc
end Go.Proofs
/- impl's memory as it is told: three rows of its own. -/
namespace Go.Proofs.YtendbgedpjcocaaGreatDoor.B
open Go Go.RowKit Go.Shelf Go.Lib Go.Proofs.YtendbgedpjcocaaGreatDoorW.PrintWords Go.Proofs.YtendbgedpjcocaaGreatDoorW.PrintLast Go.Proofs.YtendbgedpjcocaaGreatDoorW.PrintMore
set_option linter.unusedVariables false
section
variable {P : Program} {ops : Array Oper} {o : Oper} {b : Act} {W : World} {Ψ : Value → World → Prop}
/-- A box is written whole: one operation. -/
theorem stepPutB {T : TypeId} {p : Tmp} {x : Operand} (hw : Region.wanted o (yielded ops b.tmps) = true) (ho : o.op = .store T (.tmp p) x) {g : Nat} {cs : Array Value} (hp : b.eval (.tmp p) = .pointer (some ⟨g, 0, none⟩)) (cs' : Array Value) (hx : b.eval x = .agg cs')
  (hb : Box W g T cs) (hs : cs'.size = cs.size) (hi : (P.info? T).map (·.size) = some cs'.size) (h1 : cs'.all (·.oneCell') = true) (h : ∀ W', Box W' g T cs' → Put1 g W W' → Ψ undef W') : StepOK P ops o b W Ψ := by
 have hrun : (execOp b.eval o).run P W = .ok .skip (W.setCells g 0 cs'.toList) := by
  unfold execOp
  simp only [ho, hp, hx, Instr.storeAt, Instr.sureAddr, Sem.run_bind, Sem.run_pure, Result.andThen_ok, run_storeVar_mid W g 0 T cs' (by rw [hs]; exact Box.there hb) hi h1]
 intro K Q hK
 rw [if_pos hw]
 unfold Oper.wp
 rw [hrun]
 exact hK undef _ (h _ (setCells_box hb hs) (setCells_put1 g _ 0 W))
end
theorem put1_out {g : Nat} {W W' : World} {cs : Array Value} {T : TypeId} (hb : Box W g T cs) (h : Put1 g W W') {base : Nat} {e : TypeId} {size n : Nat} {v : Value} {xs : List Value} (ho : W.ownsRow base e size v n xs) (hne : v.ownBlock ≠ some g) : W'.ownsRow base e size v n xs := by
 obtain ⟨h1, h2⟩ := ho
 refine ⟨h1, ?_⟩
 rcases h2 with h2 | ⟨k, cap, cur, rfl, hk, hh, r⟩
 ·exact .inl h2
 ·exact .inr ⟨k, cap, cur, rfl, hk, (h.far k (fun e => hne (by rw [e]; rfl))).trans hh, r⟩
/-- Three rows of six numbers, each in its own memory, younger than base. -/
structure MemRows (W : World) (base : Nat) (v0 v1 v2 : Value) (bs : List Int) : Prop where
 r0 : W.ownsRow base 3 1 v0 6 (nums .i64 (bs.take 6))
 r1 : W.ownsRow base 3 1 v1 6 (nums .i64 ((bs.drop 6).take 6))
 r2 : W.ownsRow base 3 1 v2 6 (nums .i64 ((bs.drop 12).take 6))
 a01 : ∀ k, v0.ownBlock = some k → v1.ownBlock ≠ some k
 a02 : ∀ k, v0.ownBlock = some k → v2.ownBlock ≠ some k
 a12 : ∀ k, v1.ownBlock = some k → v2.ownBlock ≠ some k
theorem MemRows.below {W W' : World} {base : Nat} {v0 v1 v2 : Value} {bs : List Int} (h : MemRows W base v0 v1 v2 bs) (hb : Below W.heap.size W W') : MemRows W' base v0 v1 v2 bs :=
 ⟨pw_own_below h.r0 hb, pw_own_below h.r1 hb, pw_own_below h.r2 hb, h.a01, h.a02, h.a12⟩
theorem MemRows.weaken {W : World} {base base' : Nat} {v0 v1 v2 : Value} {bs : List Int} (h : MemRows W base v0 v1 v2 bs) (hb : base' ≤ base) : MemRows W base' v0 v1 v2 bs :=
 ⟨own_weaken h.r0 hb, own_weaken h.r1 hb, own_weaken h.r2 hb, h.a01, h.a02, h.a12⟩
theorem MemRows.put1 {W W' : World} {base g : Nat} {T : TypeId} {cs : Array Value} {v0 v1 v2 : Value} {bs : List Int} (h : MemRows W base v0 v1 v2 bs) (hb : Box W g T cs) (hT : T ≠ 3) (hp : Put1 g W W') : MemRows W' base v0 v1 v2 bs :=
 ⟨put1_out hb hp h.r0 (own_ne h.r0 hb (Ne.symm hT)).symm, put1_out hb hp h.r1 (own_ne h.r1 hb (Ne.symm hT)).symm, put1_out hb hp h.r2 (own_ne h.r2 hb (Ne.symm hT)).symm, h.a01, h.a02, h.a12⟩
theorem own_R {w : World} {base : Nat} {v : Value} {xs : List Int} {n : Nat} (h : w.ownsRow base 3 1 v n (nums .i64 xs)) (hn : n = xs.length) (ok : Nat → Prop) (hok : ∀ k, v.ownBlock = some k → ok k) : Kd.R (Kd.int .i64) 3 w base ok v xs := by
 subst hn
 exact ⟨hok, nums .i64 xs, h, Kd.reps_scalar xs⟩
theorem clone_at (g off : Nat) (zs bs : List Int) (w : World) (hm : MemAt w g bs) (hz : zs.length = 6) (ho : off + 6 ≤ 18) (hd : zs = (bs.drop off).take 6) :
  Calls Tryz.prog 80 #[.slice (some ⟨g, off, none⟩) 6 6] w fun e w' => ∃ v', e = .returned v' ∧ w'.ownsRow w.heap.size 3 1 v' 6 (nums .i64 zs) ∧ Below w.heap.size w w' := by
 refine (Tryz.slices_Clone_int g off 6 6 zs w (by omega) (by decide) (fun j hj => ?_)).mono ?_
 ·have := hm.cell (off + j) (by omega)
  rw [this]
  subst hd
  rw [List.getD_eq_getElem?_getD, List.getD_eq_getElem?_getD, List.getElem?_take, if_pos (by omega), List.getElem?_drop]
 ·rintro e w' ⟨v', rfl, h1, _, hb⟩
  rw [List.take_of_length_le (by omega)] at h1
  exact ⟨v', rfl, h1, hb⟩
set_option maxRecDepth 100000 in
set_option maxHeartbeats 4000000 in
theorem mem_any (g : Nat) (bs : List Int) (w : World) (hm : MemAt w g bs) :
  Calls Tryz.prog 47 #[.pointer (some ⟨g, 0, none⟩)] w fun e w' => ∃ v0 v1 v2, e = .returned (.agg #[v0, v1, v2]) ∧ MemRows w' w.heap.size v0 v1 v2 bs ∧ Below w.heap.size w w' := by
 have mixed : Tryz.prog.follows .mixedOrders = true := rfl
 obtain ⟨w1, hw1⟩ : ∃ W, W = w.alloc (.cells #[.slice none 0 0, .slice none 0 0, .slice none 0 0] 30 (0, 0)) := ⟨_, rfl⟩
 have hB : Below w.heap.size w w1 := by rw [hw1]; exact (Below.refl _ _).alloc (Nat.le_refl _) _
 have hz1 : w1.heap.size = w.heap.size + 1 := by rw [hw1]; simp
 have H1 := Aside0.mk (show Box w1 w.heap.size 30 #[.slice none 0 0, .slice none 0 0, .slice none 0 0] ∧ MemAt w1 g bs ∧ Below w.heap.size w w1 ∧ w1.heap.size = w.heap.size + 1 from
  ⟨by rw [hw1]; exact heap_alloc_new _ _, hm.below hB, hB, hz1⟩)
 have hl := hm.n
 obtain ⟨z0, hz0⟩ : ∃ z, z = bs.take 6 := ⟨_, rfl⟩
 obtain ⟨z1, hz1⟩ : ∃ z, z = (bs.drop 6).take 6 := ⟨_, rfl⟩
 obtain ⟨z2, hz2⟩ : ∃ z, z = (bs.drop 12).take 6 := ⟨_, rfl⟩
 have HZ := Aside0.mk (show z0 = (bs.drop 0).take 6 ∧ z1 = (bs.drop 6).take 6 ∧ z2 = (bs.drop 12).take 6 ∧ z0.length = 6 ∧ z1.length = 6 ∧ z2.length = 6 from ⟨by rw [hz0, List.drop_zero], hz1, hz2, by rw [hz0]; simp; omega, by rw [hz1]; simp; omega, by rw [hz2]; simp; omega⟩)
 clear hm hB hl hz0 hz1 hz2
 go_enter Tryz.func47, Tryz.ntmps47
 go_upto_region 1 with fail
 rw [← hw1]
 clear hw1
 refine weaveFresh_ [5, 11, 17] 18 rfl rfl (fun W => Below w1.heap.size w1 W) (Lasts.below w1) (Below.refl _ _) [(3, 0), (4, 1), (5, 2), (6, 3), (7, 4), (8, 5), (9, 6), (10, 7), (11, 8), (12, 9), (13, 10), (14, 11), (15, 12), (16, 13), (17, 14), (18, 15), (19, 16), (20, 17), (21, 18)]
  [fun v _ => v = .pointer (some ⟨g, 0, none⟩), fun v _ => v = .pointer (some ⟨g, 0, none⟩), fun v _ => v = .pointer (some ⟨g, 0, none⟩), fun v _ => v = .pointer (some ⟨g, 0, none⟩), fun v _ => v = .slice (some ⟨g, 0, none⟩) 6 6, fun v W => W.ownsRow w1.heap.size 3 1 v 6 (nums .i64 z0),
   fun v _ => v = .pointer (some ⟨g, 0, none⟩), fun v _ => v = .pointer (some ⟨g, 0, none⟩), fun v _ => v = .pointer (some ⟨g, 0, none⟩), fun v _ => v = .pointer (some ⟨g, 6, none⟩), fun v _ => v = .slice (some ⟨g, 6, none⟩) 6 6, fun v W => W.ownsRow w1.heap.size 3 1 v 6 (nums .i64 z1),
   fun v _ => v = .pointer (some ⟨g, 0, none⟩), fun v _ => v = .pointer (some ⟨g, 0, none⟩), fun v _ => v = .pointer (some ⟨g, 0, none⟩), fun v _ => v = .pointer (some ⟨g, 12, none⟩), fun v _ => v = .slice (some ⟨g, 12, none⟩) 6 6, fun v W => W.ownsRow w1.heap.size 3 1 v 6 (nums .i64 z2)]
  mixed (by kernel_rfl) ⟨fun _ => Lasts.const _, fun _ => Lasts.const _, fun _ => Lasts.const _, fun _ => Lasts.const _, fun _ => Lasts.const _, fun _ _ _ hb h => pw_own_below h hb, fun _ => Lasts.const _, fun _ => Lasts.const _, fun _ => Lasts.const _, fun _ => Lasts.const _, fun _ => Lasts.const _, fun _ _ _ hb h => pw_own_below h hb, fun _ => Lasts.const _, fun _ => Lasts.const _, fun _ => Lasts.const _, fun _ => Lasts.const _, fun _ => Lasts.const _, fun _ _ _ hb h => pw_own_below h hb, trivial⟩
  (by kernel_rfl) (by kernel_rfl) (by kernel_rfl) ?_ ?_
  (fun v W => ∃ v0 v1 v2, v = .agg #[v0, v1, v2] ∧ MemRows W w1.heap.size v0 v1 v2 bs ∧ Below w1.heap.size w1 W)
  (fun _ W => ∃ v0 v1 v2, Box W w.heap.size 30 #[v0, v1, v2] ∧ MemRows W w1.heap.size v0 v1 v2 bs ∧ Below w.heap.size w W) ?_ ?_ ?_
 ·refine ⟨?_, ?_, ?_, ?_, ?_, ?_, ?_, ?_, ?_, ?_, ?_, ?_, ?_, ?_, ?_, ?_, ?_, ?_, ?_, ?_, trivial⟩
  ·intro _ vs W hp hv b hs
   have t0 := (hs.oldtm 0 rfl).trans (show _ = some (Value.pointer (some ⟨g, 0, none⟩)) from rfl)
   exact stepVal rfl (by go_simp) ⟨Below.refl _ _, rfl, fun h => absurd h (by decide)⟩
  ·intro _ vs W hp hv b hs
   have h0 : vs 0 = .pointer (some ⟨g, 0, none⟩) := hv 0 (by decide)
   have t3 := (hs.tm 3 0 rfl).trans (congrArg some h0)
   exact stepVal rfl (by go_simp) ⟨Below.refl _ _, rfl, fun h => absurd h (by decide)⟩
  ·intro _ vs W hp hv b hs
   have h1 : vs 1 = .pointer (some ⟨g, 0, none⟩) := hv 1 (by decide)
   have t4 := (hs.tm 4 1 rfl).trans (congrArg some h1)
   exact stepVal rfl (by go_simp) ⟨Below.refl _ _, rfl, fun h => absurd h (by decide)⟩
  ·intro _ vs W hp hv b hs
   have h2 : vs 2 = .pointer (some ⟨g, 0, none⟩) := hv 2 (by decide)
   have t5 := (hs.tm 5 2 rfl).trans (congrArg some h2)
   exact stepVal rfl (by go_simp) ⟨Below.refl _ _, rfl, fun h => absurd h (by decide)⟩
  ·intro _ vs W hp hv b hs
   have h3 : vs 3 = .pointer (some ⟨g, 0, none⟩) := hv 3 (by decide)
   have t6 := (hs.tm 6 3 rfl).trans (congrArg some h3)
   exact stepVal rfl (by go_simp) ⟨Below.refl _ _, rfl, fun h => absurd h (by decide)⟩
  ·intro _ vs W hp hv b hs
   have h4 : vs 4 = .slice (some ⟨g, 0, none⟩) 6 6 := hv 4 (by decide)
   refine stepCall rfl Tryz.func80 (by kernel_rfl) rfl #[vs 4] rfl (by simp [Act.eval, hs.tm 7 4 rfl]) (by rw [h4]; exact clone_at g 0 z0 bs W (H1.out.2.1.below hp) HZ.out.2.2.2.1 (by decide) HZ.out.1) ?_
   rintro e W' ⟨v', rfl, ho, hb'⟩
   exact ⟨_, rfl, hb', own_weaken ho hp.size, fun _ k hk => own_base ho k hk⟩
  ·intro _ vs W hp hv b hs
   have t0 := (hs.oldtm 0 rfl).trans (show _ = some (Value.pointer (some ⟨g, 0, none⟩)) from rfl)
   exact stepVal rfl (by go_simp) ⟨Below.refl _ _, rfl, fun h => absurd h (by decide)⟩
  ·intro _ vs W hp hv b hs
   have h6 : vs 6 = .pointer (some ⟨g, 0, none⟩) := hv 6 (by decide)
   have t9 := (hs.tm 9 6 rfl).trans (congrArg some h6)
   exact stepVal rfl (by go_simp) ⟨Below.refl _ _, rfl, fun h => absurd h (by decide)⟩
  ·intro _ vs W hp hv b hs
   have h7 : vs 7 = .pointer (some ⟨g, 0, none⟩) := hv 7 (by decide)
   have t10 := (hs.tm 10 7 rfl).trans (congrArg some h7)
   exact stepVal rfl (by go_simp) ⟨Below.refl _ _, rfl, fun h => absurd h (by decide)⟩
  ·intro _ vs W hp hv b hs
   have h8 : vs 8 = .pointer (some ⟨g, 0, none⟩) := hv 8 (by decide)
   have t11 := (hs.tm 11 8 rfl).trans (congrArg some h8)
   exact stepVal rfl (by go_simp) ⟨Below.refl _ _, rfl, fun h => absurd h (by decide)⟩
  ·intro _ vs W hp hv b hs
   have h9 : vs 9 = .pointer (some ⟨g, 6, none⟩) := hv 9 (by decide)
   have t12 := (hs.tm 12 9 rfl).trans (congrArg some h9)
   exact stepVal rfl (by go_simp) ⟨Below.refl _ _, rfl, fun h => absurd h (by decide)⟩
  ·intro _ vs W hp hv b hs
   have h10 : vs 10 = .slice (some ⟨g, 6, none⟩) 6 6 := hv 10 (by decide)
   refine stepCall rfl Tryz.func80 (by kernel_rfl) rfl #[vs 10] rfl (by simp [Act.eval, hs.tm 13 10 rfl]) (by rw [h10]; exact clone_at g 6 z1 bs W (H1.out.2.1.below hp) HZ.out.2.2.2.2.1 (by decide) HZ.out.2.1) ?_
   rintro e W' ⟨v', rfl, ho, hb'⟩
   exact ⟨_, rfl, hb', own_weaken ho hp.size, fun _ k hk => own_base ho k hk⟩
  ·intro _ vs W hp hv b hs
   have t0 := (hs.oldtm 0 rfl).trans (show _ = some (Value.pointer (some ⟨g, 0, none⟩)) from rfl)
   exact stepVal rfl (by go_simp) ⟨Below.refl _ _, rfl, fun h => absurd h (by decide)⟩
  ·intro _ vs W hp hv b hs
   have h12 : vs 12 = .pointer (some ⟨g, 0, none⟩) := hv 12 (by decide)
   have t15 := (hs.tm 15 12 rfl).trans (congrArg some h12)
   exact stepVal rfl (by go_simp) ⟨Below.refl _ _, rfl, fun h => absurd h (by decide)⟩
  ·intro _ vs W hp hv b hs
   have h13 : vs 13 = .pointer (some ⟨g, 0, none⟩) := hv 13 (by decide)
   have t16 := (hs.tm 16 13 rfl).trans (congrArg some h13)
   exact stepVal rfl (by go_simp) ⟨Below.refl _ _, rfl, fun h => absurd h (by decide)⟩
  ·intro _ vs W hp hv b hs
   have h14 : vs 14 = .pointer (some ⟨g, 0, none⟩) := hv 14 (by decide)
   have t17 := (hs.tm 17 14 rfl).trans (congrArg some h14)
   exact stepVal rfl (by go_simp) ⟨Below.refl _ _, rfl, fun h => absurd h (by decide)⟩
  ·intro _ vs W hp hv b hs
   have h15 : vs 15 = .pointer (some ⟨g, 12, none⟩) := hv 15 (by decide)
   have t18 := (hs.tm 18 15 rfl).trans (congrArg some h15)
   exact stepVal rfl (by go_simp) ⟨Below.refl _ _, rfl, fun h => absurd h (by decide)⟩
  ·intro _ vs W hp hv b hs
   have h16 : vs 16 = .slice (some ⟨g, 12, none⟩) 6 6 := hv 16 (by decide)
   refine stepCall rfl Tryz.func80 (by kernel_rfl) rfl #[vs 16] rfl (by simp [Act.eval, hs.tm 19 16 rfl]) (by rw [h16]; exact clone_at g 12 z2 bs W (H1.out.2.1.below hp) HZ.out.2.2.2.2.2 (by decide) HZ.out.2.2.1) ?_
   rintro e W' ⟨v', rfl, ho, hb'⟩
   exact ⟨_, rfl, hb', own_weaken ho hp.size, fun _ k hk => own_base ho k hk⟩
  ·intro h
   exact absurd h (by decide)
  ·intro h
   exact absurd h (by decide)
 ·intro j hj v W hF k hk
  rcases List.mem_cons.1 hj with rfl | hj
  ·exact own_lt (show W.ownsRow w1.heap.size 3 1 v 6 (nums .i64 z0) from hF) k hk
  ·rcases List.mem_cons.1 hj with rfl | hj
   ·exact own_lt (show W.ownsRow w1.heap.size 3 1 v 6 (nums .i64 z1) from hF) k hk
   ·rcases List.mem_cons.1 hj with rfl | hj
    ·exact own_lt (show W.ownsRow w1.heap.size 3 1 v 6 (nums .i64 z2) from hF) k hk
    ·cases hj
 ·intro o ho vs W hp hv hap b hs
  obtain rfl := Option.some.inj ho
  have h5 : W.ownsRow w1.heap.size 3 1 (vs 5) 6 (nums .i64 z0) := hv 5 (by decide)
  have h11 : W.ownsRow w1.heap.size 3 1 (vs 11) 6 (nums .i64 z1) := hv 11 (by decide)
  have h17 : W.ownsRow w1.heap.size 3 1 (vs 17) 6 (nums .i64 z2) := hv 17 (by decide)
  have t8 := hs.tm 8 5 rfl
  have t14 := hs.tm 14 11 rfl
  have t20 := hs.tm 20 17 rfl
  have HR := Aside0.mk (show MemRows W w1.heap.size (vs 5) (vs 11) (vs 17) bs from ⟨by rw [HZ.out.1, List.drop_zero] at h5; exact h5, by rw [HZ.out.2.1] at h11; exact h11, by rw [HZ.out.2.2.1] at h17; exact h17, hap 5 (by decide) 11 (by decide) (by decide), hap 5 (by decide) 17 (by decide) (by decide), hap 11 (by decide) 17 (by decide) (by decide)⟩)
  obtain ⟨A0, d0, e0⟩ := own_slice h5
  obtain ⟨A1, d1, e1⟩ := own_slice h11
  obtain ⟨A2, d2, e2⟩ := own_slice h17
  generalize vs 5 = u0 at *
  generalize vs 11 = u1 at *
  generalize vs 17 = u2 at *
  subst e0 e1 e2
  exact stepVal (v := .agg #[.slice A0 6 d0, .slice A1 6 d1, .slice A2 6 d2]) rfl (by go_simp) ⟨_, _, _, rfl, HR.out, hp⟩
 ·intro o ho vs W hv b hs
  obtain rfl := Option.some.inj ho
  obtain ⟨v0, v1, v2, he, hR, hb⟩ := hv
  obtain ⟨A0, d0, e0⟩ := own_slice hR.r0
  obtain ⟨A1, d1, e1⟩ := own_slice hR.r1
  obtain ⟨A2, d2, e2⟩ := own_slice hR.r2
  subst e0 e1 e2
  have hbx := blk_below H1.out.1 hb
  refine stepPutB rfl rfl ((hs.old 2 rfl).trans rfl) #[.slice A0 6 d0, .slice A1 6 d1, .slice A2 6 d2] ((hs.ev 21 18 rfl).trans he) hbx rfl (by kernel_rfl) (by simp [Value.oneCell']) fun W' hbx' hput => ⟨_, _, _, hbx', hR.put1 hbx (by decide) hput, ?_⟩
  exact hput.below (H1.out.2.2.1.trans (hb.mono H1.out.2.2.1.size)) (Nat.le_refl _)
 ·rintro vs W ⟨v0, v1, v2, hbx, hR, hb⟩
  have HF := Aside0.mk (show MemRows W w.heap.size v0 v1 v2 bs ∧ Below w.heap.size w W from ⟨hR.weaken (by rw [H1.out.2.2.2]; omega), hb⟩)
  have HX := Aside0.mk hbx
  simp only [List.map_cons, List.map_nil, putL, Act.put, List.setIfInBounds_toArray, List.set_cons_zero, List.set_cons_succ]
  clear hbx hR hb
  go_wp2
  refine bodyPost_ret (results_cell_row rfl _ _ w.heap.size 30 #[v0, v1, v2] (0, 0) _ rfl HX.out Tryz.underlying30 rfl (by kernel_rfl)) rfl ?_
  exact ⟨v0, v1, v2, rfl, HF.out⟩
end Go.Proofs.YtendbgedpjcocaaGreatDoor.B
/- impl.StmtsOk and impl.StmtsMany, over count. -/
namespace Go.Proofs.YtendbgedpjcocaaGreatDoor.B
open Go.RowKit Go.Shelf Go.Proofs.YtendbgedpjcocaaGreatDoorW.PrintWords Go.Proofs.YtendbgedpjcocaaGreatDoorW.PrintLast Go.Proofs.YtendbgedpjcocaaGreatDoorW.PrintMore
set_option linter.unusedVariables false
theorem count_all (hok : OkCon) : ∀ d, d ≤ 4 → CntCon d := by
 intro d
 induction d with
 | zero => exact fun hd => count_step hok 0 hd (fun d' h => absurd h (by omega))
 | succ d ih => exact fun hd => count_step hok (d + 1) hd (fun d' h => by have := ih (by omega); cases (show d = d' by omega); exact this)
set_option maxRecDepth 100000 in
set_option maxHeartbeats 4000000 in
theorem stmtsOk_of (hok : OkCon) (A0 : Option Addr) (c0 : Nat) (l0 : List S35) (w : World) (hr0 : Kd.C k35 w A0 l0.length l0) (hc0 : l0.length ≤ c0) :
  Calls Tryz.prog 36 #[.slice A0 l0.length c0] w fun e w' => e = .returned (.bool (countL 4 l0 0).1) ∧ Below w.heap.size w w' := by
 have HCALL := Aside0.mk (count_all hok 4 (by omega) l0 A0 c0 w.heap.size 0 0 w (w.alloc (.cells #[.int .i64 0] 3)) (by rfl) (by omega) (by omega) (Nat.le_refl _) (Boxed.new w _ _) ((Below.refl _ _).alloc (Nat.le_refl _) _) hr0 hc0)
 clear hr0 hc0
 go_enter Tryz.func36, Tryz.ntmps36
 go_wp2_with fail
 refine HCALL.out.mono ?_
 rintro e w1 ⟨rfl, _, hB, _⟩
 have HB := Aside0.mk hB
 clear hB HCALL
 go_wp2
 go_ret
 exact ⟨rfl, HB.out⟩
end Go.Proofs.YtendbgedpjcocaaGreatDoor.B
/- Plain law: what the specification's StmtsOk and StmtsMany say (the first half of XPureStOk: never import both). -/
namespace Go.Proofs.YtendbgedpjcocaaGreatDoor.B
open Go.RowKit Go.Proofs.YtendbgedpjcocaaGreatDoorW.PrintWords Go.Proofs.YtendbgedpjcocaaGreatDoorW.PrintLast Go.Proofs.YtendbgedpjcocaaGreatDoorW.PrintMore
set_option linter.unusedVariables false

theorem short_of (e : S27) : iexOk e → Short e := by
 refine iexInd (P := fun e => iexOk e → Short e) ?_ e
 intro e ih ho
 rw [iexOk_eq] at ho
 exact Short.mk e (by omega) (fun x hx => ih x hx (ho.2 x hx))
theorem spec_stOk (l : List ISt) (h1 : manyT 4 l ≤ 1048576) (h2 : ∀ s ∈ l, istOk s) : Ends (fun k => spec_StmtsOk.f k l) (countL 4 l 0).1 := by
 rw [stOk_is, Bool.and_comm]
 have hm := manyT_spec 4 (by omega) l h1
 have hf := formT_spec 4 (by omega) l h1 h2 (fun s hs => short_of s.f2 ((istOk_eq s).1 hs).1)
 refine (hm.bind (g := fun k t => if t ≤ 16 then (spec_l4Form.f k l 4).bind fun t => some t else some false) ?_).of fun k => by rw [spec_StmtsOk.f]; rfl
 by_cases h : manyT 4 l ≤ 16
 ·rw [decide_eq_true h, Bool.true_and]
  refine (hf.bind (g := fun _ t => some t) (Ends.const fun k => rfl)).of fun k => by rw [if_pos (by omega)]; rfl
 ·rw [decide_eq_false h, Bool.false_and]
  exact Ends.const fun k => by rw [if_neg (by omega)]
end Go.Proofs.YtendbgedpjcocaaGreatDoor.B
/- Statements that are few and small. -/
namespace Go.Proofs.YtendbgedpjcocaaGreatDoor.B
open Go.RowKit Go.Proofs.YtendbgedpjcocaaGreatDoorW.PrintWords Go.Proofs.YtendbgedpjcocaaGreatDoorW.PrintLast Go.Proofs.YtendbgedpjcocaaGreatDoorW.PrintMore
set_option linter.unusedVariables false
/-- A statement whose lists are short. -/
inductive TinyS : ISt → Prop
 | mk (s : ISt) : Tiny s.f2 → s.f3.length ≤ 2000 → s.f4.length ≤ 2000 → (∀ x ∈ s.f3, TinyS x) → (∀ x ∈ s.f4, TinyS x) → TinyS s
def cntS : ISt → Nat
 | ⟨_, _, _, l, l'⟩ => 1 + (l.attach.map fun x => cntS x.1).sum + (l'.attach.map fun x => cntS x.1).sum
termination_by e => SizeOf.sizeOf e
decreasing_by all_goals (have := List.sizeOf_lt_of_mem x.2; simp; omega)
theorem cntS_eq (e : ISt) : cntS e = 1 + (e.f3.map cntS).sum + (e.f4.map cntS).sum := by
 cases e with
 | mk a b c l l' => rw [cntS]; simp
/-- A list of few statements. -/
def Fit (n : Nat) (l : List ISt) : Prop := (l.map cntS).sum ≤ n ∧ ∀ x ∈ l, TinyS x
theorem Fit.len {n : Nat} {l : List ISt} (h : Fit n l) : l.length ≤ n := by
 have : ∀ l : List ISt, l.length ≤ (l.map cntS).sum := by
  intro l
  induction l with
  | nil => simp
  | cons a l ih => rw [List.map_cons, List.sum_cons, List.length_cons, cntS_eq]; omega
 exact Nat.le_trans (this l) h.1
theorem Fit.nil (n : Nat) : Fit n [] := ⟨by simp, by simp⟩
theorem Fit.snoc {n m : Nat} {l : List ISt} {x : ISt} (h : Fit n l) (hx : TinyS x) (hc : cntS x ≤ m) : Fit (n + m) (l ++ [x]) := by
 refine ⟨?_, fun y hy => ?_⟩
 ·have := h.1
  rw [List.map_append, List.sum_append, List.map_cons, List.map_nil, List.sum_cons, List.sum_nil]; omega
 ·rcases List.mem_append.1 hy with hy | hy
  ·exact h.2 y hy
  ·obtain rfl := List.mem_singleton.1 hy; exact hx
theorem Fit.mono {n m : Nat} {l : List ISt} (h : Fit n l) (hm : n ≤ m) : Fit m l := ⟨Nat.le_trans h.1 hm, h.2⟩
theorem Fit.mk1 {n m : Nat} {k : Int} {a : S24} {e : Ex} {l l' : List ISt} (he : Tiny e) (h : Fit n l) (h' : Fit m l') (hn : n ≤ 2000) (hm : m ≤ 2000) : TinyS ⟨k, a, e, l, l'⟩ ∧ cntS ⟨k, a, e, l, l'⟩ ≤ 1 + n + m :=
 ⟨.mk _ he (Nat.le_trans h.len hn) (Nat.le_trans h'.len hm) h.2 h'.2, by rw [cntS_eq]; have h1 := h.1; have h2 := h'.1; dsimp only; omega⟩
theorem manyT_cnt (d : Nat) : ∀ l : List ISt, manyT d l ≤ (l.map cntS).sum := by
 induction d with
 | zero =>
  intro l
  rw [manyT]
  induction l with
  | nil => simp
  | cons a l ih => rw [List.map_cons, List.sum_cons, List.length_cons, cntS_eq]; omega
 | succ d ih =>
  intro l
  rw [manyT]
  induction l with
  | nil => simp
  | cons a l ihl =>
   simp only [List.map_cons, List.sum_cons, List.length_cons]
   rw [cntS_eq]
   have h1 := ih a.f3
   have h2 := ih a.f4
   omega
theorem tiny_ok {e : Ex} (h : Tiny e) : iexOk e := by
 induction h with
 | mk e hl _ ih => exact (iexOk_eq e).2 ⟨by omega, ih⟩
theorem TinyS.ok {s : ISt} (h : TinyS s) : istOk s := by
 induction h with
 | mk s he h3 h4 _ _ ih3 ih4 => exact (istOk_eq s).2 ⟨tiny_ok he, ⟨by omega, ih3⟩, ⟨by omega, ih4⟩⟩
theorem Fit.ok {n : Nat} {l : List ISt} (h : Fit n l) (hn : n ≤ 100000) : manyT 4 l ≤ 1048576 ∧ ∀ x ∈ l, istOk x :=
 ⟨by have := manyT_cnt 4 l; have := h.1; omega, fun x hx => (h.2 x hx).ok⟩
theorem Fit.set {n : Nat} {l : List ISt} (h : Fit n l) (i : Nat) (hi : i < l.length) (y : ISt) (hy : TinyS y) (hc : cntS y = cntS l[i]) : Fit n (l.set i y) := by
 refine ⟨?_, fun x hx => ?_⟩
 ·have : (l.set i y).map cntS = l.map cntS := by
   rw [List.map_set, hc]
   apply List.ext_getElem? 
   intro j
   rw [List.getElem?_set]
   split
   ·rename_i hij
    subst hij
    simp [hi]
   ·rfl
  rw [this]; exact h.1
 ·rcases List.mem_or_eq_of_mem_set hx with hx | rfl
  ·exact h.2 x hx
  ·exact hy
end Go.Proofs.YtendbgedpjcocaaGreatDoor.B
