import Derived.Test.YtendbgedpjcocaaGreatDoorJnF
import Derived.Test.YtendbgedpjcocaaGreatDoorPkB
import Derived.Test.YtendbgedpjcocaaGreatDoorJnI
import Derived.Deep.RegionHeld3
import Derived.RangeFuncBox
import Derived.Test.YtendbgedpjcocaaGreatDoorPkA
import Derived.Test.YtendbgedpjcocaaGreatDoorJnH
import Derived.Test.YtendbgedpjcocaaGreatDoorB0
import Derived.Test.YtendbgedpjcocaaGreatDoorSq
import Derived.Ground.Names2Prog
import Derived.Shelf.Slices.Clone
import Derived.Ground.SlgnProg
import Derived.Shelf.SlicesE.Clone
import Derived.Test.YtendbgedpjcocaaGreatDoorProg
/- The draws of what is ok, and the copies, end. -/
namespace Go.Proofs.YtendbgedpjcocaaGreatDoor.B
open Go.RowKit Go.Proofs.YtendbgedpjcocaaGreatDoorW.PrintWords Go.Proofs.YtendbgedpjcocaaGreatDoorW.PrintLast Go.Proofs.YtendbgedpjcocaaGreatDoorW.PrintMore
set_option linter.unusedVariables false

theorem some_total (s : List Int) (hs : Bytes s) (hl : s.length ≤ 2000) (p : Int) (hp : 0 ≤ p) (hp1 : p < 1099500000000) :
  ∃ (e : Ex) (p' : Int) (k : Nat), Tiny e ∧ p ≤ p' ∧ p' ≤ p + 200002 ∧ Drew1 (spec_l3Some.f k s p) e p' := by
 obtain ⟨r, r0, r1, hr⟩ := pick_total s hs hl p 4 hp (by omega) (by omega) (by omega)
 obtain ⟨d, hd⟩ := Int.eq_ofNat_of_zero_le r0
 have hd4 : d < 4 := by omega
 have b1 := bnd_le (d + 1) (by omega)
 have b2 := bnd_le 2 (by omega)
 have b3 := bnd_pos (d + 1)
 have b4 := bnd_pos 2
 obtain ⟨e, p1, k1, he, q1, q2, h1⟩ := expr_total s hs hl (d + 1) (by omega) (p + 1) (by omega) (by omega)
 obtain ⟨k2, h2⟩ := exprOk_spec e he.short
 obtain ⟨e', p2, k3, he', q3, q4, h3⟩ := expr_total s hs hl 2 (by omega) p1 (by omega) (by omega)
 unfold Drew1 at h1 h3
 have m1 : spec_l3Expr.f (k1 + k2 + k3 + 1) s (p + 1) ((d + 1 : Nat) : Int) = _ := up_le (mono_ef _ _ _) (by omega) h1
 have m2 : spec_ExprOk.f (k1 + k2 + k3 + 1) e.f0 e.f1 e.f2.f0 e.f2.f1 e.f3 = _ := up_le (f := fun k => spec_ExprOk.f k e.f0 e.f1 e.f2.f0 e.f2.f1 e.f3) (fun k => spec_ExprOk.mono _ _ _ _ _ k) (show k2 ≤ k1 + k2 + k3 + 1 by omega) h2
 have m3 : spec_l3Expr.f (k1 + k2 + k3 + 1) s p1 2 = _ := up_le (mono_ef _ _ _) (by omega) h3
 have e1 : wrap64 (1 + r) = ((d + 1 : Nat) : Int) := by rw [wrap_id (by omega) (by omega)]; omega
 cases hv : (formS 6 e && decide (manyS 6 e ≤ 14)) with
 | true =>
  refine ⟨e, p1, k1 + k2 + k3 + 1, he, by omega, by omega, ?_⟩
  unfold Drew1
  rw [spec_l3Some.f, hr (k1 + k2 + k3)]
  simp only [Option.bind_some]
  rw [e1, m1]
  simp only [Option.bind_some]
  rw [m2, hv]
  simp
 | false =>
  refine ⟨e', p2, k1 + k2 + k3 + 1, he', by omega, by omega, ?_⟩
  unfold Drew1
  rw [spec_l3Some.f, hr (k1 + k2 + k3)]
  simp only [Option.bind_some]
  rw [e1, m1]
  simp only [Option.bind_some]
  rw [m2, hv]
  simp only [Option.bind_some, Bool.false_eq_true, if_false]
  rw [m3]
  simp

theorem addrBent_total (s : List Int) (hs : Bytes s) (hl : s.length ≤ 2000) (p : Int) (hp : 0 ≤ p) (hp1 : p < 1099500000000) :
  ∃ (a b p' : Int), p ≤ p' ∧ p' ≤ p + 4 ∧ ∀ k, spec_l2AddrBent.f (k + 1) s p = some (a, b, p') := by
 obtain ⟨a, b, ha, hb, hq⟩ := addr_total s hs hl p hp (by omega)
 obtain ⟨r, r0, r1, hr⟩ := pick_total s hs hl (p + 2) 16 (by omega) (by omega) (by omega) (by omega)
 obtain ⟨x, hx, hn⟩ := num_total s hs hl (p + 2 + 1) (by omega) (by omega) [0, 4, (-1)] (by simp) (by simp)
 obtain ⟨y, hy, hm⟩ := num_total s hs hl (p + 2 + 1) (by omega) (by omega) [(-1), 6, 5] (by simp) (by simp)
 by_cases h0 : r = 0
 ·refine ⟨x, b, p + 2 + 1 + 1, by omega, by omega, fun k => ?_⟩
  rw [spec_l2AddrBent.f, hq k]
  simp only [Option.bind_some]
  rw [hr k]
  simp only [Option.bind_some, if_pos h0]
  rw [hn k]; rfl
 ·by_cases h1 : r = 1
  ·refine ⟨a, y, p + 2 + 1 + 1, by omega, by omega, fun k => ?_⟩
   rw [spec_l2AddrBent.f, hq k]
   simp only [Option.bind_some]
   rw [hr k]
   simp only [Option.bind_some, if_neg h0, if_pos h1]
   rw [hm k]; rfl
  ·refine ⟨a, b, p + 2 + 1, by omega, by omega, fun k => ?_⟩
   rw [spec_l2AddrBent.f, hq k]
   simp only [Option.bind_some]
   rw [hr k]
   simp only [Option.bind_some, if_neg h0, if_neg h1]
theorem mono_cf (a b c d : Int) (l : List Ex) : ∀ k, LeO (spec_l3Copy.f k a b c d l) (spec_l3Copy.f (k + 1) a b c d l) := fun k => (spec_l3Copy.mono_l k).1 a b c d l
theorem mono_cl (x a b c d : Int) (l : List Ex) (a' b' c' d' : Int) (l' : List Ex) : ∀ k, LeO (spec_l3Copy.l0 k x a b c d l a' b' c' d' l') (spec_l3Copy.l0 (k + 1) x a b c d l a' b' c' d' l') := fun k => (spec_l3Copy.mono_l k).2 x a b c d l a' b' c' d' l'
theorem copy_total (e : Ex) (he : Tiny e) : ∃ k, spec_l3Copy.f k e.f0 e.f1 e.f2.f0 e.f2.f1 e.f3 = some (e.f0, e.f1, e.f2.f0, e.f2.f1, e.f3) := by
 induction he with
 | mk e hl hk ih =>
  have loop : ∀ (n j : Nat), n + j = e.f3.length → ∃ k, spec_l3Copy.l0 k j e.f0 e.f1 e.f2.f0 e.f2.f1 e.f3 e.f0 e.f1 e.f2.f0 e.f2.f1 (e.f3.take j) = some (e.f0, e.f1, e.f2.f0, e.f2.f1, e.f3) := by
   intro n
   induction n with
   | zero => intro j hj; exact ⟨1, by rw [spec_l3Copy.l0, if_neg (by omega), List.take_of_length_le (by omega)]⟩
   | succ n ihn =>
    intro j hj
    have hlt : j < e.f3.length := by omega
    obtain ⟨k1, h1⟩ := ih e.f3[j] (List.getElem_mem hlt)
    obtain ⟨k2, h2⟩ := ihn (j + 1) (by omega)
    refine ⟨k1 + k2 + 1, ?_⟩
    have eta : (⟨e.f3[j].f0, e.f3[j].f1, ⟨e.f3[j].f2.f0, e.f3[j].f2.f1⟩, e.f3[j].f3⟩ : Ex) = e.f3[j] := by cases e.f3[j] with | mk a b c l => cases c; rfl
    rw [spec_l3Copy.l0, if_pos (by omega), if_pos (by omega), rd_get e.f3 j hlt, up_le (mono_cf _ _ _ _ _) (Nat.le_add_right k1 k2) h1]
    simp only [Option.bind_some]
    rw [if_pos (by simp; omega), wrap_id (by omega) (by omega), eta, ← List.take_succ_eq_append_getElem hlt]
    exact up_le (mono_cl _ _ _ _ _ _ _ _ _ _ _) (Nat.le_add_left k2 k1) h2
  obtain ⟨k, h⟩ := loop e.f3.length 0 (by omega)
  exact ⟨k + 1, by rw [spec_l3Copy.f]; simpa using h⟩
end Go.Proofs.YtendbgedpjcocaaGreatDoor.B
/- impl.count: statements are counted one by one. -/
namespace Go.Proofs.YtendbgedpjcocaaGreatDoor.B
open Go.RowKit Go.Shelf Go.Proofs.YtendbgedpjcocaaGreatDoorW.PrintWords Go.Proofs.YtendbgedpjcocaaGreatDoorW.PrintLast Go.Proofs.YtendbgedpjcocaaGreatDoorW.PrintMore
set_option linter.unusedVariables false

def headSt (s : St) : Bool := plainL s && okL 0 (partsL s.f2)
/-- Statements that are counted: are all ok, and how many there are then; at most d of them around one another. -/
def countL : Nat → List St → Int → Bool × Int
 | 0, [], m => (true, m)
 | 0, _ :: _, m => (false, m + 1)
 | d + 1, l, m => l.foldl (fun r s => if r.1 then (if r.2 + 1 > 16 || !headSt s then (false, r.2 + 1) else let r1 := countL d s.f3 (r.2 + 1); if r1.1 then countL d s.f4 r1.2 else r1) else r) (true, m)
/-- One statement more. -/
def cntStep (d : Nat) (s : St) (m : Int) : Bool × Int := if m + 1 > 16 || !headSt s then (false, m + 1) else let r1 := countL d s.f3 (m + 1); if r1.1 then countL d s.f4 r1.2 else r1
theorem countL_succ (d : Nat) (l : List St) (m : Int) : countL (d + 1) l m = l.foldl (fun r s => if r.1 then cntStep d s r.2 else r) (true, m) := rfl
theorem cnt_stop (d : Nat) (l : List St) (m : Int) : l.foldl (fun r s => if r.1 then cntStep d s r.2 else r) (false, m) = (false, m) := by
 induction l with
 | nil => rfl
 | cons a l ih => exact ih
/-- While all is ok the count is within its bounds. -/
theorem count_in : ∀ (d : Nat) (l : List St) (m : Int), m ≤ 16 → ((countL d l m).1 = true → (countL d l m).2 ≤ 16 ∧ m ≤ (countL d l m).2) ∧ (countL d l m).2 ≤ 17 ∧ m ≤ (countL d l m).2 := by
 intro d
 induction d with
 | zero =>
  intro l m hm
  cases l with
  | nil => exact ⟨fun _ => ⟨hm, Int.le_refl _⟩, by show m ≤ 17; omega, Int.le_refl _⟩
  | cons a l => exact ⟨fun h => (by cases h), by show m + 1 ≤ 17; omega, by show m ≤ m + 1; omega⟩
 | succ d ih =>
  intro l
  induction l with
  | nil => intro m hm; exact ⟨fun _ => ⟨hm, Int.le_refl _⟩, by show m ≤ 17; omega, Int.le_refl _⟩
  | cons a l ihl =>
   intro m hm
   rw [countL_succ, List.foldl_cons]
   simp only [if_true]
   have hst : ((cntStep d a m).1 = true → (cntStep d a m).2 ≤ 16) ∧ (cntStep d a m).2 ≤ 17 ∧ m ≤ (cntStep d a m).2 := by
    unfold cntStep
    by_cases h : (decide (m + 1 > 16) || !headSt a) = true
    ·rw [if_pos h]; exact ⟨fun h => (by cases h), by show m + 1 ≤ 17; omega, by show m ≤ m + 1; omega⟩
    ·rw [if_neg h]
     simp only [Bool.or_eq_true, decide_eq_true_eq, not_or] at h
     have h1 := ih a.f3 (m + 1) (by omega)
     by_cases hr : (countL d a.f3 (m + 1)).1 = true
     ·have h2 := ih a.f4 (countL d a.f3 (m + 1)).2 (h1.1 hr).1
      simp only [hr, if_true]
      exact ⟨fun h => (h2.1 h).1, h2.2.1, by have := h1.2.2; have := h2.2.2; omega⟩
     ·simp only [hr]
      exact ⟨fun h => absurd h hr, h1.2.1, by have := h1.2.2; show m ≤ (countL d a.f3 (m + 1)).2; omega⟩
   obtain ⟨r, hr⟩ : ∃ r, r = cntStep d a m := ⟨_, rfl⟩
   rw [← hr] at hst ⊢
   obtain ⟨b, n⟩ := r
   cases b with
   | false => rw [cnt_stop]; exact ⟨fun h => (by cases h), hst.2.1, hst.2.2⟩
   | true =>
    have := ihl n (hst.1 rfl)
    rw [countL_succ] at this
    exact ⟨fun h => ⟨(this.1 h).1, by have := (this.1 h).2; have := hst.2.2; show m ≤ _; omega⟩, this.2.1, by have := this.2.2; have := hst.2.2; show m ≤ _; omega⟩
end Go.Proofs.YtendbgedpjcocaaGreatDoor.B
/- Expressions of the laws and of the program: bounds, inductions, rows. -/
namespace Go.Proofs.YtendbgedpjcocaaGreatDoor.B
open Go.RowKit Go.Proofs.YtendbgedpjcocaaGreatDoorW.PrintWords Go.Proofs.YtendbgedpjcocaaGreatDoorW.PrintLast Go.Proofs.YtendbgedpjcocaaGreatDoorW.PrintMore
set_option linter.unusedVariables false

abbrev LExT := S27
def iexOk : S27 → Prop
 | ⟨_, _, _, l⟩ => l.length ≤ 1048576 ∧ ∀ x ∈ l.attach, iexOk x.1
termination_by e => SizeOf.sizeOf e
decreasing_by have := List.sizeOf_lt_of_mem x.2; simp; omega
theorem iexOk_eq (e : S27) : iexOk e ↔ e.f3.length ≤ 1048576 ∧ ∀ x ∈ e.f3, iexOk x := by
 cases e with
 | mk a b c l => rw [iexOk]; simp
theorem iexInd {P : S27 → Prop} (h : ∀ e : S27, (∀ x ∈ e.f3, P x) → P e) : ∀ e, P e
 | ⟨a, b, c, l⟩ => h _ (fun x hx => iexInd h x)
termination_by e => SizeOf.sizeOf e
decreasing_by have := List.sizeOf_lt_of_mem hx; simp at this ⊢; omega
theorem mem_sum : ∀ (l : List Nat) (x : Nat), x ∈ l → x ≤ l.sum
 | [], x, h => by simp at h
 | a :: l, x, h => by
  rw [List.sum_cons]
  rcases List.mem_cons.mp h with rfl | h
  ·omega
  ·have := mem_sum l x h; omega
end Go.Proofs.YtendbgedpjcocaaGreatDoor.B
/- Statements of the laws and of the program: bounds, inductions, rows. -/
namespace Go.Proofs.YtendbgedpjcocaaGreatDoor.B
open Go.RowKit Go.Proofs.YtendbgedpjcocaaGreatDoorW.PrintWords Go.Proofs.YtendbgedpjcocaaGreatDoorW.PrintLast Go.Proofs.YtendbgedpjcocaaGreatDoorW.PrintMore
set_option linter.unusedVariables false

abbrev LSt := S35
abbrev ISt := S35
theorem istInd {P : ISt → Prop} (h : ∀ e : ISt, (∀ x ∈ e.f3, P x) → (∀ x ∈ e.f4, P x) → P e) : ∀ e, P e
 | ⟨a, b, c, l, l'⟩ => h _ (fun x hx => istInd h x) (fun x hx => istInd h x)
termination_by e => SizeOf.sizeOf e
decreasing_by all_goals (have := List.sizeOf_lt_of_mem hx; simp at this ⊢; omega)
def istOk : ISt → Prop
 | ⟨_, _, c, l, l'⟩ => iexOk c ∧ (l.length ≤ 1048576 ∧ ∀ x ∈ l.attach, istOk x.1) ∧ (l'.length ≤ 1048576 ∧ ∀ x ∈ l'.attach, istOk x.1)
termination_by e => SizeOf.sizeOf e
decreasing_by all_goals (have := List.sizeOf_lt_of_mem x.2; simp; omega)
theorem istOk_eq (e : ISt) : istOk e ↔ iexOk e.f2 ∧ (e.f3.length ≤ 1048576 ∧ ∀ x ∈ e.f3, istOk x) ∧ (e.f4.length ≤ 1048576 ∧ ∀ x ∈ e.f4, istOk x) := by
 cases e with
 | mk a b c l l' => rw [istOk]; simp
theorem rdI_st (l : List ISt) (j : Nat) (h : j < l.length) : rd_T35 l (j : Int) = l[j] := by simp [rd_T35, h]
end Go.Proofs.YtendbgedpjcocaaGreatDoor.B
/- Plain law: the specification's own reckoning of StmtsOk and StmtsMany ends, and says what count says. -/
namespace Go.Proofs.YtendbgedpjcocaaGreatDoor.B
open Go.RowKit Go.Proofs.YtendbgedpjcocaaGreatDoorW.PrintWords Go.Proofs.YtendbgedpjcocaaGreatDoorW.PrintLast Go.Proofs.YtendbgedpjcocaaGreatDoorW.PrintMore
set_option linter.unusedVariables false

theorem Ends.of_up {α : Type} {f : Nat → Option α} {r : α} (hm : ∀ k, LeO (f k) (f (k + 1))) (h : ∃ k, f k = some r) : Ends f r := by
 obtain ⟨k, hk⟩ := h
 exact ⟨k, fun k' hk' => up_le hm hk' hk⟩
theorem and_part {f g : Nat → Option Bool} {a b : Bool} (hf : Ends f a) (hg : a = true → Ends g b) : Ends (fun k => (f k).bind fun t => if t = true then g k else some false) (a && b) := by
 refine hf.bind (g := fun k t => if t = true then g k else some false) ?_
 cases a with
 | false => exact Ends.const fun k => rfl
 | true => exact (hg rfl).of fun k => by rw [if_pos rfl]
/-- How many statements there are, up to so deep. -/
def manyT : Nat → List ISt → Nat
 | 0, l => l.length
 | d + 1, l => l.length + (l.map fun s => manyT d s.f3 + manyT d s.f4).sum
def formT : Nat → List ISt → Bool
 | 0, l => l.isEmpty
 | d + 1, l => l.all fun s => headSt s && (formT d s.f3 && formT d s.f4)
theorem many0_stop (k : Nat) (l : List ISt) (hl : l.length ≤ 9223372036854775807) : spec_l4Many.f (k + 3) l 0 = some (l.length : Int) := by
 rw [spec_l4Many.f, spec_l4Many.l0]
 by_cases h : (0 : Int) < (l.length : Int)
 ·rw [if_pos h, decide_eq_false (by omega), spec_l4Many.j1, if_neg (by simp)]
 ·rw [if_neg h, spec_l4Many.j1, if_neg (by simp)]
theorem many_loopT (d : Nat) (hd : d ≤ 100) (l : List ISt) (hl : l.length ≤ 1048576) (ih : ∀ s ∈ l, manyT d s.f3 + manyT d s.f4 ≤ 1048576 → Ends (fun k => spec_l4Many.f k s.f3 (d : Int)) (manyT d s.f3 : Int) ∧ Ends (fun k => spec_l4Many.f k s.f4 (d : Int)) (manyT d s.f4 : Int)) :
  ∀ (e j : Nat) (n : Nat), j + e = l.length → n + ((l.drop j).map fun s => manyT d s.f3 + manyT d s.f4).sum ≤ 1048576 → Ends (fun k => spec_l4Many.l0 k l ((d + 1 : Nat) : Int) (n : Int) j) ((n + ((l.drop j).map fun s => manyT d s.f3 + manyT d s.f4).sum : Nat) : Int) := by
 intro e
 induction e with
 | zero =>
  intro j n hj hn
  refine Ends.succ (fun k => by rw [spec_l4Many.l0, if_neg (by omega)]) ?_
  refine Ends.succ (fun k => by rw [spec_l4Many.j1, if_neg (by simp)]) (Ends.const fun k => ?_)
  rw [List.drop_of_length_le (by omega)]; simp
 | succ e ihe =>
  intro j n hj hn
  have hjl : j < l.length := by omega
  have hdr : l.drop j = l[j] :: l.drop (j + 1) := List.drop_eq_getElem_cons hjl
  rw [hdr, List.map_cons, List.sum_cons] at hn ⊢
  refine Ends.succ (fun k => by rw [spec_l4Many.l0, if_pos (by omega), decide_eq_true (by omega)]) ?_
  refine Ends.succ (fun k => by rw [spec_l4Many.j1, if_pos rfl, if_pos (by omega), if_pos (by omega), rdI_st l j hjl, show wrap64 (((d + 1 : Nat) : Int) - 1) = (d : Int) by rw [wrap_in (by omega) (by omega)]; omega]) ?_
  obtain ⟨h3, h4⟩ := ih l[j] (List.getElem_mem hjl) (by omega)
  refine Ends.bind h3 (Ends.bind h4 ?_)
  have := ihe (j + 1) (n + (manyT d l[j].f3 + manyT d l[j].f4)) (by omega) (by omega)
  rw [Nat.add_assoc] at this
  refine this.of fun k => ?_
  rw [show wrap64 ((n : Int) + (manyT d l[j].f3 : Int)) = (n : Int) + (manyT d l[j].f3 : Int) from wrap_in (by omega) (by omega), show wrap64 ((n : Int) + (manyT d l[j].f3 : Int) + (manyT d l[j].f4 : Int)) = (n : Int) + (manyT d l[j].f3 : Int) + (manyT d l[j].f4 : Int) from wrap_in (by omega) (by omega), show wrap64 ((j : Int) + 1) = ((j + 1 : Nat) : Int) by rw [wrap_in (by omega) (by omega)]; omega]
  congr 1
  omega
theorem manyT_spec (d : Nat) : d ≤ 100 → ∀ l : List ISt, manyT d l ≤ 1048576 → Ends (fun k => spec_l4Many.f k l (d : Int)) (manyT d l : Int) := by
 induction d with
 | zero =>
  intro _ l hl
  rw [manyT] at *
  exact ⟨3, fun k hk => by obtain ⟨k', rfl⟩ : ∃ k', k = k' + 3 := ⟨k - 3, by omega⟩; exact many0_stop k' l (by omega)⟩
 | succ d ih =>
  intro hd l hl
  rw [manyT] at hl ⊢
  refine Ends.succ (fun k => by rw [spec_l4Many.f]) ?_
  have := many_loopT d (by omega) l (by omega) (fun s hs h => ⟨ih (by omega) s.f3 (by omega), ih (by omega) s.f4 (by omega)⟩) l.length 0 l.length (by omega) (by rw [List.drop_zero]; exact hl)
  rw [List.drop_zero] at this
  exact this
/-- One round of l4Form. -/
theorem form_headT (k : Nat) (l : List ISt) (x1 : Int) (j : Nat) (hj : j < l.length) : spec_l4Form.l0 (k + 1) l x1 (j : Int) = spec_l4Form.j2 k l x1 j (plainL l[j]) l[j].f0 l[j].f1.f0 l[j].f1.f1 l[j].f2.f0 l[j].f2.f1 l[j].f2.f2.f0 l[j].f2.f2.f1 l[j].f2.f3 l[j].f3 l[j].f4 := by
 rw [spec_l4Form.l0, if_pos (by omega), if_pos (by omega), rdI_st l j hj]
 generalize l[j] = s
 have hlen3 : ((s.f3.length : Int) == 0) = (s.f3.length == 0) := by rw [Bool.eq_iff_iff, beq_iff_eq, beq_iff_eq]; omega
 have hlen4 : ((s.f4.length : Int) == 0) = (s.f4.length == 0) := by rw [Bool.eq_iff_iff, beq_iff_eq, beq_iff_eq]; omega
 unfold plainL putsL
 simp only [addrOk_is, Option.bind_some]
 by_cases h1 : s.f0 = 1
 ·rw [if_pos h1, if_pos h1]
  cases ha : addrOkL s.f1.f0 s.f1.f1 with
  | false => rw [if_neg (by simp)]; simp
  | true =>
   rw [if_pos rfl]
   by_cases h2 : s.f1.f0 = 1
   ·rw [if_pos h2, h2]; simp
   ·rw [if_neg h2]
    by_cases h3 : s.f3.length = 0
    ·rw [if_pos (by omega), hlen4, h3, show (s.f1.f0 != 1) = true from bne_iff_ne.mpr h2]; simp
    ·rw [if_neg (by omega), show (s.f3.length == 0) = false from beq_false_of_ne h3]; simp
 ·rw [if_neg h1, if_neg h1]
  by_cases h2 : s.f0 = 2
  ·rw [if_pos h2, if_pos h2]
  ·rw [if_neg h2, if_neg h2]
   by_cases h3 : s.f0 = 3
   ·rw [if_pos h3, if_pos h3]
    cases hz : (s.f1.f0 == 0 && s.f1.f1 == 0) with
    | false => simp
    | true => simp [hlen4]
   ·rw [if_neg h3, if_neg h3]
theorem form_loopT (d : Nat) (hd : d ≤ 100) (l : List ISt) (hl : l.length ≤ 1048576) (hs : ∀ s ∈ l, Short s.f2) (ih : ∀ s ∈ l, Ends (fun k => spec_l4Form.f k s.f3 (d : Int)) (formT d s.f3) ∧ Ends (fun k => spec_l4Form.f k s.f4 (d : Int)) (formT d s.f4)) :
  ∀ (e j : Nat), j + e = l.length → Ends (fun k => spec_l4Form.l0 k l ((d + 1 : Nat) : Int) j) ((l.drop j).all fun s => headSt s && (formT d s.f3 && formT d s.f4)) := by
 intro e
 induction e with
 | zero =>
  intro j hj
  refine Ends.succ (fun k => by rw [spec_l4Form.l0, if_neg (by omega)]) (Ends.const fun k => ?_)
  rw [List.drop_of_length_le (by omega)]; rfl
 | succ e ihe =>
  intro j hj
  have hjl : j < l.length := by omega
  have hdr : l.drop j = l[j] :: l.drop (j + 1) := List.drop_eq_getElem_cons hjl
  rw [hdr, List.all_cons]
  refine Ends.succ (fun k => form_headT k l _ j hjl) ?_
  obtain ⟨h3, h4⟩ := ih l[j] (List.getElem_mem hjl)
  refine Ends.succ (fun k => by rw [spec_l4Form.j2, show wrap64 (((d + 1 : Nat) : Int) - 1) = (d : Int) by rw [wrap_in (by omega) (by omega)]; omega, show wrap64 ((j : Int) + 1) = ((j + 1 : Nat) : Int) by rw [wrap_in (by omega) (by omega)]; omega]) ?_
  cases hp : plainL l[j] with
  | false =>
   refine Ends.const fun k => ?_
   rw [if_neg (by simp), headSt, hp]; simp
  | true =>
   have hx := Ends.of_up (f := fun k => spec_ExprOk.f k l[j].f2.f0 l[j].f2.f1 l[j].f2.f2.f0 l[j].f2.f2.f1 l[j].f2.f3) (fun k => spec_ExprOk.mono _ _ _ _ _ k) (exprOk_spec l[j].f2 (hs l[j] (List.getElem_mem hjl)))
   rw [headSt, hp, Bool.true_and, okL_eq, Bool.and_assoc, Bool.and_assoc]
   rw [show (formS 6 l[j].f2 && (decide (manyS 6 l[j].f2 ≤ 14) && (formT d l[j].f3 && formT d l[j].f4 && (l.drop (j + 1)).all fun s => headSt s && (formT d s.f3 && formT d s.f4)))) = ((formS 6 l[j].f2 && decide (manyS 6 l[j].f2 ≤ 14)) && (formT d l[j].f3 && (formT d l[j].f4 && (l.drop (j + 1)).all fun s => headSt s && (formT d s.f3 && formT d s.f4)))) by simp only [Bool.and_assoc]]
   refine (and_part hx fun _ => and_part h3 fun _ => and_part h4 fun _ => ihe (j + 1) (by omega)).of fun k => ?_
   rw [if_pos rfl]
theorem formT_spec (d : Nat) : d ≤ 100 → ∀ l : List ISt, manyT d l ≤ 1048576 → (∀ s ∈ l, istOk s) → (∀ s : ISt, istOk s → Short s.f2) → Ends (fun k => spec_l4Form.f k l (d : Int)) (formT d l) := by
 induction d with
 | zero =>
  intro _ l hl ho hsh
  refine Ends.succ (fun k => by rw [spec_l4Form.f]) ?_
  cases l with
  | nil => exact ⟨2, fun k hk => by obtain ⟨k', rfl⟩ : ∃ k', k = k' + 2 := ⟨k - 2, by omega⟩; show (if (([] : List ISt).length : Int) > 0 then _ else spec_l4Form.j0 (k' + 2) [] 0 false) = _; rw [if_neg (by simp), spec_l4Form.j0, if_neg (by simp), spec_l4Form.l0, if_neg (by simp)]; rfl⟩
  | cons a l => exact ⟨1, fun k hk => by obtain ⟨k', rfl⟩ : ∃ k', k = k' + 1 := ⟨k - 1, by omega⟩; show (if ((a :: l).length : Int) > 0 then spec_l4Form.j0 (k' + 1) (a :: l) 0 (decide ((0 : Int) < 1)) else _) = _; rw [if_pos (by simp), spec_l4Form.j0, if_pos (by simp)]; rfl⟩
 | succ d ih =>
  intro hd l hl ho hsh
  have hkid : ∀ s ∈ l, manyT d s.f3 + manyT d s.f4 ≤ 1048576 := fun s hs => by
   have : manyT d s.f3 + manyT d s.f4 ≤ (l.map fun s => manyT d s.f3 + manyT d s.f4).sum := mem_sum _ _ (List.mem_map_of_mem (f := fun s => manyT d s.f3 + manyT d s.f4) hs)
   rw [manyT] at hl
   omega
  have hll : l.length ≤ 1048576 := by rw [manyT] at hl; omega
  have hlo := form_loopT d (by omega) l hll (fun s hs => hsh s (ho s hs)) (fun s hs => ⟨ih (by omega) s.f3 (by have := hkid s hs; omega) ((istOk_eq s).1 (ho s hs)).2.1.2 hsh, ih (by omega) s.f4 (by have := hkid s hs; omega) ((istOk_eq s).1 (ho s hs)).2.2.2 hsh⟩) l.length 0 (by omega)
  rw [List.drop_zero] at hlo
  rw [formT]
  refine Ends.succ (g := fun k => spec_l4Form.j0 k l ((d + 1 : Nat) : Int) false) (fun k => ?_) (Ends.succ (fun k => by rw [spec_l4Form.j0, if_neg (by simp)]; rfl) hlo)
  rw [spec_l4Form.f]
  by_cases h : (l.length : Int) > 0
  ·rw [if_pos h, decide_eq_false (by omega)]
  ·rw [if_neg h]
end Go.Proofs.YtendbgedpjcocaaGreatDoor.B
/- Plain law: count and the specification's reckoning of statements agree. -/
namespace Go.Proofs.YtendbgedpjcocaaGreatDoor.B
open Go.RowKit Go.Proofs.YtendbgedpjcocaaGreatDoorW.PrintWords Go.Proofs.YtendbgedpjcocaaGreatDoorW.PrintLast Go.Proofs.YtendbgedpjcocaaGreatDoorW.PrintMore
set_option linter.unusedVariables false

def stepOk (d : Nat) (s : ISt) : Bool := headSt s && (formT d s.f3 && formT d s.f4)
def stepN (d : Nat) (s : ISt) : Nat := 1 + manyT d s.f3 + manyT d s.f4
def CntR (r : Bool × Int) (b : Bool) (n : Int) : Prop := r.1 = (b && decide (n ≤ 16)) ∧ (r.1 = true → r.2 = n)
theorem step_law (d : Nat) (ih : ∀ (l : List ISt) (m : Int), m ≤ 16 → CntR (countL d l m) (formT d l) (m + manyT d l)) (s : ISt) (m : Int) (hm : m ≤ 16) : CntR (cntStep d s m) (stepOk d s) (m + stepN d s) := by
 unfold cntStep stepOk stepN
 by_cases h : (decide (m + 1 > 16) || !headSt s) = true
 ·rw [if_pos h]
  rw [Bool.or_eq_true, decide_eq_true_eq] at h
  refine ⟨?_, fun h => by cases h⟩
  rcases h with h | h
  ·rw [decide_eq_false (by omega), Bool.and_false]
  ·rw [Bool.not_eq_true'] at h
   rw [h]; rfl
 ·rw [if_neg h]
  simp only [Bool.or_eq_true, decide_eq_true_eq, not_or, Bool.not_eq_true', Bool.not_eq_false] at h
  rw [h.2, Bool.true_and]
  have h1 := ih s.f3 (m + 1) (by omega)
  cases hr : (countL d s.f3 (m + 1)).1 with
  | false =>
   simp only [hr]
   refine ⟨?_, fun h => by rw [if_neg (by simp)] at h; rw [hr] at h; cases h⟩
   rw [if_neg (by simp), hr]
   have := h1.1
   rw [hr] at this
   cases hf : formT d s.f3 with
   | false => rfl
   | true =>
    rw [hf, Bool.true_and] at this
    have := of_decide_eq_false this.symm
    rw [decide_eq_false (by omega), Bool.and_false]
  | true =>
   simp only [hr, if_true]
   have h2 := h1.2 hr
   have h3 := h1.1
   rw [hr] at h3
   have h4 := Bool.and_eq_true_iff.1 h3.symm
   have h5 := of_decide_eq_true h4.2
   have h6 := ih s.f4 (countL d s.f3 (m + 1)).2 (by rw [h2]; omega)
   rw [h4.1, Bool.true_and]
   rw [h2] at h6 ⊢
   rw [show m + ((1 + manyT d s.f3 + manyT d s.f4 : Nat) : Int) = m + 1 + (manyT d s.f3 : Int) + (manyT d s.f4 : Int) by omega]
   exact h6
theorem count_law (d : Nat) : ∀ (l : List ISt) (m : Int), m ≤ 16 → CntR (countL d l m) (formT d l) (m + manyT d l) := by
 induction d with
 | zero =>
  intro l m hm
  cases l with
  | nil => exact ⟨by show true = (true && decide (m + 0 ≤ 16)); rw [decide_eq_true (by omega)]; rfl, fun _ => by show m = m + 0; omega⟩
  | cons a l => exact ⟨rfl, fun h => by cases h⟩
 | succ d ih =>
  intro l
  induction l with
  | nil => intro m hm; exact ⟨by show true = (true && decide (m + 0 ≤ 16)); rw [decide_eq_true (by omega)]; rfl, fun _ => by show m = m + 0; omega⟩
  | cons a l ihl =>
   intro m hm
   have hs := step_law d ih a m hm
   rw [countL_succ, List.foldl_cons]
   have hf : formT (d + 1) (a :: l) = (stepOk d a && formT (d + 1) l) := rfl
   have hn : ((manyT (d + 1) (a :: l) : Nat) : Int) = (stepN d a : Int) + (manyT (d + 1) l : Int) := by
    have : manyT (d + 1) (a :: l) = stepN d a + manyT (d + 1) l := by
     rw [manyT, manyT, stepN, List.map_cons, List.sum_cons, List.length_cons]; omega
    omega
   rw [hf, hn]
   simp only [if_true]
   obtain ⟨r, hr⟩ : ∃ r, r = cntStep d a m := ⟨_, rfl⟩
   rw [← hr] at hs ⊢
   obtain ⟨b, n⟩ := r
   cases b with
   | false =>
    rw [cnt_stop]
    refine ⟨?_, fun h => by cases h⟩
    have h1 : false = (stepOk d a && decide (m + stepN d a ≤ 16)) := hs.1
    cases ha : stepOk d a with
    | false => rfl
    | true =>
     rw [ha, Bool.true_and] at h1
     have := of_decide_eq_false h1.symm
     rw [decide_eq_false (by omega), Bool.and_false]
   | true =>
    have h1 : true = (stepOk d a && decide (m + stepN d a ≤ 16)) := hs.1
    have h2 : n = m + stepN d a := hs.2 rfl
    have h4 := Bool.and_eq_true_iff.1 h1.symm
    have h5 := of_decide_eq_true h4.2
    have h6 := ihl n (by omega)
    rw [countL_succ] at h6
    rw [h4.1, Bool.true_and]
    rw [h2] at h6 ⊢
    rw [← Int.add_assoc]
    exact h6
/-- StmtsOk, StmtsMany: what they say. -/
theorem stOk_is (l : List ISt) : (countL 4 l 0).1 = (formT 4 l && decide (manyT 4 l ≤ 16)) := by
 rw [(count_law 4 l 0 (by omega)).1]
 congr 1
 by_cases h : manyT 4 l ≤ 16
 ·rw [decide_eq_true (by omega), decide_eq_true h]
 ·rw [decide_eq_false (by omega), decide_eq_false h]
end Go.Proofs.YtendbgedpjcocaaGreatDoor.B
/- impl.ExprOf, over impl.ExprOk's contract. -/
namespace Go.Proofs.YtendbgedpjcocaaGreatDoor.B
open Go.RowKit Go.Proofs.YtendbgedpjcocaaGreatDoorW.PrintWords Go.Proofs.YtendbgedpjcocaaGreatDoorW.PrintLast Go.Proofs.YtendbgedpjcocaaGreatDoorW.PrintMore
set_option linter.unusedVariables false

def memOkL (l0 l1 l2 : List Int) : Bool := listOk l0 && (listOk l1 && listOk l2)
def ofV (e : Ex) (l0 l1 l2 : List Int) : Int := if memOkL l0 l1 l2 && okL 0 (partsL e) then evalI (l0 ++ l1 ++ l2) e else 0
set_option maxRecDepth 100000 in
set_option maxHeartbeats 4000000 in
theorem exprOf_any (hok : OkCon) (e : Ex) (A : Option Addr) (c : Nat) (l0 l1 l2 : List Int) (A0 A1 A2 : Option Addr) (c0 c1 c2 : Nat) (w : World) (hC : Kd.C exK w A e.f3.length e.f3) (hc : e.f3.length ≤ c)
  (h0 : Kd.C (Kd.int .i64) w A0 l0.length l0) (h1 : Kd.C (Kd.int .i64) w A1 l1.length l1) (h2 : Kd.C (Kd.int .i64) w A2 l2.length l2) (m0 : l0.length ≤ c0) (m1 : l1.length ≤ c1) (m2 : l2.length ≤ c2) :
  Calls Tryz.prog 19 #[.agg #[.int .i64 e.f0, .int .i64 e.f1, .int .i64 e.f2.f0, .int .i64 e.f2.f1, .slice A e.f3.length c], .agg #[.slice A0 l0.length c0, .slice A1 l1.length c1, .slice A2 l2.length c2]] w fun en w' => en = .returned (.int .i64 (ofV e l0 l1 l2)) ∧ Below w.heap.size w w' := by
 obtain ⟨hs, k1, k2, hB0⟩ := two_blocks' w (.cells #[.int .i64 e.f0, .int .i64 e.f1, .int .i64 e.f2.f0, .int .i64 e.f2.f1, .slice A e.f3.length c] 27 (0, 0)) (.cells #[.slice A0 l0.length c0, .slice A1 l1.length c1, .slice A2 l2.length c2] 30 (0, 0))
 have HK := Aside0.mk (And.intro k1 hB0)
 have HX := Aside0.mk (And.intro hC hc)
 have HM := Aside0.mk (fun (W : World) (h : Below w.heap.size w W) => readMem_any l0 l1 l2 A0 A1 A2 c0 c1 c2 W (Kd.C_below h0 h) (Kd.C_below h1 h) (Kd.C_below h2 h) m0 m1 m2)
 clear hs k1 k2 hB0 hC hc h0 h1 h2 m0 m1 m2
 go_enter Tryz.func19, Tryz.ntmps19
 go_wp2_with fail
 refine (HM.out _ HK.out.2).mono ?_
 rintro en w1 ⟨hr, hb1⟩
 have HB1 := Aside0.mk (HK.out.2.trans (hb1.mono HK.out.2.size))
 have k1 := (hb1.block _ (blk_lt HK.out.1)).trans HK.out.1
 clear hb1 HM
 have q0 : w1.cell? ⟨w.heap.size, 0, none⟩ = some (.int .i64 e.f0) := by rw [blk_cell k1]; rfl
 have q1 : w1.cell? ⟨w.heap.size, 1, none⟩ = some (.int .i64 e.f1) := by rw [blk_cell k1]; rfl
 have q2 : w1.cell? ⟨w.heap.size, 2, none⟩ = some (.int .i64 e.f2.f0) := by rw [blk_cell k1]; rfl
 have q3 : w1.cell? ⟨w.heap.size, 3, none⟩ = some (.int .i64 e.f2.f1) := by rw [blk_cell k1]; rfl
 have q4 : w1.cell? ⟨w.heap.size, 4, none⟩ = some (.slice A e.f3.length c) := by rw [blk_cell k1]; rfl
 have HK1 := Aside0.mk k1
 clear k1 HK
 rcases hr with ⟨hv, g, rfl, hm⟩ | ⟨hv, rfl⟩
 ·have HV := Aside0.mk (show memOkL l0 l1 l2 = true from hv)
  have HM := Aside0.mk hm
  clear hv hm
  go_wp2_with fail
  refine (hok e A c w1 (Kd.C_below HX.out.1 HB1.out) HX.out.2).mono ?_
  rintro en w2 ⟨rfl, hb2⟩
  have k2 := (hb2.block _ (blk_lt HK1.out)).trans HK1.out
  have HB2 := Aside0.mk (HB1.out.trans (hb2.mono HB1.out.size))
  have HM2 := Aside0.mk (HM.out.below hb2)
  clear hb2 q0 q1 q2 q3 q4
  cases ho : okL 0 (partsL e) with
  | false =>
   have HO := Aside0.mk ho; clear ho k2
   go_wp2
   go_ret
   exact ⟨by rw [ofV, HO.out, Bool.and_false]; rfl, HB2.out⟩
  | true =>
   have hf : formS 6 e = true := by rw [okL_eq, Bool.and_eq_true] at ho; exact ho.1
   have hcall := reckon_any (l0 ++ l1 ++ l2) 6 e hf g A c w2 HM2.out (Kd.C_below HX.out.1 HB2.out) HX.out.2
   simp only [List.append_toArray, List.nil_append] at hcall
   have HO := Aside0.mk (And.intro ho hcall)
   clear ho hf hcall
   have q0 : w2.cell? ⟨w.heap.size, 0, none⟩ = some (.int .i64 e.f0) := by rw [blk_cell k2]; rfl
   have q1 : w2.cell? ⟨w.heap.size, 1, none⟩ = some (.int .i64 e.f1) := by rw [blk_cell k2]; rfl
   have q2 : w2.cell? ⟨w.heap.size, 2, none⟩ = some (.int .i64 e.f2.f0) := by rw [blk_cell k2]; rfl
   have q3 : w2.cell? ⟨w.heap.size, 3, none⟩ = some (.int .i64 e.f2.f1) := by rw [blk_cell k2]; rfl
   have q4 : w2.cell? ⟨w.heap.size, 4, none⟩ = some (.slice A e.f3.length c) := by rw [blk_cell k2]; rfl
   clear k2
   go_wp2_with fail
   refine HO.out.2.mono ?_
   rintro en w3 ⟨rfl, hb3⟩
   have HB3 := Aside0.mk (HB2.out.trans (hb3.mono HB2.out.size))
   clear hb3 q0 q1 q2 q3 q4
   go_wp2
   go_ret
   exact ⟨by rw [ofV, HO.out.1, HV.out, List.append_assoc]; rfl, HB3.out⟩
 ·have HV := Aside0.mk (show memOkL l0 l1 l2 = false from hv)
  clear hv
  go_wp2
  go_ret
  exact ⟨by rw [ofV, HV.out, Bool.false_and]; rfl, HB1.out⟩
end Go.Proofs.YtendbgedpjcocaaGreatDoor.B
/- Plain law: the specification's own reckoning of ExprOf ends, and says so. -/
namespace Go.Proofs.YtendbgedpjcocaaGreatDoor.B
open Go.RowKit Go.Proofs.YtendbgedpjcocaaGreatDoorW.PrintWords Go.Proofs.YtendbgedpjcocaaGreatDoorW.PrintLast Go.Proofs.YtendbgedpjcocaaGreatDoorW.PrintMore
set_option linter.unusedVariables false

theorem cut_eq (n : Int) : spec_NumCut.f n = impl_NumCut.f n := by
 rw [numCut_is, impl_NumCut.f]
 congr 1
 unfold mn mx
 by_cases h1 : n < -1000000
 ·simp [h1]
 ·by_cases h2 : (1000000 : Int) < n
  ·simp [h1, h2]
  ·simp [h1, h2]
end Go.Proofs.YtendbgedpjcocaaGreatDoor.B
/- What is reckoned of two and of one: plain facts. -/
namespace Go.Proofs.YtendbgedpjcocaaGreatDoor.B
open Go.RowKit Go.Proofs.YtendbgedpjcocaaGreatDoorW.PrintWords Go.Proofs.YtendbgedpjcocaaGreatDoorW.PrintLast Go.Proofs.YtendbgedpjcocaaGreatDoorW.PrintMore
set_option linter.unusedVariables false

def okE (e : Ex) : Bool := formS 6 e && decide (manyS 6 e ≤ 14)
theorem ofV_eq (e : Ex) (l0 l1 l2 : List Int) : ofV e l0 l1 l2 = if memOkL l0 l1 l2 && okE e then evalI (l0 ++ l1 ++ l2) e else 0 := by rw [ofV, okL_eq]; rfl
def cutL (n : Int) : Int := if n < -1000000 then -1000000 else if 1000000 < n then 1000000 else n
theorem cutI (n : Int) : impl_NumCut.f n = some (cutL n) := by rw [← cut_eq, numCut_is]; rfl
theorem cutL_in (n : Int) : -1000000 ≤ cutL n ∧ cutL n ≤ 1000000 := by
 unfold cutL
 split
 ·omega
 ·split <;> omega
theorem listOk_in {l : List Int} (h : listOk l = true) : ∀ x ∈ l, -1000000 ≤ x ∧ x ≤ 1000000 := by
 unfold listOk at h
 rw [Bool.and_eq_true, Bool.not_eq_true', List.any_eq_false] at h
 intro x hx
 have := h.2 x hx
 simp only [Bool.not_eq_true, Bool.not_eq_false'] at this
 exact of_decide_eq_true this
theorem memOk_in {l0 l1 l2 : List Int} (h : memOkL l0 l1 l2 = true) : ∀ x ∈ l0 ++ l1 ++ l2, -1000000 ≤ x ∧ x ≤ 1000000 := by
 unfold memOkL at h
 rw [Bool.and_eq_true, Bool.and_eq_true] at h
 intro x hx
 rw [List.mem_append, List.mem_append] at hx
 rcases hx with (hx | hx) | hx
 ·exact listOk_in h.1 x hx
 ·exact listOk_in h.2.1 x hx
 ·exact listOk_in h.2.2 x hx
end Go.Proofs.YtendbgedpjcocaaGreatDoor.B
/- Contracts of Go's library, laid out of the kit's shelf at this seat's program. -/
namespace Go.Proofs
open Go Go.Shelf Go.RowKit Go.Lib
def Tryz.laysNm215_ren : Go.Shelf.Ren := ⟨fun | 15 => 80 | n => n, fun | 22 => 28 | 3 => 3 | 4 => 4 | n => n, fun | n => n⟩
theorem Tryz.laysNm215 : Go.Proofs.Lays2.n15 Tryz.prog Tryz.laysNm215_ren := {
 mixed := by kernel_rfl
 f15 := Tryz.func80.trans (congrArg some (by kernel_rfl))
 t3 := Tryz.underlying3
 a3 := Tryz.isAgg3
 z3 := Tryz.sizeOf3
 v3 := Tryz.zeroValue3
 t4 := Tryz.underlying4
 a4 := Tryz.isAgg4
 z4 := Tryz.sizeOf4
 v4 := Tryz.zeroValue4
 t22 := Tryz.underlying28
 a22 := Tryz.isAgg28
 z22 := Tryz.sizeOf28
 v22 := Tryz.zeroValue28
 i3 := by kernel_rfl }
theorem Tryz.slices_Clone_int (b off n c : Nat) (zs : List Int) (w : World) (hz : n ≤ zs.length) (hbig : n * 8 ≤ 140737488355328) (hc : ∀ j, j < zs.length → w.cell? ⟨b, off + j, none⟩ = some (.int .i64 (zs.getD j 0))) :
  Calls Tryz.prog 80 #[.slice (some ⟨b, off, none⟩) n c] w fun e w' => ∃ v', e = .returned v' ∧ w'.ownsRow w.heap.size 3 1 v' n ((zs.take n).map (Value.int .i64)) ∧ v' ≠ .slice none 0 0 ∧ Below w.heap.size w w' := Any.slices_Clone_int Tryz.laysNm215 b off n c zs w hz hbig hc
end Go.Proofs
/- impl.count: the walk. -/
namespace Go.Proofs.YtendbgedpjcocaaGreatDoor.B
open Go.RowKit Go.Shelf Go.Proofs.YtendbgedpjcocaaGreatDoorW.PrintWords Go.Proofs.YtendbgedpjcocaaGreatDoorW.PrintLast Go.Proofs.YtendbgedpjcocaaGreatDoorW.PrintMore
set_option linter.unusedVariables false

def stepD : Nat → St → Int → Bool × Int
 | 0, _, m => (false, m + 1)
 | d + 1, s, m => cntStep d s m
theorem stepD_stop (d : Nat) (l : List St) (m : Int) : l.foldl (fun r s => if r.1 then stepD d s r.2 else r) (false, m) = (false, m) := by
 induction l with
 | nil => rfl
 | cons a l ih => exact ih
theorem countL_fold (d : Nat) (l : List St) (m : Int) : countL d l m = l.foldl (fun r s => if r.1 then stepD d s r.2 else r) (true, m) := by
 cases d with
 | succ d => rfl
 | zero =>
  cases l with
  | nil => rfl
  | cons a l => rw [List.foldl_cons]; exact (stepD_stop 0 l (m + 1)).symm
theorem count_take (d : Nat) (l : List St) (m : Int) (j : Nat) (hj : j < l.length) (n : Int) (h : countL d (l.take j) m = (true, n)) : countL d (l.take (j + 1)) m = stepD d l[j] n := by
 rw [countL_fold] at h ⊢
 rw [List.take_succ_eq_append_getElem hj, List.foldl_append, h]; rfl
theorem count_stop (d : Nat) (l : List St) (m : Int) (j : Nat) (hj : j < l.length) (n n' : Int) (h : countL d (l.take j) m = (true, n)) (hs : stepD d l[j] n = (false, n')) : countL d l m = (false, n') := by
 have h1 := count_take d l m j hj n h
 rw [hs, countL_fold] at h1
 rw [countL_fold, ← List.take_append_drop (j + 1) l, List.foldl_append, h1, stepD_stop]
structure CntEnd (w0 w : World) (gm : Nat) (r : Bool × Int) (e : Ending) (w' : World) : Prop where
 e : e = .returned (.bool r.1)
 box : Boxed w' gm 3 (.int .i64 r.2)
 below : Below w0.heap.size w0 w'
 keep : KeepBut w w' gm none
def CntCon (d : Nat) : Prop := ∀ (l : List St) (A : Option Addr) (c gm : Nat) (deep m : Int) (w0 w : World), deep = 4 - d → 0 ≤ m → m ≤ 16 → w0.heap.size ≤ gm → Boxed w gm 3 (.int .i64 m) → Below w0.heap.size w0 w → Kd.C stK w0 A l.length l → l.length ≤ c →
 Calls Tryz.prog 67 #[.slice A l.length c, .int .i64 deep, .pointer (some ⟨gm, 0, none⟩)] w (CntEnd w0 w gm (countL d l m))
set_option maxRecDepth 100000 in
set_option maxHeartbeats 8000000 in
theorem count_step (hok : OkCon) (d : Nat) (hd : d ≤ 4) (ih : ∀ d', d = d' + 1 → CntCon d') : CntCon d := by
 intro l A c gm deep m w0 w hdeep hm0 hm1 hg hbox hB hC hc
 have hmax : l.length ≤ 9223372036854775807 := hC.2.1
 have HI := Aside0.mk (And.intro hdeep (And.intro hd (And.intro hm0 (And.intro hm1 (And.intro hg (And.intro hB (And.intro hC (And.intro hc hmax))))))))
 have HBX := Aside0.mk hbox
 clear hdeep hm0 hm1 hg hbox hB hC
 go_enter Tryz.func67, Tryz.ntmps67
 go_wp2
 go_loopw [8, 9, 12] (fun _ _ i wr => ∃ (j : Nat), i = .int .i64 j ∧ Aside0 (j ≤ l.length ∧ (∃ n, countL d (l.take j) m = (true, n) ∧ Boxed wr gm 3 (.int .i64 n)) ∧ Below w0.heap.size w0 wr ∧ KeepBut w wr gm none)) (fun _ _ i _ => l.length - (intOf i).toNat)
 case atStart => exact ⟨0, rfl, ⟨Nat.zero_le _, ⟨m, by cases d <;> rfl, HBX.out⟩, HI.out.2.2.2.2.2.1, KeepBut.refl _ _ _⟩⟩
 case round =>
  obtain ⟨j, rfl, HR⟩ := hrel
  by_cases hj : j < l.length
  ·obtain ⟨ad, A7, c7, A8, c8, A9, c9, hA, e0, e1, e2, e3, e4, e5, e6, e7, e8, e9, hl7, hi7, hl8, hi8, hl9, hi9⟩ := at_T35 HI.out.2.2.2.2.2.2.1 (j : Int) (by omega) (by omega)
   cases hA
   have hkid : rd_T35 l (j : Int) = l[j] := by simp [rd_T35, hj]
   have hb := HR.out.2.2.1
   replace e0 := (hb.cell (World.block_lt_of_cell? w0 _ e0)).trans e0
   replace e1 := (hb.cell (World.block_lt_of_cell? w0 _ e1)).trans e1
   replace e2 := (hb.cell (World.block_lt_of_cell? w0 _ e2)).trans e2
   replace e3 := (hb.cell (World.block_lt_of_cell? w0 _ e3)).trans e3
   replace e4 := (hb.cell (World.block_lt_of_cell? w0 _ e4)).trans e4
   replace e5 := (hb.cell (World.block_lt_of_cell? w0 _ e5)).trans e5
   replace e6 := (hb.cell (World.block_lt_of_cell? w0 _ e6)).trans e6
   replace e7 := (hb.cell (World.block_lt_of_cell? w0 _ e7)).trans e7
   replace e8 := (hb.cell (World.block_lt_of_cell? w0 _ e8)).trans e8
   replace e9 := (hb.cell (World.block_lt_of_cell? w0 _ e9)).trans e9
   rw [hkid] at e0 e1 e2 e3 e4 e5 e6 e7 e8 e9 hl7 hi7 hl8 hi8 hl9 hi9
   simp only [Int.toNat_natCast] at e0 e1 e2 e3 e4 e5 e6 e7 e8 e9
   obtain ⟨x, hx⟩ : ∃ x, x = l[j] := ⟨_, rfl⟩
   rw [← hx] at e0 e1 e2 e3 e4 e5 e6 e7 e8 e9 hl7 hi7 hl8 hi8 hl9 hi9
   obtain ⟨n, hn, hbn⟩ := HR.out.2.1
   have hmn := count_in d (l.take j) m HI.out.2.2.2.1
   rw [hn] at hmn
   have n16 : n ≤ 16 := (hmn.1 rfl).1
   have n0 : 0 ≤ n := by have h1 := (hmn.1 rfl).2; have h2 := HI.out.2.2.1; exact Int.le_trans h2 h1
   have HX := Aside0.mk (And.intro hx (And.intro hj (And.intro hn (And.intro n0 n16))))
   have HC := Aside0.mk (And.intro hi7 (And.intro hl7 (And.intro hi8 (And.intro hl8 (And.intro hi9 hl9)))))
   have HBN := Aside0.mk hbn
   clear hb hkid hx hi7 hl7 hi8 hl8 hi9 hl9 hn hbn hmn n0 n16
   go_upto_region 4 with (fail)
   have j1 := heap_alloc_new wr (.cells (stCells x A7 c7 A8 c8 A9 c9) 35)
   have hb1 : Below wr.heap.size wr (wr.alloc (.cells (stCells x A7 c7 A8 c8 A9 c9) 35)) := (Below.refl _ _).alloc (Nat.le_refl _) _
   unfold stCells at j1 hb1
   generalize wr.alloc (.cells #[.int .i64 x.f0, .int .i64 x.f1.f0, .int .i64 x.f1.f1, .int .i64 x.f2.f0, .int .i64 x.f2.f1, .int .i64 x.f2.f2.f0, .int .i64 x.f2.f2.f1, .slice A7 x.f2.f3.length c7, .slice A8 x.f3.length c8, .slice A9 x.f4.length c9] 35) = W1 at j1 hb1 ⊢
   have q0 : W1.cell? ⟨gm, 0, none⟩ = some (.int .i64 n) := Boxed.cell ((hb1.block _ HBN.out.lt).trans HBN.out)
   have q1 : W1.frozen? ⟨gm, 0, none⟩ = false := Boxed.frozen ((hb1.block _ HBN.out.lt).trans HBN.out)
   have n0 := HX.out.2.2.2.1
   have n16 := HX.out.2.2.2.2
   clear e0 e1 e2 e3 e4 e5 e6 e7 e8 e9
   go_upto_region 5 with (fail)
   have hgw : wr.heap.size ≠ gm := by have := HBN.out.lt; omega
   have j2 : (W1.setCell ⟨gm, 0, none⟩ (.int .i64 (n + 1))).heap[wr.heap.size]? = _ := blk_far j1 hgw _
   have bx2 : Boxed (W1.setCell ⟨gm, 0, none⟩ (.int .i64 (n + 1))) gm 3 (.int .i64 (n + 1)) := Boxed.set _ ((hb1.block _ HBN.out.lt).trans HBN.out)
   have hB2 : Below w0.heap.size w0 (W1.setCell ⟨gm, 0, none⟩ (.int .i64 (n + 1))) := below_set (HR.out.2.2.1.trans (hb1.mono HR.out.2.2.1.size)) HI.out.2.2.2.2.1
   have hK2 : KeepBut w (W1.setCell ⟨gm, 0, none⟩ (.int .i64 (n + 1))) gm none := KeepBut.set_ (HR.out.2.2.2.trans (KeepBut.of_below hb1 gm none) (.inl rfl)) 0 _
   generalize W1.setCell ⟨gm, 0, none⟩ (.int .i64 (n + 1)) = W2 at j2 bx2 hB2 hK2 ⊢
   have HW2 := Aside0.mk (And.intro j2 (And.intro bx2 (And.intro hB2 hK2)))
   have HG := Aside0.mk hgw
   clear q0 q1 j1 hb1 bx2 hB2 hK2 hgw
   obtain ⟨e0, e1, e2, e3, e4, e5, e6, e7, e8, e9, _⟩ := cel10 j2
   clear j2
   go_wp2_with fail
   refine (doing_any x A7 c7 A8 c8 A9 c9 W2).mono ?_
   rintro e w1 ⟨rfl, hb2⟩
   have j3 := (hb2.block _ (blk_lt HW2.out.1)).trans HW2.out.1
   have bx3 : Boxed w1 gm 3 (.int .i64 (n + 1)) := (hb2.block _ HW2.out.2.1.lt).trans HW2.out.2.1
   have q0 := Boxed.cell bx3
   have HW3 := Aside0.mk (And.intro j3 (And.intro bx3 (And.intro (HW2.out.2.2.1.trans (hb2.mono HW2.out.2.2.1.size)) (HW2.out.2.2.2.trans (KeepBut.of_below hb2 gm none) (.inl rfl)))))
   clear hb2 bx3 e0 e1 e2 e3 e4 e5 e6 e7 e8 e9 HW2 HBN
   obtain ⟨e0, e1, e2, e3, e4, e5, e6, e7, e8, e9, _⟩ := cel10 j3
   clear j3
   have HDV := Aside0.mk (show n + 1 > 16 → doV x A7 c7 A8 c8 A9 c9 = doV x A7 c7 A8 c8 A9 c9 from fun _ => rfl)
   by_cases h16 : n + 1 > 16
   ·have b16 : decide (16 < n + 1) = true := decide_eq_true h16
    have HS : Aside0 (stepD d x n = (false, n + 1)) := Aside0.mk (by
     cases d with
     | zero => rfl
     | succ d => show cntStep d x n = _; rw [cntStep, if_pos (by rw [decide_eq_true h16]; rfl)])
    clear h16
    obtain ⟨v, hv⟩ : ∃ v, v = doV x A7 c7 A8 c8 A9 c9 := ⟨_, rfl⟩
    rw [← hv]
    clear hv
    go_wp2
    go_ret
    exact ⟨by rw [count_stop d l m j HX.out.2.1 n (n + 1) HX.out.2.2.1 (by rw [← HX.out.1]; exact HS.out)]; rfl, by rw [count_stop d l m j HX.out.2.1 n (n + 1) HX.out.2.2.1 (by rw [← HX.out.1]; exact HS.out)]; exact HW3.out.2.1, HW3.out.2.2.1, HW3.out.2.2.2⟩
   ·have b16 : decide (16 < n + 1) = false := decide_eq_false h16
    have H16 := Aside0.mk h16; clear h16 HDV
    by_cases hd0 : d = 0
    ·have hdp : deep = 4 := by have := HI.out.1; omega
     have b4 : decide (4 ≤ deep) = true := decide_eq_true (by omega)
     have HS : Aside0 (stepD d x n = (false, n + 1)) := Aside0.mk (by rw [hd0]; rfl)
     clear hd0 hdp
     obtain ⟨v, hv⟩ : ∃ v, v = doV x A7 c7 A8 c8 A9 c9 := ⟨_, rfl⟩
     rw [← hv]
     clear hv
     go_wp2
     go_ret
     exact ⟨by rw [count_stop d l m j HX.out.2.1 n (n + 1) HX.out.2.2.1 (by rw [← HX.out.1]; exact HS.out)]; rfl, by rw [count_stop d l m j HX.out.2.1 n (n + 1) HX.out.2.2.1 (by rw [← HX.out.1]; exact HS.out)]; exact HW3.out.2.1, HW3.out.2.2.1, HW3.out.2.2.2⟩
    ·obtain ⟨d', hd'⟩ : ∃ d', d = d' + 1 := ⟨d - 1, by omega⟩
     have hdp : ¬ (4 ≤ deep) := by have := HI.out.1; omega
     have b4 : decide (4 ≤ deep) = false := decide_eq_false hdp
     have HD := Aside0.mk (And.intro hd' (ih d' hd'))
     have HDP := Aside0.mk hdp
     clear hd0 hdp hd'
     by_cases hk : x.f0 = 1 ∨ x.f0 = 2 ∨ x.f0 = 3
     rotate_left
     ·have hnil := do_nil x A7 c7 A8 c8 A9 c9 hk
      have HS : Aside0 (stepD d x n = (false, n + 1)) := Aside0.mk (by
       rw [HD.out.1]; show cntStep d' x n = _; rw [cntStep, if_pos (by rw [headSt, hnil.2]; simp)])
      rw [hnil.1]
      clear hk hnil
      go_wp2
      go_ret
      exact ⟨by rw [count_stop d l m j HX.out.2.1 n (n + 1) HX.out.2.2.1 (by rw [← HX.out.1]; exact HS.out)]; rfl, by rw [count_stop d l m j HX.out.2.1 n (n + 1) HX.out.2.2.1 (by rw [← HX.out.1]; exact HS.out)]; exact HW3.out.2.1, HW3.out.2.2.1, HW3.out.2.2.2⟩
     ·obtain ⟨T, v, fp, hdo⟩ := do_is x A7 c7 A8 c8 A9 c9 hk
      rw [hdo.v']
      have hm := hdo.m
      have hep := hdo.ep
      have HDO := Aside0.mk hdo
      clear hk hdo
      have HP := Aside0.mk (HDO.out.cp w1 (Kd.C_below HC.out.1 HW3.out.2.2.1) HC.out.2.1 (Kd.C_below HC.out.2.2.1 HW3.out.2.2.1) HC.out.2.2.2.1 (Kd.C_below HC.out.2.2.2.2.1 HW3.out.2.2.1) HC.out.2.2.2.2.2)
      cases hp : plainL x with
      | false =>
       have HS : Aside0 (stepD d x n = (false, n + 1)) := Aside0.mk (by
        rw [HD.out.1]; show cntStep d' x n = _; rw [cntStep, if_pos (by rw [headSt, hp]; simp)])
       have HPL := Aside0.mk hp; clear hp
       go_wp2_with fail
       refine HP.out.mono ?_
       clear HP
       rintro e w2 ⟨rfl, hb3⟩
       rw [HPL.out]
       have j4 := (hb3.block _ (blk_lt HW3.out.1)).trans HW3.out.1
       have bx4 : Boxed w2 gm 3 (.int .i64 (n + 1)) := (hb3.block _ HW3.out.2.1.lt).trans HW3.out.2.1
       have HW4 := Aside0.mk (And.intro j4 (And.intro bx4 (And.intro (HW3.out.2.2.1.trans (hb3.mono HW3.out.2.2.1.size)) (HW3.out.2.2.2.trans (KeepBut.of_below hb3 gm none) (.inl rfl)))))
       clear hb3 bx4 q0 e0 e1 e2 e3 e4 e5 e6 e7 e8 e9 j4
       go_wp2
       go_ret
       exact ⟨by rw [count_stop d l m j HX.out.2.1 n (n + 1) HX.out.2.2.1 (by rw [← HX.out.1]; exact HS.out)]; rfl, by rw [count_stop d l m j HX.out.2.1 n (n + 1) HX.out.2.2.1 (by rw [← HX.out.1]; exact HS.out)]; exact HW4.out.2.1, HW4.out.2.2.1, HW4.out.2.2.2⟩
      | true =>
       have HPL := Aside0.mk hp; clear hp
       go_wp2_with fail
       refine HP.out.mono ?_
       clear HP
       rintro e w2 ⟨rfl, hb3⟩
       rw [HPL.out]
       have j4 := (hb3.block _ (blk_lt HW3.out.1)).trans HW3.out.1
       have bx4 : Boxed w2 gm 3 (.int .i64 (n + 1)) := (hb3.block _ HW3.out.2.1.lt).trans HW3.out.2.1
       have HW4 := Aside0.mk (And.intro j4 (And.intro bx4 (And.intro (HW3.out.2.2.1.trans (hb3.mono HW3.out.2.2.1.size)) (HW3.out.2.2.2.trans (KeepBut.of_below hb3 gm none) (.inl rfl)))))
       clear hb3 bx4 q0 e0 e1 e2 e3 e4 e5 e6 e7 e8 e9
       obtain ⟨e0, e1, e2, e3, e4, e5, e6, e7, e8, e9, _⟩ := cel10 j4
       clear j4
       go_wp2_with fail
       refine (hok x.f2 A7 c7 w2 (Kd.C_below HC.out.1 HW4.out.2.2.1) HC.out.2.1).mono ?_
       rintro e w3 ⟨rfl, hb3⟩
       have j4 := (hb3.block _ (blk_lt HW4.out.1)).trans HW4.out.1
       have bx4 : Boxed w3 gm 3 (.int .i64 (n + 1)) := (hb3.block _ HW4.out.2.1.lt).trans HW4.out.2.1
       have HW5 := Aside0.mk (And.intro j4 (And.intro bx4 (And.intro (HW4.out.2.2.1.trans (hb3.mono HW4.out.2.2.1.size)) (HW4.out.2.2.2.trans (KeepBut.of_below hb3 gm none) (.inl rfl)))))
       clear hb3 bx4 e0 e1 e2 e3 e4 e5 e6 e7 e8 e9
       cases ho : okL 0 (partsL x.f2) with
       | false =>
        have HS : Aside0 (stepD d x n = (false, n + 1)) := Aside0.mk (by
         rw [HD.out.1]; show cntStep d' x n = _; rw [cntStep, if_pos (by rw [headSt, ho, Bool.and_false]; simp)])
        have HO := Aside0.mk ho; clear ho j4
        go_wp2
        go_ret
        exact ⟨by rw [count_stop d l m j HX.out.2.1 n (n + 1) HX.out.2.2.1 (by rw [← HX.out.1]; exact HS.out)]; rfl, by rw [count_stop d l m j HX.out.2.1 n (n + 1) HX.out.2.2.1 (by rw [← HX.out.1]; exact HS.out)]; exact HW5.out.2.1, HW5.out.2.2.1, HW5.out.2.2.2⟩
       | true =>
        have HS : Aside0 (stepD d x n = let r1 := countL d' x.f3 (n + 1); if r1.1 then countL d' x.f4 r1.2 else r1) := Aside0.mk (by
         rw [HD.out.1]; show cntStep d' x n = _; rw [cntStep, if_neg (by rw [headSt, HPL.out, ho, decide_eq_false (show ¬ (16 < n + 1) by have := H16.out; omega)]; simp)])
        have HO := Aside0.mk ho; clear ho
        obtain ⟨e0, e1, e2, e3, e4, e5, e6, e7, e8, e9, _⟩ := cel10 j4
        clear j4
        have dl : deep ≤ 4 := by have := HDP.out; omega
        have d0 : 0 ≤ deep := by have h1 := HI.out.1; have h2 := HI.out.2.1; omega
        have n17 : n + 1 ≤ 16 := by have := H16.out; omega
        have HCALL := Aside0.mk (HD.out.2 x.f3 A8 c8 gm (deep + 1) (n + 1) w0 w3 (by have h1 := HI.out.1; have h2 := HD.out.1; omega) (by have := HX.out.2.2.2.1; omega) n17 HI.out.2.2.2.2.1 HW5.out.2.1 HW5.out.2.2.1 HC.out.2.2.1 HC.out.2.2.2.1)
        go_wp2_with fail
        refine HCALL.out.mono ?_
        clear HCALL
        rintro e w4 ⟨rfl, hbx, hB4, hK4⟩
        have j4 := hK4.blk HW5.out.1 HG.out (by simp)
        have HW6 := Aside0.mk (And.intro hbx (And.intro hB4 (HW5.out.2.2.2.trans hK4 (.inl rfl))))
        have HJ4 := Aside0.mk j4
        have hin := count_in d' x.f3 (n + 1) n17
        have HIN := Aside0.mk hin
        clear hbx hB4 hK4 e0 e1 e2 e3 e4 e5 e6 e7 e8 e9 n17 hin dl d0
        obtain ⟨r1, hr1⟩ : ∃ r1, r1 = countL d' x.f3 (n + 1) := ⟨_, rfl⟩
        rw [← hr1] at HW6 HIN ⊢
        have HS1 : Aside0 (stepD d x n = if r1.1 then countL d' x.f4 r1.2 else r1) := Aside0.mk (by rw [HS.out, ← hr1])
        clear HS hr1
        obtain ⟨b1, n1⟩ := r1
        cases b1 with
        | false =>
         clear j4
         have HS2 : Aside0 (stepD d x n = (false, n1)) := Aside0.mk (by rw [HS1.out]; rfl)
         go_wp2
         go_ret
         exact ⟨by rw [count_stop d l m j HX.out.2.1 n n1 HX.out.2.2.1 (by rw [← HX.out.1]; exact HS2.out)]; rfl, by rw [count_stop d l m j HX.out.2.1 n n1 HX.out.2.2.1 (by rw [← HX.out.1]; exact HS2.out)]; exact HW6.out.1, HW6.out.2.1, HW6.out.2.2⟩
        | true =>
         obtain ⟨e0, e1, e2, e3, e4, e5, e6, e7, e8, e9, _⟩ := cel10 j4
         clear j4
         have HS2 : Aside0 (stepD d x n = countL d' x.f4 n1) := Aside0.mk (by rw [HS1.out]; rfl)
         have dl : deep ≤ 4 := by have := HDP.out; omega
         have d0 : 0 ≤ deep := by have h1 := HI.out.1; have h2 := HI.out.2.1; omega
         have n17 : n1 ≤ 16 := (HIN.out.1 rfl).1
         have HCALL := Aside0.mk (HD.out.2 x.f4 A9 c9 gm (deep + 1) n1 w0 w4 (by have h1 := HI.out.1; have h2 := HD.out.1; omega) (by have h1 := HX.out.2.2.2.1; have h2 := (HIN.out.1 rfl).2; omega) n17 HI.out.2.2.2.2.1 HW6.out.1 HW6.out.2.1 HC.out.2.2.2.2.1 HC.out.2.2.2.2.2)
         go_wp2_with fail
         refine HCALL.out.mono ?_
         clear HCALL
         rintro e w5 ⟨rfl, hbx, hB4, hK4⟩
         have HW7 := Aside0.mk (And.intro hbx (And.intro hB4 (HW6.out.2.2.trans hK4 (.inl rfl))))
         clear hbx hB4 hK4 e0 e1 e2 e3 e4 e5 e6 e7 e8 e9 n17 dl d0
         obtain ⟨r2, hr2⟩ : ∃ r2, r2 = countL d' x.f4 n1 := ⟨_, rfl⟩
         rw [← hr2] at HW7 HS2 ⊢
         clear hr2
         obtain ⟨b2, n2⟩ := r2
         cases b2 with
         | false =>
          go_wp2
          go_ret
          exact ⟨by rw [count_stop d l m j HX.out.2.1 n n2 HX.out.2.2.1 (by rw [← HX.out.1]; exact HS2.out)]; rfl, by rw [count_stop d l m j HX.out.2.1 n n2 HX.out.2.2.1 (by rw [← HX.out.1]; exact HS2.out)]; exact HW7.out.1, HW7.out.2.1, HW7.out.2.2⟩
         | true =>
          go_wp2
          go_roundw
          case rel => exact ⟨j + 1, by go_num, ⟨HX.out.2.1, ⟨n2, by rw [count_take d l m j HX.out.2.1 n HX.out.2.2.1, ← HX.out.1]; exact HS2.out, HW7.out.1⟩, HW7.out.2.1, HW7.out.2.2⟩⟩
          case measure => have := HX.out.2.1; simp [intOf]; omega
  ·have hjl : j = l.length := by have := HR.out.1; omega
   obtain ⟨n, hn, hbn⟩ := HR.out.2.1
   rw [hjl, List.take_of_length_le (Nat.le_refl _)] at hn
   have HN := Aside0.mk (And.intro hn hbn); clear hn hbn hjl
   go_wp2
   go_ret
   exact ⟨by rw [HN.out.1]; rfl, by rw [HN.out.1]; exact HN.out.2, HR.out.2.2.1, HR.out.2.2.2⟩
end Go.Proofs.YtendbgedpjcocaaGreatDoor.B
