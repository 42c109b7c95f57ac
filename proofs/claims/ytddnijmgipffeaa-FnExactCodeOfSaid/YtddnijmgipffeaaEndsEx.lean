/- The laws' own helpers over expressions, in plain Lean: how many parts, the copy, equality. -/
import Derived.Test.YtddnijmgipffeaaEnds
import Derived.Test.YtddnijmgipffeaaPkA
namespace Go.Proofs.Ytddnijmgipffeaa.B
open Go.RowKit Go.Proofs.YtddnijmgipffeaaW.PrintWords Go.Proofs.YtddnijmgipffeaaW.PrintLast Go.Proofs.YtddnijmgipffeaaW.PrintMore
set_option linter.unusedVariables false

/-- Lists within are of a length that a machine's number holds. -/
def exOk : S64 → Prop
 | ⟨_, _, _, l⟩ => l.length ≤ 9223372036854775807 ∧ ∀ x ∈ l.attach, exOk x.1
termination_by e => SizeOf.sizeOf e
decreasing_by have := List.sizeOf_lt_of_mem x.2; simp; omega
theorem exOk_eq (e : S64) : exOk e ↔ e.f3.length ≤ 9223372036854775807 ∧ ∀ x ∈ e.f3, exOk x := by
 cases e with
 | mk a b c l => rw [exOk]; simp
def iexOk : S46 → Prop
 | ⟨_, _, _, l⟩ => l.length ≤ 1048576 ∧ ∀ x ∈ l.attach, iexOk x.1
termination_by e => SizeOf.sizeOf e
decreasing_by have := List.sizeOf_lt_of_mem x.2; simp; omega
theorem iexOk_eq (e : S46) : iexOk e ↔ e.f3.length ≤ 1048576 ∧ ∀ x ∈ e.f3, iexOk x := by
 cases e with
 | mk a b c l => rw [iexOk]; simp
theorem exInd {P : S64 → Prop} (h : ∀ e : S64, (∀ x ∈ e.f3, P x) → P e) : ∀ e, P e
 | ⟨a, b, c, l⟩ => h _ (fun x hx => exInd h x)
termination_by e => SizeOf.sizeOf e
decreasing_by have := List.sizeOf_lt_of_mem hx; simp at this ⊢; omega
theorem iexInd {P : S46 → Prop} (h : ∀ e : S46, (∀ x ∈ e.f3, P x) → P e) : ∀ e, P e
 | ⟨a, b, c, l⟩ => h _ (fun x hx => iexInd h x)
termination_by e => SizeOf.sizeOf e
decreasing_by have := List.sizeOf_lt_of_mem hx; simp at this ⊢; omega
def exN : S64 → Nat
 | ⟨_, _, _, l⟩ => l.length + (l.attach.map fun x => exN x.1).sum
termination_by e => SizeOf.sizeOf e
decreasing_by have := List.sizeOf_lt_of_mem x.2; simp; omega
theorem exN_eq (e : S64) : exN e = e.f3.length + (e.f3.map exN).sum := by
 cases e with
 | mk a b c l => rw [exN]; simp
def exTo : S64 → S46
 | ⟨a, b, c, l⟩ => ⟨a, b, ⟨c.f0, c.f1⟩, l.attach.map fun x => exTo x.1⟩
termination_by e => SizeOf.sizeOf e
decreasing_by have := List.sizeOf_lt_of_mem x.2; simp; omega
theorem exTo_eq (e : S64) : exTo e = ⟨e.f0, e.f1, ⟨e.f2.f0, e.f2.f1⟩, e.f3.map exTo⟩ := by
 cases e with
 | mk a b c l => rw [exTo]; simp
theorem rdL_ex (l : List S64) (j : Nat) (h : j < l.length) : rd_T64 l (j : Int) = l[j] := by simp [rd_T64, h]
theorem rdI_ex (l : List S46) (j : Nat) (h : j < l.length) : rd_T46 l (j : Int) = l[j] := by simp [rd_T46, h]
theorem mem_sum : ∀ (l : List Nat) (x : Nat), x ∈ l → x ≤ l.sum
 | [], x, h => by simp at h
 | a :: l, x, h => by
  rw [List.sum_cons]
  rcases List.mem_cons.mp h with rfl | h
  ·omega
  ·have := mem_sum l x h; omega
theorem szEx (e : S64) : exOk e → ∀ m, Left m → Ends (fun k => laws_szExpr.f k e.f0 e.f1 e.f2.f0 e.f2.f1 e.f3 m) (szV (exN e) m) := by
 refine exInd (P := fun e => exOk e → ∀ m, Left m → Ends (fun k => laws_szExpr.f k e.f0 e.f1 e.f2.f0 e.f2.f1 e.f3 m) (szV (exN e) m)) ?_ e
 intro e ih ho m hm
 rw [exOk_eq] at ho
 rw [exN_eq]
 refine Ends.succ (fun k => by rw [laws_szExpr.f]) ?_
 refine sz_end hm ?_
 exact sz_all (l0 := laws_szExprS.l0) (f := laws_szExprS.f) (g := fun k x m => laws_szExpr.f k x.f0 x.f1 x.f2.f0 x.f2.f1 x.f3 m) rdL_ex (fun k xs m j => by rw [laws_szExprS.l0]) (fun k xs m => by rw [laws_szExprS.f]) e.f3 ho.1 (fun x hx m hm => ih x hx (ho.2 x hx) m hm) m hm
theorem toEx (e : S64) : exN e ≤ 1048576 → Ends (fun k => laws_toExpr.f k e.f0 e.f1 e.f2.f0 e.f2.f1 e.f3) ((exTo e).f0, (exTo e).f1, (exTo e).f2.f0, (exTo e).f2.f1, (exTo e).f3) := by
 refine exInd (P := fun e => exN e ≤ 1048576 → Ends (fun k => laws_toExpr.f k e.f0 e.f1 e.f2.f0 e.f2.f1 e.f3) ((exTo e).f0, (exTo e).f1, (exTo e).f2.f0, (exTo e).f2.f1, (exTo e).f3)) ?_ e
 intro e ih hn
 rw [exN_eq] at hn
 rw [exTo_eq]
 refine Ends.succ (fun k => by rw [laws_toExpr.f, laws_toAddr.f, Option.bind_some]) ?_
 refine Ends.bind (a := e.f3.map exTo) ?_ (Ends.const fun k => rfl)
 refine Ends.succ (fun k => by rw [laws_toExprS.f, if_pos (by omega), if_pos (by omega)]) ?_
 have hs : ∀ x ∈ e.f3, exN x ≤ 1048576 := fun x hx => by
  have : exN x ≤ (e.f3.map exN).sum := mem_sum _ _ (List.mem_map_of_mem hx)
  omega
 have := to_loop (l0 := laws_toExprS.l0) (g := fun k x => laws_toExpr.f k x.f0 x.f1 x.f2.f0 x.f2.f1 x.f3) (mk := fun bt => ⟨bt.1, bt.2.1, ⟨bt.2.2.1, bt.2.2.2.1⟩, bt.2.2.2.2⟩) (t := fun x => ((exTo x).f0, (exTo x).f1, (exTo x).f2.f0, (exTo x).f2.f1, (exTo x).f3)) rdL_ex (fun k xs ys j => by rw [laws_toExprS.l0]) e.f3 (by omega) (fun x hx => ih x hx (hs x hx)) e.f3.length 0 (List.replicate ((e.f3.length : Int) : Int).toNat z46) (by omega) (by simp) (by simp)
 have hm : e.f3.map (fun x => (⟨(exTo x).f0, (exTo x).f1, ⟨(exTo x).f2.f0, (exTo x).f2.f1⟩, (exTo x).f3⟩ : S46)) = e.f3.map exTo := List.map_congr_left (fun x _ => by generalize exTo x = y; cases y; rfl)
 rw [← hm]
 exact this
theorem eqEx (e : S46) : iexOk e → Ends (fun k => laws_eqExpr.f k e.f0 e.f1 e.f2.f0 e.f2.f1 e.f3 e.f0 e.f1 e.f2.f0 e.f2.f1 e.f3) true := by
 refine iexInd (P := fun e => iexOk e → Ends (fun k => laws_eqExpr.f k e.f0 e.f1 e.f2.f0 e.f2.f1 e.f3 e.f0 e.f1 e.f2.f0 e.f2.f1 e.f3) true) ?_ e
 intro e ih ho
 rw [iexOk_eq] at ho
 refine Ends.succ (fun k => by rw [laws_eqExpr.f, if_pos rfl, if_pos rfl, laws_eqAddr.f, if_pos rfl, if_pos rfl, Option.bind_some, if_pos rfl]) ?_
 refine Ends.bind (a := true) ?_ (Ends.const fun k => rfl)
 refine Ends.succ (fun k => by rw [laws_eqExprS.f, if_pos rfl]) ?_
 have := eq_loop (l0 := laws_eqExprS.l0) (g := fun k x y => laws_eqExpr.f k x.f0 x.f1 x.f2.f0 x.f2.f1 x.f3 y.f0 y.f1 y.f2.f0 y.f2.f1 y.f3) rdI_ex (fun k xs ys j => by rw [laws_eqExprS.l0]) e.f3 (by omega) (fun x hx => ih x hx (ho.2 x hx)) e.f3.length 0 (by omega)
 exact this
theorem exTo_ok (e : S64) : exN e ≤ 1048576 → iexOk (exTo e) := by
 refine exInd (P := fun e => exN e ≤ 1048576 → iexOk (exTo e)) ?_ e
 intro e ih hn
 rw [exN_eq] at hn
 rw [exTo_eq, iexOk_eq]
 refine ⟨by simp; omega, fun x hx => ?_⟩
 obtain ⟨y, hy, rfl⟩ := List.mem_map.1 hx
 have : exN y ≤ (e.f3.map exN).sum := mem_sum _ _ (List.mem_map_of_mem hy)
 exact ih y hy (by omega)
end Go.Proofs.Ytddnijmgipffeaa.B
