/- Plain law: what the specification's StmtsOk and StmtsMany say (the first half of XPureStOk: never import both). -/
import Derived.Test.YtddnijmgipffeaaCountLaw
import Derived.Test.YtddnijmgipffeaaCountAll
namespace Go.Proofs.Ytddnijmgipffeaa.B
open Go.RowKit Go.Proofs.YtddnijmgipffeaaW.PrintWords Go.Proofs.YtddnijmgipffeaaW.PrintLast Go.Proofs.YtddnijmgipffeaaW.PrintMore
set_option linter.unusedVariables false

theorem short_of (e : S46) : iexOk e → Short e := by
 refine iexInd (P := fun e => iexOk e → Short e) ?_ e
 intro e ih ho
 rw [iexOk_eq] at ho
 exact Short.mk e (by omega) (fun x hx => ih x hx (ho.2 x hx))
/-- Statements of bounded bulk are not more, up to any depth, than their bulk. -/
theorem manyT_le (d : Nat) : ∀ l : List LSt, manyT d (l.map stTo) ≤ stsN l := by
 induction d with
 | zero => intro l; rw [manyT, stsN, List.length_map]; omega
 | succ d ih =>
  intro l
  rw [manyT, stsN, List.length_map, List.map_map]
  induction l with
  | nil => simp
  | cons a l ihl =>
   simp only [List.map_cons, List.sum_cons, List.length_cons, Function.comp_apply] at ihl ⊢
   have h1 := ih a.f3
   have h2 := ih a.f4
   have h3 : (stTo a).f3 = a.f3.map stTo := by rw [stTo_eq]
   have h4 : (stTo a).f4 = a.f4.map stTo := by rw [stTo_eq]
   have h5 := stN_eq a
   rw [h3, h4]
   omega
theorem spec_stOk (l : List ISt) (h1 : manyT 4 l ≤ 1048576) (h2 : ∀ s ∈ l, istOk s) : Ends (fun k => spec_StmtsOk.f k l) (countL 4 l 0).1 := by
 rw [stOk_is, Bool.and_comm]
 have hm := manyT_spec 4 (by omega) l h1
 have hf := formT_spec 4 (by omega) l h1 h2 (fun s hs => short_of s.f2 ((istOk_eq s).1 hs).1)
 refine (hm.bind (g := fun k t => if t ≤ 16 then (spec_l4Form.f k l 4).bind fun t => some t else some false) ?_).of fun k => by rw [spec_StmtsOk.f]; rfl
 by_cases h : manyT 4 l ≤ 16
 ·rw [decide_eq_true h, Bool.true_and]
  refine (hf.bind (g := fun _ t => some t) (Ends.const fun k => rfl)).of fun k => by rw [if_pos (by omega)]; rfl
 ·rw [decide_eq_false h, Bool.false_and]
  exact Ends.const fun k => by rw [if_neg (by omega)]
end Go.Proofs.Ytddnijmgipffeaa.B
