/- The pure laws of StmtsOk and StmtsMany. -/
import Derived.Test.YtfikglnnkbldaaaCountLaw
import Derived.Test.YtfikglnnkbldaaaF3
import Derived.Test.YtfikglnnkbldaaaF4
namespace Go.Proofs.Ytfikglnnkbldaaa.B
open Go.RowKit Go.Proofs.YtfikglnnkbldaaaW.PrintWords Go.Proofs.YtfikglnnkbldaaaW.PrintLast Go.Proofs.YtfikglnnkbldaaaW.PrintMore
set_option linter.unusedVariables false

theorem short_of (e : S39) : iexOk e → Short e := by
 refine iexInd (P := fun e => iexOk e → Short e) ?_ e
 intro e ih ho
 rw [iexOk_eq] at ho
 exact Short.mk e (by omega) (fun x hx => ih x hx (ho.2 x hx))
/-- Statements of bounded bulk are not more, up to any depth, than their bulk. -/
theorem manyT_le (d : Nat) : ∀ l : List LSt, manyT d (l.map stTo) ≤ stsN l := by
 induction d with
 | zero => intro l; rw [manyT, stsN, List.length_map]; omega
 | succ d ih =>
  intro l
  rw [manyT, stsN, List.length_map, List.map_map]
  induction l with
  | nil => simp
  | cons a l ihl =>
   simp only [List.map_cons, List.sum_cons, List.length_cons, Function.comp_apply] at ihl ⊢
   have h1 := ih a.f3
   have h2 := ih a.f4
   have h3 : (stTo a).f3 = a.f3.map stTo := by rw [stTo_eq]
   have h4 : (stTo a).f4 = a.f4.map stTo := by rw [stTo_eq]
   have h5 := stN_eq a
   rw [h3, h4]
   omega
theorem spec_stOk (l : List ISt) (h1 : manyT 4 l ≤ 1048576) (h2 : ∀ s ∈ l, istOk s) : Ends (fun k => spec_StmtsOk.f k l) (countL 4 l 0).1 := by
 rw [stOk_is, Bool.and_comm]
 have hm := manyT_spec 4 (by omega) l h1
 have hf := formT_spec 4 (by omega) l h1 h2 (fun s hs => short_of s.f2 ((istOk_eq s).1 hs).1)
 refine (hm.bind (g := fun k t => if t ≤ 16 then (spec_l4Form.f k l 4).bind fun t => some t else some false) ?_).of fun k => by rw [spec_StmtsOk.f]; rfl
 by_cases h : manyT 4 l ≤ 16
 ·rw [decide_eq_true h, Bool.true_and]
  refine (hf.bind (g := fun _ t => some t) (Ends.const fun k => rfl)).of fun k => by rw [if_pos (by omega)]; rfl
 ·rw [decide_eq_false h, Bool.false_and]
  exact Ends.const fun k => by rw [if_neg (by omega)]
theorem spec_stMany (l : List ISt) (h1 : manyT 4 l ≤ 1048576) (h2 : ∀ s ∈ l, istOk s) : Ends (fun k => spec_StmtsMany.f k l) (cntV (countL 4 l 0)) := by
 have hm := manyT_spec 4 (by omega) l h1
 refine ((spec_stOk l h1 h2).bind (g := fun k t => if t = true then (spec_l4Many.f k l 4).bind fun t => some t else some 0) ?_).of fun k => by rw [spec_StmtsMany.f]
 rw [cntV]
 by_cases h : (countL 4 l 0).1 = true
 ·rw [if_pos h, (count_law 4 l 0 (by omega)).2 h, Int.zero_add]
  refine (hm.bind (g := fun _ t => some t) (Ends.const fun k => rfl)).of fun k => by rw [if_pos h]; rfl
 ·rw [if_neg h]
  exact Ends.const fun k => by rw [if_neg h]
theorem pure_StmtsOk (l : List LSt) (hl : l.length ≤ 9223372036854775807) (h : ∀ x ∈ l, stOk x) : ∃ k, laws_FnExactStmtsOk.f k l = some true := by
 have hz := szSts l hl h 1048576 ⟨by omega, by omega⟩
 have : Ends (fun k => laws_FnExactStmtsOk.f k l) true := by
  refine (hz.bind (g := fun k t => if t < 0 then some true else ((laws_toStmtS.f k l).bind fun t219 => ((spec_StmtsOk.f k t219).bind fun t222 => ((laws_toStmtS.f k l).bind fun t223 => ((impl_StmtsOk.f t223).bind fun t226 => (if (t226 != t222) = true then (some false) else ((laws_toStmtS.f k l).bind fun t227 => ((laws_eqStmtS.f k t223 t227).bind fun t230 => (if t230 = true then (some true) else (some false)))))))))) ?_).of fun k => by rw [laws_FnExactStmtsOk.f]
  by_cases hn : szV (stsN l) 1048576 < 0
  ·exact Ends.const fun k => by rw [if_pos hn]
  ·have hb := (szV_left ⟨by omega, by omega⟩ hn).2.1
   have hb' : stsN l ≤ 1048576 := by omega
   have ht := toSts l hb'
   obtain ⟨o1, o2⟩ := stsTo_ok l hb'
   have hsp := spec_stOk (l.map stTo) (Nat.le_trans (manyT_le 4 l) hb') o2
   refine Ends.of (g := fun k => (laws_toStmtS.f k l).bind fun t219 => ((spec_StmtsOk.f k t219).bind fun t222 => ((laws_toStmtS.f k l).bind fun t223 => ((impl_StmtsOk.f t223).bind fun t226 => (if (t226 != t222) = true then (some false) else ((laws_toStmtS.f k l).bind fun t227 => ((laws_eqStmtS.f k t223 t227).bind fun t230 => (if t230 = true then (some true) else (some false))))))))) ?_ (fun k => by rw [if_neg hn])
   refine ht.bind (hsp.bind (ht.bind ?_))
   refine Ends.of (g := fun k => (laws_toStmtS.f k l).bind fun t227 => ((laws_eqStmtS.f k (l.map stTo) t227).bind fun t230 => (if t230 = true then (some true) else (some false)))) ?_ (fun k => by rw [impl_StmtsOk.f, Option.bind_some, if_neg (by simp)])
   refine ht.bind ((eqSts (l.map stTo) (by rw [List.length_map]; omega) o2).bind (Ends.const fun k => rfl))
 obtain ⟨K, hK⟩ := this
 exact ⟨K, hK K (Nat.le_refl _)⟩
theorem pure_StmtsMany (l : List LSt) (hl : l.length ≤ 9223372036854775807) (h : ∀ x ∈ l, stOk x) : ∃ k, laws_FnExactStmtsMany.f k l = some true := by
 have hz := szSts l hl h 1048576 ⟨by omega, by omega⟩
 have : Ends (fun k => laws_FnExactStmtsMany.f k l) true := by
  refine (hz.bind (g := fun k t => if t < 0 then some true else ((laws_toStmtS.f k l).bind fun t219 => ((spec_StmtsMany.f k t219).bind fun t222 => ((laws_toStmtS.f k l).bind fun t223 => ((impl_StmtsMany.f t223).bind fun t226 => (if t226 = t222 then ((laws_toStmtS.f k l).bind fun t227 => ((laws_eqStmtS.f k t223 t227).bind fun t230 => (if t230 = true then (some true) else (some false)))) else (some false))))))) ?_).of fun k => by rw [laws_FnExactStmtsMany.f]
  by_cases hn : szV (stsN l) 1048576 < 0
  ·exact Ends.const fun k => by rw [if_pos hn]
  ·have hb := (szV_left ⟨by omega, by omega⟩ hn).2.1
   have hb' : stsN l ≤ 1048576 := by omega
   have ht := toSts l hb'
   obtain ⟨o1, o2⟩ := stsTo_ok l hb'
   have hsp := spec_stMany (l.map stTo) (Nat.le_trans (manyT_le 4 l) hb') o2
   refine Ends.of (g := fun k => (laws_toStmtS.f k l).bind fun t219 => ((spec_StmtsMany.f k t219).bind fun t222 => ((laws_toStmtS.f k l).bind fun t223 => ((impl_StmtsMany.f t223).bind fun t226 => (if t226 = t222 then ((laws_toStmtS.f k l).bind fun t227 => ((laws_eqStmtS.f k t223 t227).bind fun t230 => (if t230 = true then (some true) else (some false)))) else (some false)))))) ?_ (fun k => by rw [if_neg hn])
   refine ht.bind (hsp.bind (ht.bind ?_))
   refine Ends.of (g := fun k => (laws_toStmtS.f k l).bind fun t227 => ((laws_eqStmtS.f k (l.map stTo) t227).bind fun t230 => (if t230 = true then (some true) else (some false)))) ?_ (fun k => by rw [impl_StmtsMany.f, Option.bind_some, if_pos rfl])
   refine ht.bind ((eqSts (l.map stTo) (by rw [List.length_map]; omega) o2).bind (Ends.const fun k => rfl))
 obtain ⟨K, hK⟩ := this
 exact ⟨K, hK K (Nat.le_refl _)⟩
end Go.Proofs.Ytfikglnnkbldaaa.B
