import Derived.Test.YtfikglnnkbldaaaCountLaw
import Derived.Test.YtfikglnnkbldaaaStmtsOk
import Derived.Test.YtfikglnnkbldaaaStSpec
import Derived.Test.YtfikglnnkbldaaaWr
import Derived.Test.YtfikglnnkbldaaaPkD
import Derived.Test.YtfikglnnkbldaaaF5
import Derived.Test.YtfikglnnkbldaaaOpensSt
/- Plain law: what the specification's StmtsOk and StmtsMany say (the first half of XPureStOk: never import both). -/
namespace Go.Proofs.Ytfikglnnkbldaaa.B
open Go.RowKit Go.Proofs.YtfikglnnkbldaaaW.PrintWords Go.Proofs.YtfikglnnkbldaaaW.PrintLast Go.Proofs.YtfikglnnkbldaaaW.PrintMore
set_option linter.unusedVariables false

theorem short_of (e : S39) : iexOk e → Short e := by
  refine iexInd (P := fun e => iexOk e → Short e) ?_ e
  intro e ih ho
  rw [iexOk_eq] at ho
  exact Short.mk e (by omega) (fun x hx => ih x hx (ho.2 x hx))
/-- Statements of bounded bulk are not more, up to any depth, than their bulk. -/
theorem manyT_le (d : Nat) : ∀ l : List LSt, manyT d (l.map stTo) ≤ stsN l := by
  induction d with
  | zero => intro l; rw [manyT, stsN, List.length_map]; omega
  | succ d ih =>
    intro l
    rw [manyT, stsN, List.length_map, List.map_map]
    induction l with
    | nil => simp
    | cons a l ihl =>
      simp only [List.map_cons, List.sum_cons, List.length_cons, Function.comp_apply] at ihl ⊢
      have h1 := ih a.f3
      have h2 := ih a.f4
      have h3 : (stTo a).f3 = a.f3.map stTo := by rw [stTo_eq]
      have h4 : (stTo a).f4 = a.f4.map stTo := by rw [stTo_eq]
      have h5 := stN_eq a
      rw [h3, h4]
      omega
theorem spec_stOk (l : List ISt) (h1 : manyT 4 l ≤ 1048576) (h2 : ∀ s ∈ l, istOk s) : Ends (fun k => spec_StmtsOk.f k l) (countL 4 l 0).1 := by
  rw [stOk_is, Bool.and_comm]
  have hm := manyT_spec 4 (by omega) l h1
  have hf := formT_spec 4 (by omega) l h1 h2 (fun s hs => short_of s.f2 ((istOk_eq s).1 hs).1)
  refine (hm.bind (g := fun k t => if t ≤ 16 then (spec_l4Form.f k l 4).bind fun t => some t else some false) ?_).of fun k => by rw [spec_StmtsOk.f]; rfl
  by_cases h : manyT 4 l ≤ 16
  · rw [decide_eq_true h, Bool.true_and]
    refine (hf.bind (g := fun _ t => some t) (Ends.const fun k => rfl)).of fun k => by rw [if_pos (by omega)]; rfl
  · rw [decide_eq_false h, Bool.false_and]
    exact Ends.const fun k => by rw [if_neg (by omega)]
theorem spec_stMany (l : List ISt) (h1 : manyT 4 l ≤ 1048576) (h2 : ∀ s ∈ l, istOk s) : Ends (fun k => spec_StmtsMany.f k l) (cntV (countL 4 l 0)) := by
  have hm := manyT_spec 4 (by omega) l h1
  refine ((spec_stOk l h1 h2).bind (g := fun k t => if t = true then (spec_l4Many.f k l 4).bind fun t => some t else some 0) ?_).of fun k => by rw [spec_StmtsMany.f]
  rw [cntV]
  by_cases h : (countL 4 l 0).1 = true
  · rw [if_pos h, (count_law 4 l 0 (by omega)).2 h, Int.zero_add]
    refine (hm.bind (g := fun _ t => some t) (Ends.const fun k => rfl)).of fun k => by rw [if_pos h]; rfl
  · rw [if_neg h]
    exact Ends.const fun k => by rw [if_neg h]
end Go.Proofs.Ytfikglnnkbldaaa.B
/- Plain law: the specification's own reckoning of what is written ends, and says what impl's says. -/
namespace Go.Proofs.Ytfikglnnkbldaaa.B
open Go.RowKit Go.Proofs.YtfikglnnkbldaaaW.PrintWords Go.Proofs.YtfikglnnkbldaaaW.PrintLast Go.Proofs.YtfikglnnkbldaaaW.PrintMore
set_option linter.unusedVariables false
theorem or_part {f g : Nat → Option Bool} {a b : Bool} (hf : Ends f a) (hg : Ends g b) : Ends (fun k => (f k).bind fun t => if t = true then some true else g k) (a || b) := by
  refine hf.bind (g := fun k t => if t = true then some true else g k) ?_
  cases a with
  | true => exact Ends.const fun k => rfl
  | false => exact hg.of fun k => by rw [if_neg (by simp)]
def WrEnds (a b : Int) (l : List ISt) : Prop := Ends (fun k => spec_l10Writes.f k l a b) (l.any (wrSt a b))
theorem wr_loop (a b : Int) (l : List ISt) (hl : l.length ≤ 1048576) (ih : ∀ s ∈ l, WrEnds a b s.f3 ∧ WrEnds a b s.f4) :
    ∀ (e j : Nat), j + e = l.length → Ends (fun k => spec_l10Writes.l0 k l j a b) ((l.drop j).any (wrSt a b)) := by
  intro e
  induction e with
  | zero =>
    intro j hj
    refine Ends.succ (fun k => by rw [spec_l10Writes.l0, if_neg (by omega)]) (Ends.const fun k => ?_)
    rw [List.drop_of_length_le (by omega)]; rfl
  | succ e ihe =>
    intro j hj
    have hjl : j < l.length := by omega
    have hdr : l.drop j = l[j] :: l.drop (j + 1) := List.drop_eq_getElem_cons hjl
    rw [hdr, List.any_cons, wrSt_eq]
    refine Ends.succ (fun k => by rw [spec_l10Writes.l0, if_pos (by omega), if_pos (by omega), rdI_st l j hjl, show wrap64 ((j : Int) + 1) = ((j + 1 : Nat) : Int) by rw [wrap_in (by omega) (by omega)]; omega]) ?_
    obtain ⟨h3, h4⟩ := ih l[j] (List.getElem_mem hjl)
    have hrest := or_part h3 (or_part h4 (ihe (j + 1) (by omega)))
    by_cases h1 : l[j].f0 = 1
    · cases h2 : (l[j].f1.f0 == a && (l[j].f1.f1 == b)) with
      | true =>
        refine Ends.const fun k => ?_
        rw [if_pos h1, if_pos rfl, show (l[j].f0 == 1) = true from beq_iff_eq.2 h1]; rfl
      | false =>
        rw [show (l[j].f0 == 1) = true from beq_iff_eq.2 h1, Bool.true_and, Bool.false_or, Bool.or_assoc]
        exact hrest.of fun k => by rw [if_pos h1, if_neg (by simp)]
    · rw [show (l[j].f0 == 1) = false from beq_false_of_ne h1, Bool.false_and, Bool.false_or, Bool.or_assoc]
      exact hrest.of fun k => by rw [if_neg h1]
theorem wr_specs (a b : Int) (l : List ISt) (hl : l.length ≤ 1048576) (ih : ∀ s ∈ l, WrEnds a b s.f3 ∧ WrEnds a b s.f4) : WrEnds a b l := by
  refine Ends.succ (fun k => by rw [spec_l10Writes.f]) ?_
  have := wr_loop a b l hl ih l.length 0 (by omega)
  rw [List.drop_zero] at this
  exact this
theorem wr_spec_kids (a b : Int) (s : ISt) : istOk s → WrEnds a b s.f3 ∧ WrEnds a b s.f4 := by
  refine istInd (P := fun s => istOk s → WrEnds a b s.f3 ∧ WrEnds a b s.f4) ?_ s
  intro s ih ih' ho
  rw [istOk_eq] at ho
  exact ⟨wr_specs a b _ ho.2.1.1 (fun x hx => ih x hx (ho.2.1.2 x hx)), wr_specs a b _ ho.2.2.1 (fun x hx => ih' x hx (ho.2.2.2 x hx))⟩
theorem wr_spec (a b : Int) (l : List ISt) (hl : l.length ≤ 1048576) (h : ∀ s ∈ l, istOk s) : WrEnds a b l := wr_specs a b l hl (fun s hs => wr_spec_kids a b s (h s hs))
end Go.Proofs.Ytfikglnnkbldaaa.B
/- The pure law of SlimWrites. -/
namespace Go.Proofs.Ytfikglnnkbldaaa.B
open Go.RowKit Go.Proofs.YtfikglnnkbldaaaW.PrintWords Go.Proofs.YtfikglnnkbldaaaW.PrintLast Go.Proofs.YtfikglnnkbldaaaW.PrintMore
set_option linter.unusedVariables false
theorem spec_slimWr (l : List ISt) (a b : Int) (h1 : manyT 4 l ≤ 1048576) (hl : l.length ≤ 1048576) (h2 : ∀ s ∈ l, istOk s) : Ends (fun k => spec_SlimWrites.f k l a b) ((countL 4 l 0).1 && l.any (wrSt a b)) := by
  have hw : Ends (fun k => (spec_l10Writes.f k l a b).bind fun t => some t) (l.any (wrSt a b)) := Ends.bind (g := fun _ t => some t) (wr_spec a b l hl h2) (Ends.const fun k => rfl)
  exact (and_part (spec_stOk l h1 h2) (fun _ => hw)).of fun k => by rw [spec_SlimWrites.f]
theorem pure_SlimWrites (l : List LSt) (a b : Int) (hl : l.length ≤ 9223372036854775807) (h : ∀ x ∈ l, stOk x) : ∃ k, laws_FnExactSlimWrites.f k l a b = some true := by
  have hz := szSts l hl h 1048576 ⟨by omega, by omega⟩
  have : Ends (fun k => laws_FnExactSlimWrites.f k l a b) true := by
    refine (hz.bind (g := fun k t => if t < 0 then some true else ((laws_toStmtS.f k l).bind fun t219 => ((spec_SlimWrites.f k t219 a b).bind fun t222 => ((laws_toStmtS.f k l).bind fun t223 => ((impl_SlimWrites.f t223 a b).bind fun t226 => (if (t226 != t222) = true then (some false) else ((laws_toStmtS.f k l).bind fun t227 => ((laws_eqStmtS.f k t223 t227).bind fun t230 => (if t230 = true then (some true) else (some false)))))))))) ?_).of fun k => by rw [laws_FnExactSlimWrites.f]; simp only [laws_toAddr.f, Option.bind_some]
    by_cases hn : szV (stsN l) 1048576 < 0
    · exact Ends.const fun k => by rw [if_pos hn]
    · have hb := (szV_left ⟨by omega, by omega⟩ hn).2.1
      have hb' : stsN l ≤ 1048576 := by omega
      have ht := toSts l hb'
      obtain ⟨o1, o2⟩ := stsTo_ok l hb'
      have hsp := spec_slimWr (l.map stTo) a b (Nat.le_trans (manyT_le 4 l) hb') (by rw [List.length_map]; exact o1) o2
      refine Ends.of (g := fun k => (laws_toStmtS.f k l).bind fun t219 => ((spec_SlimWrites.f k t219 a b).bind fun t222 => ((laws_toStmtS.f k l).bind fun t223 => ((impl_SlimWrites.f t223 a b).bind fun t226 => (if (t226 != t222) = true then (some false) else ((laws_toStmtS.f k l).bind fun t227 => ((laws_eqStmtS.f k t223 t227).bind fun t230 => (if t230 = true then (some true) else (some false))))))))) ?_ (fun k => by rw [if_neg hn])
      refine ht.bind (hsp.bind (ht.bind ?_))
      refine Ends.of (g := fun k => (laws_toStmtS.f k l).bind fun t227 => ((laws_eqStmtS.f k (l.map stTo) t227).bind fun t230 => (if t230 = true then (some true) else (some false)))) ?_ (fun k => by rw [impl_SlimWrites.f, Option.bind_some, if_neg (by simp)])
      refine ht.bind ((eqSts (l.map stTo) (by rw [List.length_map]; omega) o2).bind (Ends.const fun k => rfl))
  obtain ⟨K, hK⟩ := this
  exact ⟨K, hK K (Nat.le_refl _)⟩
theorem law_SlimWrites (x : List LSt) (A : Option Addr) (c : Nat) (y : S31) (W : World) (g : k60.C W A x.length x) (l : x.length ≤ c) : Calls Try.prog 5 #[.slice A x.length c, .agg #[.int .i64 y.f0, .int .i64 y.f1]] W fun e w' => e = .returned (.bool true) ∧ Below W.heap.size W w' := by
  obtain ⟨h1, h2⟩ := stsOk_of g
  obtain ⟨k, hk⟩ := pure_SlimWrites x y.f0 y.f1 h1 h2
  exact laws_FnExactSlimWrites.calls k A c x y.f0 y.f1 true W g l hk
end Go.Proofs.Ytfikglnnkbldaaa.B
