/- Plain law: the specification's own ChartOk ends, and says what impl's says. -/
import Derived.Test.YtlmchfcfkfegaaaEndsCh
import Derived.Test.YtlmchfcfkfegaaaChOk
import Derived.Test.YtlmchfcfkfegaaaOkSpec
import Derived.Test.YtlmchfcfkfegaaaPkC
namespace Go.Proofs.Ytlmchfcfkfegaaa.B
open Go.RowKit Go.Proofs.YtlmchfcfkfegaaaW.PrintWords Go.Proofs.YtlmchfcfkfegaaaW.PrintLast Go.Proofs.YtlmchfcfkfegaaaW.PrintMore
set_option linter.unusedVariables false

theorem Ends.of_up {α : Type} {f : Nat → Option α} {r : α} (hm : ∀ k, LeO (f k) (f (k + 1))) (h : ∃ k, f k = some r) : Ends f r := by
 obtain ⟨k, hk⟩ := h
 exact ⟨k, fun k' hk' => up_le hm hk' hk⟩
theorem short_of (e : S50) : iexOk e → Short e := by
 refine iexInd (P := fun e => iexOk e → Short e) ?_ e
 intro e ih ho
 rw [iexOk_eq] at ho
 exact Short.mk e (by omega) (fun x hx => ih x hx (ho.2 x hx))
theorem places_is (l : List Int) (s : Int) (hl : l.length ≤ 9223372036854775807) : Ends (fun k => spec_l8Places.f k l s) (placesL l s) := by
 have h := all_loop (L := fun k j => spec_l8Places.l0 k l s j) (p := goodL l s) (b := decide ((l.length : Int) > 0)) l.length (Ends.succ (fun k => by rw [spec_l8Places.l0, if_neg (by omega)]) (Ends.const fun k => rfl)) (fun j r hj hr => ?_)
 ·exact h.of fun k => by rw [spec_l8Places.f]
 ·have hw := next_in hl hj
  have hm : wrap64 ((j : Int) - 1) = (j : Int) - 1 := wrap_in (by omega) (by omega)
  unfold goodL
  by_cases h0 : rd l (j : Int) < 0
  ·rw [decide_eq_true h0]
   exact Ends.succ (g := fun _ => some false) (fun k => by rw [spec_l8Places.l0, if_pos (by omega), if_pos (by omega), if_pos h0]) (Ends.const fun k => rfl)
  rw [decide_eq_false h0]
  by_cases h1 : rd l (j : Int) ≥ s
  ·rw [decide_eq_true h1]
   exact Ends.succ (g := fun _ => some false) (fun k => by rw [spec_l8Places.l0, if_pos (by omega), if_pos (by omega), if_neg h0, if_pos h1]) (Ends.const fun k => rfl)
  rw [decide_eq_false h1]
  by_cases h2 : j = 0
  ·rw [decide_eq_true h2]
   refine Ends.succ (fun k => by rw [spec_l8Places.l0, if_pos (by omega), if_pos (by omega), if_neg h0, if_neg h1, if_neg (by omega), hw]) ?_
   simpa using hr
  rw [decide_eq_false h2]
  by_cases h3 : rd l (j : Int) ≤ rd l ((j : Int) - 1)
  ·rw [decide_eq_true h3]
   exact Ends.succ (g := fun _ => some false) (fun k => by rw [spec_l8Places.l0, if_pos (by omega), if_pos (by omega), if_neg h0, if_neg h1, if_pos (by omega), hm, if_pos (by omega), if_pos (by omega), if_pos h3]) (Ends.const fun k => rfl)
  ·rw [decide_eq_false h3]
   refine Ends.succ (fun k => by rw [spec_l8Places.l0, if_pos (by omega), if_pos (by omega), if_neg h0, if_neg h1, if_pos (by omega), hm, if_pos (by omega), if_pos (by omega), if_neg h3, hw]) ?_
   simpa using hr
theorem all_range {α : Type} {rd : List α → Int → α} (hrd : ∀ (l : List α) (j : Nat) (h : j < l.length), rd l (j : Int) = l[j]) (p : α → Bool) (l : List α) : l.all p = (List.range l.length).all fun j => p (rd l (j : Int)) := by
 rw [Bool.eq_iff_iff, List.all_eq_true, List.all_eq_true]
 constructor
 ·intro h j hj
  have hj' : j < l.length := List.mem_range.1 hj
  rw [hrd l j hj']
  exact h _ (List.getElem_mem _)
 ·intro h x hx
  obtain ⟨j, hj, rfl⟩ := List.getElem_of_mem hx
  have := h j (List.mem_range.2 hj)
  rwa [hrd l j hj] at this
theorem chOk_is (s : Int) (l : List ITr) (m : List IAc) (h : chOk l m) : Ends (fun k => spec_ChartOk.f k s l m) (chOkL s l m) := by
 have hj1 : Ends (fun k => spec_ChartOk.j0 k true s l m) false := Ends.succ (fun k => by rw [spec_ChartOk.j0, if_pos rfl]) (Ends.const fun k => rfl)
 unfold chOkL
 by_cases h0 : s < 1
 ·rw [decide_eq_true h0]
  exact hj1.of fun k => by rw [spec_ChartOk.f, if_pos h0]
 rw [decide_eq_false h0]
 by_cases h1 : 6 < s
 ·rw [decide_eq_true h1]
  exact hj1.of fun k => by rw [spec_ChartOk.f, if_neg h0, if_pos (by omega)]
 rw [decide_eq_false h1]
 by_cases h2 : 6 < (l.length : Int)
 ·rw [decide_eq_true h2]
  exact hj1.of fun k => by rw [spec_ChartOk.f, if_neg h0, if_neg (by omega), if_pos (by omega)]
 rw [decide_eq_false h2]
 by_cases h3 : 6 < (m.length : Int)
 ·rw [decide_eq_true h3]
  exact hj1.of fun k => by rw [spec_ChartOk.f, if_neg h0, if_neg (by omega), if_neg (by omega), decide_eq_true (show ((m.length : Int) > 6) by omega)]
 rw [decide_eq_false h3]
 have hacts : Ends (fun k => spec_ChartOk.l1 k 0 s l m) (!(m.any (acBadL s))) := by
  have hm : (!(m.any (acBadL s))) = m.all (fun x => !(acBadL s x)) := by rw [List.not_any_eq_all_not]
  rw [hm, all_range rdI_ac]
  have := all_loop (L := fun k j => spec_ChartOk.l1 k j s l m) (p := fun j => !(acBadL s (rd_T92 m j))) (b := true) m.length (Ends.succ (fun k => by rw [spec_ChartOk.l1, if_neg (by omega)]) (Ends.const fun k => rfl)) (fun j r hj hr => ?_)
  ·rw [Bool.and_true] at this
   exact this
  ·have hw := next_in (n := m.length) (by have := h.2; omega) hj
   show Ends _ (!(acBadL s (rd_T92 m (j : Int))) && r)
   generalize hx : rd_T92 m (j : Int) = x
   unfold acBadL
   by_cases a0 : x.f0 < 1
   ·rw [decide_eq_true a0]
    exact Ends.succ (g := fun _ => some false) (fun k => by rw [spec_ChartOk.l1, if_pos (by omega), if_pos (by omega), hx, if_pos a0]) (Ends.const fun k => rfl)
   rw [decide_eq_false a0]
   by_cases a1 : 4 < x.f0
   ·rw [decide_eq_true a1]
    exact Ends.succ (g := fun _ => some false) (fun k => by rw [spec_ChartOk.l1, if_pos (by omega), if_pos (by omega), hx, if_neg a0, if_pos a1]) (Ends.const fun k => rfl)
   rw [decide_eq_false a1]
   by_cases a2 : x.f1 < 0
   ·rw [decide_eq_true a2]
    exact Ends.succ (g := fun _ => some false) (fun k => by rw [spec_ChartOk.l1, if_pos (by omega), if_pos (by omega), hx, if_neg a0, if_neg a1, if_pos a2]) (Ends.const fun k => rfl)
   rw [decide_eq_false a2]
   by_cases a3 : s ≤ x.f1
   ·rw [decide_eq_true a3]
    exact Ends.succ (g := fun _ => some false) (fun k => by rw [spec_ChartOk.l1, if_pos (by omega), if_pos (by omega), hx, if_neg a0, if_neg a1, if_neg a2, if_pos a3]) (Ends.const fun k => rfl)
   rw [decide_eq_false a3]
   cases a4 : addrOkL x.f2.f0 x.f2.f1 with
   | false => exact Ends.succ (g := fun _ => some false) (fun k => by rw [spec_ChartOk.l1, if_pos (by omega), if_pos (by omega), hx, if_neg a0, if_neg a1, if_neg a2, if_neg a3, addrOk_is, Option.bind_some, a4, if_neg (by simp)]) (Ends.const fun k => rfl)
   | true =>
    by_cases a5 : x.f2.f0 = 2
    ·rw [show (x.f2.f0 != 2) = false by rw [a5]; rfl]
     exact Ends.succ (fun k => by rw [spec_ChartOk.l1, if_pos (by omega), if_pos (by omega), hx, if_neg a0, if_neg a1, if_neg a2, if_neg a3, addrOk_is, Option.bind_some, a4, if_pos rfl, if_pos a5, hw]) (by simpa using hr)
    ·rw [show (x.f2.f0 != 2) = true from bne_iff_ne.2 a5]
     exact Ends.succ (g := fun _ => some false) (fun k => by rw [spec_ChartOk.l1, if_pos (by omega), if_pos (by omega), hx, if_neg a0, if_neg a1, if_neg a2, if_neg a3, addrOk_is, Option.bind_some, a4, if_pos rfl, if_neg a5]) (Ends.const fun k => rfl)
 rw [all_range rdI_tr]
 have := all_loop (L := fun k j => spec_ChartOk.l0 k j s l m) (p := fun j => trGoodL s (rd_T52 l j)) l.length (Ends.succ (fun k => by rw [spec_ChartOk.l0, if_neg (by omega)]) hacts) (fun j r hj hr => ?_)
 ·refine Ends.of (Ends.succ (f := fun k => spec_ChartOk.j0 k false s l m) (fun k => by rw [spec_ChartOk.j0, if_neg (by simp)]) this) (fun k => ?_)
  rw [spec_ChartOk.f, if_neg h0, if_neg (by omega), if_neg (by omega), decide_eq_false (show ¬ ((m.length : Int) > 6) by omega)]
 ·have ho := h.1.2 (rd_T52 l j) (by rw [rdI_tr _ _ hj]; exact List.getElem_mem _)
  have he := Ends.of_up (f := fun k => spec_ExprOk.f k (rd_T52 l j).f2.f0 (rd_T52 l j).f2.f1 (rd_T52 l j).f2.f2.f0 (rd_T52 l j).f2.f2.f1 (rd_T52 l j).f2.f3) (fun k => spec_ExprOk.mono _ _ _ _ _ k) (exprOk_spec (rd_T52 l j).f2 (short_of _ ho.2.2))
  rw [← okL_eq] at he
  show Ends _ (trGoodL s (rd_T52 l (j : Int)) && r)
  rw [trGoodL, Bool.and_assoc, Bool.and_assoc]
  refine Ends.succ (fun k => ?_) (and_part (places_is (rd_T52 l j).f0 s (by have := ho.1; omega)) (and_part (places_is (rd_T52 l j).f1 s (by have := ho.2.1; omega)) (and_part he hr)))
  rw [spec_ChartOk.l0, if_pos (by omega), if_pos (by omega), next_in (n := l.length) (by have := h.1.1; omega) hj]
end Go.Proofs.Ytlmchfcfkfegaaa.B
