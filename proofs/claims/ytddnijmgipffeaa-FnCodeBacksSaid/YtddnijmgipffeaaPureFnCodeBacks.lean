/- The code of drawn statements has a way back for each loop, and a jump for each choice; each way back goes to an instruction ahead of it, each other one behind. For every code. -/
import Derived.Test.YtddnijmgipffeaaCodePure
import Derived.Test.YtddnijmgipffeaaZCode
import Derived.Test.YtddnijmgipffeaaF5
namespace Go.Proofs.Ytddnijmgipffeaa.B
open Go.RowKit Go.Proofs.YtddnijmgipffeaaW.PrintWords Go.Proofs.YtddnijmgipffeaaW.PrintLast Go.Proofs.YtddnijmgipffeaaW.PrintMore
set_option linter.unusedVariables false

theorem kindN_cons (q : Int) (d : Nat) (a : ISt) (l : List ISt) : kindN q (d + 1) (a :: l) = (if a.f0 = q then 1 else 0) + kindN q d a.f3 + kindN q d a.f4 + kindN q (d + 1) l := by
 rw [kindN, kindN, List.map_cons, List.sum_cons]
theorem wc_loop (d : Nat) (l : List ISt) (hl : l.length ≤ 1000) (ih : ∀ s ∈ l, Ends (fun k => laws_wcMany.f k s.f3) ((kindN 3 d s.f3 : Int), (kindN 2 d s.f3 : Int)) ∧ Ends (fun k => laws_wcMany.f k s.f4) ((kindN 3 d s.f4 : Int), (kindN 2 d s.f4 : Int))) :
  ∀ (e j w f : Nat), j + e = l.length → w + kindN 3 (d + 1) (l.drop j) ≤ 1000 → f + kindN 2 (d + 1) (l.drop j) ≤ 1000 →
   Ends (fun k => laws_wcMany.l0 k l (w : Int) (f : Int) (j : Int)) (((w + kindN 3 (d + 1) (l.drop j) : Nat) : Int), ((f + kindN 2 (d + 1) (l.drop j) : Nat) : Int)) := by
 intro e
 induction e with
 | zero =>
  intro j w f hj hw hf
  rw [List.drop_of_length_le (by omega), kindN_nil, kindN_nil, Nat.add_zero, Nat.add_zero]
  exact Ends.succ (fun k => by rw [laws_wcMany.l0, if_neg (by omega)]) (Ends.const fun k => rfl)
 | succ e ihe =>
  intro j w f hj hw hf
  have hjl : j < l.length := by omega
  have hd : l.drop j = l[j] :: l.drop (j + 1) := List.drop_eq_getElem_cons hjl
  rw [hd, kindN_cons] at hw hf
  rw [hd, kindN_cons, kindN_cons]
  have hrd := rdI_st l j hjl
  obtain ⟨i3, i4⟩ := ih l[j] (List.getElem_mem hjl)
  have hnx : wrap64 ((j : Int) + 1) = ((j + 1 : Nat) : Int) := by rw [wrap_in (by omega) (by omega)]; omega
  obtain ⟨a3, ha3⟩ : ∃ n, n = kindN 3 d l[j].f3 := ⟨_, rfl⟩
  obtain ⟨a4, ha4⟩ : ∃ n, n = kindN 3 d l[j].f4 := ⟨_, rfl⟩
  obtain ⟨b3, hb3⟩ : ∃ n, n = kindN 2 d l[j].f3 := ⟨_, rfl⟩
  obtain ⟨b4, hb4⟩ : ∃ n, n = kindN 2 d l[j].f4 := ⟨_, rfl⟩
  rw [← ha3, ← hb3] at i3
  rw [← ha4, ← hb4] at i4
  rw [← ha3, ← ha4] at hw
  rw [← hb3, ← hb4] at hf
  rw [← ha3, ← ha4, ← hb3, ← hb4]
  by_cases h3 : l[j].f0 = 3
  ·rw [if_pos h3] at hw
   rw [if_neg (by omega)] at hf
   rw [if_pos h3, if_neg (by omega)]
   have hn := ihe (j + 1) (w + 1 + a3 + a4) (f + b3 + b4) (by omega) (by omega) (by omega)
   rw [show w + 1 + a3 + a4 + kindN 3 (d + 1) (l.drop (j + 1)) = w + (1 + a3 + a4 + kindN 3 (d + 1) (l.drop (j + 1))) by omega, show f + b3 + b4 + kindN 2 (d + 1) (l.drop (j + 1)) = f + (0 + b3 + b4 + kindN 2 (d + 1) (l.drop (j + 1))) by omega] at hn
   refine Ends.succ (fun k => by rw [laws_wcMany.l0, if_pos (by omega), if_pos (by omega), hrd, if_pos h3]) ?_
   refine Ends.succ (fun k => by rw [laws_wcMany.j1, if_pos (by omega), if_pos (by omega), hrd, if_neg (by omega)]) ?_
   refine i3.bind (i4.bind (hn.of fun k => ?_))
   dsimp only
   rw [hnx, show wrap64 (wrap64 (wrap64 ((w : Int) + 1) + (a3 : Int)) + (a4 : Int)) = ((w + 1 + a3 + a4 : Nat) : Int) by rw [wrap_in (n := (w : Int) + 1) (by omega) (by omega), wrap_in (n := (w : Int) + 1 + (a3 : Int)) (by omega) (by omega), wrap_in (by omega) (by omega)]; omega, show wrap64 (wrap64 ((f : Int) + (b3 : Int)) + (b4 : Int)) = ((f + b3 + b4 : Nat) : Int) by rw [wrap_in (n := (f : Int) + (b3 : Int)) (by omega) (by omega), wrap_in (by omega) (by omega)]; omega]
  rw [if_neg h3] at hw ⊢
  by_cases h2 : l[j].f0 = 2
  ·rw [if_pos h2] at hf ⊢
   have hn := ihe (j + 1) (w + a3 + a4) (f + 1 + b3 + b4) (by omega) (by omega) (by omega)
   rw [show w + a3 + a4 + kindN 3 (d + 1) (l.drop (j + 1)) = w + (0 + a3 + a4 + kindN 3 (d + 1) (l.drop (j + 1))) by omega, show f + 1 + b3 + b4 + kindN 2 (d + 1) (l.drop (j + 1)) = f + (1 + b3 + b4 + kindN 2 (d + 1) (l.drop (j + 1))) by omega] at hn
   refine Ends.succ (fun k => by rw [laws_wcMany.l0, if_pos (by omega), if_pos (by omega), hrd, if_neg h3]) ?_
   refine Ends.succ (fun k => by rw [laws_wcMany.j1, if_pos (by omega), if_pos (by omega), hrd, if_pos h2]) ?_
   refine i3.bind (i4.bind (hn.of fun k => ?_))
   dsimp only
   rw [hnx, show wrap64 (wrap64 (wrap64 ((f : Int) + 1) + (b3 : Int)) + (b4 : Int)) = ((f + 1 + b3 + b4 : Nat) : Int) by rw [wrap_in (n := (f : Int) + 1) (by omega) (by omega), wrap_in (n := (f : Int) + 1 + (b3 : Int)) (by omega) (by omega), wrap_in (by omega) (by omega)]; omega, show wrap64 (wrap64 ((w : Int) + (a3 : Int)) + (a4 : Int)) = ((w + a3 + a4 : Nat) : Int) by rw [wrap_in (n := (w : Int) + (a3 : Int)) (by omega) (by omega), wrap_in (by omega) (by omega)]; omega]
  ·rw [if_neg h2] at hf ⊢
   have hn := ihe (j + 1) (w + a3 + a4) (f + b3 + b4) (by omega) (by omega) (by omega)
   rw [show w + a3 + a4 + kindN 3 (d + 1) (l.drop (j + 1)) = w + (0 + a3 + a4 + kindN 3 (d + 1) (l.drop (j + 1))) by omega, show f + b3 + b4 + kindN 2 (d + 1) (l.drop (j + 1)) = f + (0 + b3 + b4 + kindN 2 (d + 1) (l.drop (j + 1))) by omega] at hn
   refine Ends.succ (fun k => by rw [laws_wcMany.l0, if_pos (by omega), if_pos (by omega), hrd, if_neg h3]) ?_
   refine Ends.succ (fun k => by rw [laws_wcMany.j1, if_pos (by omega), if_pos (by omega), hrd, if_neg h2]) ?_
   refine i3.bind (i4.bind (hn.of fun k => ?_))
   dsimp only
   rw [hnx, show wrap64 (wrap64 ((f : Int) + (b3 : Int)) + (b4 : Int)) = ((f + b3 + b4 : Nat) : Int) by rw [wrap_in (n := (f : Int) + (b3 : Int)) (by omega) (by omega), wrap_in (by omega) (by omega)]; omega, show wrap64 (wrap64 ((w : Int) + (a3 : Int)) + (a4 : Int)) = ((w + a3 + a4 : Nat) : Int) by rw [wrap_in (n := (w : Int) + (a3 : Int)) (by omega) (by omega), wrap_in (by omega) (by omega)]; omega]
theorem wc_ends (d : Nat) : ∀ l : List ISt, formT d l = true → manyT d l ≤ 16 → Ends (fun k => laws_wcMany.f k l) ((kindN 3 d l : Int), (kindN 2 d l : Int)) := by
 induction d with
 | zero =>
  intro l h _
  rw [formT, List.isEmpty_iff] at h
  subst h
  rw [kindN_nil, kindN_nil, show ((0 : Nat) : Int) = 0 from rfl]
  refine Ends.succ (fun k => by rw [laws_wcMany.f]) ?_
  exact Ends.succ (fun k => by rw [laws_wcMany.l0, if_neg (by simp)]) (Ends.const fun k => rfl)
 | succ d ih =>
  intro l h hm
  have hl : l.length ≤ 16 := by rw [manyT] at hm; omega
  have k3 := kindN_le 3 (d + 1) l
  have k2 := kindN_le 2 (d + 1) l
  refine Ends.succ (fun k => by rw [laws_wcMany.f]) ?_
  rw [formT, List.all_eq_true] at h
  have := wc_loop d l (by omega) (fun s hs => by
   have hs' := h s hs
   rw [Bool.and_eq_true, Bool.and_eq_true] at hs'
   have hone : 1 + manyT d s.f3 + manyT d s.f4 ≤ manyT (d + 1) l := by
    rw [manyT, ← sum_one]
    exact mem_sum _ _ (List.mem_map_of_mem (f := fun s => 1 + manyT d s.f3 + manyT d s.f4) hs)
   exact ⟨ih _ hs'.2.1 (by omega), ih _ hs'.2.2 (by omega)⟩) l.length 0 0 0 (by omega) (by rw [List.drop_zero]; omega) (by rw [List.drop_zero]; omega)
  rw [List.drop_zero] at this
  simpa using this
theorem insN_cons (op : Int) (x : IIns) (l : List IIns) : insN op (x :: l) = insN op l + (if x.f0 = op then 1 else 0) := by
 rw [insN, insN, List.countP_cons]
 by_cases h : x.f0 = op
 ·rw [if_pos (by simpa using h), if_pos h]
 ·rw [if_neg (by simpa using h), if_neg h]
theorem insN_le (op : Int) (l : List IIns) : insN op l ≤ l.length := List.countP_le_length
theorem back_loop (P : List IIns) (hP : P.length ≤ 256) (hw : ways 0 0 P.length P) :
  ∀ (d j : Nat), j + d = P.length → Ends (fun k => laws_FnCodeBacks.l0 k P (insN 8 (P.drop j) : Int) (insN 7 (P.drop j) : Int) (j : Int)) true := by
 intro d
 induction d with
 | zero =>
  intro j hj
  rw [List.drop_of_length_le (by omega), show insN 8 [] = 0 from rfl, show insN 7 [] = 0 from rfl, show ((0 : Nat) : Int) = 0 from rfl]
  exact Ends.succ (g := fun _ => some ((0 : Int) == 0)) (fun k => by rw [laws_FnCodeBacks.l0, if_neg (by omega), if_pos rfl]) (Ends.const fun k => rfl)
 | succ d ih =>
  intro j hj
  have hjl : j < P.length := by omega
  have hn := ih (j + 1) (by omega)
  have hd : P.drop j = P[j] :: P.drop (j + 1) := List.drop_eq_getElem_cons hjl
  have hrd := rdI_in P j hjl
  have hwj := hw j hjl
  have hnx : wrap64 ((j : Int) + 1) = ((j + 1 : Nat) : Int) := by rw [wrap_in (by omega) (by omega)]; omega
  have l8 := insN_le 8 (P.drop (j + 1))
  have l7 := insN_le 7 (P.drop (j + 1))
  rw [List.length_drop] at l8 l7
  rw [hd, insN_cons, insN_cons]
  by_cases h8 : P[j].f0 = 8
  ·have := hwj.1 h8
   rw [if_pos h8, if_neg (by omega)]
   simp only [Nat.add_zero]
   exact Ends.succ (fun k => by rw [laws_FnCodeBacks.l0, if_pos (by omega), if_pos (by omega), hrd, if_pos h8, if_neg (by omega), if_neg (by omega), hnx, show wrap64 (((insN 8 (P.drop (j + 1)) + 1 : Nat) : Int) - 1) = (insN 8 (P.drop (j + 1)) : Int) by rw [wrap_in (by omega) (by omega)]; omega]) hn
  rw [if_neg h8]
  simp only [Nat.add_zero]
  by_cases h7 : P[j].f0 = 7
  ·have := hwj.2 (.inl h7)
   rw [if_pos h7]
   exact Ends.succ (fun k => by rw [laws_FnCodeBacks.l0, if_pos (by omega), if_pos (by omega), hrd, if_neg h8, if_pos h7, if_neg (by omega), if_neg (by omega), hnx, show wrap64 (((insN 7 (P.drop (j + 1)) + 1 : Nat) : Int) - 1) = (insN 7 (P.drop (j + 1)) : Int) by rw [wrap_in (by omega) (by omega)]; omega]) hn
  rw [if_neg h7]
  simp only [Nat.add_zero]
  by_cases h6 : P[j].f0 = 6
  ·have := hwj.2 (.inr h6)
   exact Ends.succ (fun k => by rw [laws_FnCodeBacks.l0, if_pos (by omega), if_pos (by omega), hrd, if_neg h8, if_neg h7, if_pos h6, if_neg (by omega), if_neg (by omega), hnx]) hn
  ·exact Ends.succ (fun k => by rw [laws_FnCodeBacks.l0, if_pos (by omega), if_pos (by omega), hrd, if_neg h8, if_neg h7, if_neg h6, hnx]) hn
theorem pure_FnCodeBacks : laws_FnCodeBacks.Pure := by
 intro l hl1 hl2 hw
 suffices h : Ends (fun k => laws_FnCodeBacks.f k l) true by
  obtain ⟨K, hK⟩ := h
  exact ⟨K, hK K (Nat.le_refl _)⟩
 by_cases hlen : (l.length : Int) > 1048576
 ·exact Ends.const fun k => by rw [laws_FnCodeBacks.f, if_pos hlen]
 refine Ends.of ?_ (fun k => by rw [laws_FnCodeBacks.f, if_neg hlen])
 obtain ⟨L, hF, hD⟩ := drawCode_ends l hw
 have hsp := specCode_is L hF.many hF.oks
 have hsm := insSame_ends (codeR L) (by have := codeR_len L; omega)
 refine hD.bind ?_
 refine Ends.of ?_ (fun k => by rw [impl_CodeOf.f, Option.bind_some])
 refine hsp.bind (hsm.bind ?_)
 refine Ends.of ?_ (fun k => by rw [if_pos rfl])
 refine (spec_stOk L hF.many hF.oks).bind ?_
 cases hok : (countL 4 L 0).1 with
 | false =>
  refine Ends.succ (fun k => by rw [Bool.not_false, laws_FnCodeBacks.j0, if_pos rfl]) ?_
  exact hsp.bind (hsm.bind (Ends.const fun k => rfl))
 | true =>
  have hlP := codeR_len L
  have eP : codeR L = codeS L 0 := by rw [codeR, if_pos hok]
  have ho := hok
  rw [stOk_is, Bool.and_eq_true, decide_eq_true_eq] at ho
  have e8 := insN_all 3 8 (.inr ⟨rfl, rfl⟩) 4 L ho.1 0
  have e7 := insN_all 2 7 (.inl ⟨rfl, rfl⟩) 4 L ho.1 0
  have hwP := codeS_ways L 0
  rw [← eP] at e8 e7 hwP
  rw [Nat.zero_add] at hwP
  refine Ends.succ (fun k => by rw [Bool.not_true, laws_FnCodeBacks.j0, if_neg (by simp)]) ?_
  refine (wc_ends 4 L ho.1 ho.2).bind ?_
  dsimp only
  rw [← e8, ← e7]
  exact back_loop (codeR L) hlP hwP (codeR L).length 0 (by omega)
end Go.Proofs.Ytddnijmgipffeaa.B
namespace Go.Proofs.Ytddnijmgipffeaa.Pure
theorem FnCodeBacks : Go.Proofs.Ytddnijmgipffeaa.B.laws_FnCodeBacks.Pure := Go.Proofs.Ytddnijmgipffeaa.B.pure_FnCodeBacks
end Go.Proofs.Ytddnijmgipffeaa.Pure
