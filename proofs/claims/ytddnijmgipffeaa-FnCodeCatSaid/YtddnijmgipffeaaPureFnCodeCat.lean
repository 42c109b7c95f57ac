/- The code of drawn statements behind each other is that of the first, and then that of the others, with all places as far on. For every two codes. -/
import Derived.Test.YtddnijmgipffeaaCodePure
import Derived.Test.YtddnijmgipffeaaZCode
import Derived.Test.YtddnijmgipffeaaF4
namespace Go.Proofs.Ytddnijmgipffeaa.B
open Go.RowKit Go.Proofs.YtddnijmgipffeaaW.PrintWords Go.Proofs.YtddnijmgipffeaaW.PrintLast Go.Proofs.YtddnijmgipffeaaW.PrintMore
set_option linter.unusedVariables false

theorem many_app (d : Nat) (a b : List ISt) : manyT (d + 1) (a ++ b) = manyT (d + 1) a + manyT (d + 1) b := by
 simp only [manyT, List.length_append, List.map_append, List.sum_append]; omega
theorem ok_take {L : List ISt} (h : (countL 4 L 0).1 = true) (q : Nat) : (countL 4 (L.take q) 0).1 = true ∧ (countL 4 (L.drop q) 0).1 = true := by
 rw [stOk_is, Bool.and_eq_true, decide_eq_true_eq] at h
 rw [stOk_is, stOk_is]
 obtain ⟨h1, h2⟩ := h
 have h3 : manyT 4 (L.take q) + manyT 4 (L.drop q) = manyT 4 L := by rw [← many_app 3, List.take_append_drop]
 rw [formT, List.all_eq_true] at h1
 have a1 : formT 4 (L.take q) = true := by rw [formT, List.all_eq_true]; exact fun x hx => h1 x (List.mem_of_mem_take hx)
 have a2 : formT 4 (L.drop q) = true := by rw [formT, List.all_eq_true]; exact fun x hx => h1 x (List.mem_of_mem_drop hx)
 rw [a1, a2, decide_eq_true (show manyT 4 (L.take q) ≤ 16 by omega), decide_eq_true (show manyT 4 (L.drop q) ≤ 16 by omega)]
 exact ⟨rfl, rfl⟩
theorem one_ends (P A B : List IIns) (hA : A.length ≤ 256) (hB : B.length ≤ 256) (hP : P = A ++ B.map (moved A.length)) (hw : ways 0 0 B.length B) (j : Nat) (hj : j < B.length)
  (ih : Ends (fun k => laws_FnCodeCat.l0 k P A B ((j + 1 : Nat) : Int)) true) (b : Bool) (hb : b = true ↔ (B[j].f0 = 6 ∨ B[j].f0 = 7 ∨ B[j].f0 = 8)) :
  Ends (fun k => laws_FnCodeCat.j4 k P A B (j : Int) b B[j].f0 B[j].f1 B[j].f2.f0 B[j].f2.f1) true := by
 have hwj := hw j hj
 have hlen : P.length = A.length + B.length := by rw [hP, List.length_append, List.length_map]
 have hidx : wrap64 ((A.length : Int) + (j : Int)) = ((A.length + j : Nat) : Int) := by rw [wrap_in (by omega) (by omega)]; omega
 have hrd : rd_T39 P ((A.length + j : Nat) : Int) = moved A.length B[j] := by
  rw [rdI_in P (A.length + j) (by omega)]
  subst hP
  rw [List.getElem_append_right (by omega)]
  simp
 have hnx : wrap64 ((j : Int) + 1) = ((j + 1 : Nat) : Int) := by rw [wrap_in (by omega) (by omega)]; omega
 cases b with
 | true =>
  have hway := hb.1 rfl
  have hf1 : 0 ≤ B[j].f1 ∧ B[j].f1 ≤ 256 := by
   rcases hway with h | h | h
   ·have := hwj.2 (.inr h); omega
   ·have := hwj.2 (.inl h); omega
   ·have := hwj.1 h; omega
  have hmv : moved A.length B[j] = ⟨B[j].f0, B[j].f1 + A.length, B[j].f2⟩ := by rw [moved, if_pos hway]
  have hw1 : wrap64 (B[j].f1 + (A.length : Int)) = B[j].f1 + A.length := wrap_in (by omega) (by omega)
  exact Ends.succ (fun k => by rw [laws_FnCodeCat.j4, if_pos rfl, hidx, if_pos (by omega), if_pos (by omega), hrd, hmv, hw1, if_neg (by simp), hnx]) ih
 | false =>
  have hway : ¬ (B[j].f0 = 6 ∨ B[j].f0 = 7 ∨ B[j].f0 = 8) := fun h => absurd (hb.2 h) (by simp)
  have hmv : moved A.length B[j] = B[j] := by rw [moved, if_neg hway]
  exact Ends.succ (fun k => by rw [laws_FnCodeCat.j4, if_neg (by simp), hidx, if_pos (by omega), if_pos (by omega), hrd, hmv, if_neg (by simp), hnx]) ih
theorem cat_loop (P A B : List IIns) (hA : A.length ≤ 256) (hB : B.length ≤ 256) (hP : P = A ++ B.map (moved A.length)) (hw : ways 0 0 B.length B) :
  ∀ (d j : Nat), j + d = B.length → Ends (fun k => laws_FnCodeCat.l0 k P A B (j : Int)) true := by
 intro d
 induction d with
 | zero => intro j hj; exact Ends.succ (fun k => by rw [laws_FnCodeCat.l0, if_neg (by omega)]) (Ends.const fun k => rfl)
 | succ d ih =>
  intro j hj
  have hjl : j < B.length := by omega
  have one := one_ends P A B hA hB hP hw j hjl (ih (j + 1) (by omega))
  have hrd := rdI_in B j hjl
  by_cases h6 : B[j].f0 = 6
  ·exact Ends.succ (fun k => by rw [laws_FnCodeCat.l0, if_pos (by omega), if_pos (by omega), hrd, if_pos h6]) (one true (by simp [h6]))
  by_cases h7 : B[j].f0 = 7
  ·exact Ends.succ (fun k => by rw [laws_FnCodeCat.l0, if_pos (by omega), if_pos (by omega), hrd, if_neg h6, if_pos h7]) (one true (by simp [h7]))
  ·exact Ends.succ (fun k => by rw [laws_FnCodeCat.l0, if_pos (by omega), if_pos (by omega), hrd, if_neg h6, if_neg h7]) (one (B[j].f0 == 8) (by simp [h6, h7]))
theorem pure_FnCodeCat : laws_FnCodeCat.Pure := by
 intro l l' hl1 hl2 hw hl3 hl4 hw'
 suffices h : Ends (fun k => laws_FnCodeCat.f k l l') true by
  obtain ⟨K, hK⟩ := h
  exact ⟨K, hK K (Nat.le_refl _)⟩
 by_cases hlen : (l.length : Int) > 1048576
 ·refine Ends.of ?_ (fun k => by rw [laws_FnCodeCat.f, if_pos hlen])
  exact Ends.succ (fun k => by rw [laws_FnCodeCat.j0, if_pos rfl]) (Ends.const fun k => rfl)
 by_cases hlen' : (l'.length : Int) > 1048576
 ·refine Ends.of ?_ (fun k => by rw [laws_FnCodeCat.f, if_neg hlen, decide_eq_true hlen'])
  exact Ends.succ (fun k => by rw [laws_FnCodeCat.j0, if_pos rfl]) (Ends.const fun k => rfl)
 refine Ends.of ?_ (fun k => by rw [laws_FnCodeCat.f, if_neg hlen, decide_eq_false hlen'])
 obtain ⟨L, hF, hD⟩ := drawCode_ends l hw
 have hLl := hF.len
 have hsp := specCode_is L hF.many hF.oks
 have hsm := insSame_ends (codeR L) (by have := codeR_len L; omega)
 refine Ends.succ (fun k => by rw [laws_FnCodeCat.j0, if_neg (by simp)]) ?_
 refine hD.bind ?_
 refine Ends.of ?_ (fun k => by rw [impl_CodeOf.f, Option.bind_some])
 refine hsp.bind (hsm.bind ?_)
 refine Ends.of ?_ (fun k => by rw [if_pos rfl])
 refine (spec_stOk L hF.many hF.oks).bind ?_
 cases hok : (countL 4 L 0).1 with
 | false =>
  refine Ends.succ (fun k => by rw [Bool.not_false, laws_FnCodeCat.j1, if_pos rfl]) ?_
  exact hsp.bind (hsm.bind (Ends.const fun k => rfl))
 | true =>
  have hw1 : wrap64 ((L.length : Int) + 1) = ((L.length + 1 : Nat) : Int) := by rw [wrap_in (by omega) (by omega)]; omega
  obtain ⟨q, hq⟩ : ∃ q, q = l'.length % (L.length + 1) := ⟨_, rfl⟩
  have hq1 : q < L.length + 1 := by rw [hq]; exact Nat.mod_lt _ (by omega)
  have hq2 : (l'.length : Int) % ((L.length + 1 : Nat) : Int) = (q : Int) := by rw [hq]; rfl
  obtain ⟨o1, o2⟩ := ok_take hok q
  have eP : codeR L = codeS L 0 := by rw [codeR, if_pos hok]
  have eA : codeR (L.take q) = codeS (L.take q) 0 := by rw [codeR, if_pos o1]
  have eB : codeR (L.drop q) = codeS (L.drop q) 0 := by rw [codeR, if_pos o2]
  have lA := codeR_len (L.take q)
  have lB := codeR_len (L.drop q)
  obtain ⟨A, hA⟩ : ∃ A, A = codeR (L.take q) := ⟨_, rfl⟩
  obtain ⟨B, hB⟩ : ∃ B, B = codeR (L.drop q) := ⟨_, rfl⟩
  obtain ⟨P, hP⟩ : ∃ P, P = codeR L := ⟨_, rfl⟩
  have hcat : P = A ++ B.map (moved A.length) := by
   rw [hP, hA, hB, eP, eA, eB, ← codeS_at, ← Nat.zero_add (codeS (L.take q) 0).length, ← codeS_append, List.take_append_drop]
  have hwB : ways 0 0 B.length B := by
   have := codeS_ways (L.drop q) 0
   rw [← eB, ← hB, Nat.zero_add] at this
   exact this
  rw [← hA] at lA
  rw [← hB] at lB
  have hlenP : P.length = A.length + B.length := by rw [hcat, List.length_append, List.length_map]
  have hw2 : wrap64 ((A.length : Int) + (B.length : Int)) = ((P.length : Nat) : Int) := by rw [wrap_in (by omega) (by omega)]; omega
  have htk : P.take ((A.length : Int)).toNat = A := by rw [Int.toNat_natCast, hcat]; exact List.take_left' rfl
  have hAP : (A.length : Int) ≤ (P.length : Int) := by clear hq hq2; omega
  have hA6 : A.length ≤ 1000000 := Nat.le_trans lA (by decide)
  rw [← hP]
  clear hq
  refine Ends.succ (fun k => by rw [Bool.not_true, laws_FnCodeCat.j1, if_neg (by simp), hw1, hq2, if_neg (by omega), if_pos (by omega), if_pos (by omega), Int.toNat_natCast, impl_CodeOf.f, Option.bind_some, impl_CodeOf.f, Option.bind_some, ← hA, ← hB, hw2, if_pos rfl, if_pos (Int.natCast_nonneg _), if_pos hAP, htk]) ?_
  refine (insSame_ends A hA6).bind ?_
  refine Ends.succ (fun k => by rw [Bool.not_true, laws_FnCodeCat.j2, if_neg (by simp)]) ?_
  exact cat_loop P A B lA lB hcat hwB B.length 0 (by omega)
end Go.Proofs.Ytddnijmgipffeaa.B
namespace Go.Proofs.Ytddnijmgipffeaa.Pure
theorem FnCodeCat : Go.Proofs.Ytddnijmgipffeaa.B.laws_FnCodeCat.Pure := Go.Proofs.Ytddnijmgipffeaa.B.pure_FnCodeCat
end Go.Proofs.Ytddnijmgipffeaa.Pure
