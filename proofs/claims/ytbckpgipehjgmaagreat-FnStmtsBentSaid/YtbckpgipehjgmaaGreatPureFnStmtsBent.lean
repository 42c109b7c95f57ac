/- Drawn statements that are ok are not with one that sets where something comes in, that has what its kind has not, or with too many. For every code. -/
import Derived.Test.YtbckpgipehjgmaaGreatDrawAll
import Derived.Test.YtbckpgipehjgmaaGreatZStText
import Derived.Test.YtbckpgipehjgmaaGreatZStMany
import Derived.Test.YtbckpgipehjgmaaGreatF3
namespace Go.Proofs.YtbckpgipehjgmaaGreat.B
open Go.RowKit Go.Proofs.YtbckpgipehjgmaaGreatW.PrintWords Go.Proofs.YtbckpgipehjgmaaGreatW.PrintLast Go.Proofs.YtbckpgipehjgmaaGreatW.PrintMore
set_option linter.unusedVariables false

theorem many_len (l : List ISt) : l.length ≤ manyT 4 l := by rw [manyT]; omega
theorem bent_last (l : List ISt) (s : ISt) (h : headSt s = false) : (countL 4 (l ++ [s]) 0).1 = false := by
 rw [stOk_is, formT, List.all_append]
 simp [h]
theorem bent_long (l : List ISt) (h : 16 < l.length) : (countL 4 l 0).1 = false := by
 rw [stOk_is, decide_eq_false (by have := many_len l; omega), Bool.and_false]
theorem many_ok (l : List ISt) (h : (countL 4 l 0).1 = true) : cntV (countL 4 l 0) = (manyT 4 l : Int) ∧ manyT 4 l ≤ 16 := by
 have h1 := (count_law 4 l 0 (by omega)).2 h
 have h2 : (formT 4 l && decide (manyT 4 l ≤ 16)) = true := by rw [← stOk_is]; exact h
 rw [Bool.and_eq_true] at h2
 refine ⟨?_, of_decide_eq_true h2.2⟩
 rw [cntV, if_pos h, h1]
 omega
theorem toList_nil : ((⟨#[]⟩ : ByteArray).toList = ([] : List UInt8)) := by first | decide | (unfold ByteArray.toList; unfold ByteArray.toList.loop; rfl) | (simp [ByteArray.toList, ByteArray.toList.loop])
theorem bent_loop (L A B : List ISt) (n : Int) (hA : (countL 4 A 0).1 = false) (hB : (countL 4 B 0).1 = false) (h1 : (L.length : Int) ≤ n) (h2 : n ≤ 16) : ∀ (d : Nat) (x8 : List ISt), 17 ≤ x8.length + d → x8.length ≤ 17 → Ends (fun k => laws_FnStmtsBent.l0 k L n A B x8 1 1 0 0) true := by
 have fin : ∀ x8 : List ISt, 16 < x8.length → Ends (fun k => laws_FnStmtsBent.l0 k L n A B x8 1 1 0 0) true := fun x8 h => by
  refine Ends.at1 fun k => ?_
  rw [laws_FnStmtsBent.l0, if_neg (by omega), impl_StmtsOk.f, hA, Option.bind_some, if_neg (by simp), impl_StmtsOk.f, hB, Option.bind_some, if_neg (by simp), impl_StmtsOk.f, bent_long x8 h, Option.bind_some, if_neg (by simp), impl_StmtsText.f, if_neg (by rw [hA]; simp), Option.bind_some, if_pos toList_nil, if_pos h1, decide_eq_true h2]
 intro d
 induction d with
 | zero => intro x8 h _; exact fin x8 (by omega)
 | succ d ih =>
  intro x8 h h17
  by_cases hx : 16 < x8.length
  ·exact fin x8 hx
  ·refine Ends.succ (fun k => by rw [laws_FnStmtsBent.l0, if_pos (by omega), Option.bind_some, if_pos (by simp; omega)]) (ih _ (by simp; omega) (by simp; omega))
theorem pure_FnStmtsBent : laws_FnStmtsBent.Pure := by
 intro l hl1 hl2 hw
 by_cases hlen : (l.length : Int) > 1048576
 ·exact ⟨0, by rw [laws_FnStmtsBent.f, if_pos hlen]⟩
 obtain ⟨s, hs, hl, ho⟩ := open_total l hw
 obtain ⟨L, p', hF, _, _, hE⟩ := stBent_ends s hs hl 0 (by omega) (by omega)
 suffices h : Ends (fun k => laws_FnStmtsBent.f k l) true by
  obtain ⟨K, hK⟩ := h
  exact ⟨K, hK K (Nat.le_refl _)⟩
 have hD0 : Ends (fun k => (spec_l4Bent.f k s 0).bind fun t => some t.1) L := hE.bind (g := fun _ t => some t.1) (Ends.const fun k => rfl)
 have hD : Ends (fun k => spec_DrawStmtsOk.f k l) L := hD0.of fun k => by rw [spec_DrawStmtsOk.f, ho, Option.bind_some]
 obtain ⟨m1, m2⟩ := hF.ok (by omega)
 have hok := spec_stOk L m1 m2
 have hmany := spec_stMany L m1 m2
 have hlen3 : L.length ≤ 500 := hF.len
 obtain ⟨ok, hk⟩ : ∃ b, b = (countL 4 L 0).1 := ⟨_, rfl⟩
 obtain ⟨n, hn⟩ : ∃ n, n = cntV (countL 4 L 0) := ⟨_, rfl⟩
 rw [← hk] at hok
 rw [← hn] at hmany
 refine (hD.bind ?_).of fun k => by rw [laws_FnStmtsBent.f, if_neg hlen]
 refine Ends.of ?_ fun k => by rw [impl_StmtsMany.f, ← hn, Option.bind_some, impl_StmtsOk.f, ← hk, Option.bind_some]
 refine hok.bind ?_
 refine Ends.of ?_ fun k => by rw [if_neg (by simp)]
 refine hmany.bind ?_
 refine Ends.of ?_ fun k => by rw [if_pos rfl]
 refine hok.bind ?_
 cases ok with
 | false =>
  refine Ends.succ (fun k => by rw [Bool.not_false, laws_FnStmtsBent.j0, if_pos rfl, impl_StmtsOk.f, ← hk, Option.bind_some]) ?_
  refine hok.bind ?_
  refine Ends.of ?_ fun k => by rw [if_pos (by decide)]
  exact hmany.bind (Ends.const fun k => by rw [beq_self_eq_true])
 | true =>
  obtain ⟨q1, q2⟩ := many_ok L hk.symm
  have q3 := many_len L
  rw [← hn] at q1
  refine Ends.succ (fun k => by rw [Bool.not_true, laws_FnStmtsBent.j0, if_neg (by simp), Option.bind_some, if_pos (by simp; omega), Option.bind_some, Option.bind_some, if_pos (by simp; omega), Option.bind_some, if_pos (by simp; omega), Option.bind_some, Option.bind_some, if_pos (by simp; omega), Option.bind_some, if_pos (by simp; omega)]) ?_
  exact bent_loop L _ _ n (bent_last _ _ rfl) (bent_last _ _ rfl) (by omega) (by omega) 17 _ (by simp) (by simp; omega)
end Go.Proofs.YtbckpgipehjgmaaGreat.B
namespace Go.Proofs.YtbckpgipehjgmaaGreat.Pure
theorem FnStmtsBent : Go.Proofs.YtbckpgipehjgmaaGreat.B.laws_FnStmtsBent.Pure := Go.Proofs.YtbckpgipehjgmaaGreat.B.pure_FnStmtsBent
end Go.Proofs.YtbckpgipehjgmaaGreat.Pure
