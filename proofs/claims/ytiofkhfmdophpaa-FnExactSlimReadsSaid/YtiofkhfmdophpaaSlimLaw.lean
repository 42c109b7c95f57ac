/- Plain law: whether a place is read, by the parts and by the specification. -/
import Derived.Test.YtiofkhfmdophpaaSlim
import Derived.Test.YtiofkhfmdophpaaF20
namespace Go.Proofs.Ytiofkhfmdophpaa.B
open Go.RowKit Go.Proofs.YtiofkhfmdophpaaW.PrintWords Go.Proofs.YtiofkhfmdophpaaW.PrintLast Go.Proofs.YtiofkhfmdophpaaW.PrintMore
set_option linter.unusedVariables false

/-- All parts, where the walk is not stopped. -/
def flat : Nat → Ex → List (Int × Ex)
  | 0, e => [(6, e)]
  | d + 1, e => ((5 : Int) - d, e) :: e.f3.flatMap (flat d)
theorem fold_flat (d : Nat) (ih : ∀ (e : Ex) (acc : List (Int × Ex)), (walkP d e acc).2 = true → (walkP d e acc).1 = acc ++ flat d e) (ks : List Ex) :
    ∀ acc : List (Int × Ex), (ks.foldl (fun s k => if s.2 then walkP d k s.1 else s) (acc, true)).2 = true → (ks.foldl (fun s k => if s.2 then walkP d k s.1 else s) (acc, true)).1 = acc ++ ks.flatMap (flat d) := by
  induction ks with
  | nil => intro acc _; simp
  | cons k ks ihk =>
    intro acc h
    have h1 : (ks.foldl (fun s k => if s.2 then walkP d k s.1 else s) (walkP d k acc)).2 = true := h
    show (ks.foldl (fun s k => if s.2 then walkP d k s.1 else s) (walkP d k acc)).1 = _
    cases hw : (walkP d k acc).2 with
    | false => rw [show walkP d k acc = ((walkP d k acc).1, false) from Prod.ext rfl hw, walk_stop] at h1; cases h1
    | true =>
      rw [show walkP d k acc = ((walkP d k acc).1, true) from Prod.ext rfl hw] at h1 ⊢
      rw [ihk _ h1, ih k acc hw, List.flatMap_cons, List.append_assoc]
theorem walk_flat (d : Nat) : ∀ (e : Ex) (acc : List (Int × Ex)), (walkP d e acc).2 = true → (walkP d e acc).1 = acc ++ flat d e := by
  induction d with
  | zero => intro e acc h; simp [walkP] at h
  | succ d ih =>
    intro e acc h
    unfold walkP at h ⊢
    split at h
    · cases h
    · rename_i h14
      rw [if_neg h14, fold_flat d ih e.f3 _ h, flat, List.append_assoc]; rfl
theorem parts_flat (e : Ex) (h : okL 0 (partsL e) = true) : partsL e = flat 6 e := by
  have hw := walk_ok 6 (Nat.le_refl _) e [] (by simp) rfl
  have := walk_flat 6 e [] (hw.2 h).1
  simpa [partsL] using this

theorem mono_r (a b c d : Int) (l : List Ex) (m n : Int) : ∀ k, LeO (spec_l10Reads.f k a b c d l m n) (spec_l10Reads.f (k + 1) a b c d l m n) := fun k => (spec_l10Reads.mono_l k).1 a b c d l m n
theorem mono_r0 (j a b c d : Int) (l : List Ex) (m n : Int) : ∀ k, LeO (spec_l10Reads.l0 k j a b c d l m n) (spec_l10Reads.l0 (k + 1) j a b c d l m n) := fun k => (spec_l10Reads.mono_l k).2 j a b c d l m n
theorem reads_loop (d : Nat) (m n : Int) (a b c c' : Int) (l : List Ex) (hl : l.length < 9223372036854775807) (ih : ∀ x ∈ l, ∃ k, spec_l10Reads.f k x.f0 x.f1 x.f2.f0 x.f2.f1 x.f3 m n = some ((flat d x).any (readsP m n))) :
    ∀ (q j : Nat), q + j = l.length → ∃ k, spec_l10Reads.l0 k j a b c c' l m n = some (((l.drop j).flatMap (flat d)).any (readsP m n)) := by
  intro q
  induction q with
  | zero =>
    intro j hj
    refine ⟨1, ?_⟩
    rw [spec_l10Reads.l0, if_neg (by omega), List.drop_eq_nil_of_le (by omega)]; rfl
  | succ q ihq =>
    intro j hj
    have hlt : j < l.length := by omega
    obtain ⟨k1, h1⟩ := ih l[j] (List.getElem_mem hlt)
    obtain ⟨k2, h2⟩ := ihq (j + 1) (by omega)
    refine ⟨k1 + k2 + 1, ?_⟩
    rw [spec_l10Reads.l0, if_pos (by omega), if_pos (by omega), rd_get l j hlt, wrap_small (by omega) (by omega), up_le (mono_r _ _ _ _ _ _ _) (Nat.le_add_right k1 k2) h1, Option.bind_some, List.drop_eq_getElem_cons hlt, List.flatMap_cons, List.any_append]
    cases (flat d l[j]).any (readsP m n) with
    | true => simp
    | false => simpa using up_le (mono_r0 _ _ _ _ _ _ _ _) (Nat.le_add_left k2 k1) h2
theorem reads_spec (m n : Int) (d : Nat) : ∀ e : Ex, Short e → formS d e = true → ∃ k, spec_l10Reads.f k e.f0 e.f1 e.f2.f0 e.f2.f1 e.f3 m n = some ((flat d e).any (readsP m n)) := by
  induction d with
  | zero => intro e _ h; cases h
  | succ d ih =>
    intro e he hf
    rw [formS, Bool.and_eq_true] at hf
    cases he with
    | mk _ hlen hk =>
    by_cases h2 : e.f0 = 2
    · have h0 : e.f3 = [] := by
        have h1 := hf.1
        unfold headOk at h1
        simp only [Bool.and_eq_true, beq_iff_eq] at h1
        have h3 := h1.1.2
        rw [h2, kidsN, if_pos (.inr rfl)] at h3
        exact List.length_eq_zero_iff.1 (by omega)
      refine ⟨1, ?_⟩
      rw [spec_l10Reads.f, if_pos h2, flat, h0]
      simp [readsP, h2]
    · obtain ⟨k, h⟩ := reads_loop d m n e.f0 e.f1 e.f2.f0 e.f2.f1 e.f3 hlen (fun x hx => ih x (hk x hx) (List.all_eq_true.1 hf.2 x hx)) e.f3.length 0 (by omega)
      refine ⟨k + 1, ?_⟩
      rw [spec_l10Reads.f, if_neg h2, flat, List.any_cons]
      have h2' : (e.f0 == 2) = false := by simp [h2]
      simp only [readsP, h2', Bool.false_and, Bool.false_or]
      simpa [readsP] using h
theorem slimReads_spec (e : Ex) (he : Short e) (m n : Int) : ∃ k, spec_SlimReads.f k e.f0 e.f1 e.f2.f0 e.f2.f1 e.f3 m n = some (okL 0 (partsL e) && (partsL e).any (readsP m n)) := by
  obtain ⟨k1, h1⟩ := exprOk_spec e he
  rw [← okL_eq] at h1
  cases hv : okL 0 (partsL e) with
  | false =>
    refine ⟨k1, ?_⟩
    unfold spec_SlimReads.f
    rw [h1, hv]; simp
  | true =>
    have hf : formS 6 e = true := by rw [okL_eq, Bool.and_eq_true] at hv; exact hv.1
    obtain ⟨k2, h2⟩ := reads_spec m n 6 e he hf
    rw [hv] at h1
    have h1' := up_le (f := fun k => spec_ExprOk.f k e.f0 e.f1 e.f2.f0 e.f2.f1 e.f3) (fun k => spec_ExprOk.mono _ _ _ _ _ k) (Nat.le_add_right k1 k2) h1
    have h2' := up_le (mono_r _ _ _ _ _ _ _) (Nat.le_add_left k2 k1) h2
    refine ⟨k1 + k2, ?_⟩
    unfold spec_SlimReads.f
    rw [h1']
    simp only [Option.bind_some, if_true, h2', parts_flat e hv, Bool.true_and]
end Go.Proofs.Ytiofkhfmdophpaa.B
