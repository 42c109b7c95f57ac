/- What ExprOk asks of the parts that the iterator yields, in plain words. -/
import Derived.Test.YtacbbpbopmdpeaaParts
import Derived.Test.YtacbbpbopmdpeaaReck
namespace Go.Proofs.Ytacbbpbopmdpeaa.B
open Go.RowKit Go.Proofs.YtacbbpbopmdpeaaW.PrintWords Go.Proofs.YtacbbpbopmdpeaaW.PrintLast Go.Proofs.YtacbbpbopmdpeaaW.PrintMore
set_option linter.unusedVariables false

def partOk (n : Nat) (x : Int × Ex) : Bool := decide (n ≤ 14) && decide (x.1 < 6) && kindOk x.2.f0 && ((x.2.f3.length : Int) == kidsN x.2.f0) && shapeL x.2.f0 x.2.f1 x.2.f2.f0 x.2.f2.f1
def okL : Nat → List (Int × Ex) → Bool
 | _, [] => true
 | n, x :: xs => partOk (n + 1) x && okL (n + 1) xs
theorem okL_snoc (xs : List (Int × Ex)) (x : Int × Ex) : ∀ n, okL n (xs ++ [x]) = (okL n xs && partOk (n + xs.length + 1) x) := by
 induction xs with
 | nil => intro n; simp [okL]
 | cons y ys ih => intro n; simp only [List.cons_append, okL, ih, List.length_cons]; rw [show n + 1 + ys.length + 1 = n + (ys.length + 1) + 1 by omega, Bool.and_assoc]

theorem okL_append (xs ys : List (Int × Ex)) : ∀ n, okL n (xs ++ ys) = (okL n xs && okL (n + xs.length) ys) := by
 induction xs with
 | nil => intro n; simp [okL]
 | cons y zs ih => intro n; simp only [List.cons_append, okL, ih, List.length_cons]; rw [show n + 1 + zs.length = n + (zs.length + 1) by omega, Bool.and_assoc]

theorem walk_le (d : Nat) : ∀ (e : Ex) (acc : List (Int × Ex)), acc.length ≤ 14 → (walkP d e acc).1.length ≤ 15 := by
 induction d with
 | zero => intro e acc h; simp [walkP]; omega
 | succ d ih =>
  intro e acc h
  unfold walkP
  split
  ·simp; omega
  ·rename_i h14
   have hf : ∀ (ks : List Ex) (s : List (Int × Ex) × Bool), s.1.length ≤ 14 → (ks.foldl (fun s k => if s.2 then walkP d k s.1 else s) s).1.length ≤ 15 := by
    intro ks
    induction ks with
    | nil => intro s hs; simp; omega
    | cons k ks ihk =>
     intro s hs
     show (ks.foldl (fun s k => if s.2 then walkP d k s.1 else s) (if s.2 = true then walkP d k s.1 else s)).1.length ≤ 15
     by_cases h2 : s.2 = true
     ·rw [if_pos h2]
      cases hw : (walkP d k s.1).2 with
      | true => exact ihk _ (walk_true d k s.1 hw)
      | false => rw [show walkP d k s.1 = ((walkP d k s.1).1, false) from Prod.ext rfl hw, walk_stop]; exact ih k s.1 hs
     ·rw [if_neg h2]; exact ihk s hs
   exact hf _ _ (by simp at h14 ⊢; omega)
theorem partsL_le (e : Ex) : (partsL e).length ≤ 15 := walk_le 6 e [] (by simp)

end Go.Proofs.Ytacbbpbopmdpeaa.B
