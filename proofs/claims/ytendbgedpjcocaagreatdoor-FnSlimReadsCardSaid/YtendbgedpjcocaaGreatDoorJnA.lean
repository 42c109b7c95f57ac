import Derived.Test.YtendbgedpjcocaaGreatDoorJnG
import Derived.Test.YtendbgedpjcocaaGreatDoorJnB
import Derived.Test.YtendbgedpjcocaaGreatDoorB0
import Derived.Deep.MidRow
import Derived.Test.YtendbgedpjcocaaGreatDoorJnI
import Derived.Test.YtendbgedpjcocaaGreatDoorJnF
import Derived.Test.YtendbgedpjcocaaGreatDoorJnH
import Derived.Test.YtendbgedpjcocaaGreatDoorPkA
/- Plain law: statements are run: what a run leaves, how it ends, how much fuel is left. -/
namespace Go.Proofs.YtendbgedpjcocaaGreatDoor.B
open Go.RowKit Go.Proofs.YtendbgedpjcocaaGreatDoorW.PrintWords Go.Proofs.YtendbgedpjcocaaGreatDoorW.PrintLast Go.Proofs.YtendbgedpjcocaaGreatDoorW.PrintMore
set_option linter.unusedVariables false

/-- A number is put at a place, cut, if something can be put there. -/
def putB (bs : List Int) (k a n : Int) : List Int := if putsL k a = true then bs.set ((k - 1) * 6 + a).toNat (cutL n) else bs
/-- The numbers, how it ends (0: well, 1: too long), the fuel that is left. -/
abbrev Res := List Int × Int × Int
/-- A list is run; with so many steps at most. -/
def runL : Nat → List Int → List St → Int → Option Res
 | 0, _, _, _ => none
 | _ + 1, bs, [], f => some (bs, 0, f)
 | k + 1, bs, s :: l, f =>
  (if s.f0 = 1 then some (putB bs s.f1.f0 s.f1.f1 (evalI bs s.f2), 0, f)
   else if s.f0 = 3 then (if evalI bs s.f2 = 0 then some (bs, 0, f) else (runL k bs s.f3 f).bind fun r => if r.2.1 = 0 then (if r.2.2 < 1 then some (r.1, 1, 0) else runL k r.1 [s] (r.2.2 - 1)) else some r)
   else runL k bs (if evalI bs s.f2 = 0 then s.f4 else s.f3) f).bind fun r => if r.2.1 = 0 then runL k r.1 l r.2.2 else some r
/-- The first of a list. -/
def stepR (k : Nat) (bs : List Int) (s : St) (f : Int) : Option Res :=
 if s.f0 = 1 then some (putB bs s.f1.f0 s.f1.f1 (evalI bs s.f2), 0, f)
 else if s.f0 = 3 then (if evalI bs s.f2 = 0 then some (bs, 0, f) else (runL k bs s.f3 f).bind fun r => if r.2.1 = 0 then (if r.2.2 < 1 then some (r.1, 1, 0) else runL k r.1 [s] (r.2.2 - 1)) else some r)
 else runL k bs (if evalI bs s.f2 = 0 then s.f4 else s.f3) f
theorem runL_nil (k : Nat) (bs : List Int) (f : Int) : runL (k + 1) bs [] f = some (bs, 0, f) := by rw [runL]
theorem runL_cons (k : Nat) (bs : List Int) (s : St) (l : List St) (f : Int) : runL (k + 1) bs (s :: l) f = (stepR k bs s f).bind fun r => if r.2.1 = 0 then runL k r.1 l r.2.2 else some r := by rw [runL]; rfl
theorem stepR_mono {k : Nat} (ih : ∀ bs l f, LeO (runL k bs l f) (runL (k + 1) bs l f)) (bs : List Int) (s : St) (f : Int) : LeO (stepR k bs s f) (stepR (k + 1) bs s f) := by
 intro r h
 unfold stepR at h ⊢
 by_cases h1 : s.f0 = 1
 ·rw [if_pos h1] at h ⊢; exact h
 ·rw [if_neg h1] at h ⊢
  by_cases h3 : s.f0 = 3
  ·rw [if_pos h3] at h ⊢
   by_cases he : evalI bs s.f2 = 0
   ·rw [if_pos he] at h ⊢; exact h
   ·rw [if_neg he] at h ⊢
    obtain ⟨r1, hr1, h⟩ := Option.bind_eq_some_iff.1 h
    rw [ih _ _ _ r1 hr1, Option.bind_some]
    by_cases hc : r1.2.1 = 0
    ·rw [if_pos hc] at h ⊢
     by_cases hf : r1.2.2 < 1
     ·rw [if_pos hf] at h ⊢; exact h
     ·rw [if_neg hf] at h ⊢; exact ih _ _ _ r h
    ·rw [if_neg hc] at h ⊢; exact h
  ·rw [if_neg h3] at h ⊢
   exact ih _ _ _ r h
theorem runL_mono : ∀ k bs l f, LeO (runL k bs l f) (runL (k + 1) bs l f) := by
 intro k
 induction k with
 | zero => intro bs l f r h; rw [runL] at h; cases h
 | succ k ih =>
  intro bs l f r h
  cases l with
  | nil => rw [runL_nil] at h ⊢; exact h
  | cons s l =>
   rw [runL_cons] at h ⊢
   obtain ⟨r1, hr1, h⟩ := Option.bind_eq_some_iff.1 h
   rw [stepR_mono ih bs s f r1 hr1, Option.bind_some]
   by_cases hc : r1.2.1 = 0
   ·rw [if_pos hc] at h ⊢; exact ih _ _ _ r h
   ·rw [if_neg hc] at h ⊢; exact h
theorem runL_up {k k' : Nat} (hk : k ≤ k') {bs : List Int} {l : List St} {f : Int} {r : Res} (h : runL k bs l f = some r) : runL k' bs l f = some r := up_le (f := fun k => runL k bs l f) (fun k => runL_mono k bs l f) hk h
theorem stepR_up {k k' : Nat} (hk : k ≤ k') {bs : List Int} {s : St} {f : Int} {r : Res} (h : stepR k bs s f = some r) : stepR k' bs s f = some r := up_le (f := fun k => stepR k bs s f) (fun k => stepR_mono (runL_mono k) bs s f) hk h
/-- A list's run. -/
def Run (bs : List Int) (l : List St) (f : Int) (r : Res) : Prop := ∃ k, runL k bs l f = some r
theorem Run.one {bs : List Int} {l : List St} {f : Int} {r r' : Res} (h : Run bs l f r) (h' : Run bs l f r') : r = r' := by
 obtain ⟨k, hk⟩ := h
 obtain ⟨k', hk'⟩ := h'
 have := (runL_up (Nat.le_max_left k k') hk).symm.trans (runL_up (Nat.le_max_right k k') hk')
 exact Option.some.inj this
theorem Run.nil (bs : List Int) (f : Int) : Run bs [] f (bs, 0, f) := ⟨1, runL_nil 0 bs f⟩
/-- The first's run. -/
def RunS (bs : List Int) (s : St) (f : Int) (r : Res) : Prop := ∃ k, stepR k bs s f = some r
theorem Run.cons {bs : List Int} {s : St} {l : List St} {f : Int} {r1 r : Res} (h : RunS bs s f r1) (h' : if r1.2.1 = 0 then Run r1.1 l r1.2.2 r else r = r1) : Run bs (s :: l) f r := by
 obtain ⟨k, hk⟩ := h
 by_cases hc : r1.2.1 = 0
 ·rw [if_pos hc] at h'
  obtain ⟨k', hk'⟩ := h'
  refine ⟨max k k' + 1, ?_⟩
  rw [runL_cons, stepR_up (Nat.le_max_left k k') hk, Option.bind_some, if_pos hc]
  exact runL_up (Nat.le_max_right k k') hk'
 ·rw [if_neg hc] at h'
  refine ⟨k + 1, ?_⟩
  rw [runL_cons, hk, Option.bind_some, if_neg hc, h']
theorem Run.uncons {bs : List Int} {s : St} {l : List St} {f : Int} {r : Res} (h : Run bs (s :: l) f r) : ∃ r1, RunS bs s f r1 ∧ (if r1.2.1 = 0 then Run r1.1 l r1.2.2 r else r = r1) := by
 obtain ⟨k, hk⟩ := h
 cases k with
 | zero => rw [runL] at hk; cases hk
 | succ k =>
  rw [runL_cons] at hk
  obtain ⟨r1, hr1, h⟩ := Option.bind_eq_some_iff.1 hk
  refine ⟨r1, ⟨k, hr1⟩, ?_⟩
  by_cases hc : r1.2.1 = 0
  ·rw [if_pos hc] at h ⊢; exact ⟨k, h⟩
  ·rw [if_neg hc] at h ⊢; exact (Option.some.inj h).symm
theorem RunS.set {bs : List Int} {s : St} {f : Int} (h1 : s.f0 = 1) : RunS bs s f (putB bs s.f1.f0 s.f1.f1 (evalI bs s.f2), 0, f) := ⟨0, by rw [stepR, if_pos h1]⟩
theorem RunS.if {bs : List Int} {s : St} {f : Int} {r : Res} (h1 : s.f0 = 2) (h : Run bs (if evalI bs s.f2 = 0 then s.f4 else s.f3) f r) : RunS bs s f r := by
 obtain ⟨k, hk⟩ := h
 exact ⟨k, by rw [stepR, if_neg (by omega), if_neg (by omega)]; exact hk⟩
theorem RunS.off {bs : List Int} {s : St} {f : Int} (h1 : s.f0 = 3) (he : evalI bs s.f2 = 0) : RunS bs s f (bs, 0, f) := ⟨0, by rw [stepR, if_neg (by omega), if_pos h1, if_pos he]⟩
theorem RunS.stop {bs : List Int} {s : St} {f : Int} {r : Res} (h1 : s.f0 = 3) (he : evalI bs s.f2 ≠ 0) (h : Run bs s.f3 f r) (hc : r.2.1 ≠ 0) : RunS bs s f r := by
 obtain ⟨k, hk⟩ := h
 exact ⟨k, by rw [stepR, if_neg (by omega), if_pos h1, if_neg he, hk, Option.bind_some, if_neg hc]⟩
theorem RunS.long {bs : List Int} {s : St} {f : Int} {r : Res} (h1 : s.f0 = 3) (he : evalI bs s.f2 ≠ 0) (h : Run bs s.f3 f r) (hc : r.2.1 = 0) (hf : r.2.2 < 1) : RunS bs s f (r.1, 1, 0) := by
 obtain ⟨k, hk⟩ := h
 exact ⟨k, by rw [stepR, if_neg (by omega), if_pos h1, if_neg he, hk, Option.bind_some, if_pos hc, if_pos hf]⟩
theorem RunS.again {bs : List Int} {s : St} {f : Int} {r r' : Res} (h1 : s.f0 = 3) (he : evalI bs s.f2 ≠ 0) (h : Run bs s.f3 f r) (hc : r.2.1 = 0) (hf : ¬ r.2.2 < 1) (h' : Run r.1 [s] (r.2.2 - 1) r') : RunS bs s f r' := by
 obtain ⟨k, hk⟩ := h
 obtain ⟨k', hk'⟩ := h'
 exact ⟨max k k', by rw [stepR, if_neg (by omega), if_pos h1, if_neg he, runL_up (Nat.le_max_left k k') hk, Option.bind_some, if_pos hc, if_neg hf]; exact runL_up (Nat.le_max_right k k') hk'⟩
theorem Run.single {bs : List Int} {s : St} {f : Int} {r : Res} : Run bs [s] f r ↔ RunS bs s f r := by
 constructor
 ·intro h
  obtain ⟨r1, h1, h2⟩ := h.uncons
  by_cases hc : r1.2.1 = 0
  ·rw [if_pos hc] at h2
   have := (Run.nil r1.1 r1.2.2).one h2
   obtain ⟨a, b, c⟩ := r1
   simp only at hc
   subst hc
   rw [← this]; exact h1
  ·rw [if_neg hc] at h2; rw [h2]; exact h1
 ·intro h
  refine Run.cons h ?_
  by_cases hc : r.2.1 = 0
  ·rw [if_pos hc]
   obtain ⟨a, b, c⟩ := r
   simp only at hc
   subst hc
   exact Run.nil a c
  ·rw [if_neg hc]
/-- What every run's end is like. -/
structure Fits (f : Int) (r : Res) : Prop where
 lo : 0 ≤ r.2.2
 hi : r.2.2 ≤ f
 how : r.2.1 = 0 ∨ r.2.1 = 1 ∧ r.2.2 = 0
theorem run_total (d : Nat) : ∀ l : List St, formT d l = true → ∀ (f : Int) (bs : List Int), 0 ≤ f → ∃ r, Run bs l f r ∧ Fits f r := by
 induction d with
 | zero =>
  intro l hl f bs hf
  cases l with
  | nil => exact ⟨_, Run.nil bs f, ⟨hf, Int.le_refl _, .inl rfl⟩⟩
  | cons s l => cases hl
 | succ d ih =>
  have one : ∀ s : St, headSt s = true → formT d s.f3 = true → formT d s.f4 = true → ∀ (n : Nat) (f : Int) (bs : List Int), 0 ≤ f → f.toNat ≤ n → ∃ r, RunS bs s f r ∧ Fits f r := by
   intro s hs h3 h4 n
   have hk : s.f0 = 1 ∨ s.f0 = 2 ∨ s.f0 = 3 := by
    unfold headSt plainL at hs
    by_cases h1 : s.f0 = 1
    ·exact .inl h1
    ·by_cases h2 : s.f0 = 2
     ·exact .inr (.inl h2)
     ·by_cases h3 : s.f0 = 3
      ·exact .inr (.inr h3)
      ·rw [if_neg h1, if_neg h2, if_neg h3] at hs; simp at hs
   induction n with
   | zero =>
    intro f bs hf hn
    obtain rfl : f = 0 := by omega
    rcases hk with h | h | h
    ·exact ⟨_, RunS.set h, ⟨Int.le_refl _, Int.le_refl _, .inl rfl⟩⟩
    ·obtain ⟨r, hr, hF⟩ := ih (if evalI bs s.f2 = 0 then s.f4 else s.f3) (by split <;> assumption) 0 bs hf
     exact ⟨r, RunS.if h hr, hF⟩
    ·by_cases he : evalI bs s.f2 = 0
     ·exact ⟨_, RunS.off h he, ⟨Int.le_refl _, Int.le_refl _, .inl rfl⟩⟩
     ·obtain ⟨r, hr, hF⟩ := ih s.f3 h3 0 bs hf
      by_cases hc : r.2.1 = 0
      ·exact ⟨_, RunS.long h he hr hc (by have := hF.hi; omega), ⟨Int.le_refl _, Int.le_refl _, .inr ⟨rfl, rfl⟩⟩⟩
      ·exact ⟨r, RunS.stop h he hr hc, hF⟩
   | succ n ihn =>
    intro f bs hf hn
    rcases hk with h | h | h
    ·exact ⟨_, RunS.set h, ⟨hf, Int.le_refl _, .inl rfl⟩⟩
    ·obtain ⟨r, hr, hF⟩ := ih (if evalI bs s.f2 = 0 then s.f4 else s.f3) (by split <;> assumption) f bs hf
     exact ⟨r, RunS.if h hr, hF⟩
    ·by_cases he : evalI bs s.f2 = 0
     ·exact ⟨_, RunS.off h he, ⟨hf, Int.le_refl _, .inl rfl⟩⟩
     ·obtain ⟨r, hr, hF⟩ := ih s.f3 h3 f bs hf
      by_cases hc : r.2.1 = 0
      ·by_cases hl : r.2.2 < 1
       ·exact ⟨_, RunS.long h he hr hc hl, ⟨Int.le_refl _, hf, .inr ⟨rfl, rfl⟩⟩⟩
       ·have h1 := hF.hi
        obtain ⟨r', hr', hF'⟩ := ihn (r.2.2 - 1) r.1 (by omega) (by omega)
        have h2 := hF'.hi
        exact ⟨r', RunS.again h he hr hc hl (Run.single.2 hr'), ⟨hF'.lo, by omega, hF'.how⟩⟩
      ·exact ⟨r, RunS.stop h he hr hc, hF⟩
  intro l
  induction l with
  | nil => intro _ f bs hf; exact ⟨_, Run.nil bs f, ⟨hf, Int.le_refl _, .inl rfl⟩⟩
  | cons s l ihl =>
   intro hl f bs hf
   have hl' : (headSt s && (formT d s.f3 && formT d s.f4)) = true ∧ formT (d + 1) l = true := by
    have : formT (d + 1) (s :: l) = ((headSt s && (formT d s.f3 && formT d s.f4)) && formT (d + 1) l) := rfl
    rw [this, Bool.and_eq_true] at hl; exact hl
   simp only [Bool.and_eq_true] at hl'
   obtain ⟨⟨hs, h3, h4⟩, hl2⟩ := hl'
   obtain ⟨r1, hr1, hF1⟩ := one s hs h3 h4 f.toNat f bs hf (Nat.le_refl _)
   by_cases hc : r1.2.1 = 0
   ·obtain ⟨r, hr, hF⟩ := ihl hl2 r1.2.2 r1.1 hF1.lo
    have h1 := hF.hi; have h2 := hF1.hi
    exact ⟨r, Run.cons hr1 (by rw [if_pos hc]; exact hr), ⟨hF.lo, by omega, hF.how⟩⟩
   ·exact ⟨r1, Run.cons hr1 (by rw [if_neg hc]), hF1⟩
/-- What holds at the beginning of a run and is kept by each number that is put holds at its end. -/
theorem run_keeps (P : List Int → Prop) : ∀ (k : Nat) (l : List St) (W : St → Prop), (∀ s, W s → ∀ x ∈ s.f3, W x) → (∀ s, W s → ∀ x ∈ s.f4, W x) → (∀ s, W s → s.f0 = 1 → ∀ bs, P bs → P (putB bs s.f1.f0 s.f1.f1 (evalI bs s.f2))) →
  (∀ s ∈ l, W s) → ∀ (bs : List Int) (f : Int) (r : Res), P bs → runL k bs l f = some r → P r.1 := by
 intro k
 induction k with
 | zero => intro l W _ _ _ _ bs f r _ h; rw [runL] at h; cases h
 | succ k ih =>
  intro l W h3 h4 hP hl bs f r hb h
  cases l with
  | nil => rw [runL_nil] at h; cases h; exact hb
  | cons s l =>
   rw [runL_cons] at h
   obtain ⟨r1, hr1, h⟩ := Option.bind_eq_some_iff.1 h
   have hs := hl s List.mem_cons_self
   have hp1 : P r1.1 := by
    unfold stepR at hr1
    by_cases k1 : s.f0 = 1
    ·rw [if_pos k1] at hr1; cases hr1; exact hP s hs k1 bs hb
    ·rw [if_neg k1] at hr1
     by_cases k3 : s.f0 = 3
     ·rw [if_pos k3] at hr1
      by_cases he : evalI bs s.f2 = 0
      ·rw [if_pos he] at hr1; cases hr1; exact hb
      ·rw [if_neg he] at hr1
       obtain ⟨r2, hr2, hr1⟩ := Option.bind_eq_some_iff.1 hr1
       have hp2 := ih s.f3 W h3 h4 hP (h3 s hs) bs f r2 hb hr2
       by_cases hc : r2.2.1 = 0
       ·rw [if_pos hc] at hr1
        by_cases hf : r2.2.2 < 1
        ·rw [if_pos hf] at hr1; cases hr1; exact hp2
        ·rw [if_neg hf] at hr1
         exact ih [s] W h3 h4 hP (fun x hx => by rw [List.mem_singleton] at hx; rw [hx]; exact hs) _ _ _ hp2 hr1
       ·rw [if_neg hc] at hr1; cases hr1; exact hp2
     ·rw [if_neg k3] at hr1
      refine ih _ W h3 h4 hP ?_ bs f r1 hb hr1
      split
      ·exact h4 s hs
      ·exact h3 s hs
   by_cases hc : r1.2.1 = 0
   ·rw [if_pos hc] at h
    exact ih l W h3 h4 hP (fun x hx => hl x (List.mem_cons_of_mem _ hx)) _ _ _ hp1 h
   ·rw [if_neg hc] at h; cases h; exact hp1
end Go.Proofs.YtendbgedpjcocaaGreatDoor.B
/- Boxes: a variable in a block of its own, known whole; how operations meet it, in plain regions and in those that draw their order. -/
namespace Go.Proofs.YtendbgedpjcocaaGreatDoor.B
open Go Go.RowKit Go.Proofs.YtendbgedpjcocaaGreatDoorW.PrintWords Go.Proofs.YtendbgedpjcocaaGreatDoorW.PrintLast Go.Proofs.YtendbgedpjcocaaGreatDoorW.PrintMore
set_option linter.unusedVariables false

abbrev Box (W : World) (g : Nat) (T : TypeId) (cs : Array Value) : Prop := W.heap[g]? = some (.cells cs T (0, 0))
/-- What a store into block g leaves: all other blocks. -/
structure Put1 (g : Nat) (W W' : World) : Prop where
 os : W'.os = W.os
 tape : W'.tape = W.tape
 output : W'.output = W.output
 size : W'.heap.size = W.heap.size
 far : ∀ j, j ≠ g → W'.heap[j]? = W.heap[j]?
theorem Put1.below {g B : Nat} {w W W' : World} (h : Put1 g W W') (hb : Below B w W) (hg : B ≤ g) : Below B w W' :=
 hb.trans ⟨h.os, h.tape, h.output, by rw [h.size]; exact Nat.le_refl _, fun k hk => h.far k (by omega)⟩
theorem setCells_put1 (g : Nat) : ∀ (vs : List Value) (o : Nat) (W : World), Put1 g W (W.setCells g o vs)
 | [], _, W => ⟨rfl, rfl, rfl, rfl, fun _ _ => rfl⟩
 | v :: r, o, W => by
  have h := setCells_put1 g r (o + 1) (W.setCell ⟨g, o, none⟩ v)
  exact ⟨h.os, h.tape, h.output, h.size.trans (by simp [World.setCell]), fun j hj => (h.far j hj).trans (Below.heap_setCell _ _ _ _ hj)⟩
theorem setCells_row (g : Nat) (T : TypeId) : ∀ (vs : List Value) (o : Nat) (W : World) (cs : Array Value), Box W g T cs → ∃ R : Array Value, Box (W.setCells g o vs) g T R ∧ R.size = cs.size ∧ (∀ i, i < o → R[i]? = cs[i]?) ∧ ∀ i, i < vs.length → o + i < cs.size → R[o + i]? = vs[i]?
 | [], o, W, cs, h => ⟨cs, h, rfl, fun _ _ => rfl, fun i hi => absurd hi (Nat.not_lt_zero i)⟩
 | v :: r, o, W, cs, h => by
  obtain ⟨R, h1, h2, h3, h4⟩ := setCells_row g T r (o + 1) (W.setCell ⟨g, o, none⟩ v) (cs.setIfInBounds o v) (blk_set h o v)
  refine ⟨R, h1, by rw [h2]; simp, fun i hi => ?_, fun i hi ho => ?_⟩
  ·rw [h3 i (by omega), Array.getElem?_setIfInBounds_ne (by omega)]
  ·cases i with
   | zero =>
    rw [Nat.add_zero, h3 o (by omega), List.getElem?_cons_zero, Array.getElem?_setIfInBounds_self_of_lt (by simpa using ho)]
   | succ i =>
    have := h4 i (by simpa using hi) (by simp; omega)
    rw [show o + (i + 1) = o + 1 + i by omega, List.getElem?_cons_succ]
    exact this
theorem setCells_box {g : Nat} {T : TypeId} {W : World} {cs cs' : Array Value} (h : Box W g T cs) (hs : cs'.size = cs.size) : Box (W.setCells g 0 cs'.toList) g T cs' := by
 obtain ⟨R, h1, h2, _, h4⟩ := setCells_row g T cs'.toList 0 W cs h
 have : R = cs' := by
  apply Array.ext_getElem?
  intro i
  by_cases hi : i < cs'.size
  ·have := h4 i (by simpa using hi) (by omega)
   rw [Nat.zero_add] at this
   simpa using this
  ·rw [Array.getElem?_eq_none (by omega), Array.getElem?_eq_none (by omega)]
 exact this ▸ h1
theorem Box.range {W : World} {g : Nat} {T : TypeId} {cs : Array Value} (h : Box W g T cs) : W.rangeAt g 0 cs.toList := fun j v hv => by
 rw [Nat.zero_add, blk_cell h]
 simpa using hv
theorem Box.there {W : World} {g : Nat} {T : TypeId} {cs : Array Value} (h : Box W g T cs) : W.there g 0 cs.size := fun j hj => by
 rw [Nat.zero_add, blk_cell h, blk_frozen h]
 simp [hj]
theorem Box.put1 {W W' : World} {g b : Nat} {T : TypeId} {cs : Array Value} (h : Box W g T cs) (hp : Put1 b W W') (hne : g ≠ b) : Box W' g T cs := (hp.far g hne).trans h
theorem drew_below (W : World) : Below W.heap.size W W.drew := (Below.refl _ _).drew

section
variable {P : Program} {ops : Array Oper} {rest : List Oper} {o : Oper} {a : Act} {Q : Exit → Act → World → Prop} {W : World}
/-- A box is made. -/
theorem boxNew_ {N : Tmp} (hd : o.dst = some N) (hg : o.guard = none) (cs : Array Value) (T : TypeId) (hrun : (execOp a.eval o).run P W = .ok (.value (.pointer (some ⟨W.heap.size, 0, none⟩))) (W.alloc (.cells cs T (0, 0))))
  (h : ∀ g W', g = W.heap.size → Box W' g T cs → Below W.heap.size W W' → wpList P ops Q rest (a.put (some N) (.pointer (some ⟨g, 0, none⟩))) W') : wpList P ops Q (o :: rest) a W := by
 refine box_event hg hd hrun fun g hg w1 h1 h2 => ?_
 rw [hd]
 exact h g w1 hg h1 h2
/-- A box is written whole. -/
theorem boxPut_ {T : TypeId} {p : Tmp} {x : Operand} (ho : o.op = .store T (.tmp p) x) (hN : o.dst = none) (hg : o.guard = none) {g : Nat} {cs : Array Value} (hp : a.eval (.tmp p) = .pointer (some ⟨g, 0, none⟩)) (cs' : Array Value) (hx : a.eval x = .agg cs')
  (hb : Box W g T cs) (hs : cs'.size = cs.size) (hi : (P.info? T).map (·.size) = some cs'.size) (h1 : cs'.all (·.oneCell') = true)
  (h : ∀ W', Box W' g T cs' → Put1 g W W' → wpList P ops Q rest a W') : wpList P ops Q (o :: rest) a W := by
 refine wpList_store_mid hg T (.tmp p) x ho g 0 cs' hp hx (by rw [hs]; exact Box.there hb) hi h1 ?_
 rw [hN]
 exact h _ (setCells_box hb hs) (setCells_put1 g _ 0 W)
/-- A box is read whole. -/
theorem boxGet_ {T : TypeId} {x : Operand} {N : Tmp} (ho : o.op = .load T x) (hd : o.dst = some N) (hg : o.guard = none) {g : Nat} {cs : Array Value} (hx : a.eval x = .pointer (some ⟨g, 0, none⟩)) (hb : Box W g T cs) {d : TypeDesc} (hu : P.underlying T = some d) (hr : d.isRow = true)
  (hi : (P.info? T).map (·.size) = some cs.size) (h : wpList P ops Q rest (a.put (some N) (.agg cs)) W) : wpList P ops Q (o :: rest) a W := by
 refine wpList_load_mid hg T x ho g 0 hx cs.toList d (Box.range hb) hu hr (by simpa using hi) ?_
 rw [hd]
 simpa using h
theorem eval_put_same {a : Act} {N : Tmp} (h : N < a.tmps.size) (v : Value) : (a.put (some N) v).eval (.tmp N) = v := by simp [Act.eval, Act.put, h]
theorem eval_put_ne {a : Act} {N t : Tmp} (h : N ≠ t) (v : Value) : (a.put (some N) v).eval (.tmp t) = a.eval (.tmp t) := Act.eval_put fun d hd hx => h (by injection hx with hx; injection hd with hd; rw [hd, hx])
/-- A variable is made and filled: x := f(..). -/
theorem new1_ {rest : List Oper} {o1 o2 : Oper} {N x : Tmp} {T : TypeId} (cs : Array Value) {zs : Array Value} (h1 : cs.all (·.oneCell') = true)
  (hd1 : o1.dst = some N := by rfl) (hg1 : o1.guard = none := by rfl) (ho1 : o1.op = .alloc T := by rfl) (hz : ∀ ev W, (execOp ev o1).run P W = .ok (.value (.pointer (some ⟨W.heap.size, 0, none⟩))) (W.alloc (.cells zs T (0, 0))) := by (intro _ _; go_simp; first | done | rfl))
  (ho2 : o2.op = .store T (.tmp N) (.tmp x) := by rfl) (hd2 : o2.dst = none := by rfl) (hg2 : o2.guard = none := by rfl)
  (hN : decide (N < a.tmps.size) = true := by rfl) (hNx : N ≠ x := by decide) (hx : a.eval (.tmp x) = .agg cs := by rfl)
  (hs : cs.size = zs.size := by rfl) (hi : (P.info? T).map (·.size) = some cs.size := by kernel_rfl)
  (h : ∀ g W', W.heap.size ≤ g → Box W' g T cs → Below W.heap.size W W' → wpList P ops Q rest (a.put (some N) (.pointer (some ⟨g, 0, none⟩))) W') : wpList P ops Q (o1 :: o2 :: rest) a W := by
 refine boxNew_ hd1 hg1 zs T (hz _ _) fun g W1 hg hb hB => ?_
 refine boxPut_ ho2 hd2 hg2 (eval_put_same (of_decide_eq_true hN) _) cs ((eval_put_ne hNx _).trans hx) hb hs hi h1 fun W2 hb2 hp => ?_
 exact h g W2 (Nat.le_of_eq hg.symm) hb2 (hp.below hB (Nat.le_of_eq hg.symm))
/-- Two variables are made and filled: x, y := f(..). -/
theorem new2_ {rest : List Oper} {o1 o2 o3 o4 : Oper} {N M x y : Tmp} {T U : TypeId} (cs ds : Array Value) {zs ys : Array Value} (h1 : cs.all (·.oneCell') = true) (h2 : ds.all (·.oneCell') = true)
  (hd1 : o1.dst = some N := by rfl) (hg1 : o1.guard = none := by rfl) (ho1 : o1.op = .alloc T := by rfl) (hz : ∀ ev W, (execOp ev o1).run P W = .ok (.value (.pointer (some ⟨W.heap.size, 0, none⟩))) (W.alloc (.cells zs T (0, 0))) := by (intro _ _; go_simp; first | done | rfl))
  (hd2 : o2.dst = some M := by rfl) (hg2 : o2.guard = none := by rfl) (ho2 : o2.op = .alloc U := by rfl) (hy : ∀ ev W, (execOp ev o2).run P W = .ok (.value (.pointer (some ⟨W.heap.size, 0, none⟩))) (W.alloc (.cells ys U (0, 0))) := by (intro _ _; go_simp; first | done | rfl))
  (ho3 : o3.op = .store T (.tmp N) (.tmp x) := by rfl) (hd3 : o3.dst = none := by rfl) (hg3 : o3.guard = none := by rfl) (ho4 : o4.op = .store U (.tmp M) (.tmp y) := by rfl) (hd4 : o4.dst = none := by rfl) (hg4 : o4.guard = none := by rfl)
  (hN : decide (N < a.tmps.size) = true := by rfl) (hM : decide (M < a.tmps.size) = true := by rfl) (hNM : N ≠ M := by decide) (hNx : N ≠ x := by decide) (hMx : M ≠ x := by decide) (hNy : N ≠ y := by decide) (hMy : M ≠ y := by decide) (hx : a.eval (.tmp x) = .agg cs := by rfl) (hy' : a.eval (.tmp y) = .agg ds := by rfl)
  (hs : cs.size = zs.size := by rfl) (hi : (P.info? T).map (·.size) = some cs.size := by kernel_rfl) (ht : ds.size = ys.size := by rfl) (hj : (P.info? U).map (·.size) = some ds.size := by kernel_rfl)
  (h : ∀ g g' W', W.heap.size ≤ g → W.heap.size ≤ g' → g ≠ g' → Box W' g T cs → Box W' g' U ds → Below W.heap.size W W' → wpList P ops Q rest ((a.put (some N) (.pointer (some ⟨g, 0, none⟩))).put (some M) (.pointer (some ⟨g', 0, none⟩))) W') : wpList P ops Q (o1 :: o2 :: o3 :: o4 :: rest) a W := by
 refine boxNew_ hd1 hg1 zs T (hz _ _) fun g W1 hg hb hB => ?_
 refine boxNew_ hd2 hg2 ys U (hy _ _) fun g' W2 hg' hb' hB' => ?_
 have hlt : g < W1.heap.size := blk_lt hb
 have hne : g ≠ g' := by omega
 have hle : W.heap.size ≤ g' := by have := hB.size; omega
 refine boxPut_ ho3 hd3 hg3 ((eval_put_ne (Ne.symm hNM) _).trans (eval_put_same (of_decide_eq_true hN) _)) cs ((eval_put_ne hMx _).trans ((eval_put_ne hNx _).trans hx)) (blk_below hb hB') hs hi h1 fun W3 hb3 hp3 => ?_
 refine boxPut_ ho4 hd4 hg4 (eval_put_same (by simpa [Act.put] using of_decide_eq_true hM) _) ds ((eval_put_ne hMy _).trans ((eval_put_ne hNy _).trans hy')) (Box.put1 hb' hp3 (Ne.symm hne)) ht hj h2 fun W4 hb4 hp4 => ?_
 have hB2 : Below W.heap.size W W2 := hB.trans (hB'.mono hB.size)
 exact h g g' W4 (Nat.le_of_eq hg.symm) hle hne (Box.put1 hb3 hp4 hne) hb4 (hp4.below (hp3.below hB2 (Nat.le_of_eq hg.symm)) hle)
/-- A cell of a box is written. -/
theorem setF_ {rest : List Oper} {T U : TypeId} {q : Tmp} {x : Operand} {g i : Nat} {cs : Array Value} {v : Value} (ho : o.op = .store T (.tmp q) x) (hd : o.dst = none) (hg : o.guard = none) (hb : Box W g U cs)
  (hrun : (execOp a.eval o).run P W = .ok .skip (W.setCell ⟨g, i, none⟩ v)) (h : ∀ W', Box W' g U (cs.setIfInBounds i v) → Put1 g W W' → wpList P ops Q rest a W') : wpList P ops Q (o :: rest) a W := by
 refine store_event hg ho hd hrun fun w' hw => ?_
 subst hw
 exact h _ (blk_set hb i v) ⟨rfl, rfl, rfl, by simp [World.setCell], fun j hj => Below.heap_setCell _ _ _ _ hj⟩
/-- Two cells of a box are written: a struct of two cells. -/
theorem setF2_ {rest : List Oper} {T U : TypeId} {q : Tmp} {x : Operand} {g i : Nat} {cs : Array Value} {v u : Value} (ho : o.op = .store T (.tmp q) x) (hd : o.dst = none) (hg : o.guard = none) (hb : Box W g U cs)
  (hrun : (execOp a.eval o).run P W = .ok .skip ((W.setCell ⟨g, i, none⟩ v).setCell ⟨g, i + 1, none⟩ u)) (h : ∀ W', Box W' g U ((cs.setIfInBounds i v).setIfInBounds (i + 1) u) → Put1 g W W' → wpList P ops Q rest a W') : wpList P ops Q (o :: rest) a W := by
 refine store_event hg ho hd hrun fun w' hw => ?_
 subst hw
 exact h _ (blk_set (blk_set hb i v) (i + 1) u) ⟨rfl, rfl, rfl, by simp [World.setCell], fun j hj => (Below.heap_setCell _ _ _ _ hj).trans (Below.heap_setCell _ _ _ _ hj)⟩
theorem Box.cell {W : World} {g : Nat} {T : TypeId} {cs : Array Value} (h : Box W g T cs) (i : Nat) (v : Value) (hv : cs[i]? = some v) : W.cell? ⟨g, i, none⟩ = some v ∧ W.frozen? ⟨g, i, none⟩ = false := ⟨(blk_cell h i).trans hv, blk_frozen h i⟩
end

section
variable {ops : Array Oper} {o : Oper} {b : Act}
theorem wanted_on {g : Nat} {want : Bool} {t : Tmp} (hg : o.guard = some (g, want)) (hd : (ops[g]?).bind (·.dst) = some t) (ht : b.tmps[t]? = some (.bool want)) : Region.wanted o (yielded ops b.tmps) = true := by
 simp [Region.wanted, hg, yielded, hd, ht]
theorem wanted_off {g : Nat} {want is : Bool} {t : Tmp} (hg : o.guard = some (g, want)) (hd : (ops[g]?).bind (·.dst) = some t) (ht : b.tmps[t]? = some (.bool is)) (hne : is ≠ want) : Region.wanted o (yielded ops b.tmps) = false := by
 simp [Region.wanted, hg, yielded, hd, ht, hne]
end
section
variable {P : Program} {ops : Array Oper} {o : Oper} {b : Act} {W : World} {Ψ : Value → World → Prop}
theorem stepVal {v : Value} (hw : Region.wanted o (yielded ops b.tmps) = true) (hrun : (execOp b.eval o).run P W = .ok (.value v) W) (h : Ψ v W) : StepOK P ops o b W Ψ := fun K Q hK => value_ hw rfl hrun (hK v W h)
theorem stepOff (hw : Region.wanted o (yielded ops b.tmps) = false) (h : Ψ undef W) : StepOK P ops o b W Ψ := fun K Q hK => by
 rw [if_neg (by rw [hw]; decide)]
 exact hK _ _ h
theorem stepGet {T : TypeId} {x : Operand} (hw : Region.wanted o (yielded ops b.tmps) = true) (ho : o.op = .load T x) {g : Nat} {cs : Array Value} (hx : b.eval x = .pointer (some ⟨g, 0, none⟩)) (hb : Box W g T cs) {d : TypeDesc} (hu : P.underlying T = some d) (hr : d.isRow = true)
  (hi : (P.info? T).map (·.size) = some cs.size) (h : Ψ (.agg cs) W) : StepOK P ops o b W Ψ := by
 refine stepVal hw ?_ h
 have := run_loadVar_mid (P := P) W g 0 T cs.toList d (Box.range hb) hu hr (by simpa using hi)
 unfold execOp
 simp only [ho, hx, Instr.loadAt, Instr.sureAddr, Sem.run_bind, Sem.run_pure, Result.andThen_ok, this]
theorem stepCall {f : FuncId} {fn : Func} {ys : Array Operand} {ts : Array TypeId} (hw : Region.wanted o (yielded ops b.tmps) = true) (hf : P.funcs[f]? = some fn) (hname : (fn.name == "runtime.NumGoroutine") = false) (hbd : fn.body.isSome = true) (args : Array Value)
  (hop : o.op = .call { callee := .value (.func f), args := ys, argTypes := ts }) (hargs : ys.map b.eval = args) {R : Ending → World → Prop} (hc : Calls P f args W R) (h : ∀ e w', R e w' → ∃ v, e = .returned v ∧ Ψ v w') : StepOK P ops o b W Ψ :=
 fun K Q hK => goes_ hf hname hbd args hw rfl hop hargs (hc.mono fun e w' hr => by
  obtain ⟨v, rfl, hv⟩ := h e w' hr
  exact ⟨v, rfl, hK v w' hv⟩)
end
/-- What stays, as memory is made. -/
def Lasts (p : World → Prop) : Prop := ∀ W W', Below W.heap.size W W' → p W → p W'
theorem Lasts.const (p : Prop) : Lasts fun _ => p := fun _ _ _ h => h
theorem Lasts.below (w : World) : Lasts fun W => Below w.heap.size w W := fun _ _ hb h => h.trans (hb.mono h.size)
/-- Facts of values, one by one. -/
def FAt (Fs : List (Value → World → Prop)) (i : Nat) (v : Value) (W : World) : Prop := Fs.getD i (fun _ _ => True) v W
def LastAll : List (Value → World → Prop) → Prop
 | [] => True
 | F :: r => (∀ v, Lasts (F v)) ∧ LastAll r
theorem FAt.last : ∀ (Fs : List (Value → World → Prop)), LastAll Fs → ∀ i v a b, Below a.heap.size a b → FAt Fs i v a → FAt Fs i v b
 | [], _, _, _, _, _, _, _ => trivial
 | F :: r, h, 0, v, a, b, hb, hf => h.1 v a b hb hf
 | F :: r, h, i + 1, v, a, b, hb, hf => FAt.last r h.2 i v a b hb hf
section
variable {P : Program} {ops : Array Oper} {Q : Exit → Act → World → Prop}
/-- A region that draws its order, where nothing but new memory is written: p is what is known of the world. -/
theorem weaveB_ {id : Nat} {a0 : Act} {w : World} (p : World → Prop) (hp : Lasts p) (h0 : p w) (ds : List (Tmp × Nat)) (Fs : List (Value → World → Prop)) (hm : P.follows .mixedOrders = true) (hB : weaveB ops ds = true) (hF : LastAll Fs)
  (hstep : OpsAll (fun i o => ∀ vs W, p W → (∀ j ∈ waitsOn o, FAt Fs j (vs j) W) → ∀ b, Sees a0 ds o vs b → StepOK P ops o b W fun v W' => Below W.heap.size W W' ∧ FAt Fs i v W') ops.toList 0)
  (hend : ∀ (vs : Nat → Value) W, p W → (∀ j, j < ops.size → FAt Fs j (vs j) W) → Q .normal (putL a0 (ds.map fun q => (q.1, vs q.2))) W) : (Code.region id ops true).wp P Q a0 w :=
 weaveR (fun a b => Below a.heap.size a b) (FAt Fs) ds hm hB (fun w => Below.refl _ _) (fun a b c h k => h.trans (k.mono h.size)) (fun i v a b h => FAt.last Fs hF i v a b h)
  (OpsAll.imp (fun i o h vs W hW hv => h vs W (hp _ _ hW (hp _ _ (drew_below w) h0)) hv) _ _ hstep) (fun vs W hW hv => hend vs W (hp _ _ hW (hp _ _ (drew_below w) h0)) hv)
end

/-- What is known of a value: it lasts as memory is made; what it leads to lies in ok, and no store elsewhere touches it. -/
structure Good (F : Value → World → (Nat → Prop) → Prop) : Prop where
 last : ∀ v ok W W', Below W.heap.size W W' → F v W ok → F v W' ok
 mono : ∀ v W ok ok', (∀ k, ok k → ok' k) → F v W ok → F v W ok'
 bound : ∀ v W ok, F v W ok → F v W fun k => ok k ∧ k < W.heap.size
 far : ∀ v W W' ok g, Put1 g W W' → ¬ ok g → F v W ok → F v W' ok
section
variable {P : Program} {ops : Array Oper} {Q : Exit → Act → World → Prop}
end
end Go.Proofs.YtendbgedpjcocaaGreatDoor.B
/- A drawn region whose last operation, or last two, behind all others, do whatever they do (append, store, a call that writes). -/
namespace Go.Proofs.YtendbgedpjcocaaGreatDoor.B
open Go Go.RowKit

section
variable {P : Program} {ops : Array Oper} {Q : Exit → Act → World → Prop} {md : Region.Mode}
/-- What stands before the operations of L, as far as n steps reach. -/
def reachW (ops : Array Oper) : Nat → List Nat → List Nat
 | 0, L => L
 | n + 1, L => reachW ops n (L ++ L.flatMap fun i => match ops[i]? with | some o => waitsOn o | none => []).eraseDups
theorem reachW_all {l : Nat → Bool} (hd : ∀ (i : Nat) (o : Oper), ops[i]? = some o → l i = true → ∀ j ∈ waitsOn o, l j = true) : ∀ (n : Nat) (L : List Nat), (∀ j ∈ L, l j = true) → ∀ j ∈ reachW ops n L, l j = true := by
 intro n
 induction n with
 | zero => exact fun _ h => h
 | succ n ih =>
  intro L h
  refine ih _ fun j hj => ?_
  rw [List.mem_eraseDups, List.mem_append] at hj
  rcases hj with hj | hj
  ·exact h j hj
  ·obtain ⟨i, hi, hji⟩ := List.mem_flatMap.1 hj
   cases ho : ops[i]? with
   | none => rw [ho] at hji; cases hji
   | some o => rw [ho] at hji; exact hd i o ho (h i hi) j hji
/-- A drawn region that makes memory, and whose last operation, behind all others, does whatever it does. -/
theorem weaveLast_ {id : Nat} {a0 : Act} {w : World} (m : Nat) (hm1 : ops.size = m + 1) (p : World → Prop) (hp : Lasts p) (h0 : p w) (ds : List (Tmp × Nat)) (Fs : List (Value → World → Prop)) (hm : P.follows .mixedOrders = true) (hB : weaveB ops ds = true) (hF : LastAll Fs)
  (hall : (match ops[m]? with | some o => (List.range m).all fun j => (reachW ops m (waitsOn o)).contains j | none => false) = true)
  (hwait : ((List.range m).all fun i => match ops[i]? with | some o => (waitsOn o).all fun j => decide (j < m) | none => true) = true)
  (hstep : OpsAll (fun i o => i < m → ∀ vs W, p W → (∀ j ∈ waitsOn o, FAt Fs j (vs j) W) → ∀ b, Sees a0 ds o vs b → StepOK P ops o b W fun v W' => Below W.heap.size W W' ∧ FAt Fs i v W') ops.toList 0)
  (Ψ : Value → World → Prop) (hlast : ∀ o, ops[m]? = some o → ∀ vs W, p W → (∀ j, j < m → FAt Fs j (vs j) W) → ∀ b, Sees a0 ds o vs b → StepOK P ops o b W Ψ)
  (hend : ∀ (vs : Nat → Value) W, Ψ (vs m) W → Q .normal (putL a0 (ds.map fun q => (q.1, vs q.2))) W) : (Code.region id ops true).wp P Q a0 w := by
 refine weave (fun l vs W => (∀ (i : Nat) (o : Oper), ops[i]? = some o → l i = true → ∀ j ∈ waitsOn o, l j = true) ∧ (l m = false → p W ∧ ∀ j, j < m → l j = true → FAt Fs j (vs j) W) ∧ (l m = true → Ψ (vs m) W)) ds hm hB ?_ ?_ ?_
 ·exact ⟨(fun _ _ _ h => absurd h (by simp)), (fun _ => ⟨hp _ _ (drew_below w) h0, (fun _ _ h => absurd h (by simp))⟩), (fun h => absurd h (by simp))⟩
 ·intro i o ho l vs W ⟨hc, hI, _⟩ hli hw b hsee
  have hlt := (Array.getElem?_eq_some_iff.1 ho).1
  obtain ⟨om, hom⟩ : ∃ o, ops[m]? = some o := ⟨ops[m], by simp [show m < ops.size by omega]⟩
  have hbelow : (∀ j ∈ waitsOn om, l j = true) → ∀ j, j < m → l j = true := fun hh j hj => by
   rw [hom] at hall
   exact reachW_all hc m _ hh j (by simpa using List.all_eq_true.1 hall j (List.mem_range.2 hj))
  have hdc : ∀ (i' : Nat) (o' : Oper), ops[i']? = some o' → (i' == i || l i') = true → ∀ j ∈ waitsOn o', (j == i || l j) = true := by
   intro i' o' ho' hh j hj
   by_cases hii : i' = i
   ·subst hii
    have : o' = o := Option.some.inj (ho'.symm.trans ho)
    subst this
    simp [hw j hj]
   ·have : l i' = true := by simpa [hii] using hh
    simp [hc i' o' ho' this j hj]
  by_cases hin : i < m
  ·have hlm : l m = false := by
    cases hq : l m with
    | false => rfl
    | true => rw [hbelow (hc m om hom hq) i hin] at hli; cases hli
   obtain ⟨h1, h2⟩ := hI hlm
   have hst := OpsAll.at ops.toList 0 hstep i o (by rw [Array.getElem?_toList]; exact ho)
   rw [Nat.zero_add] at hst
   have hmi : (m == i) = false := by simp; omega
   intro K Q' hK
   refine hst hin vs W h1 (fun j hj => ?_) b hsee K Q' fun v W' hv => hK v W' ⟨hdc, fun _ => ⟨hp _ _ hv.1 h1, fun j hj hlj => ?_⟩, fun hh => by simp [hmi, hlm] at hh⟩
   ·have hjm : j < m := by
     have := List.all_eq_true.1 hwait i (List.mem_range.2 hin)
     rw [ho] at this
     simpa using List.all_eq_true.1 this j hj
    exact h2 j hjm (hw j hj)
   ·by_cases hji : j = i
    ·subst hji
     simpa using hv.2
    ·simp only [hji, if_false]
     exact FAt.last Fs hF j _ _ _ hv.1 (h2 j hj (by simpa [hji] using hlj))
  ·have him : i = m := by omega
   subst him
   obtain ⟨h1, h2⟩ := hI hli
   have : o = om := Option.some.inj (ho.symm.trans hom)
   subst this
   have hl := hbelow hw
   intro K Q' hK
   exact hlast o ho vs W h1 (fun j hj => h2 j hj (hl j hj)) b hsee K Q' fun v W' hv => hK v W' ⟨hdc, fun hh => by simp at hh, fun _ => by simpa using hv⟩
 ·intro l vs W hl hI
  exact hend vs W (hI.2.2 (hl m (by omega)))
/-- A drawn region that makes memory, whose values at S own new memory, each its own, and whose last two operations, behind all others, do whatever they do. -/
theorem weaveFresh_ {id : Nat} {a0 : Act} {w : World} (S : List Nat) (m : Nat) (hS : (S.all fun j => decide (j < m)) = true) (hm1 : ops.size = m + 2) (p : World → Prop) (hp : Lasts p) (h0 : p w) (ds : List (Tmp × Nat)) (Fs : List (Value → World → Prop)) (hm : P.follows .mixedOrders = true) (hB : weaveB ops ds = true) (hF : LastAll Fs)
  (hall : (match ops[m]? with | some o => (List.range m).all fun j => (reachW ops m (waitsOn o)).contains j | none => false) = true)
  (hall2 : (match ops[m + 1]? with | some o => (waitsOn o).contains m | none => false) = true)
  (hwait : ((List.range m).all fun i => match ops[i]? with | some o => (waitsOn o).all fun j => decide (j < m) | none => true) = true)
  (hstep : OpsAll (fun i o => i < m → ∀ vs W, p W → (∀ j ∈ waitsOn o, FAt Fs j (vs j) W) → ∀ b, Sees a0 ds o vs b → StepOK P ops o b W fun v W' => Below W.heap.size W W' ∧ FAt Fs i v W' ∧ (S.contains i = true → ∀ k, v.ownBlock = some k → W.heap.size ≤ k)) ops.toList 0)
  (hltS : ∀ j ∈ S, ∀ v W, FAt Fs j v W → ∀ k, v.ownBlock = some k → k < W.heap.size)
  (Ψ Φ : Value → World → Prop) (hlast : ∀ o, ops[m]? = some o → ∀ vs W, p W → (∀ j, j < m → FAt Fs j (vs j) W) → (∀ i ∈ S, ∀ j ∈ S, i ≠ j → ∀ k, (vs i).ownBlock = some k → (vs j).ownBlock ≠ some k) → ∀ b, Sees a0 ds o vs b → StepOK P ops o b W Ψ)
  (hlast2 : ∀ o, ops[m + 1]? = some o → ∀ vs W, Ψ (vs m) W → ∀ b, Sees a0 ds o vs b → StepOK P ops o b W Φ)
  (hend : ∀ (vs : Nat → Value) W, Φ (vs (m + 1)) W → Q .normal (putL a0 (ds.map fun q => (q.1, vs q.2))) W) : (Code.region id ops true).wp P Q a0 w := by
 refine weave (fun l vs W => (∀ (i : Nat) (o : Oper), ops[i]? = some o → l i = true → ∀ j ∈ waitsOn o, l j = true) ∧ (l m = false → (p W ∧ ∀ j, j < m → l j = true → FAt Fs j (vs j) W) ∧ (∀ i ∈ S, ∀ j ∈ S, i ≠ j → l i = true → l j = true → ∀ k, (vs i).ownBlock = some k → (vs j).ownBlock ≠ some k)) ∧ (l m = true → l (m + 1) = false → Ψ (vs m) W) ∧ (l (m + 1) = true → Φ (vs (m + 1)) W)) ds hm hB ?_ ?_ ?_
 ·exact ⟨(fun _ _ _ h => absurd h (by simp)), (fun _ => ⟨⟨hp _ _ (drew_below w) h0, (fun _ _ h => absurd h (by simp))⟩, fun _ _ _ _ _ h => absurd h (by simp)⟩), (fun h => absurd h (by simp)), (fun h => absurd h (by simp))⟩
 ·intro i o ho l vs W ⟨hc, hI, hJ, _⟩ hli hw b hsee
  have hlt := (Array.getElem?_eq_some_iff.1 ho).1
  have hom : ∃ o, ops[m]? = some o := ⟨ops[m], by simp [show m < ops.size by omega]⟩
  obtain ⟨om, hom⟩ := hom
  have hom1 : ∃ o, ops[m + 1]? = some o := ⟨ops[m + 1], by simp [show m + 1 < ops.size by omega]⟩
  obtain ⟨om1, hom1⟩ := hom1
  have hbelow : (∀ j ∈ waitsOn om, l j = true) → ∀ j, j < m → l j = true := fun hh j hj => by
   rw [hom] at hall
   exact reachW_all hc m _ hh j (by simpa using List.all_eq_true.1 hall j (List.mem_range.2 hj))
  have hm1m : l (m + 1) = true → l m = true := fun hh => hc _ _ hom1 hh m (by rw [hom1] at hall2; simpa using hall2)
  have hdc : ∀ (i' : Nat) (o' : Oper), ops[i']? = some o' → (i' == i || l i') = true → ∀ j ∈ waitsOn o', (j == i || l j) = true := by
   intro i' o' ho' hh j hj
   by_cases hii : i' = i
   ·subst hii
    have : o' = o := Option.some.inj (ho'.symm.trans ho)
    subst this
    simp [hw j hj]
   ·have : l i' = true := by simpa [hii] using hh
    simp [hc i' o' ho' this j hj]
  by_cases hin : i < m
  ·have hlm : l m = false := by
    cases hq : l m with
    | false => rfl
    | true => rw [hbelow (hc m om hom hq) i hin] at hli; cases hli
   have hlm1 : l (m + 1) = false := by
    cases hq : l (m + 1) with
    | false => rfl
    | true => rw [hm1m hq] at hlm; cases hlm
   obtain ⟨⟨h1, h2⟩, hap⟩ := hI hlm
   have hst := OpsAll.at ops.toList 0 hstep i o (by rw [Array.getElem?_toList]; exact ho)
   rw [Nat.zero_add] at hst
   have hmi : (m == i) = false := by simp; omega
   have hmi1 : (m + 1 == i) = false := by simp; omega
   intro K Q' hK
   refine hst hin vs W h1 (fun j hj => ?_) b hsee K Q' fun v W' hv => hK v W' ⟨hdc, fun _ => ⟨⟨hp _ _ hv.1 h1, fun j hj hlj => ?_⟩, fun x hx y hy hxy hlx hly k hk => ?_⟩, fun hh => by simp [hmi, hlm] at hh, fun hh => by simp [hmi1, hlm1] at hh⟩
   ·have hjm : j < m := by
     have := List.all_eq_true.1 hwait i (List.mem_range.2 hin)
     rw [ho] at this
     simpa using List.all_eq_true.1 this j hj
    exact h2 j hjm (hw j hj)
   ·by_cases hji : j = i
    ·subst hji
     simpa using hv.2.1
    ·simp only [hji, if_false]
     exact FAt.last Fs hF j _ _ _ hv.1 (h2 j hj (by simpa [hji] using hlj))
   ·have hxm : x < m := of_decide_eq_true (List.all_eq_true.1 hS x hx)
    have hym : y < m := of_decide_eq_true (List.all_eq_true.1 hS y hy)
    by_cases hxi : x = i
    ·have hyi : y ≠ i := fun e => hxy (hxi.trans e.symm)
     simp only [hxi, if_true] at hk
     simp only [hyi, if_false]
     intro hk'
     have q1 := hv.2.2 (by rw [← hxi]; exact List.contains_iff_mem.2 hx) k hk
     have q2 := hltS y hy _ _ (h2 y hym (by simpa [hyi] using hly)) k hk'
     omega
    ·simp only [hxi, if_false] at hk
     by_cases hyi : y = i
     ·simp only [hyi, if_true]
      intro hk'
      have q1 := hv.2.2 (by rw [← hyi]; exact List.contains_iff_mem.2 hy) k hk'
      have q2 := hltS x hx _ _ (h2 x hxm (by simpa [hxi] using hlx)) k hk
      omega
     ·simp only [hyi, if_false]
      exact hap x hx y hy hxy (by simpa [hxi] using hlx) (by simpa [hyi] using hly) k hk
  ·by_cases him : i = m
   ·subst him
    have hlm1 : l (i + 1) = false := by
     cases hq : l (i + 1) with
     | false => rfl
     | true => rw [hm1m hq] at hli; cases hli
    have : o = om := Option.some.inj (ho.symm.trans hom)
    subst this
    obtain ⟨⟨h1, h2⟩, hap⟩ := hI hli
    intro K Q' hK
    exact hlast o ho vs W h1 (fun j hj => h2 j hj (hbelow hw j hj)) (fun x hx y hy hxy => hap x hx y hy hxy (hbelow hw x (of_decide_eq_true (List.all_eq_true.1 hS x hx))) (hbelow hw y (of_decide_eq_true (List.all_eq_true.1 hS y hy)))) b hsee K Q' fun v W' hv => hK v W' ⟨hdc, fun hh => by simp at hh, fun _ _ => by simpa using hv, fun hh => by simp [hlm1] at hh⟩
   ·have hi1 : i = m + 1 := by omega
    subst hi1
    have : o = om1 := Option.some.inj (ho.symm.trans hom1)
    subst this
    have hlm : l m = true := hw m (by rw [hom1] at hall2; simpa using hall2)
    intro K Q' hK
    refine hlast2 o ho vs W (hJ hlm hli) b hsee K Q' fun v W' hv => hK v W' ⟨hdc, fun hh => by simp [hlm] at hh, fun _ hh => by simp at hh, fun _ => by simpa using hv⟩
 ·intro l vs W hl hI
  exact hend vs W (hI.2.2.2 (hl (m + 1) (by omega)))
end
end Go.Proofs.YtendbgedpjcocaaGreatDoor.B
/- impl's runner: one number put, one of the fuel taken. -/
namespace Go.Proofs.YtendbgedpjcocaaGreatDoor.B
open Go Go.RowKit Go.Shelf Go.Proofs.YtendbgedpjcocaaGreatDoorW.PrintWords Go.Proofs.YtendbgedpjcocaaGreatDoorW.PrintLast Go.Proofs.YtendbgedpjcocaaGreatDoorW.PrintMore
set_option linter.unusedVariables false

theorem mem_set {bs : List Int} (i : Nat) (n : Int) : ((bs.map (Value.int .i64)).toArray.setIfInBounds i (.int .i64 n)) = ((bs.set i n).map (Value.int .i64)).toArray := by
 apply Array.ext'
 rw [Array.toList_setIfInBounds]
 simp only [List.map_set]
theorem putB_len (bs : List Int) (k a n : Int) : (putB bs k a n).length = bs.length := by unfold putB; split <;> simp
set_option maxRecDepth 100000 in
set_option maxHeartbeats 4000000 in
theorem put_any (F : Nat → Prop) (g : Nat) (hF : F g) (bs : List Int) (k a n : Int) (w : World) (hm : MemAt w g bs) :
  Calls Tryz.prog 46 #[.pointer (some ⟨g, 0, none⟩), .agg #[.int .i64 k, .int .i64 a], .int .i64 n] w fun e w' => e = .returned (.tuple #[]) ∧ MemAt w' g (putB bs k a n) ∧ Ed F w w' := by
 have hb0 := heap_alloc_new w (.cells #[.int .i64 k, .int .i64 a] 24)
 have hB0 : Below w.heap.size w (w.alloc (.cells #[.int .i64 k, .int .i64 a] 24)) := (Below.refl _ _).alloc (Nat.le_refl _) _
 have HM := Aside0.mk (And.intro hm (And.intro hb0 (And.intro hB0 hF)))
 clear hm hb0 hB0 hF
 go_enter Tryz.func46, Tryz.ntmps46
 go_wp2_with fail
 refine (impl_puts.calls k a _ _ (puts_is k a)).mono ?_
 rintro e w1 ⟨rfl, hb1⟩
 have k1 := (hb1.block _ (blk_lt HM.out.2.1)).trans HM.out.2.1
 have c0 : w1.cell? ⟨w.heap.size, 0, none⟩ = some (.int .i64 k) := by rw [blk_cell k1]; rfl
 have c1 : w1.cell? ⟨w.heap.size, 1, none⟩ = some (.int .i64 a) := by rw [blk_cell k1]; rfl
 have HB := Aside0.mk (HM.out.2.2.1.trans (hb1.mono HM.out.2.2.1.size))
 clear hb1 k1
 cases hv : putsL k a with
 | false =>
  have HV := Aside0.mk hv
  clear hv
  go_wp2
  refine bodyPost_end (results_none rfl _ _ _) rfl ?_
  exact ⟨rfl, by rw [putB, if_neg (by rw [HV.out]; simp)]; exact HM.out.1.below HB.out, Ed.of_below HB.out⟩
 | true =>
  have hA : addrOkL k a = true := by unfold putsL at hv; simp only [Bool.and_eq_true] at hv; exact hv.1
  obtain ⟨hk, ha⟩ := addr_cases hA
  have hlt : ((k - 1) * 6 + a).toNat < 18 := by omega
  have HV := Aside0.mk (And.intro hv (And.intro hA hlt))
  clear hv hA hk ha hlt
  go_wp2_with fail
  refine (place_any g k a w1 HV.out.2.1).mono ?_
  rintro e w2 ⟨rfl, hb2⟩
  have HB2 := Aside0.mk (HB.out.trans (hb2.mono HB.out.size))
  clear hb2 c0 c1
  go_wp2_with fail
  refine (impl_NumCut.calls n (cutL n) w2 (cutI n)).mono ?_
  rintro e w3 ⟨rfl, hb3⟩
  have HB3 := Aside0.mk (HB2.out.trans (hb3.mono HB2.out.size))
  clear hb3
  have h3 := HM.out.1.below HB3.out
  obtain ⟨i, hi⟩ : ∃ i, i = ((k - 1) * 6 + a).toNat := ⟨_, rfl⟩
  have c2 := h3.cell _ (show i < 18 by rw [hi]; exact HV.out.2.2)
  have f2 : w3.frozen? ⟨g, i, none⟩ = false := blk_frozen h3.b i
  rw [← hi]
  have HI := Aside0.mk (And.intro hi h3)
  clear hi h3
  go_wp2
  refine bodyPost_end (results_none rfl _ _ _) rfl ?_
  have hi18 : i < 18 := by rw [HI.out.1]; exact HV.out.2.2
  have hcur : ((bs.map (Value.int .i64)).toArray)[i]? = some (.int .i64 (bs.getD i 0)) := by
   have := HI.out.2.n
   simp [List.getD_eq_getElem?_getD, List.getElem?_eq_getElem (show i < bs.length by omega)]
  refine ⟨rfl, ⟨?_, by rw [putB_len]; exact HI.out.2.n⟩, (Ed.of_below HB3.out).trans (Ed.set HM.out.2.2.2 HI.out.2.b i _ hcur _)⟩
  rw [putB, if_pos HV.out.1, ← HI.out.1, ← mem_set]
  exact blk_set HI.out.2.b i _
/-- A runner: its memory's numbers, its fuel. -/
structure RunAt (w : World) (gr gm : Nat) (bs : List Int) (f : Int) : Prop where
 m : MemAt w gm bs
 r : w.heap[gr]? = some (.cells #[.pointer (some ⟨gm, 0, none⟩), .int .i64 f] 69 (0, 0))
theorem RunAt.below {w w' : World} {gr gm : Nat} {bs : List Int} {f : Int} (h : RunAt w gr gm bs f) (hb : Below w.heap.size w w') : RunAt w' gr gm bs f := ⟨h.m.below hb, blk_below h.r hb⟩
/-- What a run may write over. -/
def Fm (gr gm : Nat) (b : Nat) : Prop := b = gr ∨ b = gm
set_option maxRecDepth 100000 in
theorem take_none (gr gm : Nat) (bs : List Int) (a : Addr) (w : World) (h : RunAt w gr gm bs 0) (he : ErrAt w a) :
  Calls Tryz.prog 124 #[.pointer (some ⟨gr, 0, none⟩)] w fun e w' => e = .returned (errOf a 1) ∧ w' = w := by
 have c1 : w.cell? ⟨gr, 1, none⟩ = some (.int .i64 0) := by rw [blk_cell h.r]; rfl
 have ce : w.cell? ⟨0, 0, none⟩ = some (.iface 156 (.pointer (some a))) := he
 clear h he
 go_enter Tryz.func124, Tryz.ntmps124
 go_wp2
 go_ret
 exact ⟨rfl, rfl⟩
set_option maxRecDepth 100000 in
theorem take_some (gr gm : Nat) (hne : gr ≠ gm) (bs : List Int) (f : Int) (w : World) (h : RunAt w gr gm bs f) (h0 : 0 < f) (h1 : f ≤ 100) :
  Calls Tryz.prog 124 #[.pointer (some ⟨gr, 0, none⟩)] w fun e w' => e = .returned .nilIface ∧ RunAt w' gr gm bs (f - 1) ∧ Ed (Fm gr gm) w w' := by
 have c1 : w.cell? ⟨gr, 1, none⟩ = some (.int .i64 f) := by rw [blk_cell h.r]; rfl
 have f1 : w.frozen? ⟨gr, 1, none⟩ = false := blk_frozen h.r 1
 have b0 : (f == 0) = false := beq_false_of_ne (by omega)
 have wf : IntKind.i64.wrap (f - 1) = f - 1 := by rw [IntKind.wrap_i64]; omega
 have HH := Aside0.mk (And.intro h hne)
 clear h hne h0 h1
 go_enter Tryz.func124, Tryz.ntmps124
 go_wp2
 go_ret
 refine ⟨rfl, ⟨⟨(Below.heap_setCell w _ _ gm (fun e => HH.out.2 e.symm)).trans HH.out.1.m.b, HH.out.1.m.n⟩, ?_⟩, Ed.set (.inl rfl) HH.out.1.r 1 f rfl _⟩
 exact (blk_set HH.out.1.r 1 _).trans rfl
end Go.Proofs.YtendbgedpjcocaaGreatDoor.B
