import Derived.Test.YtfmipdhkiahjoaaDoorJnD
/- A region that draws its order and calls on the reader at block g. -/
namespace Go.Proofs.YtfmipdhkiahjoaaDoor.B
open Go Go.RowKit Go.Proofs.YtfmipdhkiahjoaaDoorW.PrintWords Go.Proofs.YtfmipdhkiahjoaaDoorW.PrintLast Go.Proofs.YtfmipdhkiahjoaaDoorW.PrintMore
set_option linter.unusedVariables false
def LastK (g : Nat) (p : World → Prop) : Prop := ∀ W W', KeepBut W W' g none → p W → p W'
theorem LastK.const (g : Nat) (p : Prop) : LastK g fun _ => p := fun _ _ _ h => h
def LastAllK (g : Nat) : List (Value → World → Prop) → Prop
 | [] => True
 | F :: r => (∀ v, LastK g (F v)) ∧ LastAllK g r
theorem FAt.lastK {g : Nat} : ∀ (Fs : List (Value → World → Prop)), LastAllK g Fs → ∀ i v a b, KeepBut a b g none → FAt Fs i v a → FAt Fs i v b
 | [], _, _, _, _, _, _, _ => trivial
 | F :: r, h, 0, v, a, b, hb, hf => h.1 v a b hb hf
 | F :: r, h, i + 1, v, a, b, hb, hf => FAt.lastK r h.2 i v a b hb hf
section
variable {P : Program} {ops : Array Oper} {Q : Exit → Act → World → Prop}
abbrev StepsK (P : Program) (ops : Array Oper) (g m : Nat) (a0 : Act) (ds : List (Tmp × Nat)) (Fs : List (Value → World → Prop)) (p : (Nat → Bool) → World → Prop) : Prop :=
 OpsAll (fun i o => i < m → ∀ l vs W, p l W → l i = false → (∀ j ∈ waitsOn o, FAt Fs j (vs j) W) → ∀ b, Sees a0 ds o vs b → StepOK P ops o b W fun v W' => KeepBut W W' g none ∧ p (fun j => j == i || l j) W' ∧ FAt Fs i v W') ops.toList 0
/-- The last operation, behind all others, does whatever it does. -/
theorem weaveK_ {id : Nat} {a0 : Act} {w : World} (g m : Nat) (hm1 : ops.size = m + 1) (p : (Nat → Bool) → World → Prop) (h0 : p (fun _ => false) w.drew) (ds : List (Tmp × Nat)) (Fs : List (Value → World → Prop)) (hm : P.follows .mixedOrders = true) (hB : weaveB ops ds = true) (hF : LastAllK g Fs)
  (hall : (match ops[m]? with | some o => (List.range m).all fun j => (reachW ops m (waitsOn o)).contains j | none => false) = true)
  (hwait : ((List.range m).all fun i => match ops[i]? with | some o => (waitsOn o).all fun j => decide (j < m) | none => true) = true)
  (hstep : StepsK P ops g m a0 ds Fs p)
  (Ψ : (Nat → Value) → World → Prop) (hlast : ∀ o, ops[m]? = some o → ∀ l vs W, (∀ j, j < m → l j = true) → p l W → (∀ j, j < m → FAt Fs j (vs j) W) → ∀ b, Sees a0 ds o vs b → StepOK P ops o b W fun v W' => Ψ (fun j => if j = m then v else vs j) W')
  (hend : ∀ (vs : Nat → Value) W, Ψ vs W → Q .normal (putL a0 (ds.map fun q => (q.1, vs q.2))) W) : (Code.region id ops true).wp P Q a0 w := by
 refine weave (fun l vs W => (∀ (i : Nat) (o : Oper), ops[i]? = some o → l i = true → ∀ j ∈ waitsOn o, l j = true) ∧ (l m = false → p l W ∧ ∀ j, j < m → l j = true → FAt Fs j (vs j) W) ∧ (l m = true → Ψ vs W)) ds hm hB ?_ ?_ ?_
 ·exact ⟨(fun _ _ _ h => absurd h (by simp)), (fun _ => ⟨h0, (fun _ _ h => absurd h (by simp))⟩), (fun h => absurd h (by simp))⟩
 ·intro i o ho l vs W ⟨hc, hI, _⟩ hli hw b hsee
  have hlt := (Array.getElem?_eq_some_iff.1 ho).1
  obtain ⟨om, hom⟩ : ∃ o, ops[m]? = some o := ⟨ops[m], by simp [show m < ops.size by omega]⟩
  have hbelow : (∀ j ∈ waitsOn om, l j = true) → ∀ j, j < m → l j = true := fun hh j hj => by
   rw [hom] at hall
   exact reachW_all hc m _ hh j (by simpa using List.all_eq_true.1 hall j (List.mem_range.2 hj))
  have hdc : ∀ (i' : Nat) (o' : Oper), ops[i']? = some o' → (i' == i || l i') = true → ∀ j ∈ waitsOn o', (j == i || l j) = true := by
   intro i' o' ho' hh j hj
   by_cases hii : i' = i
   ·subst hii
    have : o' = o := Option.some.inj (ho'.symm.trans ho)
    subst this
    simp [hw j hj]
   ·have : l i' = true := by simpa [hii] using hh
    simp [hc i' o' ho' this j hj]
  by_cases hin : i < m
  ·have hlm : l m = false := by
    cases hq : l m with
    | false => rfl
    | true => rw [hbelow (hc m om hom hq) i hin] at hli; cases hli
   obtain ⟨h1, h2⟩ := hI hlm
   have hst := OpsAll.at ops.toList 0 hstep i o (by rw [Array.getElem?_toList]; exact ho)
   rw [Nat.zero_add] at hst
   have hmi : (m == i) = false := by simp; omega
   intro K Q' hK
   refine hst hin l vs W h1 hli (fun j hj => ?_) b hsee K Q' fun v W' hv => hK v W' ⟨hdc, fun _ => ⟨hv.2.1, fun j hj hlj => ?_⟩, fun hh => by simp [hmi, hlm] at hh⟩
   ·have hjm : j < m := by
     have := List.all_eq_true.1 hwait i (List.mem_range.2 hin)
     rw [ho] at this
     simpa using List.all_eq_true.1 this j hj
    exact h2 j hjm (hw j hj)
   ·by_cases hji : j = i
    ·subst hji
     simpa using hv.2.2
    ·simp only [hji, if_false]
     exact FAt.lastK Fs hF j _ _ _ hv.1 (h2 j hj (by simpa [hji] using hlj))
  ·have him : i = m := by omega
   subst him
   obtain ⟨h1, h2⟩ := hI hli
   have : o = om := Option.some.inj (ho.symm.trans hom)
   subst this
   have hl := hbelow hw
   intro K Q' hK
   exact hlast o ho l vs W hl h1 (fun j hj => h2 j hj (hl j hj)) b hsee K Q' fun v W' hv => hK v W' ⟨hdc, fun hh => by simp at hh, fun _ => hv⟩
 ·intro l vs W hl hI
  exact hend vs W (hI.2.2 (hl m (by omega)))
/-- Operation m, behind all before it, and the last one, behind it, do whatever they do; those between (late) are plain and come at any time. -/
theorem weaveKT_ {id : Nat} {a0 : Act} {w : World} (g m z : Nat) (hz1 : ops.size = z + 1) (hmz : m < z) (late : List (Nat × Value)) (hlate : ((List.range z).all fun j => decide (j ≤ m) || late.any fun q => q.1 == j) = true) (hlate2 : (late.all fun q => decide (m < q.1) && decide (q.1 < z)) = true)
  (p : (Nat → Bool) → World → Prop) (h0 : p (fun _ => false) w.drew) (ds : List (Tmp × Nat)) (Fs : List (Value → World → Prop)) (hm : P.follows .mixedOrders = true) (hB : weaveB ops ds = true) (hF : LastAllK g Fs)
  (hall : (match ops[m]? with | some o => (List.range m).all fun j => (reachW ops m (waitsOn o)).contains j | none => false) = true)
  (hall2 : (match ops[z]? with | some o => (waitsOn o).contains m && late.all fun q => (waitsOn o).contains q.1 | none => false) = true)
  (hwait : ((List.range m).all fun i => match ops[i]? with | some o => (waitsOn o).all fun j => decide (j < m) | none => true) = true)
  (hstep : StepsK P ops g m a0 ds Fs p)
  (hpure : ∀ q ∈ late, ∀ o, ops[q.1]? = some o → ∀ vs W b, Sees a0 ds o vs b → StepOK P ops o b W fun v W' => W' = W ∧ v = q.2) (hone : (late.map (·.1)).Nodup)
  (Ψ Φ : Value → World → Prop) (hlast : ∀ o, ops[m]? = some o → ∀ l vs W, (∀ j, j < m → l j = true) → p l W → (∀ j, j < m → FAt Fs j (vs j) W) → ∀ b, Sees a0 ds o vs b → StepOK P ops o b W Ψ)
  (hlast2 : ∀ o, ops[z]? = some o → ∀ vs W, Ψ (vs m) W → (∀ q ∈ late, vs q.1 = q.2) → ∀ b, Sees a0 ds o vs b → StepOK P ops o b W Φ)
  (hend : ∀ (vs : Nat → Value) W, Φ (vs z) W → Q .normal (putL a0 (ds.map fun q => (q.1, vs q.2))) W) : (Code.region id ops true).wp P Q a0 w := by
 refine weave (fun l vs W => (∀ (i : Nat) (o : Oper), ops[i]? = some o → l i = true → ∀ j ∈ waitsOn o, l j = true) ∧ (∀ q ∈ late, l q.1 = true → vs q.1 = q.2) ∧ (l m = false → p (fun j => decide (j < m) && l j) W ∧ ∀ j, j < m → l j = true → FAt Fs j (vs j) W) ∧ (l m = true → l z = false → Ψ (vs m) W) ∧ (l z = true → Φ (vs z) W)) ds hm hB ?_ ?_ ?_
 ·refine ⟨(fun _ _ _ h => absurd h (by simp)), (fun _ _ h => absurd h (by simp)), (fun _ => ⟨?_, (fun _ _ h => absurd h (by simp))⟩), (fun h => absurd h (by simp)), (fun h => absurd h (by simp))⟩
  simpa using h0
 ·intro i o ho l vs W ⟨hc, hL, hI, hJ, _⟩ hli hw b hsee
  have hlt := (Array.getElem?_eq_some_iff.1 ho).1
  obtain ⟨om, hom⟩ : ∃ o, ops[m]? = some o := ⟨ops[m], by simp [show m < ops.size by omega]⟩
  obtain ⟨oz, hoz⟩ : ∃ o, ops[z]? = some o := ⟨ops[z], by simp [show z < ops.size by omega]⟩
  have hbelow : (∀ j ∈ waitsOn om, l j = true) → ∀ j, j < m → l j = true := fun hh j hj => by
   rw [hom] at hall
   exact reachW_all hc m _ hh j (by simpa using List.all_eq_true.1 hall j (List.mem_range.2 hj))
  rw [hoz] at hall2
  simp only [Bool.and_eq_true] at hall2
  have hzm : l z = true → l m = true := fun hh => hc _ _ hoz hh m (by simpa using hall2.1)
  have hdc : ∀ (i' : Nat) (o' : Oper), ops[i']? = some o' → (i' == i || l i') = true → ∀ j ∈ waitsOn o', (j == i || l j) = true := by
   intro i' o' ho' hh j hj
   by_cases hii : i' = i
   ·subst hii
    have : o' = o := Option.some.inj (ho'.symm.trans ho)
    subst this
    simp [hw j hj]
   ·have : l i' = true := by simpa [hii] using hh
    simp [hc i' o' ho' this j hj]
  by_cases hin : i < m
  ·have hlm : l m = false := by
    cases hq : l m with
    | false => rfl
    | true => rw [hbelow (hc m om hom hq) i hin] at hli; cases hli
   have hlz : l z = false := by
    cases hq : l z with
    | false => rfl
    | true => rw [hzm hq] at hlm; cases hlm
   obtain ⟨h1, h2⟩ := hI hlm
   have hst := OpsAll.at ops.toList 0 hstep i o (by rw [Array.getElem?_toList]; exact ho)
   rw [Nat.zero_add] at hst
   have hmi : (m == i) = false := by simp; omega
   have hzi : (z == i) = false := by simp; omega
   have hfe : (fun j => j == i || (decide (j < m) && l j)) = (fun j => decide (j < m) && (j == i || l j)) := by
    funext j
    by_cases hji : j = i
    ·subst hji; simp [hin]
    ·have hb : (j == i) = false := by simp [hji]
     simp [hb]
   intro K Q' hK
   refine hst hin _ vs W h1 (by simp [hli]) (fun j hj => ?_) b hsee K Q' fun v W' hv => hK v W' ⟨hdc, fun q hq hlq => ?_, fun _ => ⟨by rw [← hfe]; exact hv.2.1, fun j hj hlj => ?_⟩, fun hh => by simp [hmi, hlm] at hh, fun hh => by simp [hzi, hlz] at hh⟩
   ·have hjm : j < m := by
     have := List.all_eq_true.1 hwait i (List.mem_range.2 hin)
     rw [ho] at this
     simpa using List.all_eq_true.1 this j hj
    exact h2 j hjm (hw j hj)
   ·have hq1 := List.all_eq_true.1 hlate2 q hq
    simp only [Bool.and_eq_true, decide_eq_true_eq] at hq1
    have hqi : q.1 ≠ i := by omega
    exact (if_neg hqi).trans (hL q hq (by simpa [hqi] using hlq))
   ·by_cases hji : j = i
    ·subst hji
     simpa using hv.2.2
    ·simp only [hji, if_false]
     exact FAt.lastK Fs hF j _ _ _ hv.1 (h2 j hj (by simpa [hji] using hlj))
  ·by_cases him : i = m
   ·subst him
    have hlz : l z = false := by
     cases hq : l z with
     | false => rfl
     | true => rw [hzm hq] at hli; cases hli
    have : o = om := Option.some.inj (ho.symm.trans hom)
    subst this
    obtain ⟨h1, h2⟩ := hI hli
    have hl := hbelow hw
    have hzi : (z == i) = false := by simp; omega
    intro K Q' hK
    refine hlast o ho _ vs W (fun j hj => by simp [hj, hl j hj]) h1 (fun j hj => h2 j hj (hl j hj)) b hsee K Q' fun v W' hv => hK v W' ⟨hdc, fun q hq hlq => ?_, fun hh => by simp at hh, fun _ _ => by simpa using hv, fun hh => by simp [hzi, hlz] at hh⟩
    have hq1 := List.all_eq_true.1 hlate2 q hq
    simp only [Bool.and_eq_true, decide_eq_true_eq] at hq1
    have hqi : q.1 ≠ i := by omega
    exact (if_neg hqi).trans (hL q hq (by simpa [hqi] using hlq))
   ·by_cases hiz : i = z
    ·subst hiz
     have : o = oz := Option.some.inj (ho.symm.trans hoz)
     subst this
     have hlm : l m = true := hw m (by simpa using hall2.1)
     intro K Q' hK
     refine hlast2 o ho vs W (hJ hlm hli) (fun q hq => hL q hq (hw q.1 (by simpa using List.all_eq_true.1 hall2.2 q hq))) b hsee K Q' fun v W' hv => hK v W' ⟨hdc, fun q hq hlq => ?_, fun hh => by simp [hlm] at hh, fun _ hh => by simp at hh, fun _ => by simpa using hv⟩
     have hq1 := List.all_eq_true.1 hlate2 q hq
     simp only [Bool.and_eq_true, decide_eq_true_eq] at hq1
     have hqi : q.1 ≠ i := by omega
     exact (if_neg hqi).trans (hL q hq (by simpa [hqi] using hlq))
    ·have hi1 := List.all_eq_true.1 hlate i (List.mem_range.2 (by omega))
     simp only [Bool.or_eq_true, decide_eq_true_eq, List.any_eq_true, beq_iff_eq] at hi1
     obtain ⟨q, hq, rfl⟩ : ∃ q ∈ late, q.1 = i := by
      rcases hi1 with hi1 | hi1
      ·omega
      ·exact hi1
     have hq1 := List.all_eq_true.1 hlate2 q hq
     simp only [Bool.and_eq_true, decide_eq_true_eq] at hq1
     have hmi : (m == q.1) = false := by simp; omega
     have hzi : (z == q.1) = false := by simp; omega
     have hfe : (fun j => decide (j < m) && l j) = (fun j => decide (j < m) && (j == q.1 || l j)) := by
      funext j
      by_cases hji : j = q.1
      ·subst hji; simp [show ¬ q.1 < m by omega]
      ·have hb : (j == q.1) = false := by simp [hji]
       simp [hb]
     intro K Q' hK
     refine hpure q hq o ho vs W b hsee K Q' fun v W' hv => hK v W' ?_
     obtain ⟨rfl, rfl⟩ := hv
     refine ⟨hdc, fun r hr hlr => ?_, fun hh => ?_, fun hh hh2 => ?_, fun hh => ?_⟩
     ·by_cases hrq : r.1 = q.1
      ·have : ∀ L : List (Nat × Value), (L.map (·.1)).Nodup → q ∈ L → r ∈ L → q.2 = r.2 := by
        intro L hn h1 h2
        induction L with
        | nil => cases h1
        | cons a L ih =>
         rw [List.map_cons, List.nodup_cons] at hn
         rcases List.mem_cons.1 h1 with e1 | e1 <;> rcases List.mem_cons.1 h2 with e2 | e2
         ·rw [e1, e2]
         ·exact absurd (List.mem_map.2 ⟨r, e2, by rw [hrq, e1]⟩) hn.1
         ·exact absurd (List.mem_map.2 ⟨q, e1, by rw [← hrq, e2]⟩) hn.1
         ·exact ih hn.2 e1 e2
       exact (if_pos hrq).trans (this late hone hq hr)
      ·exact (if_neg hrq).trans (hL r hr (by simpa [hrq] using hlr))
     ·have hlm : l m = false := by simpa [hmi] using hh
      obtain ⟨h1, h2⟩ := hI hlm
      refine ⟨by rw [← hfe]; exact h1, fun j hj hlj => ?_⟩
      have hjq : j ≠ q.1 := by omega
      simp only [hjq, if_false]
      exact h2 j hj (by simpa [hjq] using hlj)
     ·have hlm : l m = true := by simpa [hmi] using hh
      have hlz : l z = false := by simpa [hzi] using hh2
      have : m ≠ q.1 := by omega
      simp only [this, if_false]
      exact hJ hlm hlz
     ·have hlz : l z = true := by simpa [hzi] using hh
      have := hc _ _ hoz hlz q.1 (by simpa using List.all_eq_true.1 hall2.2 q hq)
      rw [hli] at this
      cases this
 ·intro l vs W hl hI
  exact hend vs W (hI.2.2.2.2 (hl z (by omega)))
end
section
variable {P : Program} {ops : Array Oper} {o : Oper} {b : Act} {W : World} {Ψ : Value → World → Prop}
end
end Go.Proofs.YtfmipdhkiahjoaaDoor.B
/- A region that draws its order, calls on the reader, and ends in a variable that is made and filled. -/
namespace Go.Proofs.YtfmipdhkiahjoaaDoor.B
open Go Go.RowKit Go.Proofs.YtfmipdhkiahjoaaDoorW.PrintWords Go.Proofs.YtfmipdhkiahjoaaDoorW.PrintLast Go.Proofs.YtfmipdhkiahjoaaDoorW.PrintMore
set_option linter.unusedVariables false
theorem Box.keepK {W W' : World} {g b : Nat} {T : TypeId} {cs : Array Value} (h : Box W b T cs) (hk : KeepBut W W' g none) (hb : b ≠ g) : Box W' b T cs := hk.blk h hb (by simp)
/-- What is known of a value: it lasts while nothing but block g0 and new memory is written; what it leads to lies in ok. -/
structure GoodK (g0 : Nat) (F : Value → World → (Nat → Prop) → Prop) : Prop where
 last : ∀ v ok W W', (∀ k, ok k → k ≠ g0) → KeepBut W W' g0 none → F v W ok → F v W' ok
 mono : ∀ v W ok ok', (∀ k, ok k → ok' k) → F v W ok → F v W ok'
 bound : ∀ v W ok, F v W ok → F v W fun k => ok k ∧ k < W.heap.size
 far : ∀ v W W' ok g, Put1 g W W' → ¬ ok g → F v W ok → F v W' ok
theorem GoodK.pure {g0 : Nat} (p : Value → Prop) : GoodK g0 fun v _ _ => p v := ⟨fun _ _ _ _ _ _ h => h, fun _ _ _ _ _ h => h, fun _ _ _ h => h, fun _ _ _ _ _ _ _ h => h⟩
def GoodAllK (g0 : Nat) : List (Value → World → (Nat → Prop) → Prop) → Prop
 | [] => True
 | F :: r => GoodK g0 F ∧ GoodAllK g0 r
def GAtK (Fs : List (Value → World → (Nat → Prop) → Prop)) (i : Nat) : Value → World → (Nat → Prop) → Prop := Fs.getD i (fun _ _ _ => True)
theorem GAtK.good {g0 : Nat} : ∀ (Fs : List (Value → World → (Nat → Prop) → Prop)), GoodAllK g0 Fs → ∀ i, GoodK g0 (GAtK Fs i)
 | [], _, _ => GoodK.pure _
 | F :: r, h, 0 => h.1
 | F :: r, h, i + 1 => GAtK.good r h.2 i
section
variable {P : Program} {ops : Array Oper} {Q : Exit → Act → World → Prop}
/-- A region that draws its order and ends in a variable that is made (row n) and filled (row n + 1) by the value of row m; its operations call on the reader at block g0. -/
theorem weaveNewK_ {id : Nat} {a0 : Act} {w : World} (g0 : Nat) (hg0 : g0 < w.heap.size) (p : (Nat → Bool) → World → Prop) (hp0 : p (fun _ => false) w.drew) (hpb : ∀ l W W', Below W.heap.size W W' → p l W → p l W') (hpp : ∀ l W W' b, w.heap.size ≤ b → Put1 b W W' → p l W → p l W') (n m : Nat) (N x : Tmp) (T : TypeId) (zs : Array Value) (csOf : Value → Array Value) (ds : List (Tmp × Nat)) (Fs : List (Value → World → (Nat → Prop) → Prop)) (hm : P.follows .mixedOrders = true) (hB : weaveB ops ds = true) (hF : GoodAllK g0 Fs)
  (oa os : Oper) (hoa : ops[n]? = some oa) (hos : ops[n + 1]? = some os) (hsz : ops.size = n + 2) (hga : oa.guard = none) (hgs : os.guard = none) (hda : oa.dst = some N) (hNs : decide (N < a0.tmps.size) = true) (hxs : decide (x < a0.tmps.size) = true)
  (hz : ∀ ev W, (execOp ev oa).run P W = .ok (.value (.pointer (some ⟨W.heap.size, 0, none⟩))) (W.alloc (.cells zs T (0, 0)))) (hst : os.op = .store T (.tmp N) (.tmp x)) (hds : os.dst = none) (hmx : (ds.contains (x, m) && ds.contains (N, n) && (waitsOn os).contains m && (waitsOn os).contains n && decide (m < n)) = true)
  (hall : ((List.range (n + 1)).all fun j => (waitsOn os).contains j) = true)
  (hcs : ∀ v W ok, GAtK Fs m v W ok → v = .agg (csOf v) ∧ (csOf v).size = zs.size ∧ (csOf v).all (·.oneCell') = true) (hi : (P.info? T).map (·.size) = some zs.size)
  (hstep : OpsAll (fun i o => i < n → ∀ l vs W ok, w.heap.size ≤ W.heap.size → (∀ k, W.heap.size ≤ k → ok k) → (∀ k, ok k → w.heap.size ≤ k) → p l W → l i = false → (∀ j ∈ waitsOn o, j < n → GAtK Fs j (vs j) W ok) → ∀ b, Sees a0 ds o vs b → StepOK P ops o b W fun v W' => KeepBut W W' g0 none ∧ p (fun j => j == i || l j) W' ∧ GAtK Fs i v W' ok) ops.toList 0)
  (hwait : ((List.range n).all fun i => match ops[i]? with | some o => (waitsOn o).all fun j => decide (j < n) | none => true) = true)
  (hend : ∀ (vs : Nat → Value) g l W, (∀ j, j < n → l j = true) → p l W → w.heap.size ≤ g → g < W.heap.size → (∀ j, j < n → GAtK Fs j (vs j) W (fun k => w.heap.size ≤ k ∧ k ≠ g)) → vs n = .pointer (some ⟨g, 0, none⟩) → Box W g T (csOf (vs m)) → Q .normal (putL a0 (ds.map fun q => (q.1, vs q.2))) W) : (Code.region id ops true).wp P Q a0 w := by
 simp only [Bool.and_eq_true, decide_eq_true_eq, List.contains_eq_mem] at hmx
 obtain ⟨⟨⟨⟨hx1, hN1⟩, hw1⟩, hw2⟩, hmn⟩ := hmx
 have hg := GAtK.good Fs hF
 have hfe : ∀ (l : Nat → Bool) i, i < n → (fun j => j == i || (decide (j < n) && l j)) = fun j => decide (j < n) && (j == i || l j) := by
  intro l i hi
  funext j
  by_cases hji : j = i
  ·subst hji; simp [hi]
  ·have hb : (j == i) = false := by simp [hji]
   simp [hb]
 have hfn : ∀ (l : Nat → Bool) i, n ≤ i → (fun j => decide (j < n) && (j == i || l j)) = fun j => decide (j < n) && l j := by
  intro l i hi
  funext j
  by_cases hjn : j < n
  ·have hb : (j == i) = false := by simp; omega
   simp [hb]
  ·simp [hjn]
 refine weave (fun l vs W => w.heap.size ≤ W.heap.size ∧ p (fun j => decide (j < n) && l j) W ∧ (l (n + 1) = true → ∀ j, j ≤ n → l j = true) ∧ (l n = false → ∀ j, j < n → l j = true → GAtK Fs j (vs j) W fun k => w.heap.size ≤ k) ∧ (l n = true → ∃ g, vs n = .pointer (some ⟨g, 0, none⟩) ∧ w.heap.size ≤ g ∧ g < W.heap.size ∧ (∀ j, j < n → l j = true → GAtK Fs j (vs j) W fun k => w.heap.size ≤ k ∧ k ≠ g) ∧ (if l (n + 1) = true then Box W g T (csOf (vs m)) else Box W g T zs)))
  ds hm hB ⟨Nat.le_refl _, by simpa using hp0, fun h => by simp at h, fun _ _ _ h => by simp at h, fun h => by simp at h⟩ ?_ ?_
 ·intro i o ho l vs W ⟨hz1, hP, hc, h0, h1⟩ hli hw
  by_cases hin : i < n
  ·have hst' := OpsAll.at ops.toList 0 hstep i o (by rw [Array.getElem?_toList]; exact ho)
   rw [Nat.zero_add] at hst'
   have hn0 : (n == i) = false := by simp; omega
   have hn1 : (n + 1 == i) = false := by simp; omega
   have hln1 : l (n + 1) = false := by
    cases hq : l (n + 1) with
    | false => rfl
    | true => rw [hc hq i (by omega)] at hli; cases hli
   have hlt : ∀ j ∈ waitsOn o, j < n := by
    intro j hj
    have := List.all_eq_true.1 hwait i (List.mem_range.2 hin)
    rw [ho] at this
    simpa using List.all_eq_true.1 this j hj
   cases hln : l n with
   | false =>
    have hf := h0 hln
    intro b hsee K Q' hK
    refine hst' hin (fun j => decide (j < n) && l j) vs W (fun k => w.heap.size ≤ k) hz1 (fun k hk => Nat.le_trans hz1 hk) (fun _ h => h) hP (by simp [hli]) (fun j hj _ => hf j (hlt j hj) (hw j hj)) b hsee K Q' fun v W' hv => hK v W' ⟨Nat.le_trans hz1 hv.1.1, by rw [← hfe l i hin]; exact hv.2.1, fun hh => by simp [hn1, hln1] at hh, fun _ j hj hlj => ?_, fun hh => by simp [hn0, hln] at hh⟩
    by_cases hji : j = i
    ·subst hji; simpa using hv.2.2
    ·simp only [hji, if_false]
     exact (hg j).last _ _ _ _ (fun k hk => by omega) hv.1 (hf j hj (by simpa [hji] using hlj))
   | true =>
    obtain ⟨g, e1, e2, e3, hf, hbx⟩ := h1 hln
    rw [hln1] at hbx
    intro b hsee K Q' hK
    refine hst' hin (fun j => decide (j < n) && l j) vs W (fun k => w.heap.size ≤ k ∧ k ≠ g) hz1 (fun k hk => ⟨by omega, by omega⟩) (fun _ h => h.1) hP (by simp [hli]) (fun j hj _ => hf j (hlt j hj) (hw j hj)) b hsee K Q' fun v W' hv => hK v W' ⟨Nat.le_trans hz1 hv.1.1, by rw [← hfe l i hin]; exact hv.2.1, fun hh => by simp [hn1, hln1] at hh, fun hh => by simp [hln] at hh, fun _ => ⟨g, ?_, e2, Nat.lt_of_lt_of_le e3 hv.1.1, fun j hj hlj => ?_, ?_⟩⟩
    ·show (if n = i then v else vs n) = _
     rw [if_neg (by omega)]; exact e1
    ·by_cases hji : j = i
     ·subst hji; simpa using hv.2.2
     ·simp only [hji, if_false]
      exact (hg j).last _ _ _ _ (fun k hk => by have := hk.1; omega) hv.1 (hf j hj (by simpa [hji] using hlj))
    ·simp only [hn1, hln1, Bool.false_or, Bool.false_eq_true, if_false] at hbx ⊢
     exact Box.keepK hbx hv.1 (by omega)
  ·by_cases hie : i = n
   ·subst hie
    have : o = oa := Option.some.inj (ho.symm.trans hoa)
    subst this
    have hf := h0 hli
    have hln1 : l (i + 1) = false := by
     cases hq : l (i + 1) with
     | false => rfl
     | true => rw [hc hq i (Nat.le_refl _)] at hli; cases hli
    have hB' : Below W.heap.size W (W.alloc (.cells zs T (0, 0))) := below_alloc (Below.refl _ _) _
    intro b hsee K Q' hK
    refine value_ (by simp [Region.wanted, hga]) rfl (hz _ _) (hK _ _ ⟨Nat.le_trans hz1 hB'.size, by rw [hfn l i (Nat.le_refl _)]; exact hpb _ _ _ hB' hP, fun hh => by simp [hln1] at hh, fun hh => by simp at hh, fun _ => ⟨W.heap.size, by simp, hz1, by simp, fun j hj hlj => ?_, ?_⟩⟩)
    ·have hji : j ≠ i := by omega
     simp only [hji, if_false]
     exact (hg j).last _ _ _ _ (fun k hk => by have := hk.1; omega) (KeepBut.of_below hB' g0 none) ((hg j).mono _ _ _ _ (fun k hk => ⟨hk.1, by have := hk.2; omega⟩) ((hg j).bound _ _ _ (hf j hj (by simpa [hji] using hlj))))
    ·have : (i + 1 == i) = false := by simp
     simp only [this, hln1, Bool.false_or, Bool.false_eq_true, if_false]
     exact blk_new W _
   ·have hi1 : i = n + 1 := by
     have := (Array.getElem?_eq_some_iff.1 ho).1
     omega
    subst hi1
    have : o = os := Option.some.inj (ho.symm.trans hos)
    subst this
    have hl : ∀ j, j ≤ n → l j = true := fun j hj => hw j (by simpa using List.all_eq_true.1 hall j (List.mem_range.2 (by omega)))
    obtain ⟨g, e1, e2, e3, hf, hbx⟩ := h1 (hl n (Nat.le_refl _))
    rw [hli] at hbx
    simp only [Bool.false_eq_true, if_false] at hbx
    obtain ⟨c1, c2, c3⟩ := hcs _ _ _ (hf m hmn (hl m (by omega)))
    intro b hsee
    have hev : ∀ t j, (t, j) ∈ ds → j ∈ waitsOn o → decide (t < a0.tmps.size) = true → b.eval (.tmp t) = vs j := fun t j h1 h2 h3 => hsee.ev t j (by simp only [Bool.and_eq_true, List.contains_eq_mem, decide_eq_true_eq]; exact ⟨⟨h1, h2⟩, of_decide_eq_true h3⟩)
    have hrun : (execOp b.eval o).run P W = .ok .skip (W.setCells g 0 (csOf (vs m)).toList) := by
     have q1 := (hev N n hN1 hw2 hNs).trans e1
     have q2 := (hev x m hx1 hw1 hxs).trans c1
     unfold execOp
     simp only [hst, q1, q2, Instr.storeAt, Instr.sureAddr, Sem.run_bind, Sem.run_pure, Result.andThen_ok, run_storeVar_mid W g 0 T (csOf (vs m)) (by rw [c2]; exact Box.there hbx) (by rw [c2]; exact hi) c3]
    have hp := setCells_put1 g (csOf (vs m)).toList 0 W
    have hbx' := setCells_box hbx c2
    intro K Q' hK
    rw [if_pos (by simp [Region.wanted, hgs])]
    unfold Oper.wp
    rw [hrun]
    have hk := hK undef _ ⟨by rw [hp.size]; exact hz1, by rw [hfn l (n + 1) (by omega)]; exact hpp _ _ _ g e2 hp hP, fun _ j hj => by simp [hl j hj], fun hh => by simp [hl n (Nat.le_refl _)] at hh, fun _ => ⟨g, by simpa using e1, e2, by rw [hp.size]; exact e3, fun j hj hlj => ?_, ?_⟩⟩
    ·exact hk
    ·have hji : j ≠ n + 1 := by omega
     simp only [hji, if_false]
     exact (hg j).far _ _ _ _ g hp (fun h => h.2 rfl) (hf j hj (hl j (by omega)))
    ·have hmi : m ≠ n + 1 := by omega
     simp only [beq_self_eq_true, Bool.true_or, if_true, hmi, if_false]
     exact hbx'
 ·intro l vs W hl ⟨hz1, hP, hc, h0, h1⟩
  obtain ⟨g, e1, e2, e3, hf, hbx⟩ := h1 (hl n (by omega))
  rw [hl (n + 1) (by omega), if_pos rfl] at hbx
  exact hend vs g _ W (fun j hj => by simp [hj, hl j (show j < ops.size by omega)]) hP e2 e3 (fun j hj => hf j hj (hl j (by omega))) e1 hbx
end
end Go.Proofs.YtfmipdhkiahjoaaDoor.B
