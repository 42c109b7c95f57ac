/- A region that draws its order, walked once whatever the order, inside a round of a range over a function. -/
import Derived.Test.YtiofkhfmdophpaaWeaveBox
import Derived.OrdersIn
import Derived.RangeFuncCalls
namespace Go.Proofs.Ytiofkhfmdophpaa.B
open Go Go.RowKit

section
variable {P : Program} {ops : Array Oper} {Q : Exit → Act → World → Prop} {md : Region.Mode}
theorem wpOp_in {l n i : Nat} (hnd : ∀ (i : Nat) (o : Oper), ops[i]? = some o → ∀ c, o.op ≠ .defer c) (hq : ¬ LetsOut Q) {K K' : Act → World → Prop} (hK : ∀ a w, K a w → K' a w) {a : Act} {w : World} (h : wpOp P ops Q i K a w) :
  wpOpIn (Fence.wide.inRound l) n P ops Q i K' a w := by
 unfold wpOp at h
 unfold wpOpIn
 cases ho : ops[i]? with
 | none => rw [ho] at h; exact hK _ _ h
 | some o =>
  rw [ho] at h
  simp only at h ⊢
  split
  ·rename_i hw
   rw [if_pos hw] at h
   rcases h with h | h
   ·refine ⟨fun _ _ => trivial, ?_⟩
    rw [Oper.semAt_eq _ _ _ (hnd i o ho)]
    unfold Oper.wp at h
    generalize (execOp a.eval o).run P w = r at *
    cases r with
    | ok x w' =>
     cases x <;> simp only [Oper.upon, Oper.uponIn] at h ⊢
     case value => exact hK _ _ h
     case skip => exact hK _ _ h
     case defer => exact hK _ _ h
     case enter f args =>
      refine ⟨fun hd => by simp [Fence.wide] at hd, CallsIn.inRound l (callsIn_wide.2 (h.mono fun e w'' he => ?_))⟩
      cases e with
      | returned v => exact hK _ _ he
      | panicked c => exact he
      | outgrown => exact he
     case row row args =>
      refine ⟨fun hd => by simp [Fence.wide] at hd, fun c cs _ => ?_⟩
      obtain ⟨v, w'', hr, hs⟩ := h c cs
      exact ⟨v, w'', hK _ _ hr, stepsIn_wide.2 hs⟩
    | halt x w' => cases x <;> simp only [Oper.upon, Oper.uponIn] at h ⊢ <;> exact h
   ·exact absurd h.2 hq
  ·rename_i hw
   rw [if_neg hw] at h
   exact ⟨fun _ _ => trivial, hK _ _ h⟩
theorem wpAny_in {l n : Nat} (hnd : ∀ (i : Nat) (o : Oper), ops[i]? = some o → ∀ c, o.op ≠ .defer c) (hq : ¬ LetsOut Q) : ∀ (fuel : Nat) (ls : Array Bool) (a : Act) (w : World), wpAny P md ops Q fuel ls a w → wpAnyIn (Fence.wide.inRound l) n P md ops Q fuel ls a w := by
 intro fuel
 induction fuel with
 | zero => exact fun _ _ _ h => h
 | succ fuel ih => exact fun ls a w h => ⟨h.1, fun i hi => wpOp_in hnd hq (fun a w hh => ih _ a w hh) (h.2 i hi)⟩
def noDefer (ops : Array Oper) : Bool := ops.all fun o => match o.op with | .defer _ => false | _ => true
theorem noDefer_spec (h : noDefer ops = true) (i : Nat) (o : Oper) (ho : ops[i]? = some o) (c) : o.op ≠ .defer c := by
 intro he
 have := Array.all_eq_true.1 h i (Array.getElem?_eq_some_iff.1 ho).1
 rw [(Array.getElem?_eq_some_iff.1 ho).2, he] at this
 cases this
theorem weaveIn {l n id : Nat} {a0 : Act} {w : World} (I : (Nat → Bool) → (Nat → Value) → World → Prop) (ds : List (Tmp × Nat)) (hm : P.follows .mixedOrders = true) (hB : weaveB ops ds = true) (hD : noDefer ops = true)
  (h0 : I (fun _ => false) (fun _ => undef) w.drew)
  (hstep : ∀ i o, ops[i]? = some o → ∀ l vs w, I l vs w → l i = false → (∀ j ∈ waitsOn o, l j = true) → ∀ b, Sees a0 ds o vs b → StepOK P ops o b w fun v w' => I (fun j => j == i || l j) (fun j => if j = i then v else vs j) w')
  (hend : ∀ l vs w, (∀ j, j < ops.size → l j = true) → I l vs w → Q .normal (putL a0 (ds.map fun p => (p.1, vs p.2))) w) : (Code.region id ops true).wpIn (Fence.wide.inRound l) n P Q a0 w := by
 let Q0 : Exit → Act → World → Prop := fun e a w => e = .normal ∧ Q .normal a w
 have hq : ¬ LetsOut Q0 := by rintro ⟨_, _, h, _⟩; cases h
 refine wpIn_mono (Q := Q0) (wpIn_region_any hm (wpAny_in (noDefer_spec hD) hq _ _ _ _ (weave_go I ds hB hstep (fun l vs w h1 h2 => ⟨rfl, hend l vs w h1 h2⟩) ops.size (Array.replicate ops.size false) a0 _ (fun _ => undef) ⟨by simp, rfl, rfl, fun _ _ => rfl, fun p _ h => ?_⟩ ?_ ?_))) (fun e a w h => by obtain ⟨rfl, h⟩ := h; exact h)
 ·exfalso
  have : (Array.replicate ops.size false).getD p.2 false = false := by simp [Array.getElem?_replicate]; split <;> rfl
  rw [this] at h
  cases h
 ·exact Nat.le_trans (List.length_filter_le _ _) (by simp)
 ·have : (fun j => (Array.replicate ops.size false).getD j false) = fun _ => false := funext fun j => by simp [Array.getElem?_replicate]; split <;> rfl
  rw [this]
  exact h0
/-- A drawn region that makes memory, and whose last operation, behind all others, does whatever it does. -/
theorem weaveLastIn {l n id : Nat} {a0 : Act} {w : World} (m : Nat) (hm1 : ops.size = m + 1) (p : World → Prop) (hp : Lasts p) (h0 : p w) (ds : List (Tmp × Nat)) (Fs : List (Value → World → Prop)) (hm : P.follows .mixedOrders = true) (hB : weaveB ops ds = true) (hD : noDefer ops = true) (hF : LastAll Fs)
  (hall : (match ops[m]? with | some o => (List.range m).all fun j => (waitsOn o).contains j | none => false) = true)
  (hwait : ((List.range m).all fun i => match ops[i]? with | some o => (waitsOn o).all fun j => decide (j < m) | none => true) = true)
  (hstep : OpsAll (fun i o => i < m → ∀ vs W, p W → (∀ j ∈ waitsOn o, FAt Fs j (vs j) W) → ∀ b, Sees a0 ds o vs b → StepOK P ops o b W fun v W' => Below W.heap.size W W' ∧ FAt Fs i v W') ops.toList 0)
  (Ψ : Value → World → Prop) (hlast : ∀ o, ops[m]? = some o → ∀ vs W, p W → (∀ j, j < m → FAt Fs j (vs j) W) → ∀ b, Sees a0 ds o vs b → StepOK P ops o b W Ψ)
  (hend : ∀ (vs : Nat → Value) W, Ψ (vs m) W → Q .normal (putL a0 (ds.map fun q => (q.1, vs q.2))) W) : (Code.region id ops true).wpIn (Fence.wide.inRound l) n P Q a0 w := by
 refine weaveIn (fun l vs W => (l m = true → ∀ j, j ≤ m → l j = true) ∧ (l m = false → p W ∧ ∀ j, j < m → l j = true → FAt Fs j (vs j) W) ∧ (l m = true → Ψ (vs m) W)) ds hm hB hD ?_ ?_ ?_
 ·exact ⟨(fun h => absurd h (by simp)), (fun _ => ⟨hp _ _ (drew_below w) h0, (fun _ _ h => absurd h (by simp))⟩), (fun h => absurd h (by simp))⟩
 ·intro i o ho l vs W ⟨hc, hI, _⟩ hli hw b hsee
  have hlt := (Array.getElem?_eq_some_iff.1 ho).1
  by_cases hin : i < m
  ·have hlm : l m = false := by
    cases hq : l m with
    | false => rfl
    | true => rw [hc hq i (by omega)] at hli; cases hli
   obtain ⟨h1, h2⟩ := hI hlm
   have hst := OpsAll.at ops.toList 0 hstep i o (by rw [Array.getElem?_toList]; exact ho)
   rw [Nat.zero_add] at hst
   have hmi : (m == i) = false := by simp; omega
   intro K Q' hK
   refine hst hin vs W h1 (fun j hj => ?_) b hsee K Q' fun v W' hv => hK v W' ⟨fun hh => by simp [hmi, hlm] at hh, fun _ => ⟨hp _ _ hv.1 h1, fun j hj hlj => ?_⟩, fun hh => by simp [hmi, hlm] at hh⟩
   ·have hjm : j < m := by
     have := List.all_eq_true.1 hwait i (List.mem_range.2 hin)
     rw [ho] at this
     simpa using List.all_eq_true.1 this j hj
    exact h2 j hjm (hw j hj)
   ·by_cases hji : j = i
    ·subst hji
     simpa using hv.2
    ·simp only [hji, if_false]
     exact FAt.last Fs hF j _ _ _ hv.1 (h2 j hj (by simpa [hji] using hlj))
  ·have him : i = m := by omega
   subst him
   obtain ⟨h1, h2⟩ := hI hli
   rw [ho] at hall
   have hl : ∀ j, j < i → l j = true := fun j hj => hw j (by simpa using List.all_eq_true.1 hall j (List.mem_range.2 hj))
   intro K Q' hK
   refine hlast o ho vs W h1 (fun j hj => h2 j hj (hl j hj)) b hsee K Q' fun v W' hv => hK v W' ⟨fun _ j hj => ?_, fun hh => by simp at hh, fun _ => by simpa using hv⟩
   by_cases hji : j = i
   ·simp [hji]
   ·simp [hl j (by omega)]
 ·intro l vs W hl hI
  exact hend vs W (hI.2.2 (hl m (by omega)))
/-- What stands before the operations of L, as far as n steps reach. -/
def reach (ops : Array Oper) : Nat → List Nat → List Nat
 | 0, L => L
 | n + 1, L => reach ops n (L ++ L.flatMap fun i => match ops[i]? with | some o => waitsOn o | none => []).eraseDups
theorem reach_all {l : Nat → Bool} (hd : ∀ (i : Nat) (o : Oper), ops[i]? = some o → l i = true → ∀ j ∈ waitsOn o, l j = true) : ∀ (n : Nat) (L : List Nat), (∀ j ∈ L, l j = true) → ∀ j ∈ reach ops n L, l j = true := by
 intro n
 induction n with
 | zero => exact fun _ h => h
 | succ n ih =>
  intro L h
  refine ih _ fun j hj => ?_
  rw [List.mem_eraseDups, List.mem_append] at hj
  rcases hj with hj | hj
  ·exact h j hj
  ·obtain ⟨i, hi, hji⟩ := List.mem_flatMap.1 hj
   cases ho : ops[i]? with
   | none => rw [ho] at hji; cases hji
   | some o => rw [ho] at hji; exact hd i o ho (h i hi) j hji
/-- A drawn region that makes memory, and whose last two operations, behind all others, do whatever they do, one behind the other. -/
theorem weaveTailIn {l n id : Nat} {a0 : Act} {w : World} (m : Nat) (hm1 : ops.size = m + 2) (p : World → Prop) (hp : Lasts p) (h0 : p w) (ds : List (Tmp × Nat)) (Fs : List (Value → World → Prop)) (hm : P.follows .mixedOrders = true) (hB : weaveB ops ds = true) (hD : noDefer ops = true) (hF : LastAll Fs)
  (hall : (match ops[m]? with | some o => (List.range m).all fun j => (reach ops m (waitsOn o)).contains j | none => false) = true)
  (hall2 : (match ops[m + 1]? with | some o => (waitsOn o).contains m | none => false) = true)
  (hwait : ((List.range m).all fun i => match ops[i]? with | some o => (waitsOn o).all fun j => decide (j < m) | none => true) = true)
  (hstep : OpsAll (fun i o => i < m → ∀ vs W, p W → (∀ j ∈ waitsOn o, FAt Fs j (vs j) W) → ∀ b, Sees a0 ds o vs b → StepOK P ops o b W fun v W' => Below W.heap.size W W' ∧ FAt Fs i v W') ops.toList 0)
  (Ψ Φ : Value → World → Prop) (hlast : ∀ o, ops[m]? = some o → ∀ vs W, p W → (∀ j, j < m → FAt Fs j (vs j) W) → ∀ b, Sees a0 ds o vs b → StepOK P ops o b W Ψ)
  (hlast2 : ∀ o, ops[m + 1]? = some o → ∀ vs W, Ψ (vs m) W → ∀ b, Sees a0 ds o vs b → StepOK P ops o b W Φ)
  (hend : ∀ (vs : Nat → Value) W, Φ (vs (m + 1)) W → Q .normal (putL a0 (ds.map fun q => (q.1, vs q.2))) W) : (Code.region id ops true).wpIn (Fence.wide.inRound l) n P Q a0 w := by
 refine weaveIn (fun l vs W => (∀ (i : Nat) (o : Oper), ops[i]? = some o → l i = true → ∀ j ∈ waitsOn o, l j = true) ∧ (l m = false → p W ∧ ∀ j, j < m → l j = true → FAt Fs j (vs j) W) ∧ (l m = true → l (m + 1) = false → Ψ (vs m) W) ∧ (l (m + 1) = true → Φ (vs (m + 1)) W)) ds hm hB hD ?_ ?_ ?_
 ·exact ⟨(fun _ _ _ h => absurd h (by simp)), (fun _ => ⟨hp _ _ (drew_below w) h0, (fun _ _ h => absurd h (by simp))⟩), (fun h => absurd h (by simp)), (fun h => absurd h (by simp))⟩
 ·intro i o ho l vs W ⟨hc, hI, hJ, _⟩ hli hw b hsee
  have hlt := (Array.getElem?_eq_some_iff.1 ho).1
  have hom : ∃ o, ops[m]? = some o := ⟨ops[m], by simp [show m < ops.size by omega]⟩
  obtain ⟨om, hom⟩ := hom
  have hom1 : ∃ o, ops[m + 1]? = some o := ⟨ops[m + 1], by simp [show m + 1 < ops.size by omega]⟩
  obtain ⟨om1, hom1⟩ := hom1
  have hbelow : (∀ j ∈ waitsOn om, l j = true) → ∀ j, j < m → l j = true := fun hh j hj => by
   rw [hom] at hall
   exact reach_all hc m _ hh j (by simpa using List.all_eq_true.1 hall j (List.mem_range.2 hj))
  have hm1m : l (m + 1) = true → l m = true := fun hh => hc _ _ hom1 hh m (by rw [hom1] at hall2; simpa using hall2)
  have hdc : ∀ (i' : Nat) (o' : Oper), ops[i']? = some o' → (i' == i || l i') = true → ∀ j ∈ waitsOn o', (j == i || l j) = true := by
   intro i' o' ho' hh j hj
   by_cases hii : i' = i
   ·subst hii
    have : o' = o := Option.some.inj (ho'.symm.trans ho)
    subst this
    simp [hw j hj]
   ·have : l i' = true := by simpa [hii] using hh
    simp [hc i' o' ho' this j hj]
  by_cases hin : i < m
  ·have hlm : l m = false := by
    cases hq : l m with
    | false => rfl
    | true => rw [hbelow (hc m om hom hq) i hin] at hli; cases hli
   have hlm1 : l (m + 1) = false := by
    cases hq : l (m + 1) with
    | false => rfl
    | true => rw [hm1m hq] at hlm; cases hlm
   obtain ⟨h1, h2⟩ := hI hlm
   have hst := OpsAll.at ops.toList 0 hstep i o (by rw [Array.getElem?_toList]; exact ho)
   rw [Nat.zero_add] at hst
   have hmi : (m == i) = false := by simp; omega
   have hmi1 : (m + 1 == i) = false := by simp; omega
   intro K Q' hK
   refine hst hin vs W h1 (fun j hj => ?_) b hsee K Q' fun v W' hv => hK v W' ⟨hdc, fun _ => ⟨hp _ _ hv.1 h1, fun j hj hlj => ?_⟩, fun hh => by simp [hmi, hlm] at hh, fun hh => by simp [hmi1, hlm1] at hh⟩
   ·have hjm : j < m := by
     have := List.all_eq_true.1 hwait i (List.mem_range.2 hin)
     rw [ho] at this
     simpa using List.all_eq_true.1 this j hj
    exact h2 j hjm (hw j hj)
   ·by_cases hji : j = i
    ·subst hji
     simpa using hv.2
    ·simp only [hji, if_false]
     exact FAt.last Fs hF j _ _ _ hv.1 (h2 j hj (by simpa [hji] using hlj))
  ·by_cases him : i = m
   ·subst him
    have hlm1 : l (i + 1) = false := by
     cases hq : l (i + 1) with
     | false => rfl
     | true => rw [hm1m hq] at hli; cases hli
    have : o = om := Option.some.inj (ho.symm.trans hom)
    subst this
    obtain ⟨h1, h2⟩ := hI hli
    intro K Q' hK
    exact hlast o ho vs W h1 (fun j hj => h2 j hj (hbelow hw j hj)) b hsee K Q' fun v W' hv => hK v W' ⟨hdc, fun hh => by simp at hh, fun _ _ => by simpa using hv, fun hh => by simp [hlm1] at hh⟩
   ·have hi1 : i = m + 1 := by omega
    subst hi1
    have : o = om1 := Option.some.inj (ho.symm.trans hom1)
    subst this
    have hlm : l m = true := hw m (by rw [hom1] at hall2; simpa using hall2)
    intro K Q' hK
    refine hlast2 o ho vs W (hJ hlm hli) b hsee K Q' fun v W' hv => hK v W' ⟨hdc, fun hh => by simp [hlm] at hh, fun _ hh => by simp at hh, fun _ => by simpa using hv⟩
 ·intro l vs W hl hI
  exact hend vs W (hI.2.2.2 (hl (m + 1) (by omega)))
end
end Go.Proofs.Ytiofkhfmdophpaa.B
