import Derived.OrdersHeld
import Derived.Deep.RegionHeld3
import Derived.RowKit
import Derived.Test.YtendbgedpjcocaaGreatDoorB0
import Derived.Deep.MidRow
import Derived.Test.YtendbgedpjcocaaGreatDoorJnF
import Derived.Test.YtendbgedpjcocaaGreatDoorSq
/- A region that draws its order, walked once whatever the order: an invariant over what has come up. -/
namespace Go.Proofs.YtendbgedpjcocaaGreatDoor.B
open Go

/-- What an operation does, from act b and world w: its value, and the world behind it. -/
def StepOK (P : Program) (ops : Array Oper) (o : Oper) (b : Act) (w : World) (Ψ : Value → World → Prop) : Prop :=
 ∀ (K : Act → World → Prop) (Q : Exit → Act → World → Prop), (∀ v w', Ψ v w' → K (b.put o.dst v) w') →
  if Region.wanted o (yielded ops b.tmps) = true then Oper.wp P o b w K Q else K (b.put o.dst undef) w

theorem put_same {a b : Act} (hs : a.tmps.size = b.tmps.size) {d : Option Tmp} {v v' : Value} (h : b.put d v = b.put d v') : a.put d v = a.put d v' := by
 cases d with
 | none => rfl
 | some d =>
  by_cases hd : d < b.tmps.size
  ·have h1 : (b.put (some d) v).tmps[d]? = (b.put (some d) v').tmps[d]? := by rw [h]
   simp [Act.put, hd] at h1
   rw [h1]
  ·simp only [Act.put]
   rw [Array.setIfInBounds_eq_of_size_le (by rw [hs]; exact Nat.le_of_not_lt hd), Array.setIfInBounds_eq_of_size_le (by rw [hs]; exact Nat.le_of_not_lt hd)]

section
variable {P : Program} {ops : Array Oper} {Q : Exit → Act → World → Prop}

theorem StepOK.wpOp {i : Nat} {o : Oper} {a b : Act} {w : World} {Ψ : Value → World → Prop} {K : Act → World → Prop} (hi : ops[i]? = some o) (hsel : ∀ cs bb, o.op ≠ .select cs bb)
  (hsz : a.tmps.size = b.tmps.size) (hag : ∀ t ∈ o.looksAt ops, a.tmps[t]? = b.tmps[t]?) (h : StepOK P ops o b w Ψ) (hK : ∀ v w', Ψ v w' → K (a.put o.dst v) w') : wpOp P ops Q i K a w := by
 have he : execOp a.eval o = execOp b.eval o := execOp_congr o hsel fun x hx => by
  cases x with
  | tmp t =>
   have : t ∈ o.looksAt ops := List.mem_append_left _ (List.mem_filterMap.2 ⟨.tmp t, by simpa using hx, rfl⟩)
   have h1 := hag t this
   simp only [Act.eval, Array.getD_eq_getD_getElem?, h1]
  | _ => rfl
 have hw : Region.wanted o (yielded ops a.tmps) = Region.wanted o (yielded ops b.tmps) := by
  unfold Region.wanted
  cases hg : o.guard with
  | none => rfl
  | some gw =>
   obtain ⟨g, want⟩ := gw
   have hy : yielded ops a.tmps g = yielded ops b.tmps g := by
    unfold yielded
    cases ht : (ops[g]?).bind (·.dst) with
    | none => rfl
    | some t =>
     have h1 := hag t (by simp [Oper.looksAt, hg, ht])
     simp only [Option.bind_some, h1]
   simp only [hy]
 have H := h (fun a' w' => ∃ v, a' = b.put o.dst v ∧ Ψ v w') (fun _ _ _ => False) (fun v w' hv => ⟨v, rfl, hv⟩)
 unfold Go.wpOp
 simp only [hi, hw]
 by_cases hwb : Region.wanted o (yielded ops b.tmps) = true
 ·rw [if_pos hwb] at H ⊢
  refine .inl ?_
  unfold Oper.wp at *
  rw [he]
  generalize (execOp b.eval o).run P w = r at *
  cases r with
  | ok n w' =>
   cases n <;> simp only [Oper.upon] at H ⊢
   case value u =>
    obtain ⟨v, h1, h2⟩ := H
    rw [put_same hsz h1]
    exact hK v w' h2
   case skip =>
    obtain ⟨v, h1, h2⟩ := H
    rw [put_same hsz h1]
    exact hK v w' h2
   case defer d =>
    obtain ⟨v, h1, h2⟩ := H
    exfalso
    have h3 : (({ b with defers := d :: b.defers } : Act).put o.dst undef).defers = (b.put o.dst v).defers := by rw [h1]
    cases hd : o.dst <;> simp [Act.put, hd] at h3
   case enter f args =>
    refine Calls.mono H fun e w'' hh => ?_
    cases e with
    | returned u =>
     obtain ⟨v, h1, h2⟩ := hh
     show K (a.put o.dst u) w''
     rw [put_same hsz h1]
     exact hK v w'' h2
    | panicked c => exact hh.elim
    | outgrown =>
     obtain ⟨_, _, h9⟩ := (hh : LetsOut _)
     exact h9.elim
   case row row args =>
    refine Rows.mono H fun u w'' hh => ?_
    obtain ⟨v, h1, h2⟩ := hh
    rw [put_same hsz h1]
    exact hK v w'' h2
  | halt x w' =>
   cases x <;> simp only [Oper.upon] at H ⊢
   all_goals exact H.elim
 ·rw [if_neg hwb] at H ⊢
  obtain ⟨v, h1, h2⟩ := H
  rw [put_same hsz h1]
  exact hK v w h2

/-- An act with some temporaries filled. -/
def putL : Act → List (Tmp × Value) → Act
 | a, [] => a
 | a, (n, v) :: r => putL (a.put (some n) v) r
theorem putL_size (L : List (Tmp × Value)) : ∀ a : Act, (putL a L).tmps.size = a.tmps.size := by
 induction L with
 | nil => exact fun _ => rfl
 | cons p L ih => intro a; rw [putL, ih]; simp [Act.put]
theorem putL_defers (L : List (Tmp × Value)) : ∀ a : Act, (putL a L).defers = a.defers := by
 induction L with
 | nil => exact fun _ => rfl
 | cons p L ih => intro a; rw [putL, ih]; rfl
theorem putL_not (L : List (Tmp × Value)) (t : Nat) : ∀ a : Act, (∀ p ∈ L, p.1 ≠ t) → (putL a L).tmps[t]? = a.tmps[t]? := by
 induction L with
 | nil => exact fun _ _ => rfl
 | cons p L ih =>
  intro a h
  rw [putL, ih _ fun q hq => h q (List.mem_cons_of_mem _ hq)]
  simp [Act.put, Array.getElem?_setIfInBounds_ne (h p (List.mem_cons_self ..))]
theorem putL_mem (L : List (Tmp × Value)) (t : Nat) (v : Value) : ∀ a : Act, (L.map (·.1)).Nodup → (t, v) ∈ L → t < a.tmps.size → (putL a L).tmps[t]? = some v := by
 induction L with
 | nil => intro a _ h; cases h
 | cons p L ih =>
  intro a hn h ht
  rw [List.map_cons, List.nodup_cons] at hn
  rw [putL]
  rcases List.mem_cons.1 h with h | h
  ·subst h
   rw [putL_not L t _ fun q hq he => hn.1 (List.mem_map.2 ⟨q, hq, he⟩)]
   simp [Act.put, ht]
  ·exact ih _ hn.2 h (by simp [Act.put, ht])

def waitsOn (o : Oper) : List Nat := (o.after.toList.filter fun e => Region.binds .any e).map (·.on)
def dstsOf (ops : Array Oper) : List (Tmp × Nat) := (List.range ops.size).filterMap fun i => (ops[i]?).bind fun o => o.dst.map fun t => (t, i)
def weaveB (ops : Array Oper) (ds : List (Tmp × Nat)) : Bool :=
 Region.noSelect ops && dstsOf ops == ds && decide (ds.map (·.1)).Nodup && (List.range ops.size).all fun i => match ops[i]? with
  | some o => (waitsOn o).all fun j => decide (j < i)
  | none => true
/-- What an operation sees: what it waits for is there, and what the region does not write is as it was. -/
structure Sees (a0 : Act) (ds : List (Tmp × Nat)) (o : Oper) (vs : Nat → Value) (b : Act) : Prop where
 got : ∀ p ∈ ds, p.2 ∈ waitsOn o → p.1 < a0.tmps.size → b.tmps[p.1]? = some (vs p.2)
 kept : ∀ t, (∀ p ∈ ds, p.1 ≠ t) → b.tmps[t]? = a0.tmps[t]?
theorem Sees.tm {a0 : Act} {ds : List (Tmp × Nat)} {o : Oper} {vs : Nat → Value} {b : Act} (h : Sees a0 ds o vs b) (t : Tmp) (j : Nat) (hc : (ds.contains (t, j) && (waitsOn o).contains j && decide (t < a0.tmps.size)) = true) : b.tmps[t]? = some (vs j) := by
 simp only [Bool.and_eq_true, List.contains_eq_mem, decide_eq_true_eq] at hc
 exact h.got (t, j) hc.1.1 hc.1.2 hc.2
theorem Sees.ev {a0 : Act} {ds : List (Tmp × Nat)} {o : Oper} {vs : Nat → Value} {b : Act} (h : Sees a0 ds o vs b) (t : Tmp) (j : Nat) (hc : (ds.contains (t, j) && (waitsOn o).contains j && decide (t < a0.tmps.size)) = true) : b.eval (.tmp t) = vs j := by
 simp only [Act.eval, Array.getD_eq_getD_getElem?, h.tm t j hc, Option.getD_some]
theorem Sees.oldtm {a0 : Act} {ds : List (Tmp × Nat)} {o : Oper} {vs : Nat → Value} {b : Act} (h : Sees a0 ds o vs b) (t : Tmp) (hc : (ds.all fun p => p.1 != t) = true) : b.tmps[t]? = a0.tmps[t]? := h.kept t fun p hp => by simpa using List.all_eq_true.1 hc p hp
theorem Sees.old {a0 : Act} {ds : List (Tmp × Nat)} {o : Oper} {vs : Nat → Value} {b : Act} (h : Sees a0 ds o vs b) (t : Tmp) (hc : (ds.all fun p => p.1 != t) = true) : b.eval (.tmp t) = a0.eval (.tmp t) := by
 simp only [Act.eval, Array.getD_eq_getD_getElem?, h.kept t fun p hp => by simpa using List.all_eq_true.1 hc p hp]
theorem mem_dsts {i : Nat} {t : Tmp} (h : (t, i) ∈ dstsOf ops) : ∃ o, ops[i]? = some o ∧ o.dst = some t := by
 unfold dstsOf at h
 obtain ⟨j, _, hj⟩ := List.mem_filterMap.1 h
 obtain ⟨o, ho, h1⟩ := Option.bind_eq_some_iff.1 hj
 obtain ⟨u, hu, h2⟩ := Option.map_eq_some_iff.1 h1
 injection h2 with h3 h4
 subst h3 h4
 exact ⟨o, ho, hu⟩
theorem dsts_mem {i : Nat} {o : Oper} {t : Tmp} (ho : ops[i]? = some o) (h : o.dst = some t) : (t, i) ∈ dstsOf ops := by
 unfold dstsOf
 refine List.mem_filterMap.2 ⟨i, List.mem_range.2 (Array.getElem?_eq_some_iff.1 ho).1, ?_⟩
 rw [ho, Option.bind_some, h]
 rfl
/-- What has not come up. -/
def unl (n : Nat) (l : Array Bool) : Nat := ((List.range n).filter fun i => !l.getD i true).length
theorem filter_lt {p q : Nat → Bool} {i : Nat} (hq : ∀ j, q j = true → p j = true) (hp : p i = true) (hqi : q i = false) : ∀ L : List Nat, i ∈ L → (L.filter q).length < (L.filter p).length := by
 intro L
 induction L with
 | nil => intro h; cases h
 | cons a L ih =>
  intro h
  have hle : (L.filter q).length ≤ (L.filter p).length := by
   clear ih h
   induction L with
   | nil => exact Nat.le_refl _
   | cons b L ih =>
    simp only [List.filter_cons]
    cases hb : q b with
    | true => rw [hq b hb]; simp; exact ih
    | false => cases p b <;> simp <;> omega
  rcases List.mem_cons.1 h with h | h
  ·subst h
   simp only [List.filter_cons, hp, hqi]
   simp
   omega
  ·have := ih h
   simp only [List.filter_cons]
   cases hb : q a with
   | true => rw [hq a hb]; simp; exact this
   | false => cases p a <;> simp <;> omega

theorem fst_inj : ∀ L : List (Tmp × Nat), (L.map (·.1)).Nodup → ∀ p ∈ L, ∀ q ∈ L, p.1 = q.1 → p = q
 | [], _, _, h, _, _, _ => by cases h
 | a :: L, hn, p, hp, q, hq, he => by
  rw [List.map_cons, List.nodup_cons] at hn
  rcases List.mem_cons.1 hp with h1 | h1 <;> rcases List.mem_cons.1 hq with h2 | h2
  ·rw [h1, h2]
  ·exact absurd (List.mem_map.2 ⟨q, h2, by rw [← he, h1]⟩) hn.1
  ·exact absurd (List.mem_map.2 ⟨p, h1, by rw [he, h2]⟩) hn.1
  ·exact fst_inj L hn.2 p h1 q h2 he

structure WInv (ops : Array Oper) (a0 : Act) (ds : List (Tmp × Nat)) (l : Array Bool) (vs : Nat → Value) (a : Act) : Prop where
 lsz : l.size = ops.size
 asz : a.tmps.size = a0.tmps.size
 adf : a.defers = a0.defers
 kept : ∀ t, (∀ p ∈ ds, l.getD p.2 false = true → p.1 ≠ t) → a.tmps[t]? = a0.tmps[t]?
 vals : ∀ p ∈ ds, l.getD p.2 false = true → p.1 < a0.tmps.size → a.tmps[p.1]? = some (vs p.2)

theorem weave_go {a0 : Act} (I : (Nat → Bool) → (Nat → Value) → World → Prop) (ds : List (Tmp × Nat)) (hB : weaveB ops ds = true)
  (hstep : ∀ i o, ops[i]? = some o → ∀ l vs w, I l vs w → l i = false → (∀ j ∈ waitsOn o, l j = true) → ∀ b, Sees a0 ds o vs b → StepOK P ops o b w fun v w' => I (fun j => j == i || l j) (fun j => if j = i then v else vs j) w')
  (hend : ∀ l vs w, (∀ j, j < ops.size → l j = true) → I l vs w → Q .normal (putL a0 (ds.map fun p => (p.1, vs p.2))) w) :
  ∀ (fuel : Nat) (l : Array Bool) (a : Act) (w : World) (vs : Nat → Value), WInv ops a0 ds l vs a → unl ops.size l ≤ fuel → I (fun j => l.getD j false) vs w → wpAny P .any ops Q fuel l a w := by
 simp only [weaveB, Bool.and_eq_true, beq_iff_eq, decide_eq_true_eq] at hB
 obtain ⟨⟨⟨hns, hds⟩, hnd⟩, hall⟩ := hB
 have hall' : ∀ i o, ops[i]? = some o → ∀ j ∈ waitsOn o, j < i := by
  intro i o ho j hj
  have h1 := List.all_eq_true.1 hall i (List.mem_range.2 (Array.getElem?_eq_some_iff.1 ho).1)
  simp only [ho] at h1
  simpa using List.all_eq_true.1 h1 j hj
 have hfull : ∀ l : Array Bool, l.size = ops.size → Region.ready .any ops l = [] → ∀ i, i < ops.size → l.getD i false = true := by
  intro l hl hr i
  induction i using Nat.strongRecOn with
  | ind i ih =>
   intro hi
   cases hc : l.getD i true with
   | true =>
    have : i < l.size := by omega
    simp [this] at hc ⊢
    exact hc
   | false =>
    exfalso
    have ho : ops[i]? = some ops[i] := by simp [hi]
    have : i ∈ Region.ready .any ops l := mem_ready.2 ⟨hc, _, ho, fun e he hb => by
     have hm : e.on ∈ waitsOn ops[i] := List.mem_map.2 ⟨e, List.mem_filter.2 ⟨by simpa using he, hb⟩, rfl⟩
     have hlt := hall' i _ ho _ hm
     exact ih _ hlt (by omega)⟩
    rw [hr] at this
    cases this
 have hfin : ∀ (l : Array Bool) (vs : Nat → Value) (a : Act) (w : World), WInv ops a0 ds l vs a → (∀ i, i < ops.size → l.getD i false = true) → I (fun j => l.getD j false) vs w → Q .normal a w := by
  intro l vs a w hW hL hI
  have hlt : ∀ p ∈ ds, p.2 < ops.size := by
   intro p hp
   rw [← hds] at hp
   obtain ⟨o, ho, _⟩ := mem_dsts (t := p.1) (i := p.2) hp
   exact (Array.getElem?_eq_some_iff.1 ho).1
  have he : a = putL a0 (ds.map fun p => (p.1, vs p.2)) := by
   have ht : a.tmps = (putL a0 (ds.map fun p => (p.1, vs p.2))).tmps := by
    apply Array.ext_getElem?
    intro t
    by_cases hx : ∃ p ∈ ds, p.1 = t
    ·obtain ⟨p, hp, rfl⟩ := hx
     by_cases hs : p.1 < a0.tmps.size
     ·rw [hW.vals p hp (hL _ (hlt p hp)) hs, putL_mem _ p.1 (vs p.2) a0 (by rw [List.map_map]; exact hnd) (List.mem_map.2 ⟨p, hp, rfl⟩) hs]
     ·rw [Array.getElem?_eq_none (by rw [hW.asz]; exact Nat.le_of_not_lt hs), Array.getElem?_eq_none (by rw [putL_size]; exact Nat.le_of_not_lt hs)]
    ·rw [hW.kept t fun p hp _ he => hx ⟨p, hp, he⟩, putL_not _ t a0 fun q hq he => by
      obtain ⟨p, hp, rfl⟩ := List.mem_map.1 hq
      exact hx ⟨p, hp, he⟩]
   have hdf : a.defers = (putL a0 (ds.map fun p => (p.1, vs p.2))).defers := by rw [hW.adf, putL_defers]
   generalize putL a0 (ds.map fun p => (p.1, vs p.2)) = b at ht hdf
   cases a
   cases b
   simp only at ht hdf
   subst ht hdf
   rfl
  rw [he]
  exact hend _ vs w hL hI
 intro fuel
 induction fuel with
 | zero =>
  intro l a w vs hW hU hI
  have hL : ∀ i, i < ops.size → l.getD i false = true := by
   intro i hi
   have h0 : ((List.range ops.size).filter fun i => !l.getD i true) = [] := List.eq_nil_of_length_eq_zero (Nat.le_zero.1 hU)
   have h1 : i ∉ (List.range ops.size).filter fun i => !l.getD i true := by rw [h0]; simp
   have : i < l.size := by rw [hW.lsz]; exact hi
   simp [List.mem_filter, hi, this] at h1
   simp [this, h1]
  refine ⟨?_, hfin l vs a w hW hL hI⟩
  cases hr : Region.ready .any ops l with
  | nil => rfl
  | cons j r =>
   exfalso
   obtain ⟨h1, o, ho, _⟩ := mem_ready.1 (hr ▸ List.mem_cons_self .. : j ∈ Region.ready .any ops l)
   have hj := (Array.getElem?_eq_some_iff.1 ho).1
   have h2 := hL j hj
   have : j < l.size := by rw [hW.lsz]; exact hj
   simp [this] at h1 h2
   rw [h1] at h2
   cases h2
 | succ fuel ih =>
  intro l a w vs hW hU hI
  refine ⟨fun hr => hfin l vs a w hW (hfull l hW.lsz hr) hI, fun i hi => ?_⟩
  obtain ⟨h1, o, ho, hdep⟩ := mem_ready.1 hi
  have hlt := (Array.getElem?_eq_some_iff.1 ho).1
  have hls : i < l.size := by rw [hW.lsz]; exact hlt
  have hli : l.getD i false = false := by simp [hls] at h1 ⊢; exact h1
  have hw : ∀ j ∈ waitsOn o, l.getD j false = true := by
   intro j hj
   obtain ⟨e, he, rfl⟩ := List.mem_map.1 hj
   obtain ⟨he1, he2⟩ := List.mem_filter.1 he
   exact hdep e (by simpa using he1) he2
  have hS := hstep i o ho (fun j => l.getD j false) vs w hI hli hw a ⟨fun p hp hpw hs => hW.vals p hp (hw _ hpw) hs, fun t ht => hW.kept t fun p hp _ => ht p hp⟩
  refine hS.wpOp ho (Region.noSelect_spec hns i o · · ho) rfl (fun t ht => rfl) (fun v w' hv => ?_)
  have hset : ∀ j, (l.setIfInBounds i true).getD j false = (j == i || l.getD j false) := by
   intro j
   by_cases hj : j = i
   ·subst hj; simp [hls]
   ·rw [getD_set_ne false (Ne.symm hj)]; simp [hj]
  have hdst : ∀ p ∈ ds, p.2 = i → o.dst = some p.1 := by
   intro p hp he
   rw [← hds] at hp
   obtain ⟨o', ho', hd⟩ := mem_dsts (t := p.1) (i := p.2) hp
   rw [he, ho] at ho'
   injection ho' with ho'
   subst ho'
   exact hd
  have hone : ∀ p ∈ ds, ∀ q ∈ ds, p.1 = q.1 → p = q := by
   intro p hp q hq he
   exact fst_inj ds hnd p hp q hq he
  refine ih (l.setIfInBounds i true) (a.put o.dst v) w' (fun j => if j = i then v else vs j) ⟨by simp [hW.lsz], ?_, ?_, ?_, ?_⟩ ?_ ?_
  ·rw [← hW.asz]; cases o.dst <;> simp [Act.put]
  ·rw [← hW.adf]; cases o.dst <;> rfl
  ·intro t ht
   rw [← hW.kept t fun p hp hl => ht p hp (by rw [hset, hl]; simp)]
   cases hd : o.dst with
   | none => rfl
   | some d =>
    have hne : d ≠ t := ht (d, i) (hds ▸ dsts_mem ho hd) (by rw [hset]; simp)
    simp [Act.put, Array.getElem?_setIfInBounds_ne hne]
  ·intro p hp hl hs
   by_cases hpi : p.2 = i
   ·rw [hdst p hp hpi, if_pos hpi]
    have : p.1 < a.tmps.size := by rw [hW.asz]; exact hs
    simp [Act.put, this]
   ·rw [if_neg hpi]
    have hl' : l.getD p.2 false = true := by
     rw [hset] at hl
     simpa [hpi] using hl
    rw [← hW.vals p hp hl' hs]
    cases hd : o.dst with
    | none => rfl
    | some d =>
     have hne : d ≠ p.1 := fun he => hpi (by
      have := hone p hp (d, i) (hds ▸ dsts_mem ho hd) he.symm
      rw [this])
     simp [Act.put, Array.getElem?_setIfInBounds_ne hne]
  ·have : unl ops.size (l.setIfInBounds i true) < unl ops.size l := by
    refine filter_lt (i := i) (fun j hj => ?_) (by simp only [h1]; rfl) ?_ _ (List.mem_range.2 hlt)
    ·by_cases hji : j = i
     ·subst hji; simp only [h1]; rfl
     ·rw [getD_set_ne true (Ne.symm hji)] at hj; exact hj
    ·simp [hls]
   omega
  ·have : (fun j => (l.setIfInBounds i true).getD j false) = fun j => j == i || l.getD j false := funext hset
   rw [this]
   exact hv

theorem weave {id : Nat} {a0 : Act} {w : World} (I : (Nat → Bool) → (Nat → Value) → World → Prop) (ds : List (Tmp × Nat)) (hm : P.follows .mixedOrders = true) (hB : weaveB ops ds = true)
  (h0 : I (fun _ => false) (fun _ => undef) w.drew)
  (hstep : ∀ i o, ops[i]? = some o → ∀ l vs w, I l vs w → l i = false → (∀ j ∈ waitsOn o, l j = true) → ∀ b, Sees a0 ds o vs b → StepOK P ops o b w fun v w' => I (fun j => j == i || l j) (fun j => if j = i then v else vs j) w')
  (hend : ∀ l vs w, (∀ j, j < ops.size → l j = true) → I l vs w → Q .normal (putL a0 (ds.map fun p => (p.1, vs p.2))) w) : (Code.region id ops true).wp P Q a0 w := by
 refine wp_region_any hm (weave_go I ds hB hstep hend ops.size (Array.replicate ops.size false) a0 _ (fun _ => undef) ⟨by simp, rfl, rfl, fun _ _ => rfl, fun p _ h => ?_⟩ ?_ ?_)
 ·exfalso
  have : (Array.replicate ops.size false).getD p.2 false = false := by simp [Array.getElem?_replicate]; split <;> rfl
  rw [this] at h
  cases h
 ·exact Nat.le_trans (List.length_filter_le _ _) (by simp)
 ·have : (fun j => (Array.replicate ops.size false).getD j false) = fun _ => false := funext fun j => by simp [Array.getElem?_replicate]; split <;> rfl
  rw [this]
  exact h0

/-- The rows of a region one by one. -/
def OpsAll (p : Nat → Oper → Prop) : List Oper → Nat → Prop
 | [], _ => True
 | o :: r, n => p n o ∧ OpsAll p r (n + 1)
theorem OpsAll.at {p : Nat → Oper → Prop} : ∀ (L : List Oper) (n : Nat), OpsAll p L n → ∀ i o, L[i]? = some o → p (n + i) o
 | [], _, _, i, o, h => by simp at h
 | a :: L, n, H, 0, o, h => by
  simp only [List.getElem?_cons_zero, Option.some.injEq] at h
  subst h
  exact H.1
 | a :: L, n, H, i + 1, o, h => by
  rw [List.getElem?_cons_succ] at h
  have := OpsAll.at L (n + 1) H.2 i o h
  rwa [show n + 1 + i = n + (i + 1) by omega] at this
theorem OpsAll.imp {p q : Nat → Oper → Prop} (h : ∀ i o, p i o → q i o) : ∀ (L : List Oper) (n : Nat), OpsAll p L n → OpsAll q L n
 | [], _, _ => trivial
 | a :: L, n, H => ⟨h n a H.1, OpsAll.imp h L (n + 1) H.2⟩
/-- With facts that last: R is what any operation may do to the world, F what is known of each value. -/
theorem weaveR {id : Nat} {a0 : Act} {w : World} (R : World → World → Prop) (F : Nat → Value → World → Prop) (ds : List (Tmp × Nat)) (hm : P.follows .mixedOrders = true) (hB : weaveB ops ds = true)
  (hR : ∀ w, R w w) (hT : ∀ a b c, R a b → R b c → R a c) (hF : ∀ i v a b, R a b → F i v a → F i v b)
  (hstep : OpsAll (fun i o => ∀ vs W, R w.drew W → (∀ j ∈ waitsOn o, F j (vs j) W) → ∀ b, Sees a0 ds o vs b → StepOK P ops o b W fun v W' => R W W' ∧ F i v W') ops.toList 0)
  (hend : ∀ (vs : Nat → Value) W, R w.drew W → (∀ j, j < ops.size → F j (vs j) W) → Q .normal (putL a0 (ds.map fun p => (p.1, vs p.2))) W) : (Code.region id ops true).wp P Q a0 w := by
 refine weave (fun l vs W => R w.drew W ∧ ∀ j, l j = true → F j (vs j) W) ds hm hB ⟨hR _, fun _ h => by cases h⟩ (fun i o ho l vs W hI _ hw => ?_) (fun l vs W hl hI => hend vs W hI.1 fun j hj => hI.2 j (hl j hj))
 have h := OpsAll.at ops.toList 0 hstep i o (by rw [Array.getElem?_toList]; exact ho)
 rw [Nat.zero_add] at h
 have h1 := h vs W hI.1 fun j hj => hI.2 j (hw j hj)
 intro b hsee K Q' hK
 refine h1 b hsee K Q' fun v W' hv => hK v W' ⟨hT _ _ _ hI.1 hv.1, fun j hj => ?_⟩
 by_cases hji : j = i
 ·subst hji
  simpa using hv.2
 ·have hj' : l j = true := by simpa [hji] using hj
  simp only [hji, if_false]
  exact hF j _ _ _ hv.1 (hI.2 j hj')
end
end Go.Proofs.YtendbgedpjcocaaGreatDoor.B
/- Boxes: a variable in a block of its own, known whole; how operations meet it, in plain regions and in those that draw their order. -/
namespace Go.Proofs.YtendbgedpjcocaaGreatDoor.B
open Go Go.RowKit Go.Proofs.YtendbgedpjcocaaGreatDoorW.PrintWords Go.Proofs.YtendbgedpjcocaaGreatDoorW.PrintLast Go.Proofs.YtendbgedpjcocaaGreatDoorW.PrintMore
set_option linter.unusedVariables false

abbrev Box (W : World) (g : Nat) (T : TypeId) (cs : Array Value) : Prop := W.heap[g]? = some (.cells cs T (0, 0))
/-- What a store into block g leaves: all other blocks. -/
structure Put1 (g : Nat) (W W' : World) : Prop where
 os : W'.os = W.os
 tape : W'.tape = W.tape
 output : W'.output = W.output
 size : W'.heap.size = W.heap.size
 far : ∀ j, j ≠ g → W'.heap[j]? = W.heap[j]?
theorem Put1.below {g B : Nat} {w W W' : World} (h : Put1 g W W') (hb : Below B w W) (hg : B ≤ g) : Below B w W' :=
 hb.trans ⟨h.os, h.tape, h.output, by rw [h.size]; exact Nat.le_refl _, fun k hk => h.far k (by omega)⟩
theorem setCells_put1 (g : Nat) : ∀ (vs : List Value) (o : Nat) (W : World), Put1 g W (W.setCells g o vs)
 | [], _, W => ⟨rfl, rfl, rfl, rfl, fun _ _ => rfl⟩
 | v :: r, o, W => by
  have h := setCells_put1 g r (o + 1) (W.setCell ⟨g, o, none⟩ v)
  exact ⟨h.os, h.tape, h.output, h.size.trans (by simp [World.setCell]), fun j hj => (h.far j hj).trans (Below.heap_setCell _ _ _ _ hj)⟩
theorem setCells_row (g : Nat) (T : TypeId) : ∀ (vs : List Value) (o : Nat) (W : World) (cs : Array Value), Box W g T cs → ∃ R : Array Value, Box (W.setCells g o vs) g T R ∧ R.size = cs.size ∧ (∀ i, i < o → R[i]? = cs[i]?) ∧ ∀ i, i < vs.length → o + i < cs.size → R[o + i]? = vs[i]?
 | [], o, W, cs, h => ⟨cs, h, rfl, fun _ _ => rfl, fun i hi => absurd hi (Nat.not_lt_zero i)⟩
 | v :: r, o, W, cs, h => by
  obtain ⟨R, h1, h2, h3, h4⟩ := setCells_row g T r (o + 1) (W.setCell ⟨g, o, none⟩ v) (cs.setIfInBounds o v) (blk_set h o v)
  refine ⟨R, h1, by rw [h2]; simp, fun i hi => ?_, fun i hi ho => ?_⟩
  ·rw [h3 i (by omega), Array.getElem?_setIfInBounds_ne (by omega)]
  ·cases i with
   | zero =>
    rw [Nat.add_zero, h3 o (by omega), List.getElem?_cons_zero, Array.getElem?_setIfInBounds_self_of_lt (by simpa using ho)]
   | succ i =>
    have := h4 i (by simpa using hi) (by simp; omega)
    rw [show o + (i + 1) = o + 1 + i by omega, List.getElem?_cons_succ]
    exact this
theorem setCells_box {g : Nat} {T : TypeId} {W : World} {cs cs' : Array Value} (h : Box W g T cs) (hs : cs'.size = cs.size) : Box (W.setCells g 0 cs'.toList) g T cs' := by
 obtain ⟨R, h1, h2, _, h4⟩ := setCells_row g T cs'.toList 0 W cs h
 have : R = cs' := by
  apply Array.ext_getElem?
  intro i
  by_cases hi : i < cs'.size
  ·have := h4 i (by simpa using hi) (by omega)
   rw [Nat.zero_add] at this
   simpa using this
  ·rw [Array.getElem?_eq_none (by omega), Array.getElem?_eq_none (by omega)]
 exact this ▸ h1
theorem Box.range {W : World} {g : Nat} {T : TypeId} {cs : Array Value} (h : Box W g T cs) : W.rangeAt g 0 cs.toList := fun j v hv => by
 rw [Nat.zero_add, blk_cell h]
 simpa using hv
theorem Box.there {W : World} {g : Nat} {T : TypeId} {cs : Array Value} (h : Box W g T cs) : W.there g 0 cs.size := fun j hj => by
 rw [Nat.zero_add, blk_cell h, blk_frozen h]
 simp [hj]
theorem Box.put1 {W W' : World} {g b : Nat} {T : TypeId} {cs : Array Value} (h : Box W g T cs) (hp : Put1 b W W') (hne : g ≠ b) : Box W' g T cs := (hp.far g hne).trans h
theorem drew_below (W : World) : Below W.heap.size W W.drew := (Below.refl _ _).drew

section
variable {P : Program} {ops : Array Oper} {rest : List Oper} {o : Oper} {a : Act} {Q : Exit → Act → World → Prop} {W : World}
/-- A box is made. -/
theorem boxNew_ {N : Tmp} (hd : o.dst = some N) (hg : o.guard = none) (cs : Array Value) (T : TypeId) (hrun : (execOp a.eval o).run P W = .ok (.value (.pointer (some ⟨W.heap.size, 0, none⟩))) (W.alloc (.cells cs T (0, 0))))
  (h : ∀ g W', g = W.heap.size → Box W' g T cs → Below W.heap.size W W' → wpList P ops Q rest (a.put (some N) (.pointer (some ⟨g, 0, none⟩))) W') : wpList P ops Q (o :: rest) a W := by
 refine box_event hg hd hrun fun g hg w1 h1 h2 => ?_
 rw [hd]
 exact h g w1 hg h1 h2
/-- A box is written whole. -/
theorem boxPut_ {T : TypeId} {p : Tmp} {x : Operand} (ho : o.op = .store T (.tmp p) x) (hN : o.dst = none) (hg : o.guard = none) {g : Nat} {cs : Array Value} (hp : a.eval (.tmp p) = .pointer (some ⟨g, 0, none⟩)) (cs' : Array Value) (hx : a.eval x = .agg cs')
  (hb : Box W g T cs) (hs : cs'.size = cs.size) (hi : (P.info? T).map (·.size) = some cs'.size) (h1 : cs'.all (·.oneCell') = true)
  (h : ∀ W', Box W' g T cs' → Put1 g W W' → wpList P ops Q rest a W') : wpList P ops Q (o :: rest) a W := by
 refine wpList_store_mid hg T (.tmp p) x ho g 0 cs' hp hx (by rw [hs]; exact Box.there hb) hi h1 ?_
 rw [hN]
 exact h _ (setCells_box hb hs) (setCells_put1 g _ 0 W)
/-- A box is read whole. -/
theorem boxGet_ {T : TypeId} {x : Operand} {N : Tmp} (ho : o.op = .load T x) (hd : o.dst = some N) (hg : o.guard = none) {g : Nat} {cs : Array Value} (hx : a.eval x = .pointer (some ⟨g, 0, none⟩)) (hb : Box W g T cs) {d : TypeDesc} (hu : P.underlying T = some d) (hr : d.isRow = true)
  (hi : (P.info? T).map (·.size) = some cs.size) (h : wpList P ops Q rest (a.put (some N) (.agg cs)) W) : wpList P ops Q (o :: rest) a W := by
 refine wpList_load_mid hg T x ho g 0 hx cs.toList d (Box.range hb) hu hr (by simpa using hi) ?_
 rw [hd]
 simpa using h
theorem eval_put_same {a : Act} {N : Tmp} (h : N < a.tmps.size) (v : Value) : (a.put (some N) v).eval (.tmp N) = v := by simp [Act.eval, Act.put, h]
theorem eval_put_ne {a : Act} {N t : Tmp} (h : N ≠ t) (v : Value) : (a.put (some N) v).eval (.tmp t) = a.eval (.tmp t) := Act.eval_put fun d hd hx => h (by injection hx with hx; injection hd with hd; rw [hd, hx])
/-- A variable is made and filled: x := f(..). -/
theorem new1_ {rest : List Oper} {o1 o2 : Oper} {N x : Tmp} {T : TypeId} (cs : Array Value) {zs : Array Value} (h1 : cs.all (·.oneCell') = true)
  (hd1 : o1.dst = some N := by rfl) (hg1 : o1.guard = none := by rfl) (ho1 : o1.op = .alloc T := by rfl) (hz : ∀ ev W, (execOp ev o1).run P W = .ok (.value (.pointer (some ⟨W.heap.size, 0, none⟩))) (W.alloc (.cells zs T (0, 0))) := by (intro _ _; go_simp; first | done | rfl))
  (ho2 : o2.op = .store T (.tmp N) (.tmp x) := by rfl) (hd2 : o2.dst = none := by rfl) (hg2 : o2.guard = none := by rfl)
  (hN : decide (N < a.tmps.size) = true := by rfl) (hNx : N ≠ x := by decide) (hx : a.eval (.tmp x) = .agg cs := by rfl)
  (hs : cs.size = zs.size := by rfl) (hi : (P.info? T).map (·.size) = some cs.size := by kernel_rfl)
  (h : ∀ g W', W.heap.size ≤ g → Box W' g T cs → Below W.heap.size W W' → wpList P ops Q rest (a.put (some N) (.pointer (some ⟨g, 0, none⟩))) W') : wpList P ops Q (o1 :: o2 :: rest) a W := by
 refine boxNew_ hd1 hg1 zs T (hz _ _) fun g W1 hg hb hB => ?_
 refine boxPut_ ho2 hd2 hg2 (eval_put_same (of_decide_eq_true hN) _) cs ((eval_put_ne hNx _).trans hx) hb hs hi h1 fun W2 hb2 hp => ?_
 exact h g W2 (Nat.le_of_eq hg.symm) hb2 (hp.below hB (Nat.le_of_eq hg.symm))
/-- Two variables are made and filled: x, y := f(..). -/
theorem new2_ {rest : List Oper} {o1 o2 o3 o4 : Oper} {N M x y : Tmp} {T U : TypeId} (cs ds : Array Value) {zs ys : Array Value} (h1 : cs.all (·.oneCell') = true) (h2 : ds.all (·.oneCell') = true)
  (hd1 : o1.dst = some N := by rfl) (hg1 : o1.guard = none := by rfl) (ho1 : o1.op = .alloc T := by rfl) (hz : ∀ ev W, (execOp ev o1).run P W = .ok (.value (.pointer (some ⟨W.heap.size, 0, none⟩))) (W.alloc (.cells zs T (0, 0))) := by (intro _ _; go_simp; first | done | rfl))
  (hd2 : o2.dst = some M := by rfl) (hg2 : o2.guard = none := by rfl) (ho2 : o2.op = .alloc U := by rfl) (hy : ∀ ev W, (execOp ev o2).run P W = .ok (.value (.pointer (some ⟨W.heap.size, 0, none⟩))) (W.alloc (.cells ys U (0, 0))) := by (intro _ _; go_simp; first | done | rfl))
  (ho3 : o3.op = .store T (.tmp N) (.tmp x) := by rfl) (hd3 : o3.dst = none := by rfl) (hg3 : o3.guard = none := by rfl) (ho4 : o4.op = .store U (.tmp M) (.tmp y) := by rfl) (hd4 : o4.dst = none := by rfl) (hg4 : o4.guard = none := by rfl)
  (hN : decide (N < a.tmps.size) = true := by rfl) (hM : decide (M < a.tmps.size) = true := by rfl) (hNM : N ≠ M := by decide) (hNx : N ≠ x := by decide) (hMx : M ≠ x := by decide) (hNy : N ≠ y := by decide) (hMy : M ≠ y := by decide) (hx : a.eval (.tmp x) = .agg cs := by rfl) (hy' : a.eval (.tmp y) = .agg ds := by rfl)
  (hs : cs.size = zs.size := by rfl) (hi : (P.info? T).map (·.size) = some cs.size := by kernel_rfl) (ht : ds.size = ys.size := by rfl) (hj : (P.info? U).map (·.size) = some ds.size := by kernel_rfl)
  (h : ∀ g g' W', W.heap.size ≤ g → W.heap.size ≤ g' → g ≠ g' → Box W' g T cs → Box W' g' U ds → Below W.heap.size W W' → wpList P ops Q rest ((a.put (some N) (.pointer (some ⟨g, 0, none⟩))).put (some M) (.pointer (some ⟨g', 0, none⟩))) W') : wpList P ops Q (o1 :: o2 :: o3 :: o4 :: rest) a W := by
 refine boxNew_ hd1 hg1 zs T (hz _ _) fun g W1 hg hb hB => ?_
 refine boxNew_ hd2 hg2 ys U (hy _ _) fun g' W2 hg' hb' hB' => ?_
 have hlt : g < W1.heap.size := blk_lt hb
 have hne : g ≠ g' := by omega
 have hle : W.heap.size ≤ g' := by have := hB.size; omega
 refine boxPut_ ho3 hd3 hg3 ((eval_put_ne (Ne.symm hNM) _).trans (eval_put_same (of_decide_eq_true hN) _)) cs ((eval_put_ne hMx _).trans ((eval_put_ne hNx _).trans hx)) (blk_below hb hB') hs hi h1 fun W3 hb3 hp3 => ?_
 refine boxPut_ ho4 hd4 hg4 (eval_put_same (by simpa [Act.put] using of_decide_eq_true hM) _) ds ((eval_put_ne hMy _).trans ((eval_put_ne hNy _).trans hy')) (Box.put1 hb' hp3 (Ne.symm hne)) ht hj h2 fun W4 hb4 hp4 => ?_
 have hB2 : Below W.heap.size W W2 := hB.trans (hB'.mono hB.size)
 exact h g g' W4 (Nat.le_of_eq hg.symm) hle hne (Box.put1 hb3 hp4 hne) hb4 (hp4.below (hp3.below hB2 (Nat.le_of_eq hg.symm)) hle)
/-- A cell of a box is written. -/
theorem setF_ {rest : List Oper} {T U : TypeId} {q : Tmp} {x : Operand} {g i : Nat} {cs : Array Value} {v : Value} (ho : o.op = .store T (.tmp q) x) (hd : o.dst = none) (hg : o.guard = none) (hb : Box W g U cs)
  (hrun : (execOp a.eval o).run P W = .ok .skip (W.setCell ⟨g, i, none⟩ v)) (h : ∀ W', Box W' g U (cs.setIfInBounds i v) → Put1 g W W' → wpList P ops Q rest a W') : wpList P ops Q (o :: rest) a W := by
 refine store_event hg ho hd hrun fun w' hw => ?_
 subst hw
 exact h _ (blk_set hb i v) ⟨rfl, rfl, rfl, by simp [World.setCell], fun j hj => Below.heap_setCell _ _ _ _ hj⟩
/-- Two cells of a box are written: a struct of two cells. -/
theorem setF2_ {rest : List Oper} {T U : TypeId} {q : Tmp} {x : Operand} {g i : Nat} {cs : Array Value} {v u : Value} (ho : o.op = .store T (.tmp q) x) (hd : o.dst = none) (hg : o.guard = none) (hb : Box W g U cs)
  (hrun : (execOp a.eval o).run P W = .ok .skip ((W.setCell ⟨g, i, none⟩ v).setCell ⟨g, i + 1, none⟩ u)) (h : ∀ W', Box W' g U ((cs.setIfInBounds i v).setIfInBounds (i + 1) u) → Put1 g W W' → wpList P ops Q rest a W') : wpList P ops Q (o :: rest) a W := by
 refine store_event hg ho hd hrun fun w' hw => ?_
 subst hw
 exact h _ (blk_set (blk_set hb i v) (i + 1) u) ⟨rfl, rfl, rfl, by simp [World.setCell], fun j hj => (Below.heap_setCell _ _ _ _ hj).trans (Below.heap_setCell _ _ _ _ hj)⟩
theorem Box.cell {W : World} {g : Nat} {T : TypeId} {cs : Array Value} (h : Box W g T cs) (i : Nat) (v : Value) (hv : cs[i]? = some v) : W.cell? ⟨g, i, none⟩ = some v ∧ W.frozen? ⟨g, i, none⟩ = false := ⟨(blk_cell h i).trans hv, blk_frozen h i⟩
end

section
variable {ops : Array Oper} {o : Oper} {b : Act}
end
section
variable {P : Program} {ops : Array Oper} {o : Oper} {b : Act} {W : World} {Ψ : Value → World → Prop}
theorem stepVal {v : Value} (hw : Region.wanted o (yielded ops b.tmps) = true) (hrun : (execOp b.eval o).run P W = .ok (.value v) W) (h : Ψ v W) : StepOK P ops o b W Ψ := fun K Q hK => value_ hw rfl hrun (hK v W h)
theorem stepGet {T : TypeId} {x : Operand} (hw : Region.wanted o (yielded ops b.tmps) = true) (ho : o.op = .load T x) {g : Nat} {cs : Array Value} (hx : b.eval x = .pointer (some ⟨g, 0, none⟩)) (hb : Box W g T cs) {d : TypeDesc} (hu : P.underlying T = some d) (hr : d.isRow = true)
  (hi : (P.info? T).map (·.size) = some cs.size) (h : Ψ (.agg cs) W) : StepOK P ops o b W Ψ := by
 refine stepVal hw ?_ h
 have := run_loadVar_mid (P := P) W g 0 T cs.toList d (Box.range hb) hu hr (by simpa using hi)
 unfold execOp
 simp only [ho, hx, Instr.loadAt, Instr.sureAddr, Sem.run_bind, Sem.run_pure, Result.andThen_ok, this]
theorem stepCall {f : FuncId} {fn : Func} {ys : Array Operand} {ts : Array TypeId} (hw : Region.wanted o (yielded ops b.tmps) = true) (hf : P.funcs[f]? = some fn) (hname : (fn.name == "runtime.NumGoroutine") = false) (hbd : fn.body.isSome = true) (args : Array Value)
  (hop : o.op = .call { callee := .value (.func f), args := ys, argTypes := ts }) (hargs : ys.map b.eval = args) {R : Ending → World → Prop} (hc : Calls P f args W R) (h : ∀ e w', R e w' → ∃ v, e = .returned v ∧ Ψ v w') : StepOK P ops o b W Ψ :=
 fun K Q hK => goes_ hf hname hbd args hw rfl hop hargs (hc.mono fun e w' hr => by
  obtain ⟨v, rfl, hv⟩ := h e w' hr
  exact ⟨v, rfl, hK v w' hv⟩)
end
/-- What stays, as memory is made. -/
def Lasts (p : World → Prop) : Prop := ∀ W W', Below W.heap.size W W' → p W → p W'
theorem Lasts.const (p : Prop) : Lasts fun _ => p := fun _ _ _ h => h
theorem Lasts.below (w : World) : Lasts fun W => Below w.heap.size w W := fun _ _ hb h => h.trans (hb.mono h.size)
/-- Facts of values, one by one. -/
def FAt (Fs : List (Value → World → Prop)) (i : Nat) (v : Value) (W : World) : Prop := Fs.getD i (fun _ _ => True) v W
def LastAll : List (Value → World → Prop) → Prop
 | [] => True
 | F :: r => (∀ v, Lasts (F v)) ∧ LastAll r
theorem FAt.last : ∀ (Fs : List (Value → World → Prop)), LastAll Fs → ∀ i v a b, Below a.heap.size a b → FAt Fs i v a → FAt Fs i v b
 | [], _, _, _, _, _, _, _ => trivial
 | F :: r, h, 0, v, a, b, hb, hf => h.1 v a b hb hf
 | F :: r, h, i + 1, v, a, b, hb, hf => FAt.last r h.2 i v a b hb hf
section
variable {P : Program} {ops : Array Oper} {Q : Exit → Act → World → Prop}
/-- A region that draws its order, where nothing but new memory is written: p is what is known of the world. -/
theorem weaveB_ {id : Nat} {a0 : Act} {w : World} (p : World → Prop) (hp : Lasts p) (h0 : p w) (ds : List (Tmp × Nat)) (Fs : List (Value → World → Prop)) (hm : P.follows .mixedOrders = true) (hB : weaveB ops ds = true) (hF : LastAll Fs)
  (hstep : OpsAll (fun i o => ∀ vs W, p W → (∀ j ∈ waitsOn o, FAt Fs j (vs j) W) → ∀ b, Sees a0 ds o vs b → StepOK P ops o b W fun v W' => Below W.heap.size W W' ∧ FAt Fs i v W') ops.toList 0)
  (hend : ∀ (vs : Nat → Value) W, p W → (∀ j, j < ops.size → FAt Fs j (vs j) W) → Q .normal (putL a0 (ds.map fun q => (q.1, vs q.2))) W) : (Code.region id ops true).wp P Q a0 w :=
 weaveR (fun a b => Below a.heap.size a b) (FAt Fs) ds hm hB (fun w => Below.refl _ _) (fun a b c h k => h.trans (k.mono h.size)) (fun i v a b h => FAt.last Fs hF i v a b h)
  (OpsAll.imp (fun i o h vs W hW hv => h vs W (hp _ _ hW (hp _ _ (drew_below w) h0)) hv) _ _ hstep) (fun vs W hW hv => hend vs W (hp _ _ hW (hp _ _ (drew_below w) h0)) hv)
end

/-- What is known of a value: it lasts as memory is made; what it leads to lies in ok, and no store elsewhere touches it. -/
structure Good (F : Value → World → (Nat → Prop) → Prop) : Prop where
 last : ∀ v ok W W', Below W.heap.size W W' → F v W ok → F v W' ok
 mono : ∀ v W ok ok', (∀ k, ok k → ok' k) → F v W ok → F v W ok'
 bound : ∀ v W ok, F v W ok → F v W fun k => ok k ∧ k < W.heap.size
 far : ∀ v W W' ok g, Put1 g W W' → ¬ ok g → F v W ok → F v W' ok
section
variable {P : Program} {ops : Array Oper} {Q : Exit → Act → World → Prop}
end
end Go.Proofs.YtendbgedpjcocaaGreatDoor.B
/- A drawn region whose last operation, or last two, behind all others, do whatever they do (append, store, a call that writes). -/
namespace Go.Proofs.YtendbgedpjcocaaGreatDoor.B
open Go Go.RowKit

section
variable {P : Program} {ops : Array Oper} {Q : Exit → Act → World → Prop} {md : Region.Mode}
/-- What stands before the operations of L, as far as n steps reach. -/
def reachW (ops : Array Oper) : Nat → List Nat → List Nat
 | 0, L => L
 | n + 1, L => reachW ops n (L ++ L.flatMap fun i => match ops[i]? with | some o => waitsOn o | none => []).eraseDups
theorem reachW_all {l : Nat → Bool} (hd : ∀ (i : Nat) (o : Oper), ops[i]? = some o → l i = true → ∀ j ∈ waitsOn o, l j = true) : ∀ (n : Nat) (L : List Nat), (∀ j ∈ L, l j = true) → ∀ j ∈ reachW ops n L, l j = true := by
 intro n
 induction n with
 | zero => exact fun _ h => h
 | succ n ih =>
  intro L h
  refine ih _ fun j hj => ?_
  rw [List.mem_eraseDups, List.mem_append] at hj
  rcases hj with hj | hj
  ·exact h j hj
  ·obtain ⟨i, hi, hji⟩ := List.mem_flatMap.1 hj
   cases ho : ops[i]? with
   | none => rw [ho] at hji; cases hji
   | some o => rw [ho] at hji; exact hd i o ho (h i hi) j hji
/-- A drawn region that makes memory, and whose last operation, behind all others, does whatever it does. -/
theorem weaveLast_ {id : Nat} {a0 : Act} {w : World} (m : Nat) (hm1 : ops.size = m + 1) (p : World → Prop) (hp : Lasts p) (h0 : p w) (ds : List (Tmp × Nat)) (Fs : List (Value → World → Prop)) (hm : P.follows .mixedOrders = true) (hB : weaveB ops ds = true) (hF : LastAll Fs)
  (hall : (match ops[m]? with | some o => (List.range m).all fun j => (reachW ops m (waitsOn o)).contains j | none => false) = true)
  (hwait : ((List.range m).all fun i => match ops[i]? with | some o => (waitsOn o).all fun j => decide (j < m) | none => true) = true)
  (hstep : OpsAll (fun i o => i < m → ∀ vs W, p W → (∀ j ∈ waitsOn o, FAt Fs j (vs j) W) → ∀ b, Sees a0 ds o vs b → StepOK P ops o b W fun v W' => Below W.heap.size W W' ∧ FAt Fs i v W') ops.toList 0)
  (Ψ : Value → World → Prop) (hlast : ∀ o, ops[m]? = some o → ∀ vs W, p W → (∀ j, j < m → FAt Fs j (vs j) W) → ∀ b, Sees a0 ds o vs b → StepOK P ops o b W Ψ)
  (hend : ∀ (vs : Nat → Value) W, Ψ (vs m) W → Q .normal (putL a0 (ds.map fun q => (q.1, vs q.2))) W) : (Code.region id ops true).wp P Q a0 w := by
 refine weave (fun l vs W => (∀ (i : Nat) (o : Oper), ops[i]? = some o → l i = true → ∀ j ∈ waitsOn o, l j = true) ∧ (l m = false → p W ∧ ∀ j, j < m → l j = true → FAt Fs j (vs j) W) ∧ (l m = true → Ψ (vs m) W)) ds hm hB ?_ ?_ ?_
 ·exact ⟨(fun _ _ _ h => absurd h (by simp)), (fun _ => ⟨hp _ _ (drew_below w) h0, (fun _ _ h => absurd h (by simp))⟩), (fun h => absurd h (by simp))⟩
 ·intro i o ho l vs W ⟨hc, hI, _⟩ hli hw b hsee
  have hlt := (Array.getElem?_eq_some_iff.1 ho).1
  obtain ⟨om, hom⟩ : ∃ o, ops[m]? = some o := ⟨ops[m], by simp [show m < ops.size by omega]⟩
  have hbelow : (∀ j ∈ waitsOn om, l j = true) → ∀ j, j < m → l j = true := fun hh j hj => by
   rw [hom] at hall
   exact reachW_all hc m _ hh j (by simpa using List.all_eq_true.1 hall j (List.mem_range.2 hj))
  have hdc : ∀ (i' : Nat) (o' : Oper), ops[i']? = some o' → (i' == i || l i') = true → ∀ j ∈ waitsOn o', (j == i || l j) = true := by
   intro i' o' ho' hh j hj
   by_cases hii : i' = i
   ·subst hii
    have : o' = o := Option.some.inj (ho'.symm.trans ho)
    subst this
    simp [hw j hj]
   ·have : l i' = true := by simpa [hii] using hh
    simp [hc i' o' ho' this j hj]
  by_cases hin : i < m
  ·have hlm : l m = false := by
    cases hq : l m with
    | false => rfl
    | true => rw [hbelow (hc m om hom hq) i hin] at hli; cases hli
   obtain ⟨h1, h2⟩ := hI hlm
   have hst := OpsAll.at ops.toList 0 hstep i o (by rw [Array.getElem?_toList]; exact ho)
   rw [Nat.zero_add] at hst
   have hmi : (m == i) = false := by simp; omega
   intro K Q' hK
   refine hst hin vs W h1 (fun j hj => ?_) b hsee K Q' fun v W' hv => hK v W' ⟨hdc, fun _ => ⟨hp _ _ hv.1 h1, fun j hj hlj => ?_⟩, fun hh => by simp [hmi, hlm] at hh⟩
   ·have hjm : j < m := by
     have := List.all_eq_true.1 hwait i (List.mem_range.2 hin)
     rw [ho] at this
     simpa using List.all_eq_true.1 this j hj
    exact h2 j hjm (hw j hj)
   ·by_cases hji : j = i
    ·subst hji
     simpa using hv.2
    ·simp only [hji, if_false]
     exact FAt.last Fs hF j _ _ _ hv.1 (h2 j hj (by simpa [hji] using hlj))
  ·have him : i = m := by omega
   subst him
   obtain ⟨h1, h2⟩ := hI hli
   have : o = om := Option.some.inj (ho.symm.trans hom)
   subst this
   have hl := hbelow hw
   intro K Q' hK
   exact hlast o ho vs W h1 (fun j hj => h2 j hj (hl j hj)) b hsee K Q' fun v W' hv => hK v W' ⟨hdc, fun hh => by simp at hh, fun _ => by simpa using hv⟩
 ·intro l vs W hl hI
  exact hend vs W (hI.2.2 (hl m (by omega)))
/-- A drawn region that makes memory, and whose last two operations, behind all others, do whatever they do, one behind the other. -/
theorem weaveTail_ {id : Nat} {a0 : Act} {w : World} (m : Nat) (hm1 : ops.size = m + 2) (p : World → Prop) (hp : Lasts p) (h0 : p w) (ds : List (Tmp × Nat)) (Fs : List (Value → World → Prop)) (hm : P.follows .mixedOrders = true) (hB : weaveB ops ds = true) (hF : LastAll Fs)
  (hall : (match ops[m]? with | some o => (List.range m).all fun j => (reachW ops m (waitsOn o)).contains j | none => false) = true)
  (hall2 : (match ops[m + 1]? with | some o => (waitsOn o).contains m | none => false) = true)
  (hwait : ((List.range m).all fun i => match ops[i]? with | some o => (waitsOn o).all fun j => decide (j < m) | none => true) = true)
  (hstep : OpsAll (fun i o => i < m → ∀ vs W, p W → (∀ j ∈ waitsOn o, FAt Fs j (vs j) W) → ∀ b, Sees a0 ds o vs b → StepOK P ops o b W fun v W' => Below W.heap.size W W' ∧ FAt Fs i v W') ops.toList 0)
  (Ψ Φ : Value → World → Prop) (hlast : ∀ o, ops[m]? = some o → ∀ vs W, p W → (∀ j, j < m → FAt Fs j (vs j) W) → ∀ b, Sees a0 ds o vs b → StepOK P ops o b W Ψ)
  (hlast2 : ∀ o, ops[m + 1]? = some o → ∀ vs W, Ψ (vs m) W → ∀ b, Sees a0 ds o vs b → StepOK P ops o b W Φ)
  (hend : ∀ (vs : Nat → Value) W, Φ (vs (m + 1)) W → Q .normal (putL a0 (ds.map fun q => (q.1, vs q.2))) W) : (Code.region id ops true).wp P Q a0 w := by
 refine weave (fun l vs W => (∀ (i : Nat) (o : Oper), ops[i]? = some o → l i = true → ∀ j ∈ waitsOn o, l j = true) ∧ (l m = false → p W ∧ ∀ j, j < m → l j = true → FAt Fs j (vs j) W) ∧ (l m = true → l (m + 1) = false → Ψ (vs m) W) ∧ (l (m + 1) = true → Φ (vs (m + 1)) W)) ds hm hB ?_ ?_ ?_
 ·exact ⟨(fun _ _ _ h => absurd h (by simp)), (fun _ => ⟨hp _ _ (drew_below w) h0, (fun _ _ h => absurd h (by simp))⟩), (fun h => absurd h (by simp)), (fun h => absurd h (by simp))⟩
 ·intro i o ho l vs W ⟨hc, hI, hJ, _⟩ hli hw b hsee
  have hlt := (Array.getElem?_eq_some_iff.1 ho).1
  have hom : ∃ o, ops[m]? = some o := ⟨ops[m], by simp [show m < ops.size by omega]⟩
  obtain ⟨om, hom⟩ := hom
  have hom1 : ∃ o, ops[m + 1]? = some o := ⟨ops[m + 1], by simp [show m + 1 < ops.size by omega]⟩
  obtain ⟨om1, hom1⟩ := hom1
  have hbelow : (∀ j ∈ waitsOn om, l j = true) → ∀ j, j < m → l j = true := fun hh j hj => by
   rw [hom] at hall
   exact reachW_all hc m _ hh j (by simpa using List.all_eq_true.1 hall j (List.mem_range.2 hj))
  have hm1m : l (m + 1) = true → l m = true := fun hh => hc _ _ hom1 hh m (by rw [hom1] at hall2; simpa using hall2)
  have hdc : ∀ (i' : Nat) (o' : Oper), ops[i']? = some o' → (i' == i || l i') = true → ∀ j ∈ waitsOn o', (j == i || l j) = true := by
   intro i' o' ho' hh j hj
   by_cases hii : i' = i
   ·subst hii
    have : o' = o := Option.some.inj (ho'.symm.trans ho)
    subst this
    simp [hw j hj]
   ·have : l i' = true := by simpa [hii] using hh
    simp [hc i' o' ho' this j hj]
  by_cases hin : i < m
  ·have hlm : l m = false := by
    cases hq : l m with
    | false => rfl
    | true => rw [hbelow (hc m om hom hq) i hin] at hli; cases hli
   have hlm1 : l (m + 1) = false := by
    cases hq : l (m + 1) with
    | false => rfl
    | true => rw [hm1m hq] at hlm; cases hlm
   obtain ⟨h1, h2⟩ := hI hlm
   have hst := OpsAll.at ops.toList 0 hstep i o (by rw [Array.getElem?_toList]; exact ho)
   rw [Nat.zero_add] at hst
   have hmi : (m == i) = false := by simp; omega
   have hmi1 : (m + 1 == i) = false := by simp; omega
   intro K Q' hK
   refine hst hin vs W h1 (fun j hj => ?_) b hsee K Q' fun v W' hv => hK v W' ⟨hdc, fun _ => ⟨hp _ _ hv.1 h1, fun j hj hlj => ?_⟩, fun hh => by simp [hmi, hlm] at hh, fun hh => by simp [hmi1, hlm1] at hh⟩
   ·have hjm : j < m := by
     have := List.all_eq_true.1 hwait i (List.mem_range.2 hin)
     rw [ho] at this
     simpa using List.all_eq_true.1 this j hj
    exact h2 j hjm (hw j hj)
   ·by_cases hji : j = i
    ·subst hji
     simpa using hv.2
    ·simp only [hji, if_false]
     exact FAt.last Fs hF j _ _ _ hv.1 (h2 j hj (by simpa [hji] using hlj))
  ·by_cases him : i = m
   ·subst him
    have hlm1 : l (i + 1) = false := by
     cases hq : l (i + 1) with
     | false => rfl
     | true => rw [hm1m hq] at hli; cases hli
    have : o = om := Option.some.inj (ho.symm.trans hom)
    subst this
    obtain ⟨h1, h2⟩ := hI hli
    intro K Q' hK
    exact hlast o ho vs W h1 (fun j hj => h2 j hj (hbelow hw j hj)) b hsee K Q' fun v W' hv => hK v W' ⟨hdc, fun hh => by simp at hh, fun _ _ => by simpa using hv, fun hh => by simp [hlm1] at hh⟩
   ·have hi1 : i = m + 1 := by omega
    subst hi1
    have : o = om1 := Option.some.inj (ho.symm.trans hom1)
    subst this
    have hlm : l m = true := hw m (by rw [hom1] at hall2; simpa using hall2)
    intro K Q' hK
    refine hlast2 o ho vs W (hJ hlm hli) b hsee K Q' fun v W' hv => hK v W' ⟨hdc, fun hh => by simp [hlm] at hh, fun _ hh => by simp at hh, fun _ => by simpa using hv⟩
 ·intro l vs W hl hI
  exact hend vs W (hI.2.2.2 (hl (m + 1) (by omega)))
/-- A drawn region that makes memory, whose values at S own new memory, each its own, and whose last two operations, behind all others, do whatever they do. -/
theorem weaveFresh_ {id : Nat} {a0 : Act} {w : World} (S : List Nat) (m : Nat) (hS : (S.all fun j => decide (j < m)) = true) (hm1 : ops.size = m + 2) (p : World → Prop) (hp : Lasts p) (h0 : p w) (ds : List (Tmp × Nat)) (Fs : List (Value → World → Prop)) (hm : P.follows .mixedOrders = true) (hB : weaveB ops ds = true) (hF : LastAll Fs)
  (hall : (match ops[m]? with | some o => (List.range m).all fun j => (reachW ops m (waitsOn o)).contains j | none => false) = true)
  (hall2 : (match ops[m + 1]? with | some o => (waitsOn o).contains m | none => false) = true)
  (hwait : ((List.range m).all fun i => match ops[i]? with | some o => (waitsOn o).all fun j => decide (j < m) | none => true) = true)
  (hstep : OpsAll (fun i o => i < m → ∀ vs W, p W → (∀ j ∈ waitsOn o, FAt Fs j (vs j) W) → ∀ b, Sees a0 ds o vs b → StepOK P ops o b W fun v W' => Below W.heap.size W W' ∧ FAt Fs i v W' ∧ (S.contains i = true → ∀ k, v.ownBlock = some k → W.heap.size ≤ k)) ops.toList 0)
  (hltS : ∀ j ∈ S, ∀ v W, FAt Fs j v W → ∀ k, v.ownBlock = some k → k < W.heap.size)
  (Ψ Φ : Value → World → Prop) (hlast : ∀ o, ops[m]? = some o → ∀ vs W, p W → (∀ j, j < m → FAt Fs j (vs j) W) → (∀ i ∈ S, ∀ j ∈ S, i ≠ j → ∀ k, (vs i).ownBlock = some k → (vs j).ownBlock ≠ some k) → ∀ b, Sees a0 ds o vs b → StepOK P ops o b W Ψ)
  (hlast2 : ∀ o, ops[m + 1]? = some o → ∀ vs W, Ψ (vs m) W → ∀ b, Sees a0 ds o vs b → StepOK P ops o b W Φ)
  (hend : ∀ (vs : Nat → Value) W, Φ (vs (m + 1)) W → Q .normal (putL a0 (ds.map fun q => (q.1, vs q.2))) W) : (Code.region id ops true).wp P Q a0 w := by
 refine weave (fun l vs W => (∀ (i : Nat) (o : Oper), ops[i]? = some o → l i = true → ∀ j ∈ waitsOn o, l j = true) ∧ (l m = false → (p W ∧ ∀ j, j < m → l j = true → FAt Fs j (vs j) W) ∧ (∀ i ∈ S, ∀ j ∈ S, i ≠ j → l i = true → l j = true → ∀ k, (vs i).ownBlock = some k → (vs j).ownBlock ≠ some k)) ∧ (l m = true → l (m + 1) = false → Ψ (vs m) W) ∧ (l (m + 1) = true → Φ (vs (m + 1)) W)) ds hm hB ?_ ?_ ?_
 ·exact ⟨(fun _ _ _ h => absurd h (by simp)), (fun _ => ⟨⟨hp _ _ (drew_below w) h0, (fun _ _ h => absurd h (by simp))⟩, fun _ _ _ _ _ h => absurd h (by simp)⟩), (fun h => absurd h (by simp)), (fun h => absurd h (by simp))⟩
 ·intro i o ho l vs W ⟨hc, hI, hJ, _⟩ hli hw b hsee
  have hlt := (Array.getElem?_eq_some_iff.1 ho).1
  have hom : ∃ o, ops[m]? = some o := ⟨ops[m], by simp [show m < ops.size by omega]⟩
  obtain ⟨om, hom⟩ := hom
  have hom1 : ∃ o, ops[m + 1]? = some o := ⟨ops[m + 1], by simp [show m + 1 < ops.size by omega]⟩
  obtain ⟨om1, hom1⟩ := hom1
  have hbelow : (∀ j ∈ waitsOn om, l j = true) → ∀ j, j < m → l j = true := fun hh j hj => by
   rw [hom] at hall
   exact reachW_all hc m _ hh j (by simpa using List.all_eq_true.1 hall j (List.mem_range.2 hj))
  have hm1m : l (m + 1) = true → l m = true := fun hh => hc _ _ hom1 hh m (by rw [hom1] at hall2; simpa using hall2)
  have hdc : ∀ (i' : Nat) (o' : Oper), ops[i']? = some o' → (i' == i || l i') = true → ∀ j ∈ waitsOn o', (j == i || l j) = true := by
   intro i' o' ho' hh j hj
   by_cases hii : i' = i
   ·subst hii
    have : o' = o := Option.some.inj (ho'.symm.trans ho)
    subst this
    simp [hw j hj]
   ·have : l i' = true := by simpa [hii] using hh
    simp [hc i' o' ho' this j hj]
  by_cases hin : i < m
  ·have hlm : l m = false := by
    cases hq : l m with
    | false => rfl
    | true => rw [hbelow (hc m om hom hq) i hin] at hli; cases hli
   have hlm1 : l (m + 1) = false := by
    cases hq : l (m + 1) with
    | false => rfl
    | true => rw [hm1m hq] at hlm; cases hlm
   obtain ⟨⟨h1, h2⟩, hap⟩ := hI hlm
   have hst := OpsAll.at ops.toList 0 hstep i o (by rw [Array.getElem?_toList]; exact ho)
   rw [Nat.zero_add] at hst
   have hmi : (m == i) = false := by simp; omega
   have hmi1 : (m + 1 == i) = false := by simp; omega
   intro K Q' hK
   refine hst hin vs W h1 (fun j hj => ?_) b hsee K Q' fun v W' hv => hK v W' ⟨hdc, fun _ => ⟨⟨hp _ _ hv.1 h1, fun j hj hlj => ?_⟩, fun x hx y hy hxy hlx hly k hk => ?_⟩, fun hh => by simp [hmi, hlm] at hh, fun hh => by simp [hmi1, hlm1] at hh⟩
   ·have hjm : j < m := by
     have := List.all_eq_true.1 hwait i (List.mem_range.2 hin)
     rw [ho] at this
     simpa using List.all_eq_true.1 this j hj
    exact h2 j hjm (hw j hj)
   ·by_cases hji : j = i
    ·subst hji
     simpa using hv.2.1
    ·simp only [hji, if_false]
     exact FAt.last Fs hF j _ _ _ hv.1 (h2 j hj (by simpa [hji] using hlj))
   ·have hxm : x < m := of_decide_eq_true (List.all_eq_true.1 hS x hx)
    have hym : y < m := of_decide_eq_true (List.all_eq_true.1 hS y hy)
    by_cases hxi : x = i
    ·have hyi : y ≠ i := fun e => hxy (hxi.trans e.symm)
     simp only [hxi, if_true] at hk
     simp only [hyi, if_false]
     intro hk'
     have q1 := hv.2.2 (by rw [← hxi]; exact List.contains_iff_mem.2 hx) k hk
     have q2 := hltS y hy _ _ (h2 y hym (by simpa [hyi] using hly)) k hk'
     omega
    ·simp only [hxi, if_false] at hk
     by_cases hyi : y = i
     ·simp only [hyi, if_true]
      intro hk'
      have q1 := hv.2.2 (by rw [← hyi]; exact List.contains_iff_mem.2 hy) k hk'
      have q2 := hltS x hx _ _ (h2 x hxm (by simpa [hxi] using hlx)) k hk
      omega
     ·simp only [hyi, if_false]
      exact hap x hx y hy hxy (by simpa [hxi] using hlx) (by simpa [hyi] using hly) k hk
  ·by_cases him : i = m
   ·subst him
    have hlm1 : l (i + 1) = false := by
     cases hq : l (i + 1) with
     | false => rfl
     | true => rw [hm1m hq] at hli; cases hli
    have : o = om := Option.some.inj (ho.symm.trans hom)
    subst this
    obtain ⟨⟨h1, h2⟩, hap⟩ := hI hli
    intro K Q' hK
    exact hlast o ho vs W h1 (fun j hj => h2 j hj (hbelow hw j hj)) (fun x hx y hy hxy => hap x hx y hy hxy (hbelow hw x (of_decide_eq_true (List.all_eq_true.1 hS x hx))) (hbelow hw y (of_decide_eq_true (List.all_eq_true.1 hS y hy)))) b hsee K Q' fun v W' hv => hK v W' ⟨hdc, fun hh => by simp at hh, fun _ _ => by simpa using hv, fun hh => by simp [hlm1] at hh⟩
   ·have hi1 : i = m + 1 := by omega
    subst hi1
    have : o = om1 := Option.some.inj (ho.symm.trans hom1)
    subst this
    have hlm : l m = true := hw m (by rw [hom1] at hall2; simpa using hall2)
    intro K Q' hK
    refine hlast2 o ho vs W (hJ hlm hli) b hsee K Q' fun v W' hv => hK v W' ⟨hdc, fun hh => by simp [hlm] at hh, fun _ hh => by simp at hh, fun _ => by simpa using hv⟩
 ·intro l vs W hl hI
  exact hend vs W (hI.2.2.2 (hl (m + 1) (by omega)))
end
end Go.Proofs.YtendbgedpjcocaaGreatDoor.B
/- impl.count: the walk. -/
namespace Go.Proofs.YtendbgedpjcocaaGreatDoor.B
open Go.RowKit Go.Shelf Go.Proofs.YtendbgedpjcocaaGreatDoorW.PrintWords Go.Proofs.YtendbgedpjcocaaGreatDoorW.PrintLast Go.Proofs.YtendbgedpjcocaaGreatDoorW.PrintMore
set_option linter.unusedVariables false

def stepD : Nat → St → Int → Bool × Int
 | 0, _, m => (false, m + 1)
 | d + 1, s, m => cntStep d s m
theorem stepD_stop (d : Nat) (l : List St) (m : Int) : l.foldl (fun r s => if r.1 then stepD d s r.2 else r) (false, m) = (false, m) := by
 induction l with
 | nil => rfl
 | cons a l ih => exact ih
theorem countL_fold (d : Nat) (l : List St) (m : Int) : countL d l m = l.foldl (fun r s => if r.1 then stepD d s r.2 else r) (true, m) := by
 cases d with
 | succ d => rfl
 | zero =>
  cases l with
  | nil => rfl
  | cons a l => rw [List.foldl_cons]; exact (stepD_stop 0 l (m + 1)).symm
theorem count_take (d : Nat) (l : List St) (m : Int) (j : Nat) (hj : j < l.length) (n : Int) (h : countL d (l.take j) m = (true, n)) : countL d (l.take (j + 1)) m = stepD d l[j] n := by
 rw [countL_fold] at h ⊢
 rw [List.take_succ_eq_append_getElem hj, List.foldl_append, h]; rfl
theorem count_stop (d : Nat) (l : List St) (m : Int) (j : Nat) (hj : j < l.length) (n n' : Int) (h : countL d (l.take j) m = (true, n)) (hs : stepD d l[j] n = (false, n')) : countL d l m = (false, n') := by
 have h1 := count_take d l m j hj n h
 rw [hs, countL_fold] at h1
 rw [countL_fold, ← List.take_append_drop (j + 1) l, List.foldl_append, h1, stepD_stop]
structure CntEnd (w0 w : World) (gm : Nat) (r : Bool × Int) (e : Ending) (w' : World) : Prop where
 e : e = .returned (.bool r.1)
 box : Boxed w' gm 3 (.int .i64 r.2)
 below : Below w0.heap.size w0 w'
 keep : KeepBut w w' gm none
def CntCon (d : Nat) : Prop := ∀ (l : List St) (A : Option Addr) (c gm : Nat) (deep m : Int) (w0 w : World), deep = 4 - d → 0 ≤ m → m ≤ 16 → w0.heap.size ≤ gm → Boxed w gm 3 (.int .i64 m) → Below w0.heap.size w0 w → Kd.C stK w0 A l.length l → l.length ≤ c →
 Calls Tryz.prog 67 #[.slice A l.length c, .int .i64 deep, .pointer (some ⟨gm, 0, none⟩)] w (CntEnd w0 w gm (countL d l m))
set_option maxRecDepth 100000 in
set_option maxHeartbeats 8000000 in
theorem count_step (hok : OkCon) (d : Nat) (hd : d ≤ 4) (ih : ∀ d', d = d' + 1 → CntCon d') : CntCon d := by
 intro l A c gm deep m w0 w hdeep hm0 hm1 hg hbox hB hC hc
 have hmax : l.length ≤ 9223372036854775807 := hC.2.1
 have HI := Aside0.mk (And.intro hdeep (And.intro hd (And.intro hm0 (And.intro hm1 (And.intro hg (And.intro hB (And.intro hC (And.intro hc hmax))))))))
 have HBX := Aside0.mk hbox
 clear hdeep hm0 hm1 hg hbox hB hC
 go_enter Tryz.func67, Tryz.ntmps67
 go_wp2
 go_loopw [8, 9, 12] (fun _ _ i wr => ∃ (j : Nat), i = .int .i64 j ∧ Aside0 (j ≤ l.length ∧ (∃ n, countL d (l.take j) m = (true, n) ∧ Boxed wr gm 3 (.int .i64 n)) ∧ Below w0.heap.size w0 wr ∧ KeepBut w wr gm none)) (fun _ _ i _ => l.length - (intOf i).toNat)
 case atStart => exact ⟨0, rfl, ⟨Nat.zero_le _, ⟨m, by cases d <;> rfl, HBX.out⟩, HI.out.2.2.2.2.2.1, KeepBut.refl _ _ _⟩⟩
 case round =>
  obtain ⟨j, rfl, HR⟩ := hrel
  by_cases hj : j < l.length
  ·obtain ⟨ad, A7, c7, A8, c8, A9, c9, hA, e0, e1, e2, e3, e4, e5, e6, e7, e8, e9, hl7, hi7, hl8, hi8, hl9, hi9⟩ := at_T35 HI.out.2.2.2.2.2.2.1 (j : Int) (by omega) (by omega)
   cases hA
   have hkid : rd_T35 l (j : Int) = l[j] := by simp [rd_T35, hj]
   have hb := HR.out.2.2.1
   replace e0 := (hb.cell (World.block_lt_of_cell? w0 _ e0)).trans e0
   replace e1 := (hb.cell (World.block_lt_of_cell? w0 _ e1)).trans e1
   replace e2 := (hb.cell (World.block_lt_of_cell? w0 _ e2)).trans e2
   replace e3 := (hb.cell (World.block_lt_of_cell? w0 _ e3)).trans e3
   replace e4 := (hb.cell (World.block_lt_of_cell? w0 _ e4)).trans e4
   replace e5 := (hb.cell (World.block_lt_of_cell? w0 _ e5)).trans e5
   replace e6 := (hb.cell (World.block_lt_of_cell? w0 _ e6)).trans e6
   replace e7 := (hb.cell (World.block_lt_of_cell? w0 _ e7)).trans e7
   replace e8 := (hb.cell (World.block_lt_of_cell? w0 _ e8)).trans e8
   replace e9 := (hb.cell (World.block_lt_of_cell? w0 _ e9)).trans e9
   rw [hkid] at e0 e1 e2 e3 e4 e5 e6 e7 e8 e9 hl7 hi7 hl8 hi8 hl9 hi9
   simp only [Int.toNat_natCast] at e0 e1 e2 e3 e4 e5 e6 e7 e8 e9
   obtain ⟨x, hx⟩ : ∃ x, x = l[j] := ⟨_, rfl⟩
   rw [← hx] at e0 e1 e2 e3 e4 e5 e6 e7 e8 e9 hl7 hi7 hl8 hi8 hl9 hi9
   obtain ⟨n, hn, hbn⟩ := HR.out.2.1
   have hmn := count_in d (l.take j) m HI.out.2.2.2.1
   rw [hn] at hmn
   have n16 : n ≤ 16 := (hmn.1 rfl).1
   have n0 : 0 ≤ n := by have h1 := (hmn.1 rfl).2; have h2 := HI.out.2.2.1; exact Int.le_trans h2 h1
   have HX := Aside0.mk (And.intro hx (And.intro hj (And.intro hn (And.intro n0 n16))))
   have HC := Aside0.mk (And.intro hi7 (And.intro hl7 (And.intro hi8 (And.intro hl8 (And.intro hi9 hl9)))))
   have HBN := Aside0.mk hbn
   clear hb hkid hx hi7 hl7 hi8 hl8 hi9 hl9 hn hbn hmn n0 n16
   go_upto_region 4 with (fail)
   have j1 := heap_alloc_new wr (.cells (stCells x A7 c7 A8 c8 A9 c9) 35)
   have hb1 : Below wr.heap.size wr (wr.alloc (.cells (stCells x A7 c7 A8 c8 A9 c9) 35)) := (Below.refl _ _).alloc (Nat.le_refl _) _
   unfold stCells at j1 hb1
   generalize wr.alloc (.cells #[.int .i64 x.f0, .int .i64 x.f1.f0, .int .i64 x.f1.f1, .int .i64 x.f2.f0, .int .i64 x.f2.f1, .int .i64 x.f2.f2.f0, .int .i64 x.f2.f2.f1, .slice A7 x.f2.f3.length c7, .slice A8 x.f3.length c8, .slice A9 x.f4.length c9] 35) = W1 at j1 hb1 ⊢
   have q0 : W1.cell? ⟨gm, 0, none⟩ = some (.int .i64 n) := Boxed.cell ((hb1.block _ HBN.out.lt).trans HBN.out)
   have q1 : W1.frozen? ⟨gm, 0, none⟩ = false := Boxed.frozen ((hb1.block _ HBN.out.lt).trans HBN.out)
   have n0 := HX.out.2.2.2.1
   have n16 := HX.out.2.2.2.2
   clear e0 e1 e2 e3 e4 e5 e6 e7 e8 e9
   go_upto_region 5 with (fail)
   have hgw : wr.heap.size ≠ gm := by have := HBN.out.lt; omega
   have j2 : (W1.setCell ⟨gm, 0, none⟩ (.int .i64 (n + 1))).heap[wr.heap.size]? = _ := blk_far j1 hgw _
   have bx2 : Boxed (W1.setCell ⟨gm, 0, none⟩ (.int .i64 (n + 1))) gm 3 (.int .i64 (n + 1)) := Boxed.set _ ((hb1.block _ HBN.out.lt).trans HBN.out)
   have hB2 : Below w0.heap.size w0 (W1.setCell ⟨gm, 0, none⟩ (.int .i64 (n + 1))) := below_set (HR.out.2.2.1.trans (hb1.mono HR.out.2.2.1.size)) HI.out.2.2.2.2.1
   have hK2 : KeepBut w (W1.setCell ⟨gm, 0, none⟩ (.int .i64 (n + 1))) gm none := KeepBut.set_ (HR.out.2.2.2.trans (KeepBut.of_below hb1 gm none) (.inl rfl)) 0 _
   generalize W1.setCell ⟨gm, 0, none⟩ (.int .i64 (n + 1)) = W2 at j2 bx2 hB2 hK2 ⊢
   have HW2 := Aside0.mk (And.intro j2 (And.intro bx2 (And.intro hB2 hK2)))
   have HG := Aside0.mk hgw
   clear q0 q1 j1 hb1 bx2 hB2 hK2 hgw
   obtain ⟨e0, e1, e2, e3, e4, e5, e6, e7, e8, e9, _⟩ := cel10 j2
   clear j2
   go_wp2_with fail
   refine (doing_any x A7 c7 A8 c8 A9 c9 W2).mono ?_
   rintro e w1 ⟨rfl, hb2⟩
   have j3 := (hb2.block _ (blk_lt HW2.out.1)).trans HW2.out.1
   have bx3 : Boxed w1 gm 3 (.int .i64 (n + 1)) := (hb2.block _ HW2.out.2.1.lt).trans HW2.out.2.1
   have q0 := Boxed.cell bx3
   have HW3 := Aside0.mk (And.intro j3 (And.intro bx3 (And.intro (HW2.out.2.2.1.trans (hb2.mono HW2.out.2.2.1.size)) (HW2.out.2.2.2.trans (KeepBut.of_below hb2 gm none) (.inl rfl)))))
   clear hb2 bx3 e0 e1 e2 e3 e4 e5 e6 e7 e8 e9 HW2 HBN
   obtain ⟨e0, e1, e2, e3, e4, e5, e6, e7, e8, e9, _⟩ := cel10 j3
   clear j3
   have HDV := Aside0.mk (show n + 1 > 16 → doV x A7 c7 A8 c8 A9 c9 = doV x A7 c7 A8 c8 A9 c9 from fun _ => rfl)
   by_cases h16 : n + 1 > 16
   ·have b16 : decide (16 < n + 1) = true := decide_eq_true h16
    have HS : Aside0 (stepD d x n = (false, n + 1)) := Aside0.mk (by
     cases d with
     | zero => rfl
     | succ d => show cntStep d x n = _; rw [cntStep, if_pos (by rw [decide_eq_true h16]; rfl)])
    clear h16
    obtain ⟨v, hv⟩ : ∃ v, v = doV x A7 c7 A8 c8 A9 c9 := ⟨_, rfl⟩
    rw [← hv]
    clear hv
    go_wp2
    go_ret
    exact ⟨by rw [count_stop d l m j HX.out.2.1 n (n + 1) HX.out.2.2.1 (by rw [← HX.out.1]; exact HS.out)]; rfl, by rw [count_stop d l m j HX.out.2.1 n (n + 1) HX.out.2.2.1 (by rw [← HX.out.1]; exact HS.out)]; exact HW3.out.2.1, HW3.out.2.2.1, HW3.out.2.2.2⟩
   ·have b16 : decide (16 < n + 1) = false := decide_eq_false h16
    have H16 := Aside0.mk h16; clear h16 HDV
    by_cases hd0 : d = 0
    ·have hdp : deep = 4 := by have := HI.out.1; omega
     have b4 : decide (4 ≤ deep) = true := decide_eq_true (by omega)
     have HS : Aside0 (stepD d x n = (false, n + 1)) := Aside0.mk (by rw [hd0]; rfl)
     clear hd0 hdp
     obtain ⟨v, hv⟩ : ∃ v, v = doV x A7 c7 A8 c8 A9 c9 := ⟨_, rfl⟩
     rw [← hv]
     clear hv
     go_wp2
     go_ret
     exact ⟨by rw [count_stop d l m j HX.out.2.1 n (n + 1) HX.out.2.2.1 (by rw [← HX.out.1]; exact HS.out)]; rfl, by rw [count_stop d l m j HX.out.2.1 n (n + 1) HX.out.2.2.1 (by rw [← HX.out.1]; exact HS.out)]; exact HW3.out.2.1, HW3.out.2.2.1, HW3.out.2.2.2⟩
    ·obtain ⟨d', hd'⟩ : ∃ d', d = d' + 1 := ⟨d - 1, by omega⟩
     have hdp : ¬ (4 ≤ deep) := by have := HI.out.1; omega
     have b4 : decide (4 ≤ deep) = false := decide_eq_false hdp
     have HD := Aside0.mk (And.intro hd' (ih d' hd'))
     have HDP := Aside0.mk hdp
     clear hd0 hdp hd'
     by_cases hk : x.f0 = 1 ∨ x.f0 = 2 ∨ x.f0 = 3
     rotate_left
     ·have hnil := do_nil x A7 c7 A8 c8 A9 c9 hk
      have HS : Aside0 (stepD d x n = (false, n + 1)) := Aside0.mk (by
       rw [HD.out.1]; show cntStep d' x n = _; rw [cntStep, if_pos (by rw [headSt, hnil.2]; simp)])
      rw [hnil.1]
      clear hk hnil
      go_wp2
      go_ret
      exact ⟨by rw [count_stop d l m j HX.out.2.1 n (n + 1) HX.out.2.2.1 (by rw [← HX.out.1]; exact HS.out)]; rfl, by rw [count_stop d l m j HX.out.2.1 n (n + 1) HX.out.2.2.1 (by rw [← HX.out.1]; exact HS.out)]; exact HW3.out.2.1, HW3.out.2.2.1, HW3.out.2.2.2⟩
     ·obtain ⟨T, v, fp, hdo⟩ := do_is x A7 c7 A8 c8 A9 c9 hk
      rw [hdo.v']
      have hm := hdo.m
      have hep := hdo.ep
      have HDO := Aside0.mk hdo
      clear hk hdo
      have HP := Aside0.mk (HDO.out.cp w1 (Kd.C_below HC.out.1 HW3.out.2.2.1) HC.out.2.1 (Kd.C_below HC.out.2.2.1 HW3.out.2.2.1) HC.out.2.2.2.1 (Kd.C_below HC.out.2.2.2.2.1 HW3.out.2.2.1) HC.out.2.2.2.2.2)
      cases hp : plainL x with
      | false =>
       have HS : Aside0 (stepD d x n = (false, n + 1)) := Aside0.mk (by
        rw [HD.out.1]; show cntStep d' x n = _; rw [cntStep, if_pos (by rw [headSt, hp]; simp)])
       have HPL := Aside0.mk hp; clear hp
       go_wp2_with fail
       refine HP.out.mono ?_
       clear HP
       rintro e w2 ⟨rfl, hb3⟩
       rw [HPL.out]
       have j4 := (hb3.block _ (blk_lt HW3.out.1)).trans HW3.out.1
       have bx4 : Boxed w2 gm 3 (.int .i64 (n + 1)) := (hb3.block _ HW3.out.2.1.lt).trans HW3.out.2.1
       have HW4 := Aside0.mk (And.intro j4 (And.intro bx4 (And.intro (HW3.out.2.2.1.trans (hb3.mono HW3.out.2.2.1.size)) (HW3.out.2.2.2.trans (KeepBut.of_below hb3 gm none) (.inl rfl)))))
       clear hb3 bx4 q0 e0 e1 e2 e3 e4 e5 e6 e7 e8 e9 j4
       go_wp2
       go_ret
       exact ⟨by rw [count_stop d l m j HX.out.2.1 n (n + 1) HX.out.2.2.1 (by rw [← HX.out.1]; exact HS.out)]; rfl, by rw [count_stop d l m j HX.out.2.1 n (n + 1) HX.out.2.2.1 (by rw [← HX.out.1]; exact HS.out)]; exact HW4.out.2.1, HW4.out.2.2.1, HW4.out.2.2.2⟩
      | true =>
       have HPL := Aside0.mk hp; clear hp
       go_wp2_with fail
       refine HP.out.mono ?_
       clear HP
       rintro e w2 ⟨rfl, hb3⟩
       rw [HPL.out]
       have j4 := (hb3.block _ (blk_lt HW3.out.1)).trans HW3.out.1
       have bx4 : Boxed w2 gm 3 (.int .i64 (n + 1)) := (hb3.block _ HW3.out.2.1.lt).trans HW3.out.2.1
       have HW4 := Aside0.mk (And.intro j4 (And.intro bx4 (And.intro (HW3.out.2.2.1.trans (hb3.mono HW3.out.2.2.1.size)) (HW3.out.2.2.2.trans (KeepBut.of_below hb3 gm none) (.inl rfl)))))
       clear hb3 bx4 q0 e0 e1 e2 e3 e4 e5 e6 e7 e8 e9
       obtain ⟨e0, e1, e2, e3, e4, e5, e6, e7, e8, e9, _⟩ := cel10 j4
       clear j4
       go_wp2_with fail
       refine (hok x.f2 A7 c7 w2 (Kd.C_below HC.out.1 HW4.out.2.2.1) HC.out.2.1).mono ?_
       rintro e w3 ⟨rfl, hb3⟩
       have j4 := (hb3.block _ (blk_lt HW4.out.1)).trans HW4.out.1
       have bx4 : Boxed w3 gm 3 (.int .i64 (n + 1)) := (hb3.block _ HW4.out.2.1.lt).trans HW4.out.2.1
       have HW5 := Aside0.mk (And.intro j4 (And.intro bx4 (And.intro (HW4.out.2.2.1.trans (hb3.mono HW4.out.2.2.1.size)) (HW4.out.2.2.2.trans (KeepBut.of_below hb3 gm none) (.inl rfl)))))
       clear hb3 bx4 e0 e1 e2 e3 e4 e5 e6 e7 e8 e9
       cases ho : okL 0 (partsL x.f2) with
       | false =>
        have HS : Aside0 (stepD d x n = (false, n + 1)) := Aside0.mk (by
         rw [HD.out.1]; show cntStep d' x n = _; rw [cntStep, if_pos (by rw [headSt, ho, Bool.and_false]; simp)])
        have HO := Aside0.mk ho; clear ho j4
        go_wp2
        go_ret
        exact ⟨by rw [count_stop d l m j HX.out.2.1 n (n + 1) HX.out.2.2.1 (by rw [← HX.out.1]; exact HS.out)]; rfl, by rw [count_stop d l m j HX.out.2.1 n (n + 1) HX.out.2.2.1 (by rw [← HX.out.1]; exact HS.out)]; exact HW5.out.2.1, HW5.out.2.2.1, HW5.out.2.2.2⟩
       | true =>
        have HS : Aside0 (stepD d x n = let r1 := countL d' x.f3 (n + 1); if r1.1 then countL d' x.f4 r1.2 else r1) := Aside0.mk (by
         rw [HD.out.1]; show cntStep d' x n = _; rw [cntStep, if_neg (by rw [headSt, HPL.out, ho, decide_eq_false (show ¬ (16 < n + 1) by have := H16.out; omega)]; simp)])
        have HO := Aside0.mk ho; clear ho
        obtain ⟨e0, e1, e2, e3, e4, e5, e6, e7, e8, e9, _⟩ := cel10 j4
        clear j4
        have dl : deep ≤ 4 := by have := HDP.out; omega
        have d0 : 0 ≤ deep := by have h1 := HI.out.1; have h2 := HI.out.2.1; omega
        have n17 : n + 1 ≤ 16 := by have := H16.out; omega
        have HCALL := Aside0.mk (HD.out.2 x.f3 A8 c8 gm (deep + 1) (n + 1) w0 w3 (by have h1 := HI.out.1; have h2 := HD.out.1; omega) (by have := HX.out.2.2.2.1; omega) n17 HI.out.2.2.2.2.1 HW5.out.2.1 HW5.out.2.2.1 HC.out.2.2.1 HC.out.2.2.2.1)
        go_wp2_with fail
        refine HCALL.out.mono ?_
        clear HCALL
        rintro e w4 ⟨rfl, hbx, hB4, hK4⟩
        have j4 := hK4.blk HW5.out.1 HG.out (by simp)
        have HW6 := Aside0.mk (And.intro hbx (And.intro hB4 (HW5.out.2.2.2.trans hK4 (.inl rfl))))
        have HJ4 := Aside0.mk j4
        have hin := count_in d' x.f3 (n + 1) n17
        have HIN := Aside0.mk hin
        clear hbx hB4 hK4 e0 e1 e2 e3 e4 e5 e6 e7 e8 e9 n17 hin dl d0
        obtain ⟨r1, hr1⟩ : ∃ r1, r1 = countL d' x.f3 (n + 1) := ⟨_, rfl⟩
        rw [← hr1] at HW6 HIN ⊢
        have HS1 : Aside0 (stepD d x n = if r1.1 then countL d' x.f4 r1.2 else r1) := Aside0.mk (by rw [HS.out, ← hr1])
        clear HS hr1
        obtain ⟨b1, n1⟩ := r1
        cases b1 with
        | false =>
         clear j4
         have HS2 : Aside0 (stepD d x n = (false, n1)) := Aside0.mk (by rw [HS1.out]; rfl)
         go_wp2
         go_ret
         exact ⟨by rw [count_stop d l m j HX.out.2.1 n n1 HX.out.2.2.1 (by rw [← HX.out.1]; exact HS2.out)]; rfl, by rw [count_stop d l m j HX.out.2.1 n n1 HX.out.2.2.1 (by rw [← HX.out.1]; exact HS2.out)]; exact HW6.out.1, HW6.out.2.1, HW6.out.2.2⟩
        | true =>
         obtain ⟨e0, e1, e2, e3, e4, e5, e6, e7, e8, e9, _⟩ := cel10 j4
         clear j4
         have HS2 : Aside0 (stepD d x n = countL d' x.f4 n1) := Aside0.mk (by rw [HS1.out]; rfl)
         have dl : deep ≤ 4 := by have := HDP.out; omega
         have d0 : 0 ≤ deep := by have h1 := HI.out.1; have h2 := HI.out.2.1; omega
         have n17 : n1 ≤ 16 := (HIN.out.1 rfl).1
         have HCALL := Aside0.mk (HD.out.2 x.f4 A9 c9 gm (deep + 1) n1 w0 w4 (by have h1 := HI.out.1; have h2 := HD.out.1; omega) (by have h1 := HX.out.2.2.2.1; have h2 := (HIN.out.1 rfl).2; omega) n17 HI.out.2.2.2.2.1 HW6.out.1 HW6.out.2.1 HC.out.2.2.2.2.1 HC.out.2.2.2.2.2)
         go_wp2_with fail
         refine HCALL.out.mono ?_
         clear HCALL
         rintro e w5 ⟨rfl, hbx, hB4, hK4⟩
         have HW7 := Aside0.mk (And.intro hbx (And.intro hB4 (HW6.out.2.2.trans hK4 (.inl rfl))))
         clear hbx hB4 hK4 e0 e1 e2 e3 e4 e5 e6 e7 e8 e9 n17 dl d0
         obtain ⟨r2, hr2⟩ : ∃ r2, r2 = countL d' x.f4 n1 := ⟨_, rfl⟩
         rw [← hr2] at HW7 HS2 ⊢
         clear hr2
         obtain ⟨b2, n2⟩ := r2
         cases b2 with
         | false =>
          go_wp2
          go_ret
          exact ⟨by rw [count_stop d l m j HX.out.2.1 n n2 HX.out.2.2.1 (by rw [← HX.out.1]; exact HS2.out)]; rfl, by rw [count_stop d l m j HX.out.2.1 n n2 HX.out.2.2.1 (by rw [← HX.out.1]; exact HS2.out)]; exact HW7.out.1, HW7.out.2.1, HW7.out.2.2⟩
         | true =>
          go_wp2
          go_roundw
          case rel => exact ⟨j + 1, by go_num, ⟨HX.out.2.1, ⟨n2, by rw [count_take d l m j HX.out.2.1 n HX.out.2.2.1, ← HX.out.1]; exact HS2.out, HW7.out.1⟩, HW7.out.2.1, HW7.out.2.2⟩⟩
          case measure => have := HX.out.2.1; simp [intOf]; omega
  ·have hjl : j = l.length := by have := HR.out.1; omega
   obtain ⟨n, hn, hbn⟩ := HR.out.2.1
   rw [hjl, List.take_of_length_le (Nat.le_refl _)] at hn
   have HN := Aside0.mk (And.intro hn hbn); clear hn hbn hjl
   go_wp2
   go_ret
   exact ⟨by rw [HN.out.1]; rfl, by rw [HN.out.1]; exact HN.out.2, HR.out.2.2.1, HR.out.2.2.2⟩
end Go.Proofs.YtendbgedpjcocaaGreatDoor.B
