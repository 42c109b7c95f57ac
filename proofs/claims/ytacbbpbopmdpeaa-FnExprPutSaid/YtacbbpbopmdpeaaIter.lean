/- A range over a function: the contract of an iterator that keeps cells of its own, and the law of the statement over it. A: the blocks that are not the body's. -/
import Derived.RangeFuncNested
import Derived.RangeFuncBound
import Derived.RangeFuncCalls
import Derived.RangeFuncLeaves
import Derived.Shelf.Abstract
import Derived.WalkKit
import Derived.OwnWalkIn
import Derived.TacticsInMore
import Derived.LoopNIn
import Derived.LoopIn
import Derived.RangeFuncBox
import Derived.Deep.Draws
namespace Go.Proofs.Ytacbbpbopmdpeaa.B
open Go.RowKit
set_option linter.unusedVariables false

/-- What is said abides steps on blocks that are not the body's, new blocks and draws. -/
structure Foreign {β : Type} (J : (Nat → Prop) → β → World → Prop) : Prop where
 turn : ∀ {A : Nat → Prop} {s : β} {W W' : World} {r : Nat}, J A s W → W.grownBy W' (some r) → W'.heap.size = W.heap.size → A r → J A s W'
 alloc : ∀ {A : Nat → Prop} {s : β} {W : World} (o : Obj), J A s W → J (fun k => A k ∨ k = W.heap.size) s (W.alloc o)
 drew : ∀ {A : Nat → Prop} {s : β} {W : World}, J A s W → J A s W.drew
 fewer : ∀ {A A' : Nat → Prop} {s : β} {W : World}, J A s W → (∀ k, A' k → A k) → J A' s W

/-- What the body keeps. -/
structure Kpt (A : Nat → Prop) (W W' : World) : Prop where
 size : W.heap.size ≤ W'.heap.size
 same : ∀ k, A k → W'.heap[k]? = W.heap[k]?

theorem Kpt.refl (A : Nat → Prop) (W : World) : Kpt A W W := ⟨Nat.le_refl _, fun _ _ => rfl⟩
theorem Kpt.trans {A : Nat → Prop} {a b c : World} (h : Kpt A a b) (h' : Kpt A b c) : Kpt A a c := ⟨Nat.le_trans h.size h'.size, fun k hk => (h'.same k hk).trans (h.same k hk)⟩
theorem Kpt.fewer {A A' : Nat → Prop} {a b : World} (h : Kpt A a b) (hA : ∀ k, A' k → A k) : Kpt A' a b := ⟨h.size, fun k hk => h.same k (hA k hk)⟩
theorem Kpt.alloc {A : Nat → Prop} {a b : World} (h : Kpt A a b) (hA : ∀ k, A k → k < b.heap.size) (o : Obj) : Kpt A a (b.alloc o) :=
 ⟨by have := h.size; simp; omega, fun k hk => (Below.heap_alloc b o k (hA k hk)).trans (h.same k hk)⟩
theorem Kpt.setCell {A : Nat → Prop} {a b : World} (h : Kpt A a b) {p : Addr} (hp : ¬ A p.block) (v : Value) : Kpt A a (b.setCell p v) :=
 ⟨by have := h.size; simp [World.setCell]; omega, fun k hk => (Below.heap_setCell b p v k (fun e => hp (e ▸ hk))).trans (h.same k hk)⟩
theorem Kpt.drew {A : Nat → Prop} {a b : World} (h : Kpt A a b) : Kpt A a b.drew := ⟨h.size, h.same⟩
theorem Kpt.drewN {A : Nat → Prop} {a b : World} (h : Kpt A a b) (n : Nat) : Kpt A a (b.drewN n) := ⟨h.size, h.same⟩
theorem Kpt.below {A : Nat → Prop} {B : Nat} {a b c : World} (h : Kpt A a b) (hb : Below B b c) (hA : ∀ k, A k → k < B) : Kpt A a c :=
 ⟨Nat.le_trans h.size hb.size, fun k hk => (hb.block k (hA k hk)).trans (h.same k hk)⟩

/-- THE CONTRACT: xs come, each in a form that Enc knows; or a round says 'no more' and what has come is a part of xs. -/
def SeqA {γ : Type} (P : Program) (g : Nat) (lb : Array Value) (Enc : γ → Array Value → Prop) (Kp : World → Prop) (xs : List γ) (w : World) : Prop :=
 ∀ (l : Nat) (J Jx : (Nat → Prop) → List γ → World → Prop) (A0 : Nat → Prop) (W : World), Below w.heap.size w W → Foreign J → Foreign Jx → (∀ A s W, J A s W → Kp W) → (∀ k, A0 k → k < W.heap.size) →
  (∀ (A : Nat → Prop) (pre : List γ) (x : γ) (vs : Array Value) (W1 : World), (∀ k, A0 k → A k) → (∀ k, A k → k < W1.heap.size) → J A pre W1 → pre ++ [x] <+: xs → Enc x vs → ∀ m, YieldAt Fence.wide m P l vs W1 fun e W' =>
   (e = .returned (.bool true) ∧ J A (pre ++ [x]) W' ∧ Kpt A W1 W') ∨ (e = .returned (.bool false) ∧ Jx A (pre ++ [x]) W' ∧ Kpt A W1 W')) →
  J A0 [] W → ∀ n,
  CallsIn Fence.wide n P g (#[.func (.yield l) #[] #[]] ++ lb) W fun e W' => (∃ v, e = .returned v) ∧ W.heap.size ≤ W'.heap.size ∧
   (J A0 xs W' ∨ (∃ pre, pre <+: xs ∧ Jx A0 pre W'))

/-- HOW THE BODY OF A ROUND MAY BE LEFT. -/
def postA {γ : Type} (I : (Nat → Prop) → List γ → World → Prop) (Ix : Code → (Nat → Prop) → List γ → World → Prop) (A : Nat → Prop) (xs : List γ) (W : World) : Exit → Act → World → Prop
 | .normal, _, W' => Kpt A W W' ∧ I A xs W'
 | .ret, _, W' => Kpt A W W' ∧ Ix .ret A xs W'
 | .exit id, _, W' => Kpt A W W' ∧ Ix (.exit id) A xs W'
 | .goto t, _, W' => Kpt A W W' ∧ Ix (.goto t) A xs W'
 | .panic _, _, _ => False
 | .outgrown, _, _ => False

theorem putObj_grown (W : World) (l : Nat) (o : Obj) : W.grownBy (W.putObj l o) (some l) ∧ (W.putObj l o).heap.size = W.heap.size := ⟨grownBy_putObj' W l o, by simp⟩

variable {P : Program}

set_option maxHeartbeats 1600000 in
/-- THE LAW. I: between two rounds; M: behind the assignment to the loop's left sides. -/
theorem wpIn_rangeFunc_A {γ : Type} {n : Nat} {g : Operand} {ps : Array Tmp} {assign body : Code} {Q : Exit → Act → World → Prop} {a : Act} {w : World}
  {gf : Nat} {lb : Array Value} (hg : a.eval g = .func (.func gf) #[] lb) (eg : ∀ args w, (callFunc gf args).run P w = .ok (.enter gf args) w)
  {Enc : γ → Array Value → Prop} {Kp : World → Prop} {xs : List γ} (hseq : SeqA P gf lb Enc Kp xs w) (hps : ∀ x vs, Enc x vs → vs.size = ps.size)
  (I : (Nat → Prop) → List γ → World → Prop) (Ix : Code → (Nat → Prop) → List γ → World → Prop) (M : Act → (Nat → Prop) → List γ → World → Prop)
  (hI : Foreign I) (hIx : ∀ c, Foreign (Ix c)) (hM : ∀ a, Foreign (M a)) (hKp : ∀ A s W, I A s W → Kp W) (h0 : I (fun _ => False) [] w)
  (hassign : ∀ (l : Nat) (A : Nat → Prop) (pre : List γ) (x : γ) (vs : Array Value) (W : World), w.heap.size ≤ W.heap.size → (∀ k, A k → k < W.heap.size) → I A pre W → pre ++ [x] <+: xs → Enc x vs →
   assign.wpIn (Fence.wide.inRound l) (n - 1 - 1) P (Exit.then (fun a₁ W₁ => Kpt A W W₁ ∧ M a₁ A (pre ++ [x]) W₁) (fun _ _ _ => False)) { tmps := (ps.zip vs).foldl (fun t (p, v) => t.setIfInBounds p v) a.tmps, defers := [] } W)
  (hbody : ∀ (l : Nat) (A : Nat → Prop) (pre : List γ) (x : γ) (a₁ : Act) (W : World), w.heap.size ≤ W.heap.size → (∀ k, A k → k < W.heap.size) → M a₁ A (pre ++ [x]) W → pre ++ [x] <+: xs → body.wpIn (Fence.wide.inRound l) (n - 1 - 1) P (postA I Ix A (pre ++ [x]) W) a₁ W)
  (hdone : ∀ (D : Nat) (W : World), w.heap.size ≤ D → D < W.heap.size → I (fun k => k = D) xs W → W.heap[D]? = some (.deferred (some [])) → Q .normal { a with defers := { target := .collected D, args := #[] } :: a.defers } W)
  (hstop : ∀ (D : Nat) (c : Code) (pre : List γ) (W : World), w.heap.size ≤ D → D < W.heap.size → pre <+: xs → Ix c (fun k => k = D) pre W → W.heap[D]? = some (.deferred (some [])) → c.wpIn Fence.wide n P Q { a with defers := { target := .collected D, args := #[] } :: a.defers } W) :
  (Code.rangeFunc g ps assign body).wpIn Fence.wide n P Q a w := by
 refine wpIn_rangeFunc ?_
 intro fn hfn
 obtain ⟨rec, hrec⟩ : ∃ rec : LoopState → Option Code → Loop, rec = fun st pe => { state := st, pending := pe, fn, tmps := a.tmps, params := ps, assign, body, defers := w.heap.size } := ⟨_, rfl⟩
 obtain ⟨W1, hW1⟩ : ∃ W1, (w.alloc (.deferred (some []))).alloc (.loop (rec .ready none)) = W1 := ⟨_, rfl⟩
 have hz1 : W1.heap.size = w.heap.size + 2 := by rw [← hW1]; simp
 have hL1 : W1.heap[w.heap.size + 1]? = some (.loop (rec .ready none)) := by
  rw [← hW1]; have := World.alloc_heap_new (w.alloc (.deferred (some []))) (.loop (rec .ready none)); rwa [World.size_alloc] at this
 have hK1 : W1.heap[w.heap.size]? = some (.deferred (some [])) := by
  rw [← hW1]; exact (Below.heap_alloc _ _ _ (by simp)).trans (World.alloc_heap_new w _)
 have hI1 : I (fun k => k = w.heap.size ∨ k = w.heap.size + 1) [] W1 := by
  rw [← hW1]
  refine hI.fewer (hI.alloc _ (hI.alloc _ h0)) (fun k hk => ?_)
  rcases hk with rfl | rfl
  ·exact .inl (.inr rfl)
  ·exact .inr (by simp)
 have hb1 : Below w.heap.size w W1 := by rw [← hW1]; exact ((Below.refl _ w).alloc (Nat.le_refl _) _).alloc (by simp) _
 refine ⟨w.heap.size + 1, [{ target := .collected w.heap.size, args := #[] }], W1, { target := .fn (.func gf) lb, args := #[.func (.yield (w.heap.size + 1)) #[] #[]] }, W1, gf,
  #[.func (.yield (w.heap.size + 1)) #[] #[]] ++ lb, W1, ?_, ?_, ?_, ?_, fun h => (by cases h), ?_⟩
 ·rw [← hW1, hrec]; exact run_enterLoop_outer _ _ _ _ _
 ·simp only [resolve, hg]
  simp [go_sem]
 ·intro f' hf'; trivial
 ·simp [invoke, go_sem, eg]
 ·have hAl : ∀ (A : Nat → Prop), (∀ k, (k = w.heap.size ∨ k = w.heap.size + 1) → A k) → A (w.heap.size + 1) ∧ A w.heap.size := fun A h => ⟨h _ (.inr rfl), h _ (.inl rfl)⟩
  have keepL : ∀ {A : Nat → Prop} {s W W' r}, (fun (A : Nat → Prop) (pre : List γ) (W : World) => W.heap[w.heap.size + 1]? = some (.loop (rec .ready none)) ∧ W.heap[w.heap.size]? = some (.deferred (some []))) A s W → W.grownBy W' (some r) → r ≠ w.heap.size + 1 → r ≠ w.heap.size → W'.heap[w.heap.size + 1]? = some (.loop (rec .ready none)) ∧ W'.heap[w.heap.size]? = some (.deferred (some [])) := fun h hg h1 h2 =>
   ⟨(hg.block _ (Array.getElem?_eq_some_iff.1 h.1).1 (by simp; omega)).trans h.1, (hg.block _ (Array.getElem?_eq_some_iff.1 h.2).1 (by simp; omega)).trans h.2⟩
  -- the iterator is given the caller's invariant with the record beside it; of the record's two blocks it is not told
  refine (hseq (w.heap.size + 1)
   (fun A pre W => I (fun k => A k ∨ k = w.heap.size ∨ k = w.heap.size + 1) pre W ∧ ¬ A w.heap.size ∧ ¬ A (w.heap.size + 1) ∧ w.heap.size + 1 < W.heap.size ∧ W.heap[w.heap.size + 1]? = some (.loop (rec .ready none)) ∧ W.heap[w.heap.size]? = some (.deferred (some [])))
   (fun A pre W => ∃ c, Ix c (fun k => A k ∨ k = w.heap.size ∨ k = w.heap.size + 1) pre W ∧ ¬ A w.heap.size ∧ ¬ A (w.heap.size + 1) ∧ w.heap.size + 1 < W.heap.size ∧ W.heap[w.heap.size + 1]? = some (.loop (rec .done (some c))) ∧ W.heap[w.heap.size]? = some (.deferred (some [])))
   (fun _ => False) W1 hb1 ⟨?t1, ?a1, ?d1, ?f1⟩ ⟨?t2, ?a2, ?d2, ?f2⟩ (fun _ _ _ h => hKp _ _ _ h.1) (fun _ h => h.elim) ?round ⟨hI.fewer hI1 (fun k hk => by simpa using hk), id, id, by omega, hL1, hK1⟩ _).mono ?behind
  case t1 =>
   rintro A s W W' r ⟨hi, n1, n2, hz, hl, hk⟩ hg' he hr
   exact ⟨hI.turn hi hg' he (.inl hr), n1, n2, by omega, (hg'.block _ hz (fun e => by cases e; exact n2 hr)).trans hl, (hg'.block _ (by omega) (fun e => by cases e; exact n1 hr)).trans hk⟩
  case a1 =>
   rintro A s W o ⟨hi, n1, n2, hz, hl, hk⟩
   refine ⟨hI.fewer (hI.alloc o hi) (fun k hk' => ?_), (fun h => h.elim n1 (fun e => by omega)), (fun h => h.elim n2 (fun e => by omega)), by simp; omega, (Below.heap_alloc W o _ (by omega)).trans hl, (Below.heap_alloc W o _ (by omega)).trans hk⟩
   rcases hk' with (h | h) | h
   ·exact .inl (.inl h)
   ·exact .inr h
   ·exact .inl (.inr h)
  case d1 =>
   rintro A s W ⟨hi, n1, n2, hz, hl, hk⟩
   exact ⟨hI.drew hi, n1, n2, hz, hl, hk⟩
  case f1 =>
   rintro A A' s W ⟨hi, n1, n2, hz, hl, hk⟩ hA
   exact ⟨hI.fewer hi (fun k h => h.imp_left (hA k)), fun h => n1 (hA _ h), fun h => n2 (hA _ h), hz, hl, hk⟩
  case t2 =>
   rintro A s W W' r ⟨c, hi, n1, n2, hz, hl, hk⟩ hg' he hr
   exact ⟨c, (hIx c).turn hi hg' he (.inl hr), n1, n2, by omega, (hg'.block _ hz (fun e => by cases e; exact n2 hr)).trans hl, (hg'.block _ (by omega) (fun e => by cases e; exact n1 hr)).trans hk⟩
  case a2 =>
   rintro A s W o ⟨c, hi, n1, n2, hz, hl, hk⟩
   refine ⟨c, (hIx c).fewer ((hIx c).alloc o hi) (fun k hk' => ?_), (fun h => h.elim n1 (fun e => by omega)), (fun h => h.elim n2 (fun e => by omega)), by simp; omega, (Below.heap_alloc W o _ (by omega)).trans hl, (Below.heap_alloc W o _ (by omega)).trans hk⟩
   rcases hk' with (h | h) | h
   ·exact .inl (.inl h)
   ·exact .inr h
   ·exact .inl (.inr h)
  case d2 =>
   rintro A s W ⟨c, hi, n1, n2, hz, hl, hk⟩
   exact ⟨c, (hIx c).drew hi, n1, n2, hz, hl, hk⟩
  case f2 =>
   rintro A A' s W ⟨c, hi, n1, n2, hz, hl, hk⟩ hA
   exact ⟨c, (hIx c).fewer hi (fun k h => h.imp_left (hA k)), fun h => n1 (hA _ h), fun h => n2 (hA _ h), hz, hl, hk⟩
  case round =>
   rintro A pre x vs W hA0 hAlt ⟨hi, n1, n2, hz, hl, hk⟩ hpre hx m
   have hlt : w.heap.size + 1 < W.heap.size := hz
   have hy := run_yield (P := P) (args := vs) hl (by rw [hrec]; exact hps x vs hx)
   rw [hrec] at hy
   have hle : w.heap.size ≤ W.heap.size := by omega
   have hA' : ∀ k, (A k ∨ k = w.heap.size ∨ k = w.heap.size + 1) → k < W.heap.size := fun k h => by rcases h with h | h | h <;> first | exact hAlt k h | omega
   have hRA : ∀ {m m' : Nat} {R : Ending → World → Prop} {f tmps}, RoundIn Fence.wide m P (w.heap.size + 1) f tmps assign body W R → RoundIn Fence.wide m' P (w.heap.size + 1) f tmps assign body W R := fun h => ⟨h.1, fun c cs _ => h.2 c cs (room_wide _)⟩
   refine ⟨fn, _, assign, body, hy, hRA (m := n - 1 - 1) (roundIn_of_wpIn hfn (wpIn_mono (hassign _ _ pre x vs W hle hA' hi hpre hx) ?_))⟩
   rintro e a₁ W₁ hp
   cases e with
   | normal =>
    obtain ⟨hk1, hm1⟩ := hp
    have hl1 : W₁.heap[w.heap.size + 1]? = some (.loop (rec .ready none)) := (hk1.same _ (.inr (.inr rfl))).trans hl
    have hd1 : W₁.heap[w.heap.size]? = some (.deferred (some [])) := (hk1.same _ (.inr (.inl rfl))).trans hk
    have hlt1 : w.heap.size + 1 < W₁.heap.size := Nat.lt_of_lt_of_le hlt hk1.size
    refine ⟨_, run_beginRound hl1 (by rw [hrec]), ?_⟩
    obtain ⟨gp, gs⟩ := putObj_grown W₁ (w.heap.size + 1) (.loop { rec .ready none with state := .busy })
    have hl2 : (W₁.putObj (w.heap.size + 1) (.loop { rec .ready none with state := .busy })).heap[w.heap.size + 1]? = some (.loop { rec .ready none with state := .busy }) := World.putObj_heap_same hlt1
    have hd2 : (W₁.putObj (w.heap.size + 1) (.loop { rec .ready none with state := .busy })).heap[w.heap.size]? = some (.deferred (some [])) := (World.putObj_heap_other (by omega)).trans hd1
    have hk2 : Kpt A W (W₁.putObj (w.heap.size + 1) (.loop { rec .ready none with state := .busy })) :=
     ⟨by rw [gs]; exact hk1.size, fun k hk' => (World.putObj_heap_other (fun e => by subst e; exact n2 hk')).trans (hk1.same k (.inl hk'))⟩
    refine wpIn_mono (hbody _ _ pre x a₁ _ (by rw [gs]; omega) (fun k h => by rw [gs]; exact Nat.lt_of_lt_of_le (hA' k h) hk1.size) ((hM _).turn hm1 gp gs (.inr (.inr rfl))) hpre) ?_
    have fin : ∀ (jump : Option Code) (W3 : World), Kpt (fun k => A k ∨ k = w.heap.size ∨ k = w.heap.size + 1) (W₁.putObj (w.heap.size + 1) (.loop { rec .ready none with state := .busy })) W3 →
      (Instr.endRound (w.heap.size + 1) jump).run P W3 = .ok (.bool jump.isNone) (W3.putObj (w.heap.size + 1) (.loop (rec (if jump.isNone then .ready else .done) jump))) ∧
      W3.grownBy (W3.putObj (w.heap.size + 1) (.loop (rec (if jump.isNone then .ready else .done) jump))) (some (w.heap.size + 1)) ∧
      (W3.putObj (w.heap.size + 1) (.loop (rec (if jump.isNone then .ready else .done) jump))).heap.size = W3.heap.size ∧
      w.heap.size + 1 < (W3.putObj (w.heap.size + 1) (.loop (rec (if jump.isNone then .ready else .done) jump))).heap.size ∧
      (W3.putObj (w.heap.size + 1) (.loop (rec (if jump.isNone then .ready else .done) jump))).heap[w.heap.size + 1]? = some (.loop (rec (if jump.isNone then .ready else .done) jump)) ∧
      (W3.putObj (w.heap.size + 1) (.loop (rec (if jump.isNone then .ready else .done) jump))).heap[w.heap.size]? = some (.deferred (some [])) ∧
      Kpt A W (W3.putObj (w.heap.size + 1) (.loop (rec (if jump.isNone then .ready else .done) jump))) := fun jump W3 hk3 => by
     have hl3 := (hk3.same _ (.inr (.inr rfl))).trans hl2
     have hlt3 := (Array.getElem?_eq_some_iff.1 hl3).1
     have hr := run_endRound (P := P) jump hl3
     obtain ⟨gp3, gs3⟩ := putObj_grown W3 (w.heap.size + 1) (.loop (rec (if jump.isNone then .ready else .done) jump))
     rw [hrec] at hr ⊢
     rw [hrec] at gp3 gs3
     exact ⟨hr, gp3, gs3, by rw [gs3]; exact hlt3, World.putObj_heap_same hlt3, (World.putObj_heap_other (by omega)).trans ((hk3.same _ (.inr (.inl rfl))).trans hd2),
      ⟨by rw [gs3]; exact Nat.le_trans hk2.size hk3.size, fun k hk' => (World.putObj_heap_other (fun e => by subst e; exact n2 hk')).trans ((hk3.same k (.inl hk')).trans (hk2.same k hk'))⟩⟩
    rintro e a3 W3 hp
    cases e with
    | normal =>
     obtain ⟨hk3, hi3⟩ := hp
     obtain ⟨hr, gp3, gs3, hlt4, hl4, hd4, hk4⟩ := fin none W3 hk3
     exact ⟨_, _, hr, .inl ⟨rfl, ⟨hI.turn hi3 gp3 gs3 (.inr (.inr rfl)), n1, n2, hlt4, hl4, hd4⟩, hk4⟩⟩
    | ret =>
     obtain ⟨hk3, hi3⟩ := hp
     obtain ⟨hr, gp3, gs3, hlt4, hl4, hd4, hk4⟩ := fin (some .ret) W3 hk3
     exact ⟨_, _, hr, .inr ⟨rfl, ⟨.ret, (hIx _).turn hi3 gp3 gs3 (.inr (.inr rfl)), n1, n2, hlt4, hl4, hd4⟩, hk4⟩⟩
    | exit id =>
     obtain ⟨hk3, hi3⟩ := hp
     obtain ⟨hr, gp3, gs3, hlt4, hl4, hd4, hk4⟩ := fin (some (.exit id)) W3 hk3
     exact ⟨_, _, hr, .inr ⟨rfl, ⟨.exit id, (hIx _).turn hi3 gp3 gs3 (.inr (.inr rfl)), n1, n2, hlt4, hl4, hd4⟩, hk4⟩⟩
    | goto t =>
     obtain ⟨hk3, hi3⟩ := hp
     obtain ⟨hr, gp3, gs3, hlt4, hl4, hd4, hk4⟩ := fin (some (.goto t)) W3 hk3
     exact ⟨_, _, hr, .inr ⟨rfl, ⟨.goto t, (hIx _).turn hi3 gp3 gs3 (.inr (.inr rfl)), n1, n2, hlt4, hl4, hd4⟩, hk4⟩⟩
    | panic ch => exact hp.elim
    | outgrown => exact hp.elim
   | ret => exact hp.elim
   | exit id => exact hp.elim
   | goto t => exact hp.elim
   | panic ch => exact hp.elim
   | outgrown => exact hp.elim
  case behind =>
   rintro e W2 ⟨⟨v, rfl⟩, _, (⟨hi, _, _, hlt, hl, hk⟩ | ⟨pre, hpre, c, hi, _, _, hlt, hl, hk⟩)⟩
   ·have hr := run_endLoop (P := P) hl (by rw [hrec]; simp)
    obtain ⟨gp, gs⟩ := putObj_grown W2 (w.heap.size + 1) (.loop { rec .ready none with state := .exhausted })
    rw [hrec] at hr gp gs
    refine ⟨none, _, hr, hdone _ _ (Nat.le_refl _) (by rw [gs]; omega) (hI.fewer (hI.turn hi gp gs (.inr (.inr rfl))) (fun k h => .inr (.inl h))) ((World.putObj_heap_other (by omega)).trans hk)⟩
   ·have hr := run_endLoop (P := P) hl (by rw [hrec]; simp)
    obtain ⟨gp, gs⟩ := putObj_grown W2 (w.heap.size + 1) (.loop { rec .done (some c) with state := .exhausted })
    rw [hrec] at hr gp gs
    refine ⟨some c, _, hr, hstop _ c pre _ (Nat.le_refl _) (by rw [gs]; omega) hpre ((hIx c).fewer ((hIx c).turn hi gp gs (.inr (.inr rfl))) (fun k h => .inr (.inl h))) ((World.putObj_heap_other (by omega)).trans hk)⟩

end Go.Proofs.Ytacbbpbopmdpeaa.B
