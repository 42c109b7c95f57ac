import Derived.RangeFuncNested
import Derived.RangeFuncBound
import Derived.RangeFuncCalls
import Derived.RangeFuncLeaves
import Derived.Shelf.Abstract
import Derived.WalkKit
import Derived.OwnWalkIn
import Derived.TacticsInMore
import Derived.LoopNIn
import Derived.LoopIn
import Derived.RangeFuncBox
import Derived.Deep.Draws
import Derived.OrdersHeld
import Derived.Deep.RegionHeld3
import Derived.RowKit
/- A range over a function: the contract of an iterator that keeps cells of its own, and the law of the statement over it. A: the blocks that are not the body's. -/
namespace Go.Proofs.YtfmipdhkiahjoaaDoor.B
open Go.RowKit
set_option linter.unusedVariables false

/-- What is said abides steps on blocks that are not the body's, new blocks and draws. -/
structure Foreign {β : Type} (J : (Nat → Prop) → β → World → Prop) : Prop where
 turn : ∀ {A : Nat → Prop} {s : β} {W W' : World} {r : Nat}, J A s W → W.grownBy W' (some r) → W'.heap.size = W.heap.size → A r → J A s W'
 alloc : ∀ {A : Nat → Prop} {s : β} {W : World} (o : Obj), J A s W → J (fun k => A k ∨ k = W.heap.size) s (W.alloc o)
 drew : ∀ {A : Nat → Prop} {s : β} {W : World}, J A s W → J A s W.drew
 fewer : ∀ {A A' : Nat → Prop} {s : β} {W : World}, J A s W → (∀ k, A' k → A k) → J A' s W

/-- What the body keeps. -/
structure Kpt (A : Nat → Prop) (W W' : World) : Prop where
 size : W.heap.size ≤ W'.heap.size
 same : ∀ k, A k → W'.heap[k]? = W.heap[k]?

theorem Kpt.refl (A : Nat → Prop) (W : World) : Kpt A W W := ⟨Nat.le_refl _, fun _ _ => rfl⟩
theorem Kpt.trans {A : Nat → Prop} {a b c : World} (h : Kpt A a b) (h' : Kpt A b c) : Kpt A a c := ⟨Nat.le_trans h.size h'.size, fun k hk => (h'.same k hk).trans (h.same k hk)⟩
theorem Kpt.fewer {A A' : Nat → Prop} {a b : World} (h : Kpt A a b) (hA : ∀ k, A' k → A k) : Kpt A' a b := ⟨h.size, fun k hk => h.same k (hA k hk)⟩
theorem Kpt.alloc {A : Nat → Prop} {a b : World} (h : Kpt A a b) (hA : ∀ k, A k → k < b.heap.size) (o : Obj) : Kpt A a (b.alloc o) :=
 ⟨by have := h.size; simp; omega, fun k hk => (Below.heap_alloc b o k (hA k hk)).trans (h.same k hk)⟩
theorem Kpt.setCell {A : Nat → Prop} {a b : World} (h : Kpt A a b) {p : Addr} (hp : ¬ A p.block) (v : Value) : Kpt A a (b.setCell p v) :=
 ⟨by have := h.size; simp [World.setCell]; omega, fun k hk => (Below.heap_setCell b p v k (fun e => hp (e ▸ hk))).trans (h.same k hk)⟩
theorem Kpt.drew {A : Nat → Prop} {a b : World} (h : Kpt A a b) : Kpt A a b.drew := ⟨h.size, h.same⟩
theorem Kpt.drewN {A : Nat → Prop} {a b : World} (h : Kpt A a b) (n : Nat) : Kpt A a (b.drewN n) := ⟨h.size, h.same⟩
theorem Kpt.below {A : Nat → Prop} {B : Nat} {a b c : World} (h : Kpt A a b) (hb : Below B b c) (hA : ∀ k, A k → k < B) : Kpt A a c :=
 ⟨Nat.le_trans h.size hb.size, fun k hk => (hb.block k (hA k hk)).trans (h.same k hk)⟩

/-- THE CONTRACT: xs come, each in a form that Enc knows; or a round says 'no more' and what has come is a part of xs. -/
def SeqA {γ : Type} (P : Program) (g : Nat) (lb : Array Value) (Enc : γ → Array Value → Prop) (Kp : World → Prop) (xs : List γ) (w : World) : Prop :=
 ∀ (l : Nat) (J Jx : (Nat → Prop) → List γ → World → Prop) (A0 : Nat → Prop) (W : World), Below w.heap.size w W → Foreign J → Foreign Jx → (∀ A s W, J A s W → Kp W) → (∀ k, A0 k → k < W.heap.size) →
  (∀ (A : Nat → Prop) (pre : List γ) (x : γ) (vs : Array Value) (W1 : World), (∀ k, A0 k → A k) → (∀ k, A k → k < W1.heap.size) → J A pre W1 → pre ++ [x] <+: xs → Enc x vs → ∀ m, YieldAt Fence.wide m P l vs W1 fun e W' =>
   (e = .returned (.bool true) ∧ J A (pre ++ [x]) W' ∧ Kpt A W1 W') ∨ (e = .returned (.bool false) ∧ Jx A (pre ++ [x]) W' ∧ Kpt A W1 W')) →
  J A0 [] W → ∀ n,
  CallsIn Fence.wide n P g (#[.func (.yield l) #[] #[]] ++ lb) W fun e W' => (∃ v, e = .returned v) ∧ W.heap.size ≤ W'.heap.size ∧
   (J A0 xs W' ∨ (∃ pre, pre <+: xs ∧ Jx A0 pre W'))

/-- HOW THE BODY OF A ROUND MAY BE LEFT. -/
def postA {γ : Type} (I : (Nat → Prop) → List γ → World → Prop) (Ix : Code → (Nat → Prop) → List γ → World → Prop) (A : Nat → Prop) (xs : List γ) (W : World) : Exit → Act → World → Prop
 | .normal, _, W' => Kpt A W W' ∧ I A xs W'
 | .ret, _, W' => Kpt A W W' ∧ Ix .ret A xs W'
 | .exit id, _, W' => Kpt A W W' ∧ Ix (.exit id) A xs W'
 | .goto t, _, W' => Kpt A W W' ∧ Ix (.goto t) A xs W'
 | .panic _, _, _ => False
 | .outgrown, _, _ => False

theorem putObj_grown (W : World) (l : Nat) (o : Obj) : W.grownBy (W.putObj l o) (some l) ∧ (W.putObj l o).heap.size = W.heap.size := ⟨grownBy_putObj' W l o, by simp⟩

variable {P : Program}

set_option maxHeartbeats 1600000 in
/-- THE LAW. I: between two rounds; M: behind the assignment to the loop's left sides. -/
theorem wpIn_rangeFunc_A {γ : Type} {n : Nat} {g : Operand} {ps : Array Tmp} {assign body : Code} {Q : Exit → Act → World → Prop} {a : Act} {w : World}
  {gf : Nat} {lb : Array Value} (hg : a.eval g = .func (.func gf) #[] lb) (eg : ∀ args w, (callFunc gf args).run P w = .ok (.enter gf args) w)
  {Enc : γ → Array Value → Prop} {Kp : World → Prop} {xs : List γ} (hseq : SeqA P gf lb Enc Kp xs w) (hps : ∀ x vs, Enc x vs → vs.size = ps.size)
  (I : (Nat → Prop) → List γ → World → Prop) (Ix : Code → (Nat → Prop) → List γ → World → Prop) (M : Act → (Nat → Prop) → List γ → World → Prop)
  (hI : Foreign I) (hIx : ∀ c, Foreign (Ix c)) (hM : ∀ a, Foreign (M a)) (hKp : ∀ A s W, I A s W → Kp W) (h0 : I (fun _ => False) [] w)
  (hassign : ∀ (l : Nat) (A : Nat → Prop) (pre : List γ) (x : γ) (vs : Array Value) (W : World), w.heap.size ≤ W.heap.size → (∀ k, A k → k < W.heap.size) → I A pre W → pre ++ [x] <+: xs → Enc x vs →
   assign.wpIn (Fence.wide.inRound l) (n - 1 - 1) P (Exit.then (fun a₁ W₁ => Kpt A W W₁ ∧ M a₁ A (pre ++ [x]) W₁) (fun _ _ _ => False)) { tmps := (ps.zip vs).foldl (fun t (p, v) => t.setIfInBounds p v) a.tmps, defers := [] } W)
  (hbody : ∀ (l : Nat) (A : Nat → Prop) (pre : List γ) (x : γ) (a₁ : Act) (W : World), w.heap.size ≤ W.heap.size → (∀ k, A k → k < W.heap.size) → M a₁ A (pre ++ [x]) W → pre ++ [x] <+: xs → body.wpIn (Fence.wide.inRound l) (n - 1 - 1) P (postA I Ix A (pre ++ [x]) W) a₁ W)
  (hdone : ∀ (D : Nat) (W : World), w.heap.size ≤ D → D < W.heap.size → I (fun k => k = D) xs W → W.heap[D]? = some (.deferred (some [])) → Q .normal { a with defers := { target := .collected D, args := #[] } :: a.defers } W)
  (hstop : ∀ (D : Nat) (c : Code) (pre : List γ) (W : World), w.heap.size ≤ D → D < W.heap.size → pre <+: xs → Ix c (fun k => k = D) pre W → W.heap[D]? = some (.deferred (some [])) → c.wpIn Fence.wide n P Q { a with defers := { target := .collected D, args := #[] } :: a.defers } W) :
  (Code.rangeFunc g ps assign body).wpIn Fence.wide n P Q a w := by
 refine wpIn_rangeFunc ?_
 intro fn hfn
 obtain ⟨rec, hrec⟩ : ∃ rec : LoopState → Option Code → Loop, rec = fun st pe => { state := st, pending := pe, fn, tmps := a.tmps, params := ps, assign, body, defers := w.heap.size } := ⟨_, rfl⟩
 obtain ⟨W1, hW1⟩ : ∃ W1, (w.alloc (.deferred (some []))).alloc (.loop (rec .ready none)) = W1 := ⟨_, rfl⟩
 have hz1 : W1.heap.size = w.heap.size + 2 := by rw [← hW1]; simp
 have hL1 : W1.heap[w.heap.size + 1]? = some (.loop (rec .ready none)) := by
  rw [← hW1]; have := World.alloc_heap_new (w.alloc (.deferred (some []))) (.loop (rec .ready none)); rwa [World.size_alloc] at this
 have hK1 : W1.heap[w.heap.size]? = some (.deferred (some [])) := by
  rw [← hW1]; exact (Below.heap_alloc _ _ _ (by simp)).trans (World.alloc_heap_new w _)
 have hI1 : I (fun k => k = w.heap.size ∨ k = w.heap.size + 1) [] W1 := by
  rw [← hW1]
  refine hI.fewer (hI.alloc _ (hI.alloc _ h0)) (fun k hk => ?_)
  rcases hk with rfl | rfl
  ·exact .inl (.inr rfl)
  ·exact .inr (by simp)
 have hb1 : Below w.heap.size w W1 := by rw [← hW1]; exact ((Below.refl _ w).alloc (Nat.le_refl _) _).alloc (by simp) _
 refine ⟨w.heap.size + 1, [{ target := .collected w.heap.size, args := #[] }], W1, { target := .fn (.func gf) lb, args := #[.func (.yield (w.heap.size + 1)) #[] #[]] }, W1, gf,
  #[.func (.yield (w.heap.size + 1)) #[] #[]] ++ lb, W1, ?_, ?_, ?_, ?_, fun h => (by cases h), ?_⟩
 ·rw [← hW1, hrec]; exact run_enterLoop_outer _ _ _ _ _
 ·simp only [resolve, hg]
  simp [go_sem]
 ·intro f' hf'; trivial
 ·simp [invoke, go_sem, eg]
 ·have hAl : ∀ (A : Nat → Prop), (∀ k, (k = w.heap.size ∨ k = w.heap.size + 1) → A k) → A (w.heap.size + 1) ∧ A w.heap.size := fun A h => ⟨h _ (.inr rfl), h _ (.inl rfl)⟩
  have keepL : ∀ {A : Nat → Prop} {s W W' r}, (fun (A : Nat → Prop) (pre : List γ) (W : World) => W.heap[w.heap.size + 1]? = some (.loop (rec .ready none)) ∧ W.heap[w.heap.size]? = some (.deferred (some []))) A s W → W.grownBy W' (some r) → r ≠ w.heap.size + 1 → r ≠ w.heap.size → W'.heap[w.heap.size + 1]? = some (.loop (rec .ready none)) ∧ W'.heap[w.heap.size]? = some (.deferred (some [])) := fun h hg h1 h2 =>
   ⟨(hg.block _ (Array.getElem?_eq_some_iff.1 h.1).1 (by simp; omega)).trans h.1, (hg.block _ (Array.getElem?_eq_some_iff.1 h.2).1 (by simp; omega)).trans h.2⟩
  -- the iterator is given the caller's invariant with the record beside it; of the record's two blocks it is not told
  refine (hseq (w.heap.size + 1)
   (fun A pre W => I (fun k => A k ∨ k = w.heap.size ∨ k = w.heap.size + 1) pre W ∧ ¬ A w.heap.size ∧ ¬ A (w.heap.size + 1) ∧ w.heap.size + 1 < W.heap.size ∧ W.heap[w.heap.size + 1]? = some (.loop (rec .ready none)) ∧ W.heap[w.heap.size]? = some (.deferred (some [])))
   (fun A pre W => ∃ c, Ix c (fun k => A k ∨ k = w.heap.size ∨ k = w.heap.size + 1) pre W ∧ ¬ A w.heap.size ∧ ¬ A (w.heap.size + 1) ∧ w.heap.size + 1 < W.heap.size ∧ W.heap[w.heap.size + 1]? = some (.loop (rec .done (some c))) ∧ W.heap[w.heap.size]? = some (.deferred (some [])))
   (fun _ => False) W1 hb1 ⟨?t1, ?a1, ?d1, ?f1⟩ ⟨?t2, ?a2, ?d2, ?f2⟩ (fun _ _ _ h => hKp _ _ _ h.1) (fun _ h => h.elim) ?round ⟨hI.fewer hI1 (fun k hk => by simpa using hk), id, id, by omega, hL1, hK1⟩ _).mono ?behind
  case t1 =>
   rintro A s W W' r ⟨hi, n1, n2, hz, hl, hk⟩ hg' he hr
   exact ⟨hI.turn hi hg' he (.inl hr), n1, n2, by omega, (hg'.block _ hz (fun e => by cases e; exact n2 hr)).trans hl, (hg'.block _ (by omega) (fun e => by cases e; exact n1 hr)).trans hk⟩
  case a1 =>
   rintro A s W o ⟨hi, n1, n2, hz, hl, hk⟩
   refine ⟨hI.fewer (hI.alloc o hi) (fun k hk' => ?_), (fun h => h.elim n1 (fun e => by omega)), (fun h => h.elim n2 (fun e => by omega)), by simp; omega, (Below.heap_alloc W o _ (by omega)).trans hl, (Below.heap_alloc W o _ (by omega)).trans hk⟩
   rcases hk' with (h | h) | h
   ·exact .inl (.inl h)
   ·exact .inr h
   ·exact .inl (.inr h)
  case d1 =>
   rintro A s W ⟨hi, n1, n2, hz, hl, hk⟩
   exact ⟨hI.drew hi, n1, n2, hz, hl, hk⟩
  case f1 =>
   rintro A A' s W ⟨hi, n1, n2, hz, hl, hk⟩ hA
   exact ⟨hI.fewer hi (fun k h => h.imp_left (hA k)), fun h => n1 (hA _ h), fun h => n2 (hA _ h), hz, hl, hk⟩
  case t2 =>
   rintro A s W W' r ⟨c, hi, n1, n2, hz, hl, hk⟩ hg' he hr
   exact ⟨c, (hIx c).turn hi hg' he (.inl hr), n1, n2, by omega, (hg'.block _ hz (fun e => by cases e; exact n2 hr)).trans hl, (hg'.block _ (by omega) (fun e => by cases e; exact n1 hr)).trans hk⟩
  case a2 =>
   rintro A s W o ⟨c, hi, n1, n2, hz, hl, hk⟩
   refine ⟨c, (hIx c).fewer ((hIx c).alloc o hi) (fun k hk' => ?_), (fun h => h.elim n1 (fun e => by omega)), (fun h => h.elim n2 (fun e => by omega)), by simp; omega, (Below.heap_alloc W o _ (by omega)).trans hl, (Below.heap_alloc W o _ (by omega)).trans hk⟩
   rcases hk' with (h | h) | h
   ·exact .inl (.inl h)
   ·exact .inr h
   ·exact .inl (.inr h)
  case d2 =>
   rintro A s W ⟨c, hi, n1, n2, hz, hl, hk⟩
   exact ⟨c, (hIx c).drew hi, n1, n2, hz, hl, hk⟩
  case f2 =>
   rintro A A' s W ⟨c, hi, n1, n2, hz, hl, hk⟩ hA
   exact ⟨c, (hIx c).fewer hi (fun k h => h.imp_left (hA k)), fun h => n1 (hA _ h), fun h => n2 (hA _ h), hz, hl, hk⟩
  case round =>
   rintro A pre x vs W hA0 hAlt ⟨hi, n1, n2, hz, hl, hk⟩ hpre hx m
   have hlt : w.heap.size + 1 < W.heap.size := hz
   have hy := run_yield (P := P) (args := vs) hl (by rw [hrec]; exact hps x vs hx)
   rw [hrec] at hy
   have hle : w.heap.size ≤ W.heap.size := by omega
   have hA' : ∀ k, (A k ∨ k = w.heap.size ∨ k = w.heap.size + 1) → k < W.heap.size := fun k h => by rcases h with h | h | h <;> first | exact hAlt k h | omega
   have hRA : ∀ {m m' : Nat} {R : Ending → World → Prop} {f tmps}, RoundIn Fence.wide m P (w.heap.size + 1) f tmps assign body W R → RoundIn Fence.wide m' P (w.heap.size + 1) f tmps assign body W R := fun h => ⟨h.1, fun c cs _ => h.2 c cs (room_wide _)⟩
   refine ⟨fn, _, assign, body, hy, hRA (m := n - 1 - 1) (roundIn_of_wpIn hfn (wpIn_mono (hassign _ _ pre x vs W hle hA' hi hpre hx) ?_))⟩
   rintro e a₁ W₁ hp
   cases e with
   | normal =>
    obtain ⟨hk1, hm1⟩ := hp
    have hl1 : W₁.heap[w.heap.size + 1]? = some (.loop (rec .ready none)) := (hk1.same _ (.inr (.inr rfl))).trans hl
    have hd1 : W₁.heap[w.heap.size]? = some (.deferred (some [])) := (hk1.same _ (.inr (.inl rfl))).trans hk
    have hlt1 : w.heap.size + 1 < W₁.heap.size := Nat.lt_of_lt_of_le hlt hk1.size
    refine ⟨_, run_beginRound hl1 (by rw [hrec]), ?_⟩
    obtain ⟨gp, gs⟩ := putObj_grown W₁ (w.heap.size + 1) (.loop { rec .ready none with state := .busy })
    have hl2 : (W₁.putObj (w.heap.size + 1) (.loop { rec .ready none with state := .busy })).heap[w.heap.size + 1]? = some (.loop { rec .ready none with state := .busy }) := World.putObj_heap_same hlt1
    have hd2 : (W₁.putObj (w.heap.size + 1) (.loop { rec .ready none with state := .busy })).heap[w.heap.size]? = some (.deferred (some [])) := (World.putObj_heap_other (by omega)).trans hd1
    have hk2 : Kpt A W (W₁.putObj (w.heap.size + 1) (.loop { rec .ready none with state := .busy })) :=
     ⟨by rw [gs]; exact hk1.size, fun k hk' => (World.putObj_heap_other (fun e => by subst e; exact n2 hk')).trans (hk1.same k (.inl hk'))⟩
    refine wpIn_mono (hbody _ _ pre x a₁ _ (by rw [gs]; omega) (fun k h => by rw [gs]; exact Nat.lt_of_lt_of_le (hA' k h) hk1.size) ((hM _).turn hm1 gp gs (.inr (.inr rfl))) hpre) ?_
    have fin : ∀ (jump : Option Code) (W3 : World), Kpt (fun k => A k ∨ k = w.heap.size ∨ k = w.heap.size + 1) (W₁.putObj (w.heap.size + 1) (.loop { rec .ready none with state := .busy })) W3 →
      (Instr.endRound (w.heap.size + 1) jump).run P W3 = .ok (.bool jump.isNone) (W3.putObj (w.heap.size + 1) (.loop (rec (if jump.isNone then .ready else .done) jump))) ∧
      W3.grownBy (W3.putObj (w.heap.size + 1) (.loop (rec (if jump.isNone then .ready else .done) jump))) (some (w.heap.size + 1)) ∧
      (W3.putObj (w.heap.size + 1) (.loop (rec (if jump.isNone then .ready else .done) jump))).heap.size = W3.heap.size ∧
      w.heap.size + 1 < (W3.putObj (w.heap.size + 1) (.loop (rec (if jump.isNone then .ready else .done) jump))).heap.size ∧
      (W3.putObj (w.heap.size + 1) (.loop (rec (if jump.isNone then .ready else .done) jump))).heap[w.heap.size + 1]? = some (.loop (rec (if jump.isNone then .ready else .done) jump)) ∧
      (W3.putObj (w.heap.size + 1) (.loop (rec (if jump.isNone then .ready else .done) jump))).heap[w.heap.size]? = some (.deferred (some [])) ∧
      Kpt A W (W3.putObj (w.heap.size + 1) (.loop (rec (if jump.isNone then .ready else .done) jump))) := fun jump W3 hk3 => by
     have hl3 := (hk3.same _ (.inr (.inr rfl))).trans hl2
     have hlt3 := (Array.getElem?_eq_some_iff.1 hl3).1
     have hr := run_endRound (P := P) jump hl3
     obtain ⟨gp3, gs3⟩ := putObj_grown W3 (w.heap.size + 1) (.loop (rec (if jump.isNone then .ready else .done) jump))
     rw [hrec] at hr ⊢
     rw [hrec] at gp3 gs3
     exact ⟨hr, gp3, gs3, by rw [gs3]; exact hlt3, World.putObj_heap_same hlt3, (World.putObj_heap_other (by omega)).trans ((hk3.same _ (.inr (.inl rfl))).trans hd2),
      ⟨by rw [gs3]; exact Nat.le_trans hk2.size hk3.size, fun k hk' => (World.putObj_heap_other (fun e => by subst e; exact n2 hk')).trans ((hk3.same k (.inl hk')).trans (hk2.same k hk'))⟩⟩
    rintro e a3 W3 hp
    cases e with
    | normal =>
     obtain ⟨hk3, hi3⟩ := hp
     obtain ⟨hr, gp3, gs3, hlt4, hl4, hd4, hk4⟩ := fin none W3 hk3
     exact ⟨_, _, hr, .inl ⟨rfl, ⟨hI.turn hi3 gp3 gs3 (.inr (.inr rfl)), n1, n2, hlt4, hl4, hd4⟩, hk4⟩⟩
    | ret =>
     obtain ⟨hk3, hi3⟩ := hp
     obtain ⟨hr, gp3, gs3, hlt4, hl4, hd4, hk4⟩ := fin (some .ret) W3 hk3
     exact ⟨_, _, hr, .inr ⟨rfl, ⟨.ret, (hIx _).turn hi3 gp3 gs3 (.inr (.inr rfl)), n1, n2, hlt4, hl4, hd4⟩, hk4⟩⟩
    | exit id =>
     obtain ⟨hk3, hi3⟩ := hp
     obtain ⟨hr, gp3, gs3, hlt4, hl4, hd4, hk4⟩ := fin (some (.exit id)) W3 hk3
     exact ⟨_, _, hr, .inr ⟨rfl, ⟨.exit id, (hIx _).turn hi3 gp3 gs3 (.inr (.inr rfl)), n1, n2, hlt4, hl4, hd4⟩, hk4⟩⟩
    | goto t =>
     obtain ⟨hk3, hi3⟩ := hp
     obtain ⟨hr, gp3, gs3, hlt4, hl4, hd4, hk4⟩ := fin (some (.goto t)) W3 hk3
     exact ⟨_, _, hr, .inr ⟨rfl, ⟨.goto t, (hIx _).turn hi3 gp3 gs3 (.inr (.inr rfl)), n1, n2, hlt4, hl4, hd4⟩, hk4⟩⟩
    | panic ch => exact hp.elim
    | outgrown => exact hp.elim
   | ret => exact hp.elim
   | exit id => exact hp.elim
   | goto t => exact hp.elim
   | panic ch => exact hp.elim
   | outgrown => exact hp.elim
  case behind =>
   rintro e W2 ⟨⟨v, rfl⟩, _, (⟨hi, _, _, hlt, hl, hk⟩ | ⟨pre, hpre, c, hi, _, _, hlt, hl, hk⟩)⟩
   ·have hr := run_endLoop (P := P) hl (by rw [hrec]; simp)
    obtain ⟨gp, gs⟩ := putObj_grown W2 (w.heap.size + 1) (.loop { rec .ready none with state := .exhausted })
    rw [hrec] at hr gp gs
    refine ⟨none, _, hr, hdone _ _ (Nat.le_refl _) (by rw [gs]; omega) (hI.fewer (hI.turn hi gp gs (.inr (.inr rfl))) (fun k h => .inr (.inl h))) ((World.putObj_heap_other (by omega)).trans hk)⟩
   ·have hr := run_endLoop (P := P) hl (by rw [hrec]; simp)
    obtain ⟨gp, gs⟩ := putObj_grown W2 (w.heap.size + 1) (.loop { rec .done (some c) with state := .exhausted })
    rw [hrec] at hr gp gs
    refine ⟨some c, _, hr, hstop _ c pre _ (Nat.le_refl _) (by rw [gs]; omega) hpre ((hIx c).fewer ((hIx c).turn hi gp gs (.inr (.inr rfl))) (fun k h => .inr (.inl h))) ((World.putObj_heap_other (by omega)).trans hk)⟩

end Go.Proofs.YtfmipdhkiahjoaaDoor.B
/- A region that draws its order, walked once whatever the order: an invariant over what has come up. -/
namespace Go.Proofs.YtfmipdhkiahjoaaDoor.B
open Go

/-- What an operation does, from act b and world w: its value, and the world behind it. -/
def StepOK (P : Program) (ops : Array Oper) (o : Oper) (b : Act) (w : World) (Ψ : Value → World → Prop) : Prop :=
 ∀ (K : Act → World → Prop) (Q : Exit → Act → World → Prop), (∀ v w', Ψ v w' → K (b.put o.dst v) w') →
  if Region.wanted o (yielded ops b.tmps) = true then Oper.wp P o b w K Q else K (b.put o.dst undef) w

theorem put_same {a b : Act} (hs : a.tmps.size = b.tmps.size) {d : Option Tmp} {v v' : Value} (h : b.put d v = b.put d v') : a.put d v = a.put d v' := by
 cases d with
 | none => rfl
 | some d =>
  by_cases hd : d < b.tmps.size
  ·have h1 : (b.put (some d) v).tmps[d]? = (b.put (some d) v').tmps[d]? := by rw [h]
   simp [Act.put, hd] at h1
   rw [h1]
  ·simp only [Act.put]
   rw [Array.setIfInBounds_eq_of_size_le (by rw [hs]; exact Nat.le_of_not_lt hd), Array.setIfInBounds_eq_of_size_le (by rw [hs]; exact Nat.le_of_not_lt hd)]

section
variable {P : Program} {ops : Array Oper} {Q : Exit → Act → World → Prop}

theorem StepOK.wpOp {i : Nat} {o : Oper} {a b : Act} {w : World} {Ψ : Value → World → Prop} {K : Act → World → Prop} (hi : ops[i]? = some o) (hsel : ∀ cs bb, o.op ≠ .select cs bb)
  (hsz : a.tmps.size = b.tmps.size) (hag : ∀ t ∈ o.looksAt ops, a.tmps[t]? = b.tmps[t]?) (h : StepOK P ops o b w Ψ) (hK : ∀ v w', Ψ v w' → K (a.put o.dst v) w') : wpOp P ops Q i K a w := by
 have he : execOp a.eval o = execOp b.eval o := execOp_congr o hsel fun x hx => by
  cases x with
  | tmp t =>
   have : t ∈ o.looksAt ops := List.mem_append_left _ (List.mem_filterMap.2 ⟨.tmp t, by simpa using hx, rfl⟩)
   have h1 := hag t this
   simp only [Act.eval, Array.getD_eq_getD_getElem?, h1]
  | _ => rfl
 have hw : Region.wanted o (yielded ops a.tmps) = Region.wanted o (yielded ops b.tmps) := by
  unfold Region.wanted
  cases hg : o.guard with
  | none => rfl
  | some gw =>
   obtain ⟨g, want⟩ := gw
   have hy : yielded ops a.tmps g = yielded ops b.tmps g := by
    unfold yielded
    cases ht : (ops[g]?).bind (·.dst) with
    | none => rfl
    | some t =>
     have h1 := hag t (by simp [Oper.looksAt, hg, ht])
     simp only [Option.bind_some, h1]
   simp only [hy]
 have H := h (fun a' w' => ∃ v, a' = b.put o.dst v ∧ Ψ v w') (fun _ _ _ => False) (fun v w' hv => ⟨v, rfl, hv⟩)
 unfold Go.wpOp
 simp only [hi, hw]
 by_cases hwb : Region.wanted o (yielded ops b.tmps) = true
 ·rw [if_pos hwb] at H ⊢
  refine .inl ?_
  unfold Oper.wp at *
  rw [he]
  generalize (execOp b.eval o).run P w = r at *
  cases r with
  | ok n w' =>
   cases n <;> simp only [Oper.upon] at H ⊢
   case value u =>
    obtain ⟨v, h1, h2⟩ := H
    rw [put_same hsz h1]
    exact hK v w' h2
   case skip =>
    obtain ⟨v, h1, h2⟩ := H
    rw [put_same hsz h1]
    exact hK v w' h2
   case defer d =>
    obtain ⟨v, h1, h2⟩ := H
    exfalso
    have h3 : (({ b with defers := d :: b.defers } : Act).put o.dst undef).defers = (b.put o.dst v).defers := by rw [h1]
    cases hd : o.dst <;> simp [Act.put, hd] at h3
   case enter f args =>
    refine Calls.mono H fun e w'' hh => ?_
    cases e with
    | returned u =>
     obtain ⟨v, h1, h2⟩ := hh
     show K (a.put o.dst u) w''
     rw [put_same hsz h1]
     exact hK v w'' h2
    | panicked c => exact hh.elim
    | outgrown =>
     obtain ⟨_, _, h9⟩ := (hh : LetsOut _)
     exact h9.elim
   case row row args =>
    refine Rows.mono H fun u w'' hh => ?_
    obtain ⟨v, h1, h2⟩ := hh
    rw [put_same hsz h1]
    exact hK v w'' h2
  | halt x w' =>
   cases x <;> simp only [Oper.upon] at H ⊢
   all_goals exact H.elim
 ·rw [if_neg hwb] at H ⊢
  obtain ⟨v, h1, h2⟩ := H
  rw [put_same hsz h1]
  exact hK v w h2

/-- An act with some temporaries filled. -/
def putL : Act → List (Tmp × Value) → Act
 | a, [] => a
 | a, (n, v) :: r => putL (a.put (some n) v) r
theorem putL_size (L : List (Tmp × Value)) : ∀ a : Act, (putL a L).tmps.size = a.tmps.size := by
 induction L with
 | nil => exact fun _ => rfl
 | cons p L ih => intro a; rw [putL, ih]; simp [Act.put]
theorem putL_defers (L : List (Tmp × Value)) : ∀ a : Act, (putL a L).defers = a.defers := by
 induction L with
 | nil => exact fun _ => rfl
 | cons p L ih => intro a; rw [putL, ih]; rfl
theorem putL_not (L : List (Tmp × Value)) (t : Nat) : ∀ a : Act, (∀ p ∈ L, p.1 ≠ t) → (putL a L).tmps[t]? = a.tmps[t]? := by
 induction L with
 | nil => exact fun _ _ => rfl
 | cons p L ih =>
  intro a h
  rw [putL, ih _ fun q hq => h q (List.mem_cons_of_mem _ hq)]
  simp [Act.put, Array.getElem?_setIfInBounds_ne (h p (List.mem_cons_self ..))]
theorem putL_mem (L : List (Tmp × Value)) (t : Nat) (v : Value) : ∀ a : Act, (L.map (·.1)).Nodup → (t, v) ∈ L → t < a.tmps.size → (putL a L).tmps[t]? = some v := by
 induction L with
 | nil => intro a _ h; cases h
 | cons p L ih =>
  intro a hn h ht
  rw [List.map_cons, List.nodup_cons] at hn
  rw [putL]
  rcases List.mem_cons.1 h with h | h
  ·subst h
   rw [putL_not L t _ fun q hq he => hn.1 (List.mem_map.2 ⟨q, hq, he⟩)]
   simp [Act.put, ht]
  ·exact ih _ hn.2 h (by simp [Act.put, ht])

def waitsOn (o : Oper) : List Nat := (o.after.toList.filter fun e => Region.binds .any e).map (·.on)
def dstsOf (ops : Array Oper) : List (Tmp × Nat) := (List.range ops.size).filterMap fun i => (ops[i]?).bind fun o => o.dst.map fun t => (t, i)
def weaveB (ops : Array Oper) (ds : List (Tmp × Nat)) : Bool :=
 Region.noSelect ops && dstsOf ops == ds && decide (ds.map (·.1)).Nodup && (List.range ops.size).all fun i => match ops[i]? with
  | some o => (waitsOn o).all fun j => decide (j < i)
  | none => true
/-- What an operation sees: what it waits for is there, and what the region does not write is as it was. -/
structure Sees (a0 : Act) (ds : List (Tmp × Nat)) (o : Oper) (vs : Nat → Value) (b : Act) : Prop where
 got : ∀ p ∈ ds, p.2 ∈ waitsOn o → p.1 < a0.tmps.size → b.tmps[p.1]? = some (vs p.2)
 kept : ∀ t, (∀ p ∈ ds, p.1 ≠ t) → b.tmps[t]? = a0.tmps[t]?
theorem Sees.tm {a0 : Act} {ds : List (Tmp × Nat)} {o : Oper} {vs : Nat → Value} {b : Act} (h : Sees a0 ds o vs b) (t : Tmp) (j : Nat) (hc : (ds.contains (t, j) && (waitsOn o).contains j && decide (t < a0.tmps.size)) = true) : b.tmps[t]? = some (vs j) := by
 simp only [Bool.and_eq_true, List.contains_eq_mem, decide_eq_true_eq] at hc
 exact h.got (t, j) hc.1.1 hc.1.2 hc.2
theorem Sees.ev {a0 : Act} {ds : List (Tmp × Nat)} {o : Oper} {vs : Nat → Value} {b : Act} (h : Sees a0 ds o vs b) (t : Tmp) (j : Nat) (hc : (ds.contains (t, j) && (waitsOn o).contains j && decide (t < a0.tmps.size)) = true) : b.eval (.tmp t) = vs j := by
 simp only [Act.eval, Array.getD_eq_getD_getElem?, h.tm t j hc, Option.getD_some]
theorem Sees.oldtm {a0 : Act} {ds : List (Tmp × Nat)} {o : Oper} {vs : Nat → Value} {b : Act} (h : Sees a0 ds o vs b) (t : Tmp) (hc : (ds.all fun p => p.1 != t) = true) : b.tmps[t]? = a0.tmps[t]? := h.kept t fun p hp => by simpa using List.all_eq_true.1 hc p hp
theorem Sees.old {a0 : Act} {ds : List (Tmp × Nat)} {o : Oper} {vs : Nat → Value} {b : Act} (h : Sees a0 ds o vs b) (t : Tmp) (hc : (ds.all fun p => p.1 != t) = true) : b.eval (.tmp t) = a0.eval (.tmp t) := by
 simp only [Act.eval, Array.getD_eq_getD_getElem?, h.kept t fun p hp => by simpa using List.all_eq_true.1 hc p hp]
theorem mem_dsts {i : Nat} {t : Tmp} (h : (t, i) ∈ dstsOf ops) : ∃ o, ops[i]? = some o ∧ o.dst = some t := by
 unfold dstsOf at h
 obtain ⟨j, _, hj⟩ := List.mem_filterMap.1 h
 obtain ⟨o, ho, h1⟩ := Option.bind_eq_some_iff.1 hj
 obtain ⟨u, hu, h2⟩ := Option.map_eq_some_iff.1 h1
 injection h2 with h3 h4
 subst h3 h4
 exact ⟨o, ho, hu⟩
theorem dsts_mem {i : Nat} {o : Oper} {t : Tmp} (ho : ops[i]? = some o) (h : o.dst = some t) : (t, i) ∈ dstsOf ops := by
 unfold dstsOf
 refine List.mem_filterMap.2 ⟨i, List.mem_range.2 (Array.getElem?_eq_some_iff.1 ho).1, ?_⟩
 rw [ho, Option.bind_some, h]
 rfl
/-- What has not come up. -/
def unl (n : Nat) (l : Array Bool) : Nat := ((List.range n).filter fun i => !l.getD i true).length
theorem filter_lt {p q : Nat → Bool} {i : Nat} (hq : ∀ j, q j = true → p j = true) (hp : p i = true) (hqi : q i = false) : ∀ L : List Nat, i ∈ L → (L.filter q).length < (L.filter p).length := by
 intro L
 induction L with
 | nil => intro h; cases h
 | cons a L ih =>
  intro h
  have hle : (L.filter q).length ≤ (L.filter p).length := by
   clear ih h
   induction L with
   | nil => exact Nat.le_refl _
   | cons b L ih =>
    simp only [List.filter_cons]
    cases hb : q b with
    | true => rw [hq b hb]; simp; exact ih
    | false => cases p b <;> simp <;> omega
  rcases List.mem_cons.1 h with h | h
  ·subst h
   simp only [List.filter_cons, hp, hqi]
   simp
   omega
  ·have := ih h
   simp only [List.filter_cons]
   cases hb : q a with
   | true => rw [hq a hb]; simp; exact this
   | false => cases p a <;> simp <;> omega

theorem fst_inj : ∀ L : List (Tmp × Nat), (L.map (·.1)).Nodup → ∀ p ∈ L, ∀ q ∈ L, p.1 = q.1 → p = q
 | [], _, _, h, _, _, _ => by cases h
 | a :: L, hn, p, hp, q, hq, he => by
  rw [List.map_cons, List.nodup_cons] at hn
  rcases List.mem_cons.1 hp with h1 | h1 <;> rcases List.mem_cons.1 hq with h2 | h2
  ·rw [h1, h2]
  ·exact absurd (List.mem_map.2 ⟨q, h2, by rw [← he, h1]⟩) hn.1
  ·exact absurd (List.mem_map.2 ⟨p, h1, by rw [he, h2]⟩) hn.1
  ·exact fst_inj L hn.2 p h1 q h2 he

structure WInv (ops : Array Oper) (a0 : Act) (ds : List (Tmp × Nat)) (l : Array Bool) (vs : Nat → Value) (a : Act) : Prop where
 lsz : l.size = ops.size
 asz : a.tmps.size = a0.tmps.size
 adf : a.defers = a0.defers
 kept : ∀ t, (∀ p ∈ ds, l.getD p.2 false = true → p.1 ≠ t) → a.tmps[t]? = a0.tmps[t]?
 vals : ∀ p ∈ ds, l.getD p.2 false = true → p.1 < a0.tmps.size → a.tmps[p.1]? = some (vs p.2)

theorem weave_go {a0 : Act} (I : (Nat → Bool) → (Nat → Value) → World → Prop) (ds : List (Tmp × Nat)) (hB : weaveB ops ds = true)
  (hstep : ∀ i o, ops[i]? = some o → ∀ l vs w, I l vs w → l i = false → (∀ j ∈ waitsOn o, l j = true) → ∀ b, Sees a0 ds o vs b → StepOK P ops o b w fun v w' => I (fun j => j == i || l j) (fun j => if j = i then v else vs j) w')
  (hend : ∀ l vs w, (∀ j, j < ops.size → l j = true) → I l vs w → Q .normal (putL a0 (ds.map fun p => (p.1, vs p.2))) w) :
  ∀ (fuel : Nat) (l : Array Bool) (a : Act) (w : World) (vs : Nat → Value), WInv ops a0 ds l vs a → unl ops.size l ≤ fuel → I (fun j => l.getD j false) vs w → wpAny P .any ops Q fuel l a w := by
 simp only [weaveB, Bool.and_eq_true, beq_iff_eq, decide_eq_true_eq] at hB
 obtain ⟨⟨⟨hns, hds⟩, hnd⟩, hall⟩ := hB
 have hall' : ∀ i o, ops[i]? = some o → ∀ j ∈ waitsOn o, j < i := by
  intro i o ho j hj
  have h1 := List.all_eq_true.1 hall i (List.mem_range.2 (Array.getElem?_eq_some_iff.1 ho).1)
  simp only [ho] at h1
  simpa using List.all_eq_true.1 h1 j hj
 have hfull : ∀ l : Array Bool, l.size = ops.size → Region.ready .any ops l = [] → ∀ i, i < ops.size → l.getD i false = true := by
  intro l hl hr i
  induction i using Nat.strongRecOn with
  | ind i ih =>
   intro hi
   cases hc : l.getD i true with
   | true =>
    have : i < l.size := by omega
    simp [this] at hc ⊢
    exact hc
   | false =>
    exfalso
    have ho : ops[i]? = some ops[i] := by simp [hi]
    have : i ∈ Region.ready .any ops l := mem_ready.2 ⟨hc, _, ho, fun e he hb => by
     have hm : e.on ∈ waitsOn ops[i] := List.mem_map.2 ⟨e, List.mem_filter.2 ⟨by simpa using he, hb⟩, rfl⟩
     have hlt := hall' i _ ho _ hm
     exact ih _ hlt (by omega)⟩
    rw [hr] at this
    cases this
 have hfin : ∀ (l : Array Bool) (vs : Nat → Value) (a : Act) (w : World), WInv ops a0 ds l vs a → (∀ i, i < ops.size → l.getD i false = true) → I (fun j => l.getD j false) vs w → Q .normal a w := by
  intro l vs a w hW hL hI
  have hlt : ∀ p ∈ ds, p.2 < ops.size := by
   intro p hp
   rw [← hds] at hp
   obtain ⟨o, ho, _⟩ := mem_dsts (t := p.1) (i := p.2) hp
   exact (Array.getElem?_eq_some_iff.1 ho).1
  have he : a = putL a0 (ds.map fun p => (p.1, vs p.2)) := by
   have ht : a.tmps = (putL a0 (ds.map fun p => (p.1, vs p.2))).tmps := by
    apply Array.ext_getElem?
    intro t
    by_cases hx : ∃ p ∈ ds, p.1 = t
    ·obtain ⟨p, hp, rfl⟩ := hx
     by_cases hs : p.1 < a0.tmps.size
     ·rw [hW.vals p hp (hL _ (hlt p hp)) hs, putL_mem _ p.1 (vs p.2) a0 (by rw [List.map_map]; exact hnd) (List.mem_map.2 ⟨p, hp, rfl⟩) hs]
     ·rw [Array.getElem?_eq_none (by rw [hW.asz]; exact Nat.le_of_not_lt hs), Array.getElem?_eq_none (by rw [putL_size]; exact Nat.le_of_not_lt hs)]
    ·rw [hW.kept t fun p hp _ he => hx ⟨p, hp, he⟩, putL_not _ t a0 fun q hq he => by
      obtain ⟨p, hp, rfl⟩ := List.mem_map.1 hq
      exact hx ⟨p, hp, he⟩]
   have hdf : a.defers = (putL a0 (ds.map fun p => (p.1, vs p.2))).defers := by rw [hW.adf, putL_defers]
   generalize putL a0 (ds.map fun p => (p.1, vs p.2)) = b at ht hdf
   cases a
   cases b
   simp only at ht hdf
   subst ht hdf
   rfl
  rw [he]
  exact hend _ vs w hL hI
 intro fuel
 induction fuel with
 | zero =>
  intro l a w vs hW hU hI
  have hL : ∀ i, i < ops.size → l.getD i false = true := by
   intro i hi
   have h0 : ((List.range ops.size).filter fun i => !l.getD i true) = [] := List.eq_nil_of_length_eq_zero (Nat.le_zero.1 hU)
   have h1 : i ∉ (List.range ops.size).filter fun i => !l.getD i true := by rw [h0]; simp
   have : i < l.size := by rw [hW.lsz]; exact hi
   simp [List.mem_filter, hi, this] at h1
   simp [this, h1]
  refine ⟨?_, hfin l vs a w hW hL hI⟩
  cases hr : Region.ready .any ops l with
  | nil => rfl
  | cons j r =>
   exfalso
   obtain ⟨h1, o, ho, _⟩ := mem_ready.1 (hr ▸ List.mem_cons_self .. : j ∈ Region.ready .any ops l)
   have hj := (Array.getElem?_eq_some_iff.1 ho).1
   have h2 := hL j hj
   have : j < l.size := by rw [hW.lsz]; exact hj
   simp [this] at h1 h2
   rw [h1] at h2
   cases h2
 | succ fuel ih =>
  intro l a w vs hW hU hI
  refine ⟨fun hr => hfin l vs a w hW (hfull l hW.lsz hr) hI, fun i hi => ?_⟩
  obtain ⟨h1, o, ho, hdep⟩ := mem_ready.1 hi
  have hlt := (Array.getElem?_eq_some_iff.1 ho).1
  have hls : i < l.size := by rw [hW.lsz]; exact hlt
  have hli : l.getD i false = false := by simp [hls] at h1 ⊢; exact h1
  have hw : ∀ j ∈ waitsOn o, l.getD j false = true := by
   intro j hj
   obtain ⟨e, he, rfl⟩ := List.mem_map.1 hj
   obtain ⟨he1, he2⟩ := List.mem_filter.1 he
   exact hdep e (by simpa using he1) he2
  have hS := hstep i o ho (fun j => l.getD j false) vs w hI hli hw a ⟨fun p hp hpw hs => hW.vals p hp (hw _ hpw) hs, fun t ht => hW.kept t fun p hp _ => ht p hp⟩
  refine hS.wpOp ho (Region.noSelect_spec hns i o · · ho) rfl (fun t ht => rfl) (fun v w' hv => ?_)
  have hset : ∀ j, (l.setIfInBounds i true).getD j false = (j == i || l.getD j false) := by
   intro j
   by_cases hj : j = i
   ·subst hj; simp [hls]
   ·rw [getD_set_ne false (Ne.symm hj)]; simp [hj]
  have hdst : ∀ p ∈ ds, p.2 = i → o.dst = some p.1 := by
   intro p hp he
   rw [← hds] at hp
   obtain ⟨o', ho', hd⟩ := mem_dsts (t := p.1) (i := p.2) hp
   rw [he, ho] at ho'
   injection ho' with ho'
   subst ho'
   exact hd
  have hone : ∀ p ∈ ds, ∀ q ∈ ds, p.1 = q.1 → p = q := by
   intro p hp q hq he
   exact fst_inj ds hnd p hp q hq he
  refine ih (l.setIfInBounds i true) (a.put o.dst v) w' (fun j => if j = i then v else vs j) ⟨by simp [hW.lsz], ?_, ?_, ?_, ?_⟩ ?_ ?_
  ·rw [← hW.asz]; cases o.dst <;> simp [Act.put]
  ·rw [← hW.adf]; cases o.dst <;> rfl
  ·intro t ht
   rw [← hW.kept t fun p hp hl => ht p hp (by rw [hset, hl]; simp)]
   cases hd : o.dst with
   | none => rfl
   | some d =>
    have hne : d ≠ t := ht (d, i) (hds ▸ dsts_mem ho hd) (by rw [hset]; simp)
    simp [Act.put, Array.getElem?_setIfInBounds_ne hne]
  ·intro p hp hl hs
   by_cases hpi : p.2 = i
   ·rw [hdst p hp hpi, if_pos hpi]
    have : p.1 < a.tmps.size := by rw [hW.asz]; exact hs
    simp [Act.put, this]
   ·rw [if_neg hpi]
    have hl' : l.getD p.2 false = true := by
     rw [hset] at hl
     simpa [hpi] using hl
    rw [← hW.vals p hp hl' hs]
    cases hd : o.dst with
    | none => rfl
    | some d =>
     have hne : d ≠ p.1 := fun he => hpi (by
      have := hone p hp (d, i) (hds ▸ dsts_mem ho hd) he.symm
      rw [this])
     simp [Act.put, Array.getElem?_setIfInBounds_ne hne]
  ·have : unl ops.size (l.setIfInBounds i true) < unl ops.size l := by
    refine filter_lt (i := i) (fun j hj => ?_) (by simp only [h1]; rfl) ?_ _ (List.mem_range.2 hlt)
    ·by_cases hji : j = i
     ·subst hji; simp only [h1]; rfl
     ·rw [getD_set_ne true (Ne.symm hji)] at hj; exact hj
    ·simp [hls]
   omega
  ·have : (fun j => (l.setIfInBounds i true).getD j false) = fun j => j == i || l.getD j false := funext hset
   rw [this]
   exact hv

theorem weave {id : Nat} {a0 : Act} {w : World} (I : (Nat → Bool) → (Nat → Value) → World → Prop) (ds : List (Tmp × Nat)) (hm : P.follows .mixedOrders = true) (hB : weaveB ops ds = true)
  (h0 : I (fun _ => false) (fun _ => undef) w.drew)
  (hstep : ∀ i o, ops[i]? = some o → ∀ l vs w, I l vs w → l i = false → (∀ j ∈ waitsOn o, l j = true) → ∀ b, Sees a0 ds o vs b → StepOK P ops o b w fun v w' => I (fun j => j == i || l j) (fun j => if j = i then v else vs j) w')
  (hend : ∀ l vs w, (∀ j, j < ops.size → l j = true) → I l vs w → Q .normal (putL a0 (ds.map fun p => (p.1, vs p.2))) w) : (Code.region id ops true).wp P Q a0 w := by
 refine wp_region_any hm (weave_go I ds hB hstep hend ops.size (Array.replicate ops.size false) a0 _ (fun _ => undef) ⟨by simp, rfl, rfl, fun _ _ => rfl, fun p _ h => ?_⟩ ?_ ?_)
 ·exfalso
  have : (Array.replicate ops.size false).getD p.2 false = false := by simp [Array.getElem?_replicate]; split <;> rfl
  rw [this] at h
  cases h
 ·exact Nat.le_trans (List.length_filter_le _ _) (by simp)
 ·have : (fun j => (Array.replicate ops.size false).getD j false) = fun _ => false := funext fun j => by simp [Array.getElem?_replicate]; split <;> rfl
  rw [this]
  exact h0

/-- The rows of a region one by one. -/
def OpsAll (p : Nat → Oper → Prop) : List Oper → Nat → Prop
 | [], _ => True
 | o :: r, n => p n o ∧ OpsAll p r (n + 1)
theorem OpsAll.at {p : Nat → Oper → Prop} : ∀ (L : List Oper) (n : Nat), OpsAll p L n → ∀ i o, L[i]? = some o → p (n + i) o
 | [], _, _, i, o, h => by simp at h
 | a :: L, n, H, 0, o, h => by
  simp only [List.getElem?_cons_zero, Option.some.injEq] at h
  subst h
  exact H.1
 | a :: L, n, H, i + 1, o, h => by
  rw [List.getElem?_cons_succ] at h
  have := OpsAll.at L (n + 1) H.2 i o h
  rwa [show n + 1 + i = n + (i + 1) by omega] at this
theorem OpsAll.imp {p q : Nat → Oper → Prop} (h : ∀ i o, p i o → q i o) : ∀ (L : List Oper) (n : Nat), OpsAll p L n → OpsAll q L n
 | [], _, _ => trivial
 | a :: L, n, H => ⟨h n a H.1, OpsAll.imp h L (n + 1) H.2⟩
/-- With facts that last: R is what any operation may do to the world, F what is known of each value. -/
theorem weaveR {id : Nat} {a0 : Act} {w : World} (R : World → World → Prop) (F : Nat → Value → World → Prop) (ds : List (Tmp × Nat)) (hm : P.follows .mixedOrders = true) (hB : weaveB ops ds = true)
  (hR : ∀ w, R w w) (hT : ∀ a b c, R a b → R b c → R a c) (hF : ∀ i v a b, R a b → F i v a → F i v b)
  (hstep : OpsAll (fun i o => ∀ vs W, R w.drew W → (∀ j ∈ waitsOn o, F j (vs j) W) → ∀ b, Sees a0 ds o vs b → StepOK P ops o b W fun v W' => R W W' ∧ F i v W') ops.toList 0)
  (hend : ∀ (vs : Nat → Value) W, R w.drew W → (∀ j, j < ops.size → F j (vs j) W) → Q .normal (putL a0 (ds.map fun p => (p.1, vs p.2))) W) : (Code.region id ops true).wp P Q a0 w := by
 refine weave (fun l vs W => R w.drew W ∧ ∀ j, l j = true → F j (vs j) W) ds hm hB ⟨hR _, fun _ h => by cases h⟩ (fun i o ho l vs W hI _ hw => ?_) (fun l vs W hl hI => hend vs W hI.1 fun j hj => hI.2 j (hl j hj))
 have h := OpsAll.at ops.toList 0 hstep i o (by rw [Array.getElem?_toList]; exact ho)
 rw [Nat.zero_add] at h
 have h1 := h vs W hI.1 fun j hj => hI.2 j (hw j hj)
 intro b hsee K Q' hK
 refine h1 b hsee K Q' fun v W' hv => hK v W' ⟨hT _ _ _ hI.1 hv.1, fun j hj => ?_⟩
 by_cases hji : j = i
 ·subst hji
  simpa using hv.2
 ·have hj' : l j = true := by simpa [hji] using hj
  simp only [hji, if_false]
  exact hF j _ _ _ hv.1 (hI.2 j hj')
end
end Go.Proofs.YtfmipdhkiahjoaaDoor.B
