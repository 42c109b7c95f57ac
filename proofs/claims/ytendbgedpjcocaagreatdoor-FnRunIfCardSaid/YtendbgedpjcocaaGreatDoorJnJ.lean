import Derived.Test.YtendbgedpjcocaaGreatDoorJnB
import Derived.Test.YtendbgedpjcocaaGreatDoorPkA
import Derived.Deep.QuietTactic
import Derived.BigQuiet
import Derived.Test.YtendbgedpjcocaaGreatDoorJnH
import Derived.Deep.RegionHeld3
import Derived.RangeFuncBox
import Derived.Test.YtendbgedpjcocaaGreatDoorB0
import Derived.StillTailTactics
import Derived.Test.YtendbgedpjcocaaGreatDoorPkB
import Derived.Laws.BitsLemmas
/- impl.doingOf: a statement by its kind; whether it is plain. -/
namespace Go.Proofs.YtendbgedpjcocaaGreatDoor.B
open Go.RowKit Go.Shelf Go.Proofs.YtendbgedpjcocaaGreatDoorW.PrintWords Go.Proofs.YtendbgedpjcocaaGreatDoorW.PrintLast Go.Proofs.YtendbgedpjcocaaGreatDoorW.PrintMore
set_option linter.unusedVariables false

abbrev St := S35
abbrev stK := k35
abbrev stCells (s : St) (A7 : Option Addr) (c7 : Nat) (A8 : Option Addr) (c8 : Nat) (A9 : Option Addr) (c9 : Nat) : Array Value :=
 #[.int .i64 s.f0, .int .i64 s.f1.f0, .int .i64 s.f1.f1, .int .i64 s.f2.f0, .int .i64 s.f2.f1, .int .i64 s.f2.f2.f0, .int .i64 s.f2.f2.f1, .slice A7 s.f2.f3.length c7, .slice A8 s.f3.length c8, .slice A9 s.f4.length c9]
/-- The value that doingOf hands back. -/
def doV (s : St) (A7 : Option Addr) (c7 : Nat) (A8 : Option Addr) (c8 : Nat) (A9 : Option Addr) (c9 : Nat) : Value :=
 if s.f0 = 1 then .iface 124 (.agg #[.int .i64 s.f1.f0, .int .i64 s.f1.f1, .int .i64 s.f2.f0, .int .i64 s.f2.f1, .int .i64 s.f2.f2.f0, .int .i64 s.f2.f2.f1, .slice A7 s.f2.f3.length c7])
 else if s.f0 = 2 then .iface 126 (.agg #[.int .i64 s.f2.f0, .int .i64 s.f2.f1, .int .i64 s.f2.f2.f0, .int .i64 s.f2.f2.f1, .slice A7 s.f2.f3.length c7, .slice A8 s.f3.length c8, .slice A9 s.f4.length c9])
 else if s.f0 = 3 then .iface 128 (.agg #[.int .i64 s.f2.f0, .int .i64 s.f2.f1, .int .i64 s.f2.f2.f0, .int .i64 s.f2.f2.f1, .slice A7 s.f2.f3.length c7, .slice A8 s.f3.length c8])
 else .nilIface
set_option maxRecDepth 100000 in
set_option maxHeartbeats 4000000 in
theorem doing_any (s : St) (A7 : Option Addr) (c7 : Nat) (A8 : Option Addr) (c8 : Nat) (A9 : Option Addr) (c9 : Nat) (w : World) :
  Calls Tryz.prog 68 #[.agg (stCells s A7 c7 A8 c8 A9 c9)] w fun e w' => e = .returned (doV s A7 c7 A8 c8 A9 c9) ∧ Below w.heap.size w w' := by
 have HB := Aside0.mk (Below.refl w.heap.size w)
 obtain ⟨k, hk⟩ : ∃ k, k = s.f0 := ⟨_, rfl⟩
 have HV : Aside0 (doV s A7 c7 A8 c8 A9 c9 = _) := Aside0.mk (by unfold doV; rw [← hk])
 unfold stCells
 rw [← hk]
 clear hk
 by_cases h1 : k = 1
 ·subst h1
  go_enter Tryz.func68, Tryz.ntmps68
  go_wp2
  try (go_quiet (fail); go_wp2)
  go_ret
  exact ⟨by rw [HV.out]; rfl, by repeat (first | (with_reducible first | exact HB.out | apply below_alloc | apply pw_below_drewN | apply below_drew1) | exact HB.out)⟩
 ·by_cases h2 : k = 2
  ·subst h2
   go_enter Tryz.func68, Tryz.ntmps68
   go_wp2
   try (go_quiet (fail); go_wp2)
   go_ret
   exact ⟨by rw [HV.out]; rfl, by repeat (first | (with_reducible first | exact HB.out | apply below_alloc | apply pw_below_drewN | apply below_drew1) | exact HB.out)⟩
  ·by_cases h3 : k = 3
   ·subst h3
    go_enter Tryz.func68, Tryz.ntmps68
    go_wp2
    try (go_quiet (fail); go_wp2)
    go_ret
    exact ⟨by rw [HV.out]; rfl, by repeat (first | (with_reducible first | exact HB.out | apply below_alloc | apply pw_below_drewN | apply below_drew1) | exact HB.out)⟩
   ·have e1 : (k == 1) = false := beq_false_of_ne h1
    have e2 : (k == 2) = false := beq_false_of_ne h2
    have e3 : (k == 3) = false := beq_false_of_ne h3
    have HK := Aside0.mk (And.intro h1 (And.intro h2 h3)); clear h1 h2 h3
    go_enter Tryz.func68, Tryz.ntmps68
    go_wp2
    go_ret
    exact ⟨by rw [HV.out, if_neg HK.out.1, if_neg HK.out.2.1, if_neg HK.out.2.2]; rfl, by repeat (first | (with_reducible first | exact HB.out | apply below_alloc | apply pw_below_drewN | apply below_drew1) | exact HB.out)⟩
theorem meth_plain1 (v : Value) : ∀ w, (method 299 124 v "loop.example/stopgate/impl.plain").run Tryz.prog w = .ok (126, v) w := fun _ => by kernel_rfl
theorem meth_plain2 (v : Value) : ∀ w, (method 299 126 v "loop.example/stopgate/impl.plain").run Tryz.prog w = .ok (129, v) w := fun _ => by kernel_rfl
theorem meth_plain3 (v : Value) : ∀ w, (method 299 128 v "loop.example/stopgate/impl.plain").run Tryz.prog w = .ok (132, v) w := fun _ => by kernel_rfl
def putsL (k a : Int) : Bool := addrOkL k a && k != 1
/-- Whether a statement has nothing that its kind has not. -/
def plainL (s : St) : Bool :=
 if s.f0 = 1 then putsL s.f1.f0 s.f1.f1 && (s.f3.length == 0 && s.f4.length == 0)
 else if s.f0 = 2 then s.f1.f0 == 0 && s.f1.f1 == 0
 else if s.f0 = 3 then (s.f1.f0 == 0 && s.f1.f1 == 0) && s.f4.length == 0
 else false
/-- A statement of a kind: what is called to learn whether it is plain. -/
structure DoIs (s : St) (A7 : Option Addr) (c7 : Nat) (A8 : Option Addr) (c8 : Nat) (A9 : Option Addr) (c9 : Nat) (T : TypeId) (v : Value) (fp : Nat) : Prop where
 v' : doV s A7 c7 A8 c8 A9 c9 = .iface T v
 m : ∀ w, (method 299 T v "loop.example/stopgate/impl.plain").run Tryz.prog w = .ok (fp, v) w
 ep : ∀ args w, (callFunc fp args).run Tryz.prog w = .ok (.enter fp args) w
 cp : ∀ w, Kd.C k27 w A7 s.f2.f3.length s.f2.f3 → s.f2.f3.length ≤ c7 → Kd.C stK w A8 s.f3.length s.f3 → s.f3.length ≤ c8 → Kd.C stK w A9 s.f4.length s.f4 → s.f4.length ≤ c9 →
  Calls Tryz.prog fp #[v, .agg (stCells s A7 c7 A8 c8 A9 c9)] w fun e w' => e = .returned (.bool (plainL s)) ∧ Below w.heap.size w w'
theorem puts_is (k a : Int) : impl_puts.f k a = some (putsL k a) := by
 rw [impl_puts.f, impl_AddrOk.f, putsL, addrOkL]
 by_cases h1 : k ≥ 1
 ·by_cases h2 : k ≤ 3
  ·by_cases h3 : a ≥ 0
   ·rw [if_pos h1, if_pos h2, if_pos h3]
    by_cases h4 : a < 6
    ·rw [decide_eq_true h4, decide_eq_true (show 1 ≤ k ∧ k ≤ 3 ∧ 0 ≤ a ∧ a < 6 by omega)]; simp
    ·rw [decide_eq_false h4, decide_eq_false (show ¬ (1 ≤ k ∧ k ≤ 3 ∧ 0 ≤ a ∧ a < 6) by omega)]; simp
   ·rw [if_pos h1, if_pos h2, if_neg h3, decide_eq_false (show ¬ (1 ≤ k ∧ k ≤ 3 ∧ 0 ≤ a ∧ a < 6) by omega)]; simp
  ·rw [if_pos h1, if_neg h2, decide_eq_false (show ¬ (1 ≤ k ∧ k ≤ 3 ∧ 0 ≤ a ∧ a < 6) by omega)]; simp
 ·rw [if_neg h1, decide_eq_false (show ¬ (1 ≤ k ∧ k ≤ 3 ∧ 0 ≤ a ∧ a < 6) by omega)]; simp
theorem do_is (s : St) (A7 : Option Addr) (c7 : Nat) (A8 : Option Addr) (c8 : Nat) (A9 : Option Addr) (c9 : Nat) (h : s.f0 = 1 ∨ s.f0 = 2 ∨ s.f0 = 3) : ∃ T v fp, DoIs s A7 c7 A8 c8 A9 c9 T v fp := by
 rcases h with h | h | h
 ·refine ⟨_, _, _, by rw [doV, if_pos h], meth_plain1 _, enters_of Tryz.func126 (by kernel_rfl) rfl, fun w h1 h2 h3 h4 h5 h6 => ?_⟩
  refine impl_setDoing_plain.calls _ _ _ _ _ _ A7 c7 s.f2.f3 _ _ _ _ _ _ _ A7 c7 s.f2.f3 A8 c8 s.f3 A9 c9 s.f4 (plainL s) w h1 h2 h1 h2 h3 h4 h5 h6 ?_
  rw [impl_setDoing_plain.f, puts_is, plainL, if_pos h]
  simp only [Option.bind_some]
  cases putsL s.f1.f0 s.f1.f1 with
  | false => rfl
  | true =>
   rw [if_pos rfl]
   by_cases h0 : s.f3.length = 0
   ·rw [if_pos (by omega), h0]
    by_cases h1 : s.f4.length = 0
    ·rw [h1]; rfl
    ·rw [show ((s.f4.length : Int) == 0) = false from beq_false_of_ne (by omega), show (s.f4.length == 0) = false from beq_false_of_ne h1]; rfl
   ·rw [if_neg (by omega), show (s.f3.length == 0) = false from beq_false_of_ne h0]; rfl
 ·refine ⟨_, _, _, by rw [doV, if_neg (by omega), if_pos h], meth_plain2 _, enters_of Tryz.func129 (by kernel_rfl) rfl, fun w h1 h2 h3 h4 h5 h6 => ?_⟩
  refine impl_ifDoing_plain.calls _ _ _ _ A7 c7 s.f2.f3 A8 c8 s.f3 A9 c9 s.f4 _ _ _ _ _ _ _ A7 c7 s.f2.f3 A8 c8 s.f3 A9 c9 s.f4 (plainL s) w h1 h2 h3 h4 h5 h6 h1 h2 h3 h4 h5 h6 ?_
  rw [impl_ifDoing_plain.f, plainL, if_neg (by omega), if_pos h]
 ·refine ⟨_, _, _, by rw [doV, if_neg (by omega), if_neg (by omega), if_pos h], meth_plain3 _, enters_of Tryz.func132 (by kernel_rfl) rfl, fun w h1 h2 h3 h4 h5 h6 => ?_⟩
  refine impl_whileDoing_plain.calls _ _ _ _ A7 c7 s.f2.f3 A8 c8 s.f3 _ _ _ _ _ _ _ A7 c7 s.f2.f3 A8 c8 s.f3 A9 c9 s.f4 (plainL s) w h1 h2 h3 h4 h1 h2 h3 h4 h5 h6 ?_
  have hp : plainL s = ((s.f1.f0 == 0 && s.f1.f1 == 0) && s.f4.length == 0) := by rw [plainL, if_neg (by omega), if_neg (by omega), if_pos h]
  rw [impl_whileDoing_plain.f, hp]
  cases (s.f1.f0 == 0 && s.f1.f1 == 0) with
  | false => rfl
  | true =>
   rw [if_pos rfl]
   by_cases h1 : s.f4.length = 0
   ·rw [h1]; rfl
   ·rw [show ((s.f4.length : Int) == 0) = false from beq_false_of_ne (by omega), show (s.f4.length == 0) = false from beq_false_of_ne h1]; rfl
theorem do_nil (s : St) (A7 : Option Addr) (c7 : Nat) (A8 : Option Addr) (c8 : Nat) (A9 : Option Addr) (c9 : Nat) (h : ¬ (s.f0 = 1 ∨ s.f0 = 2 ∨ s.f0 = 3)) : doV s A7 c7 A8 c8 A9 c9 = .nilIface ∧ plainL s = false := by
 unfold doV plainL
 rw [if_neg (fun e => h (.inl e)), if_neg (fun e => h (.inr (.inl e))), if_neg (fun e => h (.inr (.inr e))), if_neg (fun e => h (.inl e)), if_neg (fun e => h (.inr (.inl e))), if_neg (fun e => h (.inr (.inr e)))]
 exact ⟨rfl, rfl⟩
end Go.Proofs.YtendbgedpjcocaaGreatDoor.B
/- What impl.ExprOk's callers ask of it. -/
namespace Go.Proofs.YtendbgedpjcocaaGreatDoor.B
open Go.RowKit Go.Proofs.YtendbgedpjcocaaGreatDoorW.PrintWords Go.Proofs.YtendbgedpjcocaaGreatDoorW.PrintLast Go.Proofs.YtendbgedpjcocaaGreatDoorW.PrintMore
set_option linter.unusedVariables false

theorem three_blk (w : World) (a b c : Obj) : (((w.alloc a).alloc b).alloc c).heap.size = w.heap.size + 1 + 1 + 1 ∧ (((w.alloc a).alloc b).alloc c).heap[w.heap.size]? = some a ∧ (((w.alloc a).alloc b).alloc c).heap[w.heap.size + 1]? = some b ∧ (((w.alloc a).alloc b).alloc c).heap[w.heap.size + 1 + 1]? = some c ∧ Below w.heap.size w (((w.alloc a).alloc b).alloc c) := by
 have s1 : (w.alloc a).heap.size = w.heap.size + 1 := by simp
 have s2 : ((w.alloc a).alloc b).heap.size = w.heap.size + 1 + 1 := by simp
 have s3 : (((w.alloc a).alloc b).alloc c).heap.size = w.heap.size + 1 + 1 + 1 := by simp
 refine ⟨s3, ?_, ?_, ?_, (((Below.refl w.heap.size w).alloc (Nat.le_refl _) _).alloc (by omega) _).alloc (by omega) _⟩
 ·rw [Below.heap_alloc _ _ _ (by omega), Below.heap_alloc _ _ _ (by omega)]; exact heap_alloc_new w a
 ·rw [Below.heap_alloc _ _ _ (by omega), ← s1]; exact heap_alloc_new _ b
 ·rw [← s2]; exact heap_alloc_new _ c

def OkCon : Prop := ∀ (e : Ex) (A : Option Addr) (c : Nat) (w : World), Kd.C exK w A e.f3.length e.f3 → e.f3.length ≤ c →
 Calls Tryz.prog 48 #[.agg #[.int .i64 e.f0, .int .i64 e.f1, .int .i64 e.f2.f0, .int .i64 e.f2.f1, .slice A e.f3.length c]] w fun en w' => en = .returned (.bool (okL 0 (partsL e))) ∧ Below w.heap.size w w'
end Go.Proofs.YtendbgedpjcocaaGreatDoor.B
/- impl.count: statements are counted one by one. -/
namespace Go.Proofs.YtendbgedpjcocaaGreatDoor.B
open Go.RowKit Go.Shelf Go.Proofs.YtendbgedpjcocaaGreatDoorW.PrintWords Go.Proofs.YtendbgedpjcocaaGreatDoorW.PrintLast Go.Proofs.YtendbgedpjcocaaGreatDoorW.PrintMore
set_option linter.unusedVariables false

def headSt (s : St) : Bool := plainL s && okL 0 (partsL s.f2)
/-- Statements that are counted: are all ok, and how many there are then; at most d of them around one another. -/
def countL : Nat → List St → Int → Bool × Int
 | 0, [], m => (true, m)
 | 0, _ :: _, m => (false, m + 1)
 | d + 1, l, m => l.foldl (fun r s => if r.1 then (if r.2 + 1 > 16 || !headSt s then (false, r.2 + 1) else let r1 := countL d s.f3 (r.2 + 1); if r1.1 then countL d s.f4 r1.2 else r1) else r) (true, m)
/-- One statement more. -/
def cntStep (d : Nat) (s : St) (m : Int) : Bool × Int := if m + 1 > 16 || !headSt s then (false, m + 1) else let r1 := countL d s.f3 (m + 1); if r1.1 then countL d s.f4 r1.2 else r1
theorem countL_succ (d : Nat) (l : List St) (m : Int) : countL (d + 1) l m = l.foldl (fun r s => if r.1 then cntStep d s r.2 else r) (true, m) := rfl
theorem cnt_stop (d : Nat) (l : List St) (m : Int) : l.foldl (fun r s => if r.1 then cntStep d s r.2 else r) (false, m) = (false, m) := by
 induction l with
 | nil => rfl
 | cons a l ih => exact ih
/-- While all is ok the count is within its bounds. -/
theorem count_in : ∀ (d : Nat) (l : List St) (m : Int), m ≤ 16 → ((countL d l m).1 = true → (countL d l m).2 ≤ 16 ∧ m ≤ (countL d l m).2) ∧ (countL d l m).2 ≤ 17 ∧ m ≤ (countL d l m).2 := by
 intro d
 induction d with
 | zero =>
  intro l m hm
  cases l with
  | nil => exact ⟨fun _ => ⟨hm, Int.le_refl _⟩, by show m ≤ 17; omega, Int.le_refl _⟩
  | cons a l => exact ⟨fun h => (by cases h), by show m + 1 ≤ 17; omega, by show m ≤ m + 1; omega⟩
 | succ d ih =>
  intro l
  induction l with
  | nil => intro m hm; exact ⟨fun _ => ⟨hm, Int.le_refl _⟩, by show m ≤ 17; omega, Int.le_refl _⟩
  | cons a l ihl =>
   intro m hm
   rw [countL_succ, List.foldl_cons]
   simp only [if_true]
   have hst : ((cntStep d a m).1 = true → (cntStep d a m).2 ≤ 16) ∧ (cntStep d a m).2 ≤ 17 ∧ m ≤ (cntStep d a m).2 := by
    unfold cntStep
    by_cases h : (decide (m + 1 > 16) || !headSt a) = true
    ·rw [if_pos h]; exact ⟨fun h => (by cases h), by show m + 1 ≤ 17; omega, by show m ≤ m + 1; omega⟩
    ·rw [if_neg h]
     simp only [Bool.or_eq_true, decide_eq_true_eq, not_or] at h
     have h1 := ih a.f3 (m + 1) (by omega)
     by_cases hr : (countL d a.f3 (m + 1)).1 = true
     ·have h2 := ih a.f4 (countL d a.f3 (m + 1)).2 (h1.1 hr).1
      simp only [hr, if_true]
      exact ⟨fun h => (h2.1 h).1, h2.2.1, by have := h1.2.2; have := h2.2.2; omega⟩
     ·simp only [hr]
      exact ⟨fun h => absurd h hr, h1.2.1, by have := h1.2.2; show m ≤ (countL d a.f3 (m + 1)).2; omega⟩
   obtain ⟨r, hr⟩ : ∃ r, r = cntStep d a m := ⟨_, rfl⟩
   rw [← hr] at hst ⊢
   obtain ⟨b, n⟩ := r
   cases b with
   | false => rw [cnt_stop]; exact ⟨fun h => (by cases h), hst.2.1, hst.2.2⟩
   | true =>
    have := ihl n (hst.1 rfl)
    rw [countL_succ] at this
    exact ⟨fun h => ⟨(this.1 h).1, by have := (this.1 h).2; have := hst.2.2; show m ≤ _; omega⟩, this.2.1, by have := this.2.2; have := hst.2.2; show m ≤ _; omega⟩
end Go.Proofs.YtendbgedpjcocaaGreatDoor.B
/- A printed function that ends from some fuel on; the loops of the laws' own helpers, once for all types. -/
namespace Go.Proofs.YtendbgedpjcocaaGreatDoor.B
open Go.RowKit Go.Proofs.YtendbgedpjcocaaGreatDoorW.PrintWords Go.Proofs.YtendbgedpjcocaaGreatDoorW.PrintLast Go.Proofs.YtendbgedpjcocaaGreatDoorW.PrintMore
set_option linter.unusedVariables false

def Ends {α : Type} (f : Nat → Option α) (r : α) : Prop := ∃ K, ∀ k, K ≤ k → f k = some r
theorem Ends.const {α : Type} {f : Nat → Option α} {r : α} (h : ∀ k, f k = some r) : Ends f r := ⟨0, fun k _ => h k⟩
theorem Ends.bind {α β : Type} {f : Nat → Option α} {g : Nat → α → Option β} {a : α} {r : β} (h : Ends f a) (h' : Ends (fun k => g k a) r) : Ends (fun k => (f k).bind (g k)) r := by
 obtain ⟨K, hK⟩ := h
 obtain ⟨K', hK'⟩ := h'
 exact ⟨max K K', fun k hk => by show (f k).bind (g k) = some r; rw [hK k (by omega), Option.bind_some]; exact hK' k (by omega)⟩
theorem Ends.succ {α : Type} {f g : Nat → Option α} {r : α} (h : ∀ k, f (k + 1) = g k) (hg : Ends g r) : Ends f r := by
 obtain ⟨K, hK⟩ := hg
 exact ⟨K + 1, fun k hk => by obtain ⟨k', rfl⟩ : ∃ k', k = k' + 1 := ⟨k - 1, by omega⟩; rw [h]; exact hK k' (by omega)⟩
theorem Ends.of {α : Type} {f g : Nat → Option α} {r : α} (hg : Ends g r) (h : ∀ k, f k = g k) : Ends f r := by
 obtain ⟨K, hK⟩ := hg
 exact ⟨K, fun k hk => by rw [h]; exact hK k hk⟩
theorem wrap_in {n : Int} (h0 : -9223372036854775808 ≤ n) (h1 : n ≤ 9223372036854775807) : wrap64 n = n := by
 unfold wrap64
 omega
section loops
variable {α β : Type} {rd : List α → Int → α} (hrd : ∀ (l : List α) (j : Nat) (h : j < l.length), rd l (j : Int) = l[j])
include hrd
end loops
end Go.Proofs.YtendbgedpjcocaaGreatDoor.B
/- impl.readMem: a memory is read, if it is ok. -/
namespace Go.Proofs.YtendbgedpjcocaaGreatDoor.B
open Go.RowKit Go.Proofs.YtendbgedpjcocaaGreatDoorW.PrintWords Go.Proofs.YtendbgedpjcocaaGreatDoorW.PrintLast Go.Proofs.YtendbgedpjcocaaGreatDoorW.PrintMore
set_option linter.unusedVariables false

def listOk (l : List Int) : Bool := l.length == 6 && !l.any fun n => !isNumL n
theorem listOk_len {l : List Int} (h : listOk l = true) : l.length = 6 := by
 unfold listOk at h; simp only [Bool.and_eq_true, beq_iff_eq] at h; exact h.1
/-- What the memory holds, when so many lists have been read. -/
def memB (l0 l1 l2 : List Int) : Nat → List Int
 | 0 => List.replicate 18 0
 | 1 => l0 ++ List.replicate 12 0
 | 2 => l0 ++ l1 ++ List.replicate 6 0
 | _ => l0 ++ l1 ++ l2
def okT (l0 l1 l2 : List Int) : Nat → Bool
 | 0 => true
 | 1 => listOk l0
 | 2 => listOk l0 && listOk l1
 | _ => listOk l0 && (listOk l1 && listOk l2)
abbrev iv (l : List Int) : List Value := l.map (Value.int .i64)
theorem iv_len (l : List Int) : (iv l).length = l.length := by simp [iv]
theorem memB_len {l0 l1 l2 : List Int} : ∀ j, okT l0 l1 l2 j = true → (memB l0 l1 l2 j).length = 18
 | 0, _ => rfl
 | 1, h => by have := listOk_len h; simp [memB, this]
 | 2, h => by
  simp only [okT, Bool.and_eq_true] at h
  simp [memB, listOk_len h.1, listOk_len h.2]
 | j + 3, h => by
  simp only [okT, Bool.and_eq_true] at h
  simp [memB, listOk_len h.1, listOk_len h.2.1, listOk_len h.2.2]
theorem six (l : List Int) (h : l.length = 6) : ∃ a0 a1 a2 a3 a4 a5, l = [a0, a1, a2, a3, a4, a5] := by
 match l, h with
 | [a0, a1, a2, a3, a4, a5], _ => exact ⟨a0, a1, a2, a3, a4, a5, rfl⟩
theorem int_at2 {w : World} {A : Option Addr} {l : List Int} (h : Kd.C (Kd.int .i64) w A l.length l) (j : Nat) (hj : j < l.length) : ∃ ad x, A = some ad ∧ l[j]? = some x ∧ w.cell? (ad.add j) = some (.int .i64 x) := by
 obtain ⟨ad, hA, e⟩ := int_at h j hj
 exact ⟨ad, l[j], hA, List.getElem?_eq_getElem hj, e⟩
theorem six_get {l : List Int} {x0 x1 x2 x3 x4 x5 : Int} (h : l.length = 6) (h0 : l[0]? = some x0) (h1 : l[1]? = some x1) (h2 : l[2]? = some x2) (h3 : l[3]? = some x3) (h4 : l[4]? = some x4) (h5 : l[5]? = some x5) : l = [x0, x1, x2, x3, x4, x5] := by
 obtain ⟨a0, a1, a2, a3, a4, a5, rfl⟩ := six l h
 simp at h0 h1 h2 h3 h4 h5
 subst h0 h1 h2 h3 h4 h5
 rfl
theorem memB_put {l0 l1 l2 l : List Int} (j : Nat) (hj : j < 3) (hk : okT l0 l1 l2 j = true) (hl : l.length = 6) (hn : l = if j = 0 then l0 else if j = 1 then l1 else l2) :
  (iv (memB l0 l1 l2 j)).take (j * 6) ++ iv l ++ (iv (memB l0 l1 l2 j)).drop (j * 6 + (iv l).length) = iv (memB l0 l1 l2 (j + 1)) := by
 rw [iv_len, hl]
 have h3 : j = 0 ∨ j = 1 ∨ j = 2 := by omega
 rcases h3 with rfl | rfl | rfl
 ·simp only [if_true] at hn
  subst hn
  simp [memB, iv]
 ·have h0 := listOk_len hk
  simp at hn
  subst hn
  simp only [memB, iv, List.map_append]
  simp [h0, List.drop_append]
 ·simp only [okT, Bool.and_eq_true] at hk
  have h0 := listOk_len hk.1
  have h1 := listOk_len hk.2
  simp at hn
  subst hn
  have e1 : List.take 12 (List.map (Value.int .i64) l0) = List.map (Value.int .i64) l0 := List.take_of_length_le (by simp [h0])
  have e2 : List.drop 18 (List.map (Value.int .i64) l0) = [] := List.drop_eq_nil_of_le (by simp [h0])
  have e3 : List.drop 12 (List.map (Value.int .i64) l1) = [] := List.drop_eq_nil_of_le (by simp [h1])
  simp [memB, iv, h0, h1, List.take_append, List.drop_append, e1, e2, e3]
theorem arrayAt_bank (a : Option Addr) (c : Nat) (W : World) : (Instr.arrayAt 97 (.slice a 6 c)).run Tryz.prog W = .ok (.pointer a) W := by
 simp [Instr.arrayAt, run_underlying Tryz.underlying97]
theorem three_blocks' (w : World) (a b c : Obj) : (((w.alloc a).alloc b).alloc c).heap.size = w.heap.size + 1 + 1 + 1 ∧ (((w.alloc a).alloc b).alloc c).heap[w.heap.size]? = some a ∧ (((w.alloc a).alloc b).alloc c).heap[w.heap.size + 1]? = some b ∧ (((w.alloc a).alloc b).alloc c).heap[w.heap.size + 1 + 1]? = some c ∧ Below w.heap.size w (((w.alloc a).alloc b).alloc c) := by
 have s1 : (w.alloc a).heap.size = w.heap.size + 1 := by simp
 have s2 : ((w.alloc a).alloc b).heap.size = w.heap.size + 1 + 1 := by simp
 have s3 : (((w.alloc a).alloc b).alloc c).heap.size = w.heap.size + 1 + 1 + 1 := by simp
 refine ⟨s3, ?_, ?_, ?_, (((Below.refl w.heap.size w).alloc (Nat.le_refl _) _).alloc (by omega) _).alloc (by omega) _⟩
 ·rw [Below.heap_alloc _ _ _ (by omega), Below.heap_alloc _ _ _ (by omega)]; exact heap_alloc_new w a
 ·rw [Below.heap_alloc _ _ _ (by omega), ← s1]; exact heap_alloc_new _ b
 ·rw [← s2]; exact heap_alloc_new _ c

set_option maxRecDepth 100000 in
set_option maxHeartbeats 8000000 in
theorem readMem_new (l0 l1 l2 : List Int) (A0 A1 A2 : Option Addr) (c0 c1 c2 : Nat) (w : World) (h0 : Kd.C (Kd.int .i64) w A0 l0.length l0) (h1 : Kd.C (Kd.int .i64) w A1 l1.length l1) (h2 : Kd.C (Kd.int .i64) w A2 l2.length l2) (m0 : l0.length ≤ c0) (m1 : l1.length ≤ c1) (m2 : l2.length ≤ c2) :
  Calls Tryz.prog 35 #[.agg #[.slice A0 l0.length c0, .slice A1 l1.length c1, .slice A2 l2.length c2]] w fun e w' =>
   (((listOk l0 && (listOk l1 && listOk l2)) = true ∧ ∃ g, w.heap.size ≤ g ∧ e = .returned (.tuple #[.pointer (some ⟨g, 0, none⟩), .bool true]) ∧ MemAt w' g (l0 ++ l1 ++ l2)) ∨ ((listOk l0 && (listOk l1 && listOk l2)) = false ∧ e = .returned (.tuple #[.pointer none, .bool false]))) ∧ Below w.heap.size w w' := by
 have hnl : Pr 65 (fun n => !isNumL n) := notNum_any
 have hen : ∀ args w, (callFunc 65 args).run Tryz.prog w = .ok (.enter 65 args) w := enters_of Tryz.func65 (by kernel_rfl) rfl
 have HC := Aside0.mk (And.intro h0 (And.intro h1 (And.intro h2 (And.intro m0 (And.intro m1 (And.intro m2 (And.intro hnl hen)))))))
 clear h0 h1 h2 m0 m1 m2 hnl hen
 obtain ⟨hs, k1, k2, k3, hB0⟩ := three_blocks' w (.cells #[.slice A0 l0.length c0, .slice A1 l1.length c1, .slice A2 l2.length c2] 30 (0, 0)) (.cells #[.int .i64 0, .int .i64 0, .int .i64 0, .int .i64 0, .int .i64 0, .int .i64 0, .int .i64 0, .int .i64 0, .int .i64 0, .int .i64 0, .int .i64 0, .int .i64 0, .int .i64 0, .int .i64 0, .int .i64 0, .int .i64 0, .int .i64 0, .int .i64 0] 100 (0, 0)) (.cells #[.slice A0 l0.length c0, .slice A1 l1.length c1, .slice A2 l2.length c2] 28 (0, 0))
 have HK := Aside0.mk (And.intro k2 (And.intro k3 hB0))
 clear hs k1 k2 k3 hB0
 go_enter Tryz.func35, Tryz.ntmps35
 go_wp2
 generalize ((w.alloc (.cells #[.slice A0 l0.length c0, .slice A1 l1.length c1, .slice A2 l2.length c2] 30)).alloc (.cells #[.int .i64 0, .int .i64 0, .int .i64 0, .int .i64 0, .int .i64 0, .int .i64 0, .int .i64 0, .int .i64 0, .int .i64 0, .int .i64 0, .int .i64 0, .int .i64 0, .int .i64 0, .int .i64 0, .int .i64 0, .int .i64 0, .int .i64 0, .int .i64 0] 100)).alloc (.cells #[.slice A0 l0.length c0, .slice A1 l1.length c1, .slice A2 l2.length c2] 28) = W0 at HK ⊢
 go_loopw [5, 6, 17] (fun _ _ i wr => ∃ (j : Nat), i = .int .i64 j ∧ Aside0 (j ≤ 3 ∧ okT l0 l1 l2 j = true ∧ wr.heap[w.heap.size + 1]? = some (.cells (iv (memB l0 l1 l2 j)).toArray 100 (0, 0)) ∧ wr.heap[w.heap.size + 1 + 1]? = some (.cells #[.slice A0 l0.length c0, .slice A1 l1.length c1, .slice A2 l2.length c2] 28 (0, 0)) ∧ Below w.heap.size w wr)) (fun _ _ i _ => 3 - (intOf i).toNat)
 case atStart => exact ⟨0, rfl, ⟨Nat.zero_le _, rfl, HK.out.1, HK.out.2.1, HK.out.2.2⟩⟩
 case round =>
  obtain ⟨j, rfl, HR⟩ := hrel
  by_cases hj : j < 3
  ·have h3 : j = 0 ∨ j = 1 ∨ j = 2 := by omega
   rcases h3 with rfl | rfl | rfl
   ·have q : wr.cell? ⟨w.heap.size + 1 + 1, 0, none⟩ = some (.slice A0 l0.length c0) := by rw [blk_cell HR.out.2.2.2.1]; rfl
    by_cases h6 : l0.length = 6
    ·have b6 : ((l0.length : Int) != 6) = false := by rw [h6]; rfl
     have hC := Kd.C_below HC.out.1 HR.out.2.2.2.2
     have hcall := containsFunc_any 65 (fun n => !isNumL n) HC.out.2.2.2.2.2.2.1 HC.out.2.2.2.2.2.2.2 l0 A0 c0 wr hC HC.out.2.2.2.1
     obtain ⟨ad, x0, hA, z0, e0⟩ := int_at2 hC 0 (by omega)
     obtain ⟨ad1, x1, hA1, z1, e1⟩ := int_at2 hC 1 (by omega)
     obtain ⟨ad2, x2, hA2, z2, e2⟩ := int_at2 hC 2 (by omega)
     obtain ⟨ad3, x3, hA3, z3, e3⟩ := int_at2 hC 3 (by omega)
     obtain ⟨ad4, x4, hA4, z4, e4⟩ := int_at2 hC 4 (by omega)
     obtain ⟨ad5, x5, hA5, z5, e5⟩ := int_at2 hC 5 (by omega)
     rw [hA] at hA1 hA2 hA3 hA4 hA5
     cases hA1; cases hA2; cases hA3; cases hA4; cases hA5
     simp only [show ad.add 0 = ad by simp [Addr.add], show ad.add 1 = ⟨ad.block, ad.off + 1, none⟩ by simp [Addr.add], show ad.add 2 = ⟨ad.block, ad.off + 2, none⟩ by simp [Addr.add], show ad.add 3 = ⟨ad.block, ad.off + 3, none⟩ by simp [Addr.add], show ad.add 4 = ⟨ad.block, ad.off + 4, none⟩ by simp [Addr.add], show ad.add 5 = ⟨ad.block, ad.off + 5, none⟩ by simp [Addr.add]] at e0 e1 e2 e3 e4 e5
     have hx := six_get h6 z0 z1 z2 z3 z4 z5
     have HD : Aside0 (_ ∧ _ ∧ _) := Aside0.mk (And.intro h6 (And.intro hx (And.intro e0 (And.intro e1 (And.intro e2 (And.intro e3 (And.intro e4 e5)))))))
     rw [h6] at q hcall b6
     rw [hA] at q hcall
     have HF := Aside0.mk hcall
     clear hcall hC hA hx z0 z1 z2 z3 z4 z5 e0 e1 e2 e3 e4 e5
     cases hv : l0.any (fun n => !isNumL n) with
     | true =>
      have HV := Aside0.mk hv; clear hv
      go_wp2_with fail
      refine HF.out.mono ?_
      clear HF
      rintro e w1 ⟨rfl, hb1⟩
      rw [HV.out]
      have HB := Aside0.mk (HR.out.2.2.2.2.trans (hb1.mono HR.out.2.2.2.2.size)); clear hb1
      go_wp2
      go_ret2
      exact ⟨.inr ⟨by unfold listOk; rw [HV.out]; simp, rfl⟩, HB.out⟩
     | false =>
      have HV := Aside0.mk hv; clear hv
      go_wp2_with fail
      refine HF.out.mono ?_
      clear HF
      rintro e w1 ⟨rfl, hb1⟩
      rw [HV.out]
      have hb := hb1
      have e0 := (hb.cell (World.block_lt_of_cell? wr _ HD.out.2.2.1)).trans HD.out.2.2.1
      have e1 := (hb.cell (World.block_lt_of_cell? wr _ HD.out.2.2.2.1)).trans HD.out.2.2.2.1
      have e2 := (hb.cell (World.block_lt_of_cell? wr _ HD.out.2.2.2.2.1)).trans HD.out.2.2.2.2.1
      have e3 := (hb.cell (World.block_lt_of_cell? wr _ HD.out.2.2.2.2.2.1)).trans HD.out.2.2.2.2.2.1
      have e4 := (hb.cell (World.block_lt_of_cell? wr _ HD.out.2.2.2.2.2.2.1)).trans HD.out.2.2.2.2.2.2.1
      have e5 := (hb.cell (World.block_lt_of_cell? wr _ HD.out.2.2.2.2.2.2.2)).trans HD.out.2.2.2.2.2.2.2
      have kb := (hb.block _ (blk_lt HR.out.2.2.1)).trans HR.out.2.2.1
      have kr := (hb.block _ (blk_lt HR.out.2.2.2.1)).trans HR.out.2.2.2.1
      have hB1 : Below w.heap.size w w1 := HR.out.2.2.2.2.trans (hb1.mono HR.out.2.2.2.2.size)
      have hsz : (iv (memB l0 l1 l2 0)).toArray.size = 18 := by rw [List.size_toArray, iv_len]; exact memB_len 0 HR.out.2.1
      obtain ⟨o0, q0⟩ : ∃ o, w1.cell? ⟨w.heap.size + 1, 0, none⟩ = some o := ⟨_, (blk_cell kb 0).trans (Array.getElem?_eq_getElem (by omega))⟩
      have y0 : w1.frozen? ⟨w.heap.size + 1, 0, none⟩ = false := blk_frozen kb 0
      obtain ⟨o1, q1⟩ : ∃ o, w1.cell? ⟨w.heap.size + 1, 1, none⟩ = some o := ⟨_, (blk_cell kb 1).trans (Array.getElem?_eq_getElem (by omega))⟩
      have y1 : w1.frozen? ⟨w.heap.size + 1, 1, none⟩ = false := blk_frozen kb 1
      obtain ⟨o2, q2⟩ : ∃ o, w1.cell? ⟨w.heap.size + 1, 2, none⟩ = some o := ⟨_, (blk_cell kb 2).trans (Array.getElem?_eq_getElem (by omega))⟩
      have y2 : w1.frozen? ⟨w.heap.size + 1, 2, none⟩ = false := blk_frozen kb 2
      obtain ⟨o3, q3⟩ : ∃ o, w1.cell? ⟨w.heap.size + 1, 3, none⟩ = some o := ⟨_, (blk_cell kb 3).trans (Array.getElem?_eq_getElem (by omega))⟩
      have y3 : w1.frozen? ⟨w.heap.size + 1, 3, none⟩ = false := blk_frozen kb 3
      obtain ⟨o4, q4⟩ : ∃ o, w1.cell? ⟨w.heap.size + 1, 4, none⟩ = some o := ⟨_, (blk_cell kb 4).trans (Array.getElem?_eq_getElem (by omega))⟩
      have y4 : w1.frozen? ⟨w.heap.size + 1, 4, none⟩ = false := blk_frozen kb 4
      obtain ⟨o5, q5⟩ : ∃ o, w1.cell? ⟨w.heap.size + 1, 5, none⟩ = some o := ⟨_, (blk_cell kb 5).trans (Array.getElem?_eq_getElem (by omega))⟩
      have y5 : w1.frozen? ⟨w.heap.size + 1, 5, none⟩ = false := blk_frozen kb 5
      obtain ⟨cur, s1, s2, s3⟩ := setCells_row (g := w.heap.size + 1) [.int .i64 x0, .int .i64 x1, .int .i64 x2, .int .i64 x3, .int .i64 x4, .int .i64 x5] (0 * 6) w1 _ kb (by rw [hsz]; simp)
      have s4 : (((((((w1.setCell ⟨w.heap.size + 1, 0, none⟩ (.int .i64 x0)).setCell ⟨w.heap.size + 1, 1, none⟩ (.int .i64 x1)).setCell ⟨w.heap.size + 1, 2, none⟩ (.int .i64 x2)).setCell ⟨w.heap.size + 1, 3, none⟩ (.int .i64 x3)).setCell ⟨w.heap.size + 1, 4, none⟩ (.int .i64 x4)).setCell ⟨w.heap.size + 1, 5, none⟩ (.int .i64 x5)).drew).heap[w.heap.size + 1]? = some (.cells (iv (memB l0 l1 l2 1)).toArray 100 (0, 0)) := by
       have hput := memB_put (l := l0) 0 (by omega) HR.out.2.1 HD.out.1 rfl
       have hcur : cur = (iv (memB l0 l1 l2 1)).toArray := by
        have hiv : iv l0 = [.int .i64 x0, .int .i64 x1, .int .i64 x2, .int .i64 x3, .int .i64 x4, .int .i64 x5] := (congrArg iv HD.out.2.1).trans rfl
        apply Array.toList_inj.1
        rw [hiv] at hput
        rw [← hput]
        exact s3
       rw [← hcur]
       exact blk_drew s1
      have s5 : (((((((w1.setCell ⟨w.heap.size + 1, 0, none⟩ (.int .i64 x0)).setCell ⟨w.heap.size + 1, 1, none⟩ (.int .i64 x1)).setCell ⟨w.heap.size + 1, 2, none⟩ (.int .i64 x2)).setCell ⟨w.heap.size + 1, 3, none⟩ (.int .i64 x3)).setCell ⟨w.heap.size + 1, 4, none⟩ (.int .i64 x4)).setCell ⟨w.heap.size + 1, 5, none⟩ (.int .i64 x5)).drew).heap[w.heap.size + 1 + 1]? = some (.cells #[.slice A0 l0.length c0, .slice A1 l1.length c1, .slice A2 l2.length c2] 28 (0, 0)) := by
       refine blk_drew ?_
       refine blk_far (blk_far (blk_far (blk_far (blk_far (blk_far kr ?_ _) ?_ _) ?_ _) ?_ _) ?_ _) ?_ _ <;> simp
      have s6 : Below w.heap.size w (((((((w1.setCell ⟨w.heap.size + 1, 0, none⟩ (.int .i64 x0)).setCell ⟨w.heap.size + 1, 1, none⟩ (.int .i64 x1)).setCell ⟨w.heap.size + 1, 2, none⟩ (.int .i64 x2)).setCell ⟨w.heap.size + 1, 3, none⟩ (.int .i64 x3)).setCell ⟨w.heap.size + 1, 4, none⟩ (.int .i64 x4)).setCell ⟨w.heap.size + 1, 5, none⟩ (.int .i64 x5)).drew) := below_drew (below_set (below_set (below_set (below_set (below_set (below_set hB1 (by omega)) (by omega)) (by omega)) (by omega)) (by omega)) (by omega))
      have s7 : okT l0 l1 l2 1 = true := by
       have hp := HR.out.2.1
       have hq : listOk l0 = true := by unfold listOk; rw [HD.out.1, HV.out]; rfl
       exact hq
      have HS := Aside0.mk (And.intro s7 (And.intro s4 (And.intro s5 s6)))
      clear s1 s2 s3 s4 s5 s6 s7 hB1 kb kr hb hb1 hsz h6
      go_wp2
      have harr := arrayAt_bank (some ad)
      go_region
      go_wp2
      go_roundw
      case rel => exact ⟨1, by simp, ⟨by omega, HS.out.1, HS.out.2.1, HS.out.2.2.1, HS.out.2.2.2⟩⟩
      case measure => simp [intOf]
    ·have b6 : ((l0.length : Int) != 6) = true := by rw [bne_iff_ne]; omega
     have H6 := Aside0.mk h6; clear h6
     go_wp2
     go_ret2
     exact ⟨.inr ⟨by
      have : listOk l0 = false := by unfold listOk; rw [show (l0.length == 6) = false from beq_false_of_ne H6.out]; rfl
      rw [this]; simp, rfl⟩, HR.out.2.2.2.2⟩
   ·have q : wr.cell? ⟨w.heap.size + 1 + 1, 1, none⟩ = some (.slice A1 l1.length c1) := by rw [blk_cell HR.out.2.2.2.1]; rfl
    by_cases h6 : l1.length = 6
    ·have b6 : ((l1.length : Int) != 6) = false := by rw [h6]; rfl
     have hC := Kd.C_below HC.out.2.1 HR.out.2.2.2.2
     have hcall := containsFunc_any 65 (fun n => !isNumL n) HC.out.2.2.2.2.2.2.1 HC.out.2.2.2.2.2.2.2 l1 A1 c1 wr hC HC.out.2.2.2.2.1
     obtain ⟨ad, x0, hA, z0, e0⟩ := int_at2 hC 0 (by omega)
     obtain ⟨ad1, x1, hA1, z1, e1⟩ := int_at2 hC 1 (by omega)
     obtain ⟨ad2, x2, hA2, z2, e2⟩ := int_at2 hC 2 (by omega)
     obtain ⟨ad3, x3, hA3, z3, e3⟩ := int_at2 hC 3 (by omega)
     obtain ⟨ad4, x4, hA4, z4, e4⟩ := int_at2 hC 4 (by omega)
     obtain ⟨ad5, x5, hA5, z5, e5⟩ := int_at2 hC 5 (by omega)
     rw [hA] at hA1 hA2 hA3 hA4 hA5
     cases hA1; cases hA2; cases hA3; cases hA4; cases hA5
     simp only [show ad.add 0 = ad by simp [Addr.add], show ad.add 1 = ⟨ad.block, ad.off + 1, none⟩ by simp [Addr.add], show ad.add 2 = ⟨ad.block, ad.off + 2, none⟩ by simp [Addr.add], show ad.add 3 = ⟨ad.block, ad.off + 3, none⟩ by simp [Addr.add], show ad.add 4 = ⟨ad.block, ad.off + 4, none⟩ by simp [Addr.add], show ad.add 5 = ⟨ad.block, ad.off + 5, none⟩ by simp [Addr.add]] at e0 e1 e2 e3 e4 e5
     have hx := six_get h6 z0 z1 z2 z3 z4 z5
     have HD : Aside0 (_ ∧ _ ∧ _) := Aside0.mk (And.intro h6 (And.intro hx (And.intro e0 (And.intro e1 (And.intro e2 (And.intro e3 (And.intro e4 e5)))))))
     rw [h6] at q hcall b6
     rw [hA] at q hcall
     have HF := Aside0.mk hcall
     clear hcall hC hA hx z0 z1 z2 z3 z4 z5 e0 e1 e2 e3 e4 e5
     cases hv : l1.any (fun n => !isNumL n) with
     | true =>
      have HV := Aside0.mk hv; clear hv
      go_wp2_with fail
      refine HF.out.mono ?_
      clear HF
      rintro e w1 ⟨rfl, hb1⟩
      rw [HV.out]
      have HB := Aside0.mk (HR.out.2.2.2.2.trans (hb1.mono HR.out.2.2.2.2.size)); clear hb1
      go_wp2
      go_ret2
      exact ⟨.inr ⟨by unfold listOk; rw [HV.out]; simp, rfl⟩, HB.out⟩
     | false =>
      have HV := Aside0.mk hv; clear hv
      go_wp2_with fail
      refine HF.out.mono ?_
      clear HF
      rintro e w1 ⟨rfl, hb1⟩
      rw [HV.out]
      have hb := hb1
      have e0 := (hb.cell (World.block_lt_of_cell? wr _ HD.out.2.2.1)).trans HD.out.2.2.1
      have e1 := (hb.cell (World.block_lt_of_cell? wr _ HD.out.2.2.2.1)).trans HD.out.2.2.2.1
      have e2 := (hb.cell (World.block_lt_of_cell? wr _ HD.out.2.2.2.2.1)).trans HD.out.2.2.2.2.1
      have e3 := (hb.cell (World.block_lt_of_cell? wr _ HD.out.2.2.2.2.2.1)).trans HD.out.2.2.2.2.2.1
      have e4 := (hb.cell (World.block_lt_of_cell? wr _ HD.out.2.2.2.2.2.2.1)).trans HD.out.2.2.2.2.2.2.1
      have e5 := (hb.cell (World.block_lt_of_cell? wr _ HD.out.2.2.2.2.2.2.2)).trans HD.out.2.2.2.2.2.2.2
      have kb := (hb.block _ (blk_lt HR.out.2.2.1)).trans HR.out.2.2.1
      have kr := (hb.block _ (blk_lt HR.out.2.2.2.1)).trans HR.out.2.2.2.1
      have hB1 : Below w.heap.size w w1 := HR.out.2.2.2.2.trans (hb1.mono HR.out.2.2.2.2.size)
      have hsz : (iv (memB l0 l1 l2 1)).toArray.size = 18 := by rw [List.size_toArray, iv_len]; exact memB_len 1 HR.out.2.1
      obtain ⟨o0, q0⟩ : ∃ o, w1.cell? ⟨w.heap.size + 1, 6, none⟩ = some o := ⟨_, (blk_cell kb 6).trans (Array.getElem?_eq_getElem (by omega))⟩
      have y0 : w1.frozen? ⟨w.heap.size + 1, 6, none⟩ = false := blk_frozen kb 6
      obtain ⟨o1, q1⟩ : ∃ o, w1.cell? ⟨w.heap.size + 1, 7, none⟩ = some o := ⟨_, (blk_cell kb 7).trans (Array.getElem?_eq_getElem (by omega))⟩
      have y1 : w1.frozen? ⟨w.heap.size + 1, 7, none⟩ = false := blk_frozen kb 7
      obtain ⟨o2, q2⟩ : ∃ o, w1.cell? ⟨w.heap.size + 1, 8, none⟩ = some o := ⟨_, (blk_cell kb 8).trans (Array.getElem?_eq_getElem (by omega))⟩
      have y2 : w1.frozen? ⟨w.heap.size + 1, 8, none⟩ = false := blk_frozen kb 8
      obtain ⟨o3, q3⟩ : ∃ o, w1.cell? ⟨w.heap.size + 1, 9, none⟩ = some o := ⟨_, (blk_cell kb 9).trans (Array.getElem?_eq_getElem (by omega))⟩
      have y3 : w1.frozen? ⟨w.heap.size + 1, 9, none⟩ = false := blk_frozen kb 9
      obtain ⟨o4, q4⟩ : ∃ o, w1.cell? ⟨w.heap.size + 1, 10, none⟩ = some o := ⟨_, (blk_cell kb 10).trans (Array.getElem?_eq_getElem (by omega))⟩
      have y4 : w1.frozen? ⟨w.heap.size + 1, 10, none⟩ = false := blk_frozen kb 10
      obtain ⟨o5, q5⟩ : ∃ o, w1.cell? ⟨w.heap.size + 1, 11, none⟩ = some o := ⟨_, (blk_cell kb 11).trans (Array.getElem?_eq_getElem (by omega))⟩
      have y5 : w1.frozen? ⟨w.heap.size + 1, 11, none⟩ = false := blk_frozen kb 11
      obtain ⟨cur, s1, s2, s3⟩ := setCells_row (g := w.heap.size + 1) [.int .i64 x0, .int .i64 x1, .int .i64 x2, .int .i64 x3, .int .i64 x4, .int .i64 x5] (1 * 6) w1 _ kb (by rw [hsz]; simp)
      have s4 : (((((((w1.setCell ⟨w.heap.size + 1, 6, none⟩ (.int .i64 x0)).setCell ⟨w.heap.size + 1, 7, none⟩ (.int .i64 x1)).setCell ⟨w.heap.size + 1, 8, none⟩ (.int .i64 x2)).setCell ⟨w.heap.size + 1, 9, none⟩ (.int .i64 x3)).setCell ⟨w.heap.size + 1, 10, none⟩ (.int .i64 x4)).setCell ⟨w.heap.size + 1, 11, none⟩ (.int .i64 x5)).drew).heap[w.heap.size + 1]? = some (.cells (iv (memB l0 l1 l2 2)).toArray 100 (0, 0)) := by
       have hput := memB_put (l := l1) 1 (by omega) HR.out.2.1 HD.out.1 rfl
       have hcur : cur = (iv (memB l0 l1 l2 2)).toArray := by
        have hiv : iv l1 = [.int .i64 x0, .int .i64 x1, .int .i64 x2, .int .i64 x3, .int .i64 x4, .int .i64 x5] := (congrArg iv HD.out.2.1).trans rfl
        apply Array.toList_inj.1
        rw [hiv] at hput
        rw [← hput]
        exact s3
       rw [← hcur]
       exact blk_drew s1
      have s5 : (((((((w1.setCell ⟨w.heap.size + 1, 6, none⟩ (.int .i64 x0)).setCell ⟨w.heap.size + 1, 7, none⟩ (.int .i64 x1)).setCell ⟨w.heap.size + 1, 8, none⟩ (.int .i64 x2)).setCell ⟨w.heap.size + 1, 9, none⟩ (.int .i64 x3)).setCell ⟨w.heap.size + 1, 10, none⟩ (.int .i64 x4)).setCell ⟨w.heap.size + 1, 11, none⟩ (.int .i64 x5)).drew).heap[w.heap.size + 1 + 1]? = some (.cells #[.slice A0 l0.length c0, .slice A1 l1.length c1, .slice A2 l2.length c2] 28 (0, 0)) := by
       refine blk_drew ?_
       refine blk_far (blk_far (blk_far (blk_far (blk_far (blk_far kr ?_ _) ?_ _) ?_ _) ?_ _) ?_ _) ?_ _ <;> simp
      have s6 : Below w.heap.size w (((((((w1.setCell ⟨w.heap.size + 1, 6, none⟩ (.int .i64 x0)).setCell ⟨w.heap.size + 1, 7, none⟩ (.int .i64 x1)).setCell ⟨w.heap.size + 1, 8, none⟩ (.int .i64 x2)).setCell ⟨w.heap.size + 1, 9, none⟩ (.int .i64 x3)).setCell ⟨w.heap.size + 1, 10, none⟩ (.int .i64 x4)).setCell ⟨w.heap.size + 1, 11, none⟩ (.int .i64 x5)).drew) := below_drew (below_set (below_set (below_set (below_set (below_set (below_set hB1 (by omega)) (by omega)) (by omega)) (by omega)) (by omega)) (by omega))
      have s7 : okT l0 l1 l2 2 = true := by
       have hp := HR.out.2.1
       have hq : listOk l1 = true := by unfold listOk; rw [HD.out.1, HV.out]; rfl
       simp only [okT, Bool.and_eq_true]; exact ⟨hp, hq⟩
      have HS := Aside0.mk (And.intro s7 (And.intro s4 (And.intro s5 s6)))
      clear s1 s2 s3 s4 s5 s6 s7 hB1 kb kr hb hb1 hsz h6
      go_wp2
      have harr := arrayAt_bank (some ad)
      go_region
      go_wp2
      go_roundw
      case rel => exact ⟨2, by simp, ⟨by omega, HS.out.1, HS.out.2.1, HS.out.2.2.1, HS.out.2.2.2⟩⟩
      case measure => simp [intOf]
    ·have b6 : ((l1.length : Int) != 6) = true := by rw [bne_iff_ne]; omega
     have H6 := Aside0.mk h6; clear h6
     go_wp2
     go_ret2
     exact ⟨.inr ⟨by
      have : listOk l1 = false := by unfold listOk; rw [show (l1.length == 6) = false from beq_false_of_ne H6.out]; rfl
      rw [this]; simp, rfl⟩, HR.out.2.2.2.2⟩
   ·have q : wr.cell? ⟨w.heap.size + 1 + 1, 2, none⟩ = some (.slice A2 l2.length c2) := by rw [blk_cell HR.out.2.2.2.1]; rfl
    by_cases h6 : l2.length = 6
    ·have b6 : ((l2.length : Int) != 6) = false := by rw [h6]; rfl
     have hC := Kd.C_below HC.out.2.2.1 HR.out.2.2.2.2
     have hcall := containsFunc_any 65 (fun n => !isNumL n) HC.out.2.2.2.2.2.2.1 HC.out.2.2.2.2.2.2.2 l2 A2 c2 wr hC HC.out.2.2.2.2.2.1
     obtain ⟨ad, x0, hA, z0, e0⟩ := int_at2 hC 0 (by omega)
     obtain ⟨ad1, x1, hA1, z1, e1⟩ := int_at2 hC 1 (by omega)
     obtain ⟨ad2, x2, hA2, z2, e2⟩ := int_at2 hC 2 (by omega)
     obtain ⟨ad3, x3, hA3, z3, e3⟩ := int_at2 hC 3 (by omega)
     obtain ⟨ad4, x4, hA4, z4, e4⟩ := int_at2 hC 4 (by omega)
     obtain ⟨ad5, x5, hA5, z5, e5⟩ := int_at2 hC 5 (by omega)
     rw [hA] at hA1 hA2 hA3 hA4 hA5
     cases hA1; cases hA2; cases hA3; cases hA4; cases hA5
     simp only [show ad.add 0 = ad by simp [Addr.add], show ad.add 1 = ⟨ad.block, ad.off + 1, none⟩ by simp [Addr.add], show ad.add 2 = ⟨ad.block, ad.off + 2, none⟩ by simp [Addr.add], show ad.add 3 = ⟨ad.block, ad.off + 3, none⟩ by simp [Addr.add], show ad.add 4 = ⟨ad.block, ad.off + 4, none⟩ by simp [Addr.add], show ad.add 5 = ⟨ad.block, ad.off + 5, none⟩ by simp [Addr.add]] at e0 e1 e2 e3 e4 e5
     have hx := six_get h6 z0 z1 z2 z3 z4 z5
     have HD : Aside0 (_ ∧ _ ∧ _) := Aside0.mk (And.intro h6 (And.intro hx (And.intro e0 (And.intro e1 (And.intro e2 (And.intro e3 (And.intro e4 e5)))))))
     rw [h6] at q hcall b6
     rw [hA] at q hcall
     have HF := Aside0.mk hcall
     clear hcall hC hA hx z0 z1 z2 z3 z4 z5 e0 e1 e2 e3 e4 e5
     cases hv : l2.any (fun n => !isNumL n) with
     | true =>
      have HV := Aside0.mk hv; clear hv
      go_wp2_with fail
      refine HF.out.mono ?_
      clear HF
      rintro e w1 ⟨rfl, hb1⟩
      rw [HV.out]
      have HB := Aside0.mk (HR.out.2.2.2.2.trans (hb1.mono HR.out.2.2.2.2.size)); clear hb1
      go_wp2
      go_ret2
      exact ⟨.inr ⟨by unfold listOk; rw [HV.out]; simp, rfl⟩, HB.out⟩
     | false =>
      have HV := Aside0.mk hv; clear hv
      go_wp2_with fail
      refine HF.out.mono ?_
      clear HF
      rintro e w1 ⟨rfl, hb1⟩
      rw [HV.out]
      have hb := hb1
      have e0 := (hb.cell (World.block_lt_of_cell? wr _ HD.out.2.2.1)).trans HD.out.2.2.1
      have e1 := (hb.cell (World.block_lt_of_cell? wr _ HD.out.2.2.2.1)).trans HD.out.2.2.2.1
      have e2 := (hb.cell (World.block_lt_of_cell? wr _ HD.out.2.2.2.2.1)).trans HD.out.2.2.2.2.1
      have e3 := (hb.cell (World.block_lt_of_cell? wr _ HD.out.2.2.2.2.2.1)).trans HD.out.2.2.2.2.2.1
      have e4 := (hb.cell (World.block_lt_of_cell? wr _ HD.out.2.2.2.2.2.2.1)).trans HD.out.2.2.2.2.2.2.1
      have e5 := (hb.cell (World.block_lt_of_cell? wr _ HD.out.2.2.2.2.2.2.2)).trans HD.out.2.2.2.2.2.2.2
      have kb := (hb.block _ (blk_lt HR.out.2.2.1)).trans HR.out.2.2.1
      have kr := (hb.block _ (blk_lt HR.out.2.2.2.1)).trans HR.out.2.2.2.1
      have hB1 : Below w.heap.size w w1 := HR.out.2.2.2.2.trans (hb1.mono HR.out.2.2.2.2.size)
      have hsz : (iv (memB l0 l1 l2 2)).toArray.size = 18 := by rw [List.size_toArray, iv_len]; exact memB_len 2 HR.out.2.1
      obtain ⟨o0, q0⟩ : ∃ o, w1.cell? ⟨w.heap.size + 1, 12, none⟩ = some o := ⟨_, (blk_cell kb 12).trans (Array.getElem?_eq_getElem (by omega))⟩
      have y0 : w1.frozen? ⟨w.heap.size + 1, 12, none⟩ = false := blk_frozen kb 12
      obtain ⟨o1, q1⟩ : ∃ o, w1.cell? ⟨w.heap.size + 1, 13, none⟩ = some o := ⟨_, (blk_cell kb 13).trans (Array.getElem?_eq_getElem (by omega))⟩
      have y1 : w1.frozen? ⟨w.heap.size + 1, 13, none⟩ = false := blk_frozen kb 13
      obtain ⟨o2, q2⟩ : ∃ o, w1.cell? ⟨w.heap.size + 1, 14, none⟩ = some o := ⟨_, (blk_cell kb 14).trans (Array.getElem?_eq_getElem (by omega))⟩
      have y2 : w1.frozen? ⟨w.heap.size + 1, 14, none⟩ = false := blk_frozen kb 14
      obtain ⟨o3, q3⟩ : ∃ o, w1.cell? ⟨w.heap.size + 1, 15, none⟩ = some o := ⟨_, (blk_cell kb 15).trans (Array.getElem?_eq_getElem (by omega))⟩
      have y3 : w1.frozen? ⟨w.heap.size + 1, 15, none⟩ = false := blk_frozen kb 15
      obtain ⟨o4, q4⟩ : ∃ o, w1.cell? ⟨w.heap.size + 1, 16, none⟩ = some o := ⟨_, (blk_cell kb 16).trans (Array.getElem?_eq_getElem (by omega))⟩
      have y4 : w1.frozen? ⟨w.heap.size + 1, 16, none⟩ = false := blk_frozen kb 16
      obtain ⟨o5, q5⟩ : ∃ o, w1.cell? ⟨w.heap.size + 1, 17, none⟩ = some o := ⟨_, (blk_cell kb 17).trans (Array.getElem?_eq_getElem (by omega))⟩
      have y5 : w1.frozen? ⟨w.heap.size + 1, 17, none⟩ = false := blk_frozen kb 17
      obtain ⟨cur, s1, s2, s3⟩ := setCells_row (g := w.heap.size + 1) [.int .i64 x0, .int .i64 x1, .int .i64 x2, .int .i64 x3, .int .i64 x4, .int .i64 x5] (2 * 6) w1 _ kb (by rw [hsz]; simp)
      have s4 : (((((((w1.setCell ⟨w.heap.size + 1, 12, none⟩ (.int .i64 x0)).setCell ⟨w.heap.size + 1, 13, none⟩ (.int .i64 x1)).setCell ⟨w.heap.size + 1, 14, none⟩ (.int .i64 x2)).setCell ⟨w.heap.size + 1, 15, none⟩ (.int .i64 x3)).setCell ⟨w.heap.size + 1, 16, none⟩ (.int .i64 x4)).setCell ⟨w.heap.size + 1, 17, none⟩ (.int .i64 x5)).drew).heap[w.heap.size + 1]? = some (.cells (iv (memB l0 l1 l2 3)).toArray 100 (0, 0)) := by
       have hput := memB_put (l := l2) 2 (by omega) HR.out.2.1 HD.out.1 rfl
       have hcur : cur = (iv (memB l0 l1 l2 3)).toArray := by
        have hiv : iv l2 = [.int .i64 x0, .int .i64 x1, .int .i64 x2, .int .i64 x3, .int .i64 x4, .int .i64 x5] := (congrArg iv HD.out.2.1).trans rfl
        apply Array.toList_inj.1
        rw [hiv] at hput
        rw [← hput]
        exact s3
       rw [← hcur]
       exact blk_drew s1
      have s5 : (((((((w1.setCell ⟨w.heap.size + 1, 12, none⟩ (.int .i64 x0)).setCell ⟨w.heap.size + 1, 13, none⟩ (.int .i64 x1)).setCell ⟨w.heap.size + 1, 14, none⟩ (.int .i64 x2)).setCell ⟨w.heap.size + 1, 15, none⟩ (.int .i64 x3)).setCell ⟨w.heap.size + 1, 16, none⟩ (.int .i64 x4)).setCell ⟨w.heap.size + 1, 17, none⟩ (.int .i64 x5)).drew).heap[w.heap.size + 1 + 1]? = some (.cells #[.slice A0 l0.length c0, .slice A1 l1.length c1, .slice A2 l2.length c2] 28 (0, 0)) := by
       refine blk_drew ?_
       refine blk_far (blk_far (blk_far (blk_far (blk_far (blk_far kr ?_ _) ?_ _) ?_ _) ?_ _) ?_ _) ?_ _ <;> simp
      have s6 : Below w.heap.size w (((((((w1.setCell ⟨w.heap.size + 1, 12, none⟩ (.int .i64 x0)).setCell ⟨w.heap.size + 1, 13, none⟩ (.int .i64 x1)).setCell ⟨w.heap.size + 1, 14, none⟩ (.int .i64 x2)).setCell ⟨w.heap.size + 1, 15, none⟩ (.int .i64 x3)).setCell ⟨w.heap.size + 1, 16, none⟩ (.int .i64 x4)).setCell ⟨w.heap.size + 1, 17, none⟩ (.int .i64 x5)).drew) := below_drew (below_set (below_set (below_set (below_set (below_set (below_set hB1 (by omega)) (by omega)) (by omega)) (by omega)) (by omega)) (by omega))
      have s7 : okT l0 l1 l2 3 = true := by
       have hp := HR.out.2.1
       have hq : listOk l2 = true := by unfold listOk; rw [HD.out.1, HV.out]; rfl
       simp only [okT, Bool.and_eq_true] at hp ⊢; exact ⟨hp.1, hp.2, hq⟩
      have HS := Aside0.mk (And.intro s7 (And.intro s4 (And.intro s5 s6)))
      clear s1 s2 s3 s4 s5 s6 s7 hB1 kb kr hb hb1 hsz h6
      go_wp2
      have harr := arrayAt_bank (some ad)
      go_region
      go_wp2
      go_roundw
      case rel => exact ⟨3, by simp, ⟨by omega, HS.out.1, HS.out.2.1, HS.out.2.2.1, HS.out.2.2.2⟩⟩
      case measure => simp [intOf]
    ·have b6 : ((l2.length : Int) != 6) = true := by rw [bne_iff_ne]; omega
     have H6 := Aside0.mk h6; clear h6
     go_wp2
     go_ret2
     exact ⟨.inr ⟨by
      have : listOk l2 = false := by unfold listOk; rw [show (l2.length == 6) = false from beq_false_of_ne H6.out]; rfl
      rw [this]; simp, rfl⟩, HR.out.2.2.2.2⟩
  ·have hj3 : j = 3 := by have := HR.out.1; omega
   subst hj3
   go_wp2
   go_ret2
   refine ⟨.inl ⟨HR.out.2.1, w.heap.size + 1, Nat.le_succ _, rfl, HR.out.2.2.1, memB_len 3 HR.out.2.1⟩, HR.out.2.2.2.2⟩
theorem readMem_any (l0 l1 l2 : List Int) (A0 A1 A2 : Option Addr) (c0 c1 c2 : Nat) (w : World) (h0 : Kd.C (Kd.int .i64) w A0 l0.length l0) (h1 : Kd.C (Kd.int .i64) w A1 l1.length l1) (h2 : Kd.C (Kd.int .i64) w A2 l2.length l2) (m0 : l0.length ≤ c0) (m1 : l1.length ≤ c1) (m2 : l2.length ≤ c2) :
  Calls Tryz.prog 35 #[.agg #[.slice A0 l0.length c0, .slice A1 l1.length c1, .slice A2 l2.length c2]] w fun e w' =>
   (((listOk l0 && (listOk l1 && listOk l2)) = true ∧ ∃ g, e = .returned (.tuple #[.pointer (some ⟨g, 0, none⟩), .bool true]) ∧ MemAt w' g (l0 ++ l1 ++ l2)) ∨ ((listOk l0 && (listOk l1 && listOk l2)) = false ∧ e = .returned (.tuple #[.pointer none, .bool false]))) ∧ Below w.heap.size w w' := by
 refine (readMem_new l0 l1 l2 A0 A1 A2 c0 c1 c2 w h0 h1 h2 m0 m1 m2).mono ?_
 rintro e w' ⟨⟨hv, g, _, he, hm⟩ | h, hb⟩
 ·exact ⟨.inl ⟨hv, g, he, hm⟩, hb⟩
 ·exact ⟨.inr h, hb⟩
end Go.Proofs.YtendbgedpjcocaaGreatDoor.B
/- impl.ExprOf, over impl.ExprOk's contract. -/
namespace Go.Proofs.YtendbgedpjcocaaGreatDoor.B
open Go.RowKit Go.Proofs.YtendbgedpjcocaaGreatDoorW.PrintWords Go.Proofs.YtendbgedpjcocaaGreatDoorW.PrintLast Go.Proofs.YtendbgedpjcocaaGreatDoorW.PrintMore
set_option linter.unusedVariables false

def memOkL (l0 l1 l2 : List Int) : Bool := listOk l0 && (listOk l1 && listOk l2)
def ofV (e : Ex) (l0 l1 l2 : List Int) : Int := if memOkL l0 l1 l2 && okL 0 (partsL e) then evalI (l0 ++ l1 ++ l2) e else 0
set_option maxRecDepth 100000 in
set_option maxHeartbeats 4000000 in
theorem exprOf_any (hok : OkCon) (e : Ex) (A : Option Addr) (c : Nat) (l0 l1 l2 : List Int) (A0 A1 A2 : Option Addr) (c0 c1 c2 : Nat) (w : World) (hC : Kd.C exK w A e.f3.length e.f3) (hc : e.f3.length ≤ c)
  (h0 : Kd.C (Kd.int .i64) w A0 l0.length l0) (h1 : Kd.C (Kd.int .i64) w A1 l1.length l1) (h2 : Kd.C (Kd.int .i64) w A2 l2.length l2) (m0 : l0.length ≤ c0) (m1 : l1.length ≤ c1) (m2 : l2.length ≤ c2) :
  Calls Tryz.prog 19 #[.agg #[.int .i64 e.f0, .int .i64 e.f1, .int .i64 e.f2.f0, .int .i64 e.f2.f1, .slice A e.f3.length c], .agg #[.slice A0 l0.length c0, .slice A1 l1.length c1, .slice A2 l2.length c2]] w fun en w' => en = .returned (.int .i64 (ofV e l0 l1 l2)) ∧ Below w.heap.size w w' := by
 obtain ⟨hs, k1, k2, hB0⟩ := two_blocks' w (.cells #[.int .i64 e.f0, .int .i64 e.f1, .int .i64 e.f2.f0, .int .i64 e.f2.f1, .slice A e.f3.length c] 27 (0, 0)) (.cells #[.slice A0 l0.length c0, .slice A1 l1.length c1, .slice A2 l2.length c2] 30 (0, 0))
 have HK := Aside0.mk (And.intro k1 hB0)
 have HX := Aside0.mk (And.intro hC hc)
 have HM := Aside0.mk (fun (W : World) (h : Below w.heap.size w W) => readMem_any l0 l1 l2 A0 A1 A2 c0 c1 c2 W (Kd.C_below h0 h) (Kd.C_below h1 h) (Kd.C_below h2 h) m0 m1 m2)
 clear hs k1 k2 hB0 hC hc h0 h1 h2 m0 m1 m2
 go_enter Tryz.func19, Tryz.ntmps19
 go_wp2_with fail
 refine (HM.out _ HK.out.2).mono ?_
 rintro en w1 ⟨hr, hb1⟩
 have HB1 := Aside0.mk (HK.out.2.trans (hb1.mono HK.out.2.size))
 have k1 := (hb1.block _ (blk_lt HK.out.1)).trans HK.out.1
 clear hb1 HM
 have q0 : w1.cell? ⟨w.heap.size, 0, none⟩ = some (.int .i64 e.f0) := by rw [blk_cell k1]; rfl
 have q1 : w1.cell? ⟨w.heap.size, 1, none⟩ = some (.int .i64 e.f1) := by rw [blk_cell k1]; rfl
 have q2 : w1.cell? ⟨w.heap.size, 2, none⟩ = some (.int .i64 e.f2.f0) := by rw [blk_cell k1]; rfl
 have q3 : w1.cell? ⟨w.heap.size, 3, none⟩ = some (.int .i64 e.f2.f1) := by rw [blk_cell k1]; rfl
 have q4 : w1.cell? ⟨w.heap.size, 4, none⟩ = some (.slice A e.f3.length c) := by rw [blk_cell k1]; rfl
 have HK1 := Aside0.mk k1
 clear k1 HK
 rcases hr with ⟨hv, g, rfl, hm⟩ | ⟨hv, rfl⟩
 ·have HV := Aside0.mk (show memOkL l0 l1 l2 = true from hv)
  have HM := Aside0.mk hm
  clear hv hm
  go_wp2_with fail
  refine (hok e A c w1 (Kd.C_below HX.out.1 HB1.out) HX.out.2).mono ?_
  rintro en w2 ⟨rfl, hb2⟩
  have k2 := (hb2.block _ (blk_lt HK1.out)).trans HK1.out
  have HB2 := Aside0.mk (HB1.out.trans (hb2.mono HB1.out.size))
  have HM2 := Aside0.mk (HM.out.below hb2)
  clear hb2 q0 q1 q2 q3 q4
  cases ho : okL 0 (partsL e) with
  | false =>
   have HO := Aside0.mk ho; clear ho k2
   go_wp2
   go_ret
   exact ⟨by rw [ofV, HO.out, Bool.and_false]; rfl, HB2.out⟩
  | true =>
   have hf : formS 6 e = true := by rw [okL_eq, Bool.and_eq_true] at ho; exact ho.1
   have hcall := reckon_any (l0 ++ l1 ++ l2) 6 e hf g A c w2 HM2.out (Kd.C_below HX.out.1 HB2.out) HX.out.2
   simp only [List.append_toArray, List.nil_append] at hcall
   have HO := Aside0.mk (And.intro ho hcall)
   clear ho hf hcall
   have q0 : w2.cell? ⟨w.heap.size, 0, none⟩ = some (.int .i64 e.f0) := by rw [blk_cell k2]; rfl
   have q1 : w2.cell? ⟨w.heap.size, 1, none⟩ = some (.int .i64 e.f1) := by rw [blk_cell k2]; rfl
   have q2 : w2.cell? ⟨w.heap.size, 2, none⟩ = some (.int .i64 e.f2.f0) := by rw [blk_cell k2]; rfl
   have q3 : w2.cell? ⟨w.heap.size, 3, none⟩ = some (.int .i64 e.f2.f1) := by rw [blk_cell k2]; rfl
   have q4 : w2.cell? ⟨w.heap.size, 4, none⟩ = some (.slice A e.f3.length c) := by rw [blk_cell k2]; rfl
   clear k2
   go_wp2_with fail
   refine HO.out.2.mono ?_
   rintro en w3 ⟨rfl, hb3⟩
   have HB3 := Aside0.mk (HB2.out.trans (hb3.mono HB2.out.size))
   clear hb3 q0 q1 q2 q3 q4
   go_wp2
   go_ret
   exact ⟨by rw [ofV, HO.out.1, HV.out, List.append_assoc]; rfl, HB3.out⟩
 ·have HV := Aside0.mk (show memOkL l0 l1 l2 = false from hv)
  clear hv
  go_wp2
  go_ret
  exact ⟨by rw [ofV, HV.out, Bool.false_and]; rfl, HB1.out⟩
end Go.Proofs.YtendbgedpjcocaaGreatDoor.B
/- The draws' pick ends, and is in its bounds. -/
namespace Go.Proofs.YtendbgedpjcocaaGreatDoor.B
open Go.RowKit Go.Proofs.YtendbgedpjcocaaGreatDoorW.PrintWords Go.Proofs.YtendbgedpjcocaaGreatDoorW.PrintLast Go.Proofs.YtendbgedpjcocaaGreatDoorW.PrintMore
set_option linter.unusedVariables false

theorem wrap_id {n : Int} (h0 : -9223372036854775808 ≤ n) (h1 : n ≤ 9223372036854775807) : wrap64 n = n := by
 unfold wrap64
 omega
theorem xor_nonneg (a b : Int) (ha : 0 ≤ a) (ha1 : a < 2 ^ 62) (hb : 0 ≤ b) (hb1 : b < 2 ^ 62) : 0 ≤ Go.bits .xor .i64 a b := by
 obtain ⟨m, rfl⟩ := Int.eq_ofNat_of_zero_le ha
 obtain ⟨n, rfl⟩ := Int.eq_ofNat_of_zero_le hb
 have hm : m < 2 ^ 62 := by omega
 have hn : n < 2 ^ 62 := by omega
 have hx := Nat.xor_lt_two_pow hm hn
 have ha' : m % 2 ^ 64 = m := Nat.mod_eq_of_lt (by omega)
 have hb' : n % 2 ^ 64 = n := Nat.mod_eq_of_lt (by omega)
 have hq : (BitVec.ofNat 64 m ^^^ BitVec.ofNat 64 n).toNat = m ^^^ n := by rw [BitVec.toNat_xor, BitVec.toNat_ofNat, BitVec.toNat_ofNat, ha', hb']
 show 0 ≤ IntKind.i64.wrap (((BitVec.ofInt 64 (m : Int)) ^^^ (BitVec.ofInt 64 (n : Int))).toNat : Int)
 rw [BitVec.ofInt_natCast, BitVec.ofInt_natCast, hq, IntKind.wrap_i64]
 omega
theorem tmod_in (a n : Int) (ha : 0 ≤ a) (hn : 1 ≤ n) : 0 ≤ Int.tmod a n ∧ Int.tmod a n < n := by
 rw [Int.tmod_eq_emod_of_nonneg ha]
 exact ⟨Int.emod_nonneg _ (by omega), Int.emod_lt_of_pos _ (by omega)⟩
theorem tdiv_in (a n : Int) (ha : 0 ≤ a) (hn : 1 ≤ n) : 0 ≤ Int.tdiv a n ∧ Int.tdiv a n ≤ a := by
 rw [Int.tdiv_eq_ediv_of_nonneg ha]
 exact ⟨Int.ediv_nonneg ha (by omega), Int.ediv_le_self _ ha⟩
def Bytes (s : List Int) : Prop := ∀ x ∈ s, 0 ≤ x ∧ x < 256
theorem rd_byte (s : List Int) (hs : Bytes s) (i : Int) (h0 : 0 ≤ i) (h1 : i < s.length) : 0 ≤ rd s i ∧ rd s i < 256 := by
 have : i.toNat < s.length := by omega
 have e : rd s i = s[i.toNat] := by simp [rd, this]
 rw [e]; exact hs _ (List.getElem_mem this)
theorem pick_total (s : List Int) (hs : Bytes s) (hl : s.length ≤ 2000) (p n : Int) (hp : 0 ≤ p) (hp1 : p < 1099511627776) (hn : 1 ≤ n) (hn1 : n < 2147483648) :
  ∃ r, 0 ≤ r ∧ r < n ∧ ∀ k, spec_l12Rd_pick.f (k + 1) s p n = some (r, p + 1) := by
 have e1 : wrap64 (p + 1) = p + 1 := wrap_id (by omega) (by omega)
 have e2 : wrap64 (p + 1 - 1) = p := by rw [show p + 1 - 1 = p by omega]; exact wrap_id (by omega) (by omega)
 by_cases hz : s.length = 0
 ·refine ⟨0, by omega, by omega, fun k => ?_⟩
  have hz' : ((s.length : Int) == 0) = true := by rw [hz]; rfl
  rw [spec_l12Rd_pick.f, if_neg (by omega), spec_l12Rd_pick.j0, if_pos hz', e1]
 ·have hz' : ((s.length : Int) == 0) = false := beq_false_of_ne (by omega)
  by_cases hlt : p < (s.length : Int)
  ·have hb := rd_byte s hs p hp hlt
   have hw : wrap64 (rd s p) = rd s p := wrap_id (by omega) (by omega)
   have hm := tmod_in (rd s p) n hb.1 hn
   refine ⟨Int.tmod (rd s p) n, hm.1, hm.2, fun k => ?_⟩
   rw [spec_l12Rd_pick.f, if_neg (by omega), spec_l12Rd_pick.j0, hz', if_neg (by decide), e1, e2, if_pos hlt, if_pos hp, if_neg (by omega), hw]
  ·have i1 := tmod_in p (s.length : Int) hp (by omega)
   have w7 : wrap64 (p * 7) = p * 7 := wrap_id (by omega) (by omega)
   have w73 : wrap64 (p * 7 + 3) = p * 7 + 3 := wrap_id (by omega) (by omega)
   have i2 := tmod_in (p * 7 + 3) (s.length : Int) (by omega) (by omega)
   have q1 := rd_byte s hs _ i1.1 i1.2
   have q2 := rd_byte s hs _ i2.1 i2.2
   have dv := tdiv_in p (s.length : Int) hp (by omega)
   obtain ⟨a, ha⟩ : ∃ a, a = rd s (Int.tmod p (s.length : Int)) := ⟨_, rfl⟩
   obtain ⟨b, hb⟩ : ∃ b, b = rd s (Int.tmod (p * 7 + 3) (s.length : Int)) := ⟨_, rfl⟩
   obtain ⟨d, hd⟩ : ∃ d, d = Int.tdiv p (s.length : Int) := ⟨_, rfl⟩
   rw [← ha] at q1
   rw [← hb] at q2
   rw [← hd] at dv
   have wa : wrap64 a = a := wrap_id (by omega) (by omega)
   have wb : wrap64 b = b := wrap_id (by omega) (by omega)
   have wa1 : wrap64 (a * 131) = a * 131 := wrap_id (by omega) (by omega)
   have wb1 : wrap64 (b * 1117) = b * 1117 := wrap_id (by omega) (by omega)
   have wab : wrap64 (a * 131 + b * 1117) = a * 131 + b * 1117 := wrap_id (by omega) (by omega)
   have wp : wrap64 (p * 29) = p * 29 := wrap_id (by omega) (by omega)
   have wabp : wrap64 (a * 131 + b * 1117 + p * 29) = a * 131 + b * 1117 + p * 29 := wrap_id (by omega) (by omega)
   have wd0 : wrap64 d = d := wrap_id (by omega) (by omega)
   have wd : wrap64 (d * 53) = d * 53 := wrap_id (by omega) (by omega)
   have wx : wrap64 (a * 131 + b * 1117 + p * 29 + d * 53) = a * 131 + b * 1117 + p * 29 + d * 53 := wrap_id (by omega) (by omega)
   have dx := tdiv_in (a * 131 + b * 1117 + p * 29 + d * 53) 64 (by omega) (by omega)
   have wdx : wrap64 (Int.tdiv (a * 131 + b * 1117 + p * 29 + d * 53) 64) = Int.tdiv (a * 131 + b * 1117 + p * 29 + d * 53) 64 := wrap_id (by omega) (by omega)
   have hx := xor_nonneg (a * 131 + b * 1117 + p * 29 + d * 53) (Int.tdiv (a * 131 + b * 1117 + p * 29 + d * 53) 64) (by omega) (by omega) dx.1 (by omega)
   have hm := tmod_in _ n hx hn
   refine ⟨_, hm.1, hm.2, fun k => ?_⟩
   rw [spec_l12Rd_pick.f, if_neg (by omega), spec_l12Rd_pick.j0, hz', if_neg (by decide), e1, e2, if_neg hlt, if_neg (by omega), w7, w73, if_pos i1.1, if_pos i1.2, if_pos i2.1, if_pos i2.2, if_neg (by omega), ← ha, ← hb, ← hd]
   simp only [wa, wb, wa1, wb1, wab, wp, wabp, wd0, wd, wx, wdx]
end Go.Proofs.YtendbgedpjcocaaGreatDoor.B
