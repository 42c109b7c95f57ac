/- impl.ExprOk: a range over parts whose body calls through an interface. -/
import Derived.Test.YtfmipdhkiahjoaaDoorJnF
import Derived.Shelf.RegionOpen
namespace Go.Proofs.YtfmipdhkiahjoaaDoor.B
open Go.RowKit Go.Shelf Go.Proofs.YtfmipdhkiahjoaaDoorW.PrintWords Go.Proofs.YtfmipdhkiahjoaaDoorW.PrintLast Go.Proofs.YtfmipdhkiahjoaaDoorW.PrintMore
set_option linter.unusedVariables false
attribute [local go_sem] Oper.semAt_some

structure OkI (w : World) (A : Nat → Prop) (pre : List (Int × Ex)) (W : World) : Prop where
 m : Boxed W (w.heap.size + 1 + 1) 3 (.int .i64 pre.length)
 r : Boxed W (w.heap.size + 1) 4 (.bool false)
 ok : okL 0 pre = true
 nm : ¬ A (w.heap.size + 1 + 1)
 nr : ¬ A (w.heap.size + 1)
 ge : ∀ k, A k → w.heap.size ≤ k
 below : Below w.heap.size w W
structure OkX (w : World) (c : Code) (A : Nat → Prop) (pre : List (Int × Ex)) (W : World) : Prop where
 c : c = .ret
 r : Boxed W (w.heap.size + 1) 4 (.bool false)
 ok : okL 0 pre = false
 nr : ¬ A (w.heap.size + 1)
 ge : ∀ k, A k → w.heap.size ≤ k
 below : Below w.heap.size w W
def okTmps (w : World) (e : Ex) (A : Option Addr) (c : Nat) (be : Nat) (x : Int × Ex) (A4 : Option Addr) (c4 Bx : Nat) : Array Value :=
 #[.agg #[.int .i64 e.f0, .int .i64 e.f1, .int .i64 e.f2.f0, .int .i64 e.f2.f1, .slice A e.f3.length c], .pointer (some ⟨w.heap.size, 0, none⟩), .pointer (some ⟨w.heap.size + 1, 0, none⟩), .pointer (some ⟨w.heap.size + 1 + 1, 0, none⟩), .int .i64 x.1, .pointer (some ⟨Bx, 0, none⟩), undef,
  .agg #[.int .i64 e.f0, .int .i64 e.f1, .int .i64 e.f2.f0, .int .i64 e.f2.f1, .slice A e.f3.length c], .func (.func 53) #[] #[.pointer (some ⟨be, 0, none⟩)], .int .i64 x.1, .agg #[.int .i64 x.2.f0, .int .i64 x.2.f1, .int .i64 x.2.f2.f0, .int .i64 x.2.f2.f1, .slice A4 x.2.f3.length c4],
  undef, undef, undef, undef, undef, undef, undef, undef, undef, undef, undef, undef, undef, undef, undef, undef, undef, undef, undef, undef, undef, undef, undef, undef, undef, undef, undef, undef, undef]
/-- Behind the assignment to the loop's variables: the part lies in a box. -/
def OkM (w : World) (e : Ex) (A : Option Addr) (c : Nat) (be : Nat) (a : Act) (A' : Nat → Prop) (s : List (Int × Ex)) (W : World) : Prop :=
 ∃ (pre : List (Int × Ex)) (x : Int × Ex) (A4 : Option Addr) (c4 Bx : Nat), s = pre ++ [x] ∧ a = { tmps := okTmps w e A c be x A4 c4 Bx, defers := [] } ∧
  W.heap[Bx]? = some (.cells #[.int .i64 x.2.f0, .int .i64 x.2.f1, .int .i64 x.2.f2.f0, .int .i64 x.2.f2.f1, .slice A4 x.2.f3.length c4] 34 (0, 0)) ∧ ¬ A' Bx ∧ w.heap.size + 1 + 1 < Bx ∧ x.2.f3.length ≤ c4 ∧ OkI w A' pre W

theorem foreign_ok (w : World) : Foreign (OkI w) where
 turn := fun {A s W W' r} h hg he hr => ⟨h.m.kept hg (fun e => by cases e; exact h.nm hr), h.r.kept hg (fun e => by cases e; exact h.nr hr), h.ok, h.nm, h.nr, h.ge, h.below.grown hg (h.below.size) (fun k e => by cases e; exact h.ge _ hr)⟩
 alloc := fun {A s W} o h => ⟨h.m.alloc o, h.r.alloc o, h.ok, fun e => e.elim h.nm (fun e => by have := h.m.lt; omega), fun e => e.elim h.nr (fun e => by have := h.r.lt; omega), fun k e => e.elim (h.ge k) (fun e => by have := h.below.size; omega), h.below.alloc h.below.size o⟩
 drew := fun {A s W} h => ⟨h.m, h.r, h.ok, h.nm, h.nr, h.ge, h.below.drew⟩
 fewer := fun {A A' s W} h hA => ⟨h.m, h.r, h.ok, fun e => h.nm (hA _ e), fun e => h.nr (hA _ e), fun k e => h.ge k (hA k e), h.below⟩
theorem foreign_okx (w : World) (c : Code) : Foreign (OkX w c) where
 turn := fun {A s W W' r} h hg he hr => ⟨h.c, h.r.kept hg (fun e => by cases e; exact h.nr hr), h.ok, h.nr, h.ge, h.below.grown hg (h.below.size) (fun k e => by cases e; exact h.ge _ hr)⟩
 alloc := fun {A s W} o h => ⟨h.c, h.r.alloc o, h.ok, fun e => e.elim h.nr (fun e => by have := h.r.lt; omega), fun k e => e.elim (h.ge k) (fun e => by have := h.below.size; omega), h.below.alloc h.below.size o⟩
 drew := fun {A s W} h => ⟨h.c, h.r, h.ok, h.nr, h.ge, h.below.drew⟩
 fewer := fun {A A' s W} h hA => ⟨h.c, h.r, h.ok, fun e => h.nr (hA _ e), fun k e => h.ge k (hA k e), h.below⟩

theorem foreign_okm (w : World) (e : Ex) (A : Option Addr) (c : Nat) (be : Nat) (a : Act) : Foreign (OkM w e A c be a) where
 turn := by
  rintro A' s W W' r ⟨pre, x, A4, c4, Bx, rfl, rfl, hb, hn, hlt, hc, hi⟩ hg he hr
  exact ⟨pre, x, A4, c4, Bx, rfl, rfl, (hg.block Bx (Array.getElem?_eq_some_iff.1 hb).1 (fun e => by cases e; exact hn hr)).trans hb, hn, hlt, hc, (foreign_ok w).turn hi hg he hr⟩
 alloc := by
  rintro A' s W o ⟨pre, x, A4, c4, Bx, rfl, rfl, hb, hn, hlt, hc, hi⟩
  have hz := (Array.getElem?_eq_some_iff.1 hb).1
  exact ⟨pre, x, A4, c4, Bx, rfl, rfl, (Below.heap_alloc W o Bx hz).trans hb, fun e => e.elim hn (fun e => by omega), hlt, hc, (foreign_ok w).alloc o hi⟩
 drew := by
  rintro A' s W ⟨pre, x, A4, c4, Bx, rfl, rfl, hb, hn, hlt, hc, hi⟩
  exact ⟨pre, x, A4, c4, Bx, rfl, rfl, hb, hn, hlt, hc, (foreign_ok w).drew hi⟩
 fewer := by
  rintro A' A'' s W ⟨pre, x, A4, c4, Bx, rfl, rfl, hb, hn, hlt, hc, hi⟩ hA
  exact ⟨pre, x, A4, c4, Bx, rfl, rfl, hb, fun e => hn (hA _ e), hlt, hc, (foreign_ok w).fewer hi hA⟩

theorem ok_stop {w W W2 w3 : World} {A' : Nat → Prop} {pre : List (Int × Ex)} {x : Int × Ex} (hi : OkI w A' pre W) (hr2 : Boxed W2 (w.heap.size + 1) 4 (.bool false)) (hk2 : Kpt A' W W2) (hB2 : Below w.heap.size w W2) (hA : ∀ k, A' k → k < W.heap.size)
  (h3 : Below W2.heap.size W2 w3) (hp : partOk (pre.length + 1) x = false) :
  Kpt A' W (w3.setCell ⟨w.heap.size + 1, 0, none⟩ (.bool false)) ∧ OkX w .ret A' (pre ++ [x]) (w3.setCell ⟨w.heap.size + 1, 0, none⟩ (.bool false)) := by
 have hlt : ∀ k, A' k → k < W2.heap.size := fun k h => Nat.lt_of_lt_of_le (hA k h) hk2.size
 have hr3 : Boxed w3 (w.heap.size + 1) 4 (.bool false) := (h3.block _ hr2.lt).trans hr2
 refine ⟨(hk2.below h3 hlt).setCell (p := ⟨w.heap.size + 1, 0, none⟩) hi.nr _, rfl, hr3.set _, ?_, hi.nr, hi.ge, (hB2.trans (h3.mono hB2.size)).setCell (p := ⟨w.heap.size + 1, 0, none⟩) (by simp) _⟩
 rw [okL_snoc, Nat.zero_add, hp, Bool.and_false]
theorem ok_go {w W W2 w3 : World} {A' : Nat → Prop} {pre : List (Int × Ex)} {x : Int × Ex} (hi : OkI w A' pre W) (hm2 : Boxed W2 (w.heap.size + 1 + 1) 3 (.int .i64 (pre.length + 1))) (hr2 : Boxed W2 (w.heap.size + 1) 4 (.bool false)) (hk2 : Kpt A' W W2) (hB2 : Below w.heap.size w W2) (hA : ∀ k, A' k → k < W.heap.size)
  (h3 : Below W2.heap.size W2 w3) (hp : partOk (pre.length + 1) x = true) : Kpt A' W w3 ∧ OkI w A' (pre ++ [x]) w3 := by
 have hlt : ∀ k, A' k → k < W2.heap.size := fun k h => Nat.lt_of_lt_of_le (hA k h) hk2.size
 refine ⟨hk2.below h3 hlt, ?_, (h3.block _ hr2.lt).trans hr2, ?_, hi.nm, hi.nr, hi.ge, hB2.trans (h3.mono hB2.size)⟩
 ·have h : Boxed w3 (w.heap.size + 1 + 1) 3 (.int .i64 (pre.length + 1)) := (h3.block _ hm2.lt).trans hm2
  simpa using h
 ·rw [okL_snoc, Nat.zero_add, hi.ok, hp]; rfl

theorem mixedO : Tryd.prog.follows Departure.mixedOrders = true := by kernel_rfl

set_option maxRecDepth 100000 in
set_option maxHeartbeats 40000000 in
theorem exprOk_any (e : Ex) (A : Option Addr) (c : Nat) (w : World) (hC : Kd.C exK w A e.f3.length e.f3) (hc : e.f3.length ≤ c) :
  Calls Tryd.prog 29 #[.agg #[.int .i64 e.f0, .int .i64 e.f1, .int .i64 e.f2.f0, .int .i64 e.f2.f1, .slice A e.f3.length c]] w fun en w' => en = .returned (.bool (okL 0 (partsL e))) ∧ Below w.heap.size w w' := by
 refine (callsIn_wide (n := 9)).1 ?_
 refine callsIn_of_wp_marks Tryd.func29 rfl trivial ?_ rfl
 simp only [Tryd.ntmps29, List.size_toArray, List.length_cons, List.length_nil, Nat.reduceAdd, Nat.reduceSub, Array.replicate_succ, Array.replicate_zero, List.push_toArray, List.append_toArray, List.nil_append, List.cons_append]
 gi_wp2
 refine ⟨trivial, (parts_in e A c _ 8).mono ?_⟩
 rintro en w1' ⟨rfl, rfl⟩
 obtain ⟨w1, hw1⟩ : ∃ w1, (((w.alloc (.cells #[.int .i64 e.f0, .int .i64 e.f1, .int .i64 e.f2.f0, .int .i64 e.f2.f1, .slice A e.f3.length c] 34)).alloc (.cells #[.bool false] 4)).alloc (.cells #[.int .i64 0] 3)).alloc (.cells #[.int .i64 e.f0, .int .i64 e.f1, .int .i64 e.f2.f0, .int .i64 e.f2.f1, .slice A e.f3.length c] 34) = w1 := ⟨_, rfl⟩
 have hz1 : w1.heap.size = w.heap.size + 1 + 1 + 1 + 1 := by rw [← hw1]; simp
 have hB1 : Below w.heap.size w w1 := by rw [← hw1]; exact ((((Below.refl _ w).alloc (by simp) _).alloc (by simp) _).alloc (by simp; omega) _).alloc (by simp; omega) _
 have hbe : w1.heap[w.heap.size + 1 + 1 + 1]? = some (.cells #[.int .i64 e.f0, .int .i64 e.f1, .int .i64 e.f2.f0, .int .i64 e.f2.f1, .slice A e.f3.length c] 34 (0, 0)) := by
  rw [← hw1]
  have h := World.alloc_heap_new (((w.alloc (.cells #[.int .i64 e.f0, .int .i64 e.f1, .int .i64 e.f2.f0, .int .i64 e.f2.f1, .slice A e.f3.length c] 34)).alloc (.cells #[.bool false] 4)).alloc (.cells #[.int .i64 0] 3)) (.cells #[.int .i64 e.f0, .int .i64 e.f1, .int .i64 e.f2.f0, .int .i64 e.f2.f1, .slice A e.f3.length c] 34)
  simpa using h
 have hI0 : OkI w (fun _ => False) [] w1 := by
  rw [← hw1]
  refine ⟨?_, ?_, rfl, id, id, fun k h => h.elim, by rw [hw1]; exact hB1⟩
  ·have h := (Boxed.new ((w.alloc (.cells #[.int .i64 e.f0, .int .i64 e.f1, .int .i64 e.f2.f0, .int .i64 e.f2.f1, .slice A e.f3.length c] 34)).alloc (.cells #[.bool false] 4)) 3 (.int .i64 0)).alloc (.cells #[.int .i64 e.f0, .int .i64 e.f1, .int .i64 e.f2.f0, .int .i64 e.f2.f1, .slice A e.f3.length c] 34)
   simpa using h
  ·have h := ((Boxed.new (w.alloc (.cells #[.int .i64 e.f0, .int .i64 e.f1, .int .i64 e.f2.f0, .int .i64 e.f2.f1, .slice A e.f3.length c] 34)) 4 (.bool false)).alloc (.cells #[.int .i64 0] 3)).alloc (.cells #[.int .i64 e.f0, .int .i64 e.f1, .int .i64 e.f2.f0, .int .i64 e.f2.f1, .slice A e.f3.length c] 34)
   simpa using h
 rw [hw1]
 clear hw1
 gi_wp2
 refine wpIn_rangeFunc_A (gf := 53) (lb := #[.pointer (some ⟨w.heap.size + 1 + 1 + 1, 0, none⟩)]) rfl (enters_of Tryd.func53 (by kernel_rfl) rfl)
  (parts1_seq e A c w w1 (w.heap.size + 1 + 1 + 1) hC hc (by omega) hbe) (by rintro x vs ⟨A4, c4, rfl, _⟩; rfl)
  (OkI w) (OkX w) (OkM w e A c (w.heap.size + 1 + 1 + 1)) (foreign_ok w) (foreign_okx w) (foreign_okm w e A c _) (fun A' s W h => h.below) hI0 ?assign ?body ?done ?stop
 case assign =>
  rintro l A' pre x vs W hsz hA hi hpre ⟨A4, c4, rfl, hc4, hC4⟩
  gi_wp2
  exact ⟨(Kpt.refl A' W).alloc hA _, pre, x, A4, c4, W.heap.size, rfl, rfl, World.alloc_heap_new W _, fun h => Nat.lt_irrefl _ (hA _ h), by omega, hc4, (foreign_ok w).fewer ((foreign_ok w).alloc _ hi) (fun k h => .inl h)⟩
 case body =>
  rintro l A' pre0 x0 a1 W hsz hA ⟨pre, x, A4, c4, Bx, hs, rfl, hb, hn, hlt, hc4, hi⟩ hpre
  obtain ⟨rfl, hx⟩ := List.append_inj' hs rfl
  obtain rfl : x0 = x := by simpa using hx
  have cm := hi.m.cell
  have fm := hi.m.frozen
  have e0 : W.cell? ⟨Bx, 0, none⟩ = some (.int .i64 x0.2.f0) := by simp [World.cell?, hb]
  have e1 : W.cell? ⟨Bx, 1, none⟩ = some (.int .i64 x0.2.f1) := by simp [World.cell?, hb]
  have e2 : W.cell? ⟨Bx, 2, none⟩ = some (.int .i64 x0.2.f2.f0) := by simp [World.cell?, hb]
  have e3 : W.cell? ⟨Bx, 3, none⟩ = some (.int .i64 x0.2.f2.f1) := by simp [World.cell?, hb]
  have e4 : W.cell? ⟨Bx, 4, none⟩ = some (.slice A4 x0.2.f3.length c4) := by simp [World.cell?, hb]
  have nb : ¬ Bx = w.heap.size + 1 + 1 := by omega
  have nb' : ¬ w.heap.size + 1 + 1 = Bx := by omega
  unfold okTmps
  have hlen : pre0.length ≤ 14 := by have h := Nat.le_trans hpre.length_le (partsL_le e); simp at h; omega
  gi_wp2
  refine ⟨trivial, (CallsIn.inRound l (callsIn_wide.2 (reckoningOf_calls _ _))).mono ?_⟩
  rintro en w2 ⟨rfl, rfl⟩
  have hm2 : Boxed (W.setCell ⟨w.heap.size + 1 + 1, 0, none⟩ (.int .i64 (pre0.length + 1))) (w.heap.size + 1 + 1) 3 (.int .i64 (pre0.length + 1)) := hi.m.set _
  have hr2 : Boxed (W.setCell ⟨w.heap.size + 1 + 1, 0, none⟩ (.int .i64 (pre0.length + 1))) (w.heap.size + 1) 4 (.bool false) := hi.r.kept (grownBy_setCell' W _ _) (by simp)
  have hb2 := (Below.heap_setCell W ⟨w.heap.size + 1 + 1, 0, none⟩ (.int .i64 (pre0.length + 1)) Bx nb).trans hb
  have hk2 : Kpt A' W (W.setCell ⟨w.heap.size + 1 + 1, 0, none⟩ (.int .i64 (pre0.length + 1))) := (Kpt.refl A' W).setCell hi.nm _
  have hB2 : Below w.heap.size w (W.setCell ⟨w.heap.size + 1 + 1, 0, none⟩ (.int .i64 (pre0.length + 1))) := hi.below.setCell (p := ⟨w.heap.size + 1 + 1, 0, none⟩) (by simp; omega) _
  clear cm fm e0 e1 e2 e3 e4 hb
  generalize W.setCell ⟨w.heap.size + 1 + 1, 0, none⟩ (.int .i64 (pre0.length + 1)) = W2 at hm2 hr2 hb2 hk2 hB2 ⊢
  have cm := hm2.cell
  have cr := hr2.cell
  have fr := hr2.frozen
  have e0 : W2.cell? ⟨Bx, 0, none⟩ = some (.int .i64 x0.2.f0) := by simp [World.cell?, hb2]
  have e1 : W2.cell? ⟨Bx, 1, none⟩ = some (.int .i64 x0.2.f1) := by simp [World.cell?, hb2]
  have e2 : W2.cell? ⟨Bx, 2, none⟩ = some (.int .i64 x0.2.f2.f0) := by simp [World.cell?, hb2]
  have e3 : W2.cell? ⟨Bx, 3, none⟩ = some (.int .i64 x0.2.f2.f1) := by simp [World.cell?, hb2]
  have e4 : W2.cell? ⟨Bx, 4, none⟩ = some (.slice A4 x0.2.f3.length c4) := by simp [World.cell?, hb2]
  have hI := Aside0.mk (And.intro hi (And.intro hm2 (And.intro hr2 (And.intro hk2 (And.intro hB2 (And.intro hpre (And.intro hb2 hA)))))))
  have HCC := Aside0.mk (And.intro hC hc)
  have hmix := mixedO
  gi_wp2
  have hlen' : pre0.length ≤ 14 := hlen
  have zBx : Bx < W2.heap.size := (Array.getElem?_eq_some_iff.1 hb2).1
  clear hb2 hi hm2 hr2 hk2 hB2 hpre hsz hA hn hlt hc4 hC hc hB1 hbe hI0 hz1 hlen nb nb' hx hs
  have zr : w.heap.size + 1 < W2.heap.size := hI.out.2.2.1.lt
  by_cases h14 : 14 ≤ pre0.length
  ·have H14 := Aside0.mk h14
   have b14 : decide ((14 : Int) < (pre0.length : Int) + 1) = true := decide_eq_true (by omega)
   have b14' : decide ((14 : Int) ≤ (pre0.length : Int)) = true := decide_eq_true (by omega)
   clear h14
   gi_region_with_o (refine ⟨fun _ _ => trivial, ?_⟩)
   all_goals (gi_wp2; exact ok_stop hI.out.1 hI.out.2.2.1 hI.out.2.2.2.1 hI.out.2.2.2.2.1 hI.out.2.2.2.2.2.2.2 ((Below.refl _ W2).drew) (by have := H14.out; simp only [partOk, decide_eq_false (show ¬ pre0.length + 1 ≤ 14 by omega), Bool.false_and]))
  ·have H14 := Aside0.mk h14
   have b14 : decide ((14 : Int) < (pre0.length : Int) + 1) = false := decide_eq_false (by omega)
   have b14' : decide ((14 : Int) ≤ (pre0.length : Int)) = false := decide_eq_false (by omega)
   clear h14
   by_cases h6 : 6 ≤ x0.1
   ·have H6 := Aside0.mk h6
    have b6 : decide ((6 : Int) ≤ x0.1) = true := decide_eq_true h6
    clear h6
    gi_region_with_o (refine ⟨fun _ _ => trivial, ?_⟩)
    all_goals (gi_wp2; exact ok_stop hI.out.1 hI.out.2.2.1 hI.out.2.2.2.1 hI.out.2.2.2.2.1 hI.out.2.2.2.2.2.2.2 ((Below.refl _ W2).drew) (by have := H6.out; simp only [partOk, decide_eq_false (show ¬ x0.1 < 6 by omega), Bool.false_and, Bool.and_false]))
   ·have b6 : decide ((6 : Int) ≤ x0.1) = false := decide_eq_false h6
    have H6 := Aside0.mk h6
    clear h6
    cases hk : kindOk x0.2.f0 with
    | false =>
     rw [kind_nil _ hk]
     have HK := Aside0.mk hk; clear hk
     gi_region_with_o (refine ⟨fun _ _ => trivial, ?_⟩)
     all_goals (gi_wp2; exact ok_stop hI.out.1 hI.out.2.2.1 hI.out.2.2.2.1 hI.out.2.2.2.2.1 hI.out.2.2.2.2.2.2.2 ((Below.refl _ W2).drew) (by simp only [partOk, HK.out, Bool.false_and, Bool.and_false]))
    | true =>
     obtain ⟨T, fk, fs, hK⟩ := kind_is x0.2.f0 hk
     have m1 := hK.mk'
     have m2 := hK.ms'
     have n1 := hK.ek
     have n2 := hK.es
     rw [hK.v]
     have HKO := Aside0.mk hk
     have HK := Aside0.mk hK; clear hK hk
     by_cases hl : (x0.2.f3.length : Int) = kidsN x0.2.f0
     ·have HL := Aside0.mk hl
      have bl : ((x0.2.f3.length : Int) != kidsN x0.2.f0) = false := bne_eq_false_iff_eq.mpr hl
      clear hl
      cases hs : shapeL x0.2.f0 x0.2.f1 x0.2.f2.f0 x0.2.f2.f1 with
      | false =>
       have HS := Aside0.mk hs; clear hs
       gi_region_with_o (first | (refine ⟨trivial, ?_⟩; (with_reducible refine (CallsIn.inRound l (callsIn_wide.2 (HK.out.ck _))).mono ?_); rintro en w3 ⟨rfl, hb3⟩; have e30 := (hb3.cell (p := ⟨Bx, 0, none⟩) zBx).trans e0; have e31 := (hb3.cell (p := ⟨Bx, 1, none⟩) zBx).trans e1; have e32 := (hb3.cell (p := ⟨Bx, 2, none⟩) zBx).trans e2; have e33 := (hb3.cell (p := ⟨Bx, 3, none⟩) zBx).trans e3; have e34 := (hb3.cell (p := ⟨Bx, 4, none⟩) zBx).trans e4; have cr3 := (hb3.cell (p := ⟨w.heap.size + 1, 0, none⟩) zr).trans cr; have fr3 := (hb3.frozen (p := ⟨w.heap.size + 1, 0, none⟩) zr).trans fr; have HB3 := Aside0.mk hb3; clear hb3) | (refine ⟨trivial, ?_⟩; (with_reducible refine (CallsIn.inRound l (callsIn_wide.2 (HK.out.cs _ _ _ _ _ _ _))).mono ?_); rintro en w4 ⟨rfl, hb4⟩; (try rw [HS.out]); have cr4 := (hb4.cell (p := ⟨w.heap.size + 1, 0, none⟩) (Nat.lt_of_lt_of_le zr HB3.out.size)).trans cr3; have fr4 := (hb4.frozen (p := ⟨w.heap.size + 1, 0, none⟩) (Nat.lt_of_lt_of_le zr HB3.out.size)).trans fr3; have HB4 := Aside0.mk hb4; clear hb4) | (refine ⟨fun _ _ => trivial, ?_⟩))
       all_goals (gi_wp2; exact ok_stop hI.out.1 hI.out.2.2.1 hI.out.2.2.2.1 hI.out.2.2.2.2.1 hI.out.2.2.2.2.2.2.2 (((Below.refl _ W2).drew.trans HB3.out).trans (HB4.out.mono HB3.out.size)) (by simp only [partOk, HS.out, Bool.and_false]))
      | true =>
       have HS := Aside0.mk hs; clear hs
       gi_region_with_o (first | (refine ⟨trivial, ?_⟩; (with_reducible refine (CallsIn.inRound l (callsIn_wide.2 (HK.out.ck _))).mono ?_); rintro en w3 ⟨rfl, hb3⟩; have e30 := (hb3.cell (p := ⟨Bx, 0, none⟩) zBx).trans e0; have e31 := (hb3.cell (p := ⟨Bx, 1, none⟩) zBx).trans e1; have e32 := (hb3.cell (p := ⟨Bx, 2, none⟩) zBx).trans e2; have e33 := (hb3.cell (p := ⟨Bx, 3, none⟩) zBx).trans e3; have e34 := (hb3.cell (p := ⟨Bx, 4, none⟩) zBx).trans e4; have cr3 := (hb3.cell (p := ⟨w.heap.size + 1, 0, none⟩) zr).trans cr; have fr3 := (hb3.frozen (p := ⟨w.heap.size + 1, 0, none⟩) zr).trans fr; have HB3 := Aside0.mk hb3; clear hb3) | (refine ⟨trivial, ?_⟩; (with_reducible refine (CallsIn.inRound l (callsIn_wide.2 (HK.out.cs _ _ _ _ _ _ _))).mono ?_); rintro en w4 ⟨rfl, hb4⟩; (try rw [HS.out]); have cr4 := (hb4.cell (p := ⟨w.heap.size + 1, 0, none⟩) (Nat.lt_of_lt_of_le zr HB3.out.size)).trans cr3; have fr4 := (hb4.frozen (p := ⟨w.heap.size + 1, 0, none⟩) (Nat.lt_of_lt_of_le zr HB3.out.size)).trans fr3; have HB4 := Aside0.mk hb4; clear hb4) | (refine ⟨fun _ _ => trivial, ?_⟩))
       all_goals (gi_wp2; exact ok_go hI.out.1 hI.out.2.1 hI.out.2.2.1 hI.out.2.2.2.1 hI.out.2.2.2.2.1 hI.out.2.2.2.2.2.2.2 (((Below.refl _ W2).drew.trans HB3.out).trans (HB4.out.mono HB3.out.size)) (by have := H6.out; have := H14.out; simp only [partOk, HS.out, HKO.out, Bool.and_true, beq_iff_eq.mpr HL.out, decide_eq_true (show pre0.length + 1 ≤ 14 by omega), decide_eq_true (show x0.1 < 6 by omega)]))
     ·have HL := Aside0.mk hl
      have bl : ((x0.2.f3.length : Int) != kidsN x0.2.f0) = true := bne_iff_ne.mpr hl
      clear hl
      gi_region_with_o (first | (refine ⟨trivial, ?_⟩; (with_reducible refine (CallsIn.inRound l (callsIn_wide.2 (HK.out.ck _))).mono ?_); rintro en w3 ⟨rfl, hb3⟩; have e30 := (hb3.cell (p := ⟨Bx, 0, none⟩) zBx).trans e0; have e31 := (hb3.cell (p := ⟨Bx, 1, none⟩) zBx).trans e1; have e32 := (hb3.cell (p := ⟨Bx, 2, none⟩) zBx).trans e2; have e33 := (hb3.cell (p := ⟨Bx, 3, none⟩) zBx).trans e3; have e34 := (hb3.cell (p := ⟨Bx, 4, none⟩) zBx).trans e4; have cr3 := (hb3.cell (p := ⟨w.heap.size + 1, 0, none⟩) zr).trans cr; have fr3 := (hb3.frozen (p := ⟨w.heap.size + 1, 0, none⟩) zr).trans fr; have HB3 := Aside0.mk hb3; clear hb3) | (refine ⟨fun _ _ => trivial, ?_⟩))
      all_goals (gi_wp2; exact ok_stop hI.out.1 hI.out.2.2.1 hI.out.2.2.2.1 hI.out.2.2.2.2.1 hI.out.2.2.2.2.2.2.2 ((Below.refl _ W2).drew.trans HB3.out) (by simp only [partOk, beq_eq_false_iff_ne.mpr HL.out, Bool.false_and, Bool.and_false]))
 case done =>
  rintro D W hD hDl hi hK
  have cr := hi.r.cell
  have fr := hi.r.frozen
  gi_wp2
  have hK' := (KeepsOthers.setCell W ⟨w.heap.size + 1, 0, none⟩ (.bool true)).same D _ hK rfl
  refine ⟨by simp, .inl ⟨_, _, rfl, run_takeDeferred hK', ?_⟩⟩
  have hc5 := cell_kept (World.cell?_setCell_same' W ⟨w.heap.size + 1, 0, none⟩ (.bool true) (by rw [cr]; rfl)) (grownBy_putObj' _ D (.deferred none)) (fun r e => by cases e; exact ⟨_, hK', rfl⟩)
  refine ⟨.bool true, ?_, by rw [hi.ok], (hi.below.setCell (p := ⟨w.heap.size + 1, 0, none⟩) (by simp) _).trans (belowK_b (w := w) (Nat.le_refl _) _ D _ _ (by omega) hK' rfl rfl)⟩
  simp [results, Tryd.f29, go_sem, hc5]
 case stop =>
  rintro D c1 pre W hD hDl hpre ⟨rfl, hr, hok, hnr, hge, hB⟩ hK
  gi_wp2
  refine ⟨by simp, .inl ⟨_, _, rfl, run_takeDeferred hK, ?_⟩⟩
  have hc5 := cell_kept hr.cell (grownBy_putObj' _ D (.deferred none)) (fun r e => by cases e; exact ⟨_, hK, rfl⟩)
  have hall : okL 0 (partsL e) = false := by
   obtain ⟨r, hr'⟩ := hpre
   rw [← hr', okL_append, hok]; rfl
  refine ⟨.bool false, ?_, by rw [hall], hB.trans (belowK_b (w := w) (Nat.le_refl _) W D _ _ (by omega) hK rfl rfl)⟩
  simp [results, Tryd.f29, go_sem, hc5]
end Go.Proofs.YtfmipdhkiahjoaaDoor.B
