/- impl.SlimReads: a range over the parts, over impl.ExprOk's contract. -/
import Derived.Test.YtiofkhfmdophpaaLawOk
import Derived.Test.YtiofkhfmdophpaaE29
import Derived.Shelf.RegionOpen
namespace Go.Proofs.Ytiofkhfmdophpaa.B
open Go.RowKit Go.Shelf Go.Proofs.YtiofkhfmdophpaaW.PrintWords Go.Proofs.YtiofkhfmdophpaaW.PrintLast Go.Proofs.YtiofkhfmdophpaaW.PrintMore
set_option linter.unusedVariables false
attribute [local go_sem] Oper.semAt_some
attribute [local go_sem high] eqA29

def readsP (a b : Int) (x : Int × Ex) : Bool := x.2.f0 == 2 && (x.2.f2.f0 == a && (x.2.f2.f1 == b))

structure SlI (w : World) (a b : Int) (A : Nat → Prop) (pre : List (Int × Ex)) (W : World) : Prop where
  r : Boxed W (w.heap.size + 1 + 1) 4 (.bool false)
  p : W.heap[w.heap.size + 1]? = some (.cells #[.int .i64 a, .int .i64 b] 29 (0, 0))
  ok : pre.any (readsP a b) = false
  nr : ¬ A (w.heap.size + 1 + 1)
  np : ¬ A (w.heap.size + 1)
  ge : ∀ k, A k → w.heap.size ≤ k
  below : Below w.heap.size w W
structure SlX (w : World) (a b : Int) (c : Code) (A : Nat → Prop) (pre : List (Int × Ex)) (W : World) : Prop where
  c : c = .ret
  r : Boxed W (w.heap.size + 1 + 1) 4 (.bool true)
  ok : pre.any (readsP a b) = true
  nr : ¬ A (w.heap.size + 1 + 1)
  ge : ∀ k, A k → w.heap.size ≤ k
  below : Below w.heap.size w W
def slTmps (w : World) (e : Ex) (a b : Int) (A : Option Addr) (c : Nat) (be : Nat) (x : Int × Ex) (A4 : Option Addr) (c4 Bx : Nat) : Array Value :=
  #[.agg #[.int .i64 e.f0, .int .i64 e.f1, .int .i64 e.f2.f0, .int .i64 e.f2.f1, .slice A e.f3.length c], .agg #[.int .i64 a, .int .i64 b], .pointer (some ⟨w.heap.size, 0, none⟩), .pointer (some ⟨w.heap.size + 1, 0, none⟩), .pointer (some ⟨w.heap.size + 1 + 1, 0, none⟩), undef, .pointer (some ⟨Bx, 0, none⟩),
    .agg #[.int .i64 e.f0, .int .i64 e.f1, .int .i64 e.f2.f0, .int .i64 e.f2.f1, .slice A e.f3.length c], .bool true, .bool false, .agg #[.int .i64 e.f0, .int .i64 e.f1, .int .i64 e.f2.f0, .int .i64 e.f2.f1, .slice A e.f3.length c], .func (.func 85) #[] #[.pointer (some ⟨be, 0, none⟩)],
    .int .i64 x.1, .agg #[.int .i64 x.2.f0, .int .i64 x.2.f1, .int .i64 x.2.f2.f0, .int .i64 x.2.f2.f1, .slice A4 x.2.f3.length c4],
    undef, undef, undef, undef, undef, undef, undef, undef, undef]
def SlM (w : World) (e : Ex) (a b : Int) (A : Option Addr) (c : Nat) (be : Nat) (act : Act) (A' : Nat → Prop) (s : List (Int × Ex)) (W : World) : Prop :=
  ∃ (pre : List (Int × Ex)) (x : Int × Ex) (A4 : Option Addr) (c4 Bx : Nat), s = pre ++ [x] ∧ act = { tmps := slTmps w e a b A c be x A4 c4 Bx, defers := [] } ∧
    W.heap[Bx]? = some (.cells #[.int .i64 x.2.f0, .int .i64 x.2.f1, .int .i64 x.2.f2.f0, .int .i64 x.2.f2.f1, .slice A4 x.2.f3.length c4] 32 (0, 0)) ∧ ¬ A' Bx ∧ w.heap.size + 1 + 1 < Bx ∧ x.2.f3.length ≤ c4 ∧ SlI w a b A' pre W

theorem foreign_sl (w : World) (a b : Int) : Foreign (SlI w a b) where
  turn := fun {A s W W' r} h hg he hr => ⟨h.r.kept hg (fun e => by cases e; exact h.nr hr), (hg.block _ (blk_lt h.p) (fun e => by cases e; exact h.np hr)).trans h.p, h.ok, h.nr, h.np, h.ge, h.below.grown hg (h.below.size) (fun k e => by cases e; exact h.ge _ hr)⟩
  alloc := fun {A s W} o h => ⟨h.r.alloc o, (Below.heap_alloc W o _ (blk_lt h.p)).trans h.p, h.ok, fun e => e.elim h.nr (fun e => by have := h.r.lt; omega), fun e => e.elim h.np (fun e => by have := blk_lt h.p; omega), fun k e => e.elim (h.ge k) (fun e => by have := h.below.size; omega), h.below.alloc h.below.size o⟩
  drew := fun {A s W} h => ⟨h.r, h.p, h.ok, h.nr, h.np, h.ge, h.below.drew⟩
  fewer := fun {A A' s W} h hA => ⟨h.r, h.p, h.ok, fun e => h.nr (hA _ e), fun e => h.np (hA _ e), fun k e => h.ge k (hA k e), h.below⟩
theorem foreign_slx (w : World) (a b : Int) (c : Code) : Foreign (SlX w a b c) where
  turn := fun {A s W W' r} h hg he hr => ⟨h.c, h.r.kept hg (fun e => by cases e; exact h.nr hr), h.ok, h.nr, h.ge, h.below.grown hg (h.below.size) (fun k e => by cases e; exact h.ge _ hr)⟩
  alloc := fun {A s W} o h => ⟨h.c, h.r.alloc o, h.ok, fun e => e.elim h.nr (fun e => by have := h.r.lt; omega), fun k e => e.elim (h.ge k) (fun e => by have := h.below.size; omega), h.below.alloc h.below.size o⟩
  drew := fun {A s W} h => ⟨h.c, h.r, h.ok, h.nr, h.ge, h.below.drew⟩
  fewer := fun {A A' s W} h hA => ⟨h.c, h.r, h.ok, fun e => h.nr (hA _ e), fun k e => h.ge k (hA k e), h.below⟩
theorem foreign_slm (w : World) (e : Ex) (a b : Int) (A : Option Addr) (c : Nat) (be : Nat) (act : Act) : Foreign (SlM w e a b A c be act) where
  turn := by
    rintro A' s W W' r ⟨pre, x, A4, c4, Bx, rfl, rfl, hb, hn, hlt, hc, hi⟩ hg he hr
    exact ⟨pre, x, A4, c4, Bx, rfl, rfl, (hg.block Bx (Array.getElem?_eq_some_iff.1 hb).1 (fun e => by cases e; exact hn hr)).trans hb, hn, hlt, hc, (foreign_sl w a b).turn hi hg he hr⟩
  alloc := by
    rintro A' s W o ⟨pre, x, A4, c4, Bx, rfl, rfl, hb, hn, hlt, hc, hi⟩
    have hz := (Array.getElem?_eq_some_iff.1 hb).1
    exact ⟨pre, x, A4, c4, Bx, rfl, rfl, (Below.heap_alloc W o Bx hz).trans hb, fun e => e.elim hn (fun e => by omega), hlt, hc, (foreign_sl w a b).alloc o hi⟩
  drew := by
    rintro A' s W ⟨pre, x, A4, c4, Bx, rfl, rfl, hb, hn, hlt, hc, hi⟩
    exact ⟨pre, x, A4, c4, Bx, rfl, rfl, hb, hn, hlt, hc, (foreign_sl w a b).drew hi⟩
  fewer := by
    rintro A' A'' s W ⟨pre, x, A4, c4, Bx, rfl, rfl, hb, hn, hlt, hc, hi⟩ hA
    exact ⟨pre, x, A4, c4, Bx, rfl, rfl, hb, fun e => hn (hA _ e), hlt, hc, (foreign_sl w a b).fewer hi hA⟩

set_option maxRecDepth 100000 in
set_option maxHeartbeats 8000000 in
theorem slimReads_any (hok : OkCon) (e : Ex) (a b : Int) (A : Option Addr) (c : Nat) (w : World) (hC : Kd.C exK w A e.f3.length e.f3) (hc : e.f3.length ≤ c) :
    Calls Try.prog 22 #[.agg #[.int .i64 e.f0, .int .i64 e.f1, .int .i64 e.f2.f0, .int .i64 e.f2.f1, .slice A e.f3.length c], .agg #[.int .i64 a, .int .i64 b]] w fun en w' => en = .returned (.bool (okL 0 (partsL e) && (partsL e).any (readsP a b))) ∧ Below w.heap.size w w' := by
  refine (callsIn_wide (n := 9)).1 ?_
  refine callsIn_of_wp_marks Try.func22 rfl trivial ?_ rfl
  simp only [Try.ntmps22, List.size_toArray, List.length_cons, List.length_nil, Nat.reduceAdd, Nat.reduceSub, Array.replicate_succ, Array.replicate_zero, List.push_toArray, List.append_toArray, List.nil_append, List.cons_append]
  gi_wp2
  obtain ⟨hs, k1, k2, k3, hB0⟩ := three_blocks w (.cells #[.int .i64 e.f0, .int .i64 e.f1, .int .i64 e.f2.f0, .int .i64 e.f2.f1, .slice A e.f3.length c] 32 (0, 0)) (.cells #[.int .i64 a, .int .i64 b] 29 (0, 0)) (.cells #[.bool false] 4 (0, 0))
  refine ⟨trivial, (callsIn_wide.2 (hok e A c _ (Kd.C_below hC hB0) hc)).mono ?_⟩
  rintro en w1 ⟨rfl, hb1⟩
  have hB1 : Below w.heap.size w w1 := hB0.trans (hb1.mono hB0.size)
  replace k1 := (hb1.block _ (blk_lt k1)).trans k1
  replace k2 := (hb1.block _ (blk_lt k2)).trans k2
  replace k3 : Boxed w1 (w.heap.size + 1 + 1) 4 (.bool false) := (hb1.block _ (blk_lt k3)).trans k3
  clear hb1 hB0 hs
  have c0 : w1.cell? ⟨w.heap.size, 0, none⟩ = some (.int .i64 e.f0) := by rw [blk_cell k1]; rfl
  have c1 : w1.cell? ⟨w.heap.size, 1, none⟩ = some (.int .i64 e.f1) := by rw [blk_cell k1]; rfl
  have c2 : w1.cell? ⟨w.heap.size, 2, none⟩ = some (.int .i64 e.f2.f0) := by rw [blk_cell k1]; rfl
  have c3 : w1.cell? ⟨w.heap.size, 3, none⟩ = some (.int .i64 e.f2.f1) := by rw [blk_cell k1]; rfl
  have c4 : w1.cell? ⟨w.heap.size, 4, none⟩ = some (.slice A e.f3.length c) := by rw [blk_cell k1]; rfl
  have cr := k3.cell
  have fr := k3.frozen
  cases hv : okL 0 (partsL e) with
  | false =>
    have HB := Aside0.mk (And.intro hB1 k3)
    clear hB1 k1 k2 k3 hC
    gi_wp2
    have hc5 := (HB.out.2.set (.bool false)).cell
    refine ⟨.bool false, ?_, by rw [hv]; rfl, HB.out.1.setCell (p := ⟨w.heap.size + 1 + 1, 0, none⟩) (by simp; omega) _⟩
    simp [results, Try.f22, go_sem, hc5]
  | true =>
    have HB := Aside0.mk (And.intro hB1 (And.intro k2 k3))
    have HV := Aside0.mk hv
    clear hB1 k1 k2 k3 hv
    gi_wp2
    refine ⟨trivial, (parts_in e A c _ 8).mono ?_⟩
    rintro en w1' ⟨rfl, rfl⟩
    have hn1 : w.heap.size + 1 + 1 < w1.heap.size := HB.out.2.2.lt
    have hz2 : (w1.alloc (.cells #[.int .i64 e.f0, .int .i64 e.f1, .int .i64 e.f2.f0, .int .i64 e.f2.f1, .slice A e.f3.length c] 32)).heap.size = w1.heap.size + 1 := by simp
    have hB2 : Below w.heap.size w (w1.alloc (.cells #[.int .i64 e.f0, .int .i64 e.f1, .int .i64 e.f2.f0, .int .i64 e.f2.f1, .slice A e.f3.length c] 32)) := HB.out.1.alloc HB.out.1.size _
    have hbe := World.alloc_heap_new w1 (.cells #[.int .i64 e.f0, .int .i64 e.f1, .int .i64 e.f2.f0, .int .i64 e.f2.f1, .slice A e.f3.length c] 32)
    have hI0 : SlI w a b (fun _ => False) [] (w1.alloc (.cells #[.int .i64 e.f0, .int .i64 e.f1, .int .i64 e.f2.f0, .int .i64 e.f2.f1, .slice A e.f3.length c] 32)) :=
      ⟨HB.out.2.2.alloc _, (Below.heap_alloc w1 _ _ (by omega)).trans HB.out.2.1, rfl, id, id, fun k h => h.elim, hB2⟩
    generalize w1.alloc (.cells #[.int .i64 e.f0, .int .i64 e.f1, .int .i64 e.f2.f0, .int .i64 e.f2.f1, .slice A e.f3.length c] 32) = w2 at hz2 hB2 hbe hI0 ⊢
    clear c0 c1 c2 c3 c4 cr fr
    gi_wp2
    refine wpIn_rangeFunc_A (gf := 85) (lb := #[.pointer (some ⟨w1.heap.size, 0, none⟩)]) rfl (enters_of Try.func85 (by kernel_rfl) rfl)
      (parts1_seq e A c w w2 w1.heap.size hC hc (by omega) hbe) (by rintro x vs ⟨A4, c4, rfl, _⟩; rfl)
      (SlI w a b) (SlX w a b) (SlM w e a b A c w1.heap.size) (foreign_sl w a b) (foreign_slx w a b) (foreign_slm w e a b A c _) (fun A' s W h => h.below) hI0 ?assign ?body ?done ?stop
    case assign =>
      rintro l A' pre x vs W hsz hA hi hpre ⟨A4, c4, rfl, hc4, hC4⟩
      gi_wp2
      exact ⟨(Kpt.refl A' W).alloc hA _, pre, x, A4, c4, W.heap.size, rfl, rfl, World.alloc_heap_new W _, fun h => Nat.lt_irrefl _ (hA _ h), by omega, hc4, (foreign_sl w a b).fewer ((foreign_sl w a b).alloc _ hi) (fun k h => .inl h)⟩
    case body =>
      rintro l A' pre0 x0 a1 W hsz hA ⟨pre, x, A4, c4, Bx, hs, rfl, hb, hn, hlt, hc4, hi⟩ hpre
      obtain ⟨rfl, hx⟩ := List.append_inj' hs rfl
      obtain rfl : x0 = x := by simpa using hx
      have cr := hi.r.cell
      have fr := hi.r.frozen
      have e0 : W.cell? ⟨Bx, 0, none⟩ = some (.int .i64 x0.2.f0) := by simp [World.cell?, hb]
      have e2 : W.cell? ⟨Bx, 2, none⟩ = some (.int .i64 x0.2.f2.f0) := by simp [World.cell?, hb]
      have e3 : W.cell? ⟨Bx, 3, none⟩ = some (.int .i64 x0.2.f2.f1) := by simp [World.cell?, hb]
      have q0 : W.cell? ⟨w.heap.size + 1, 0, none⟩ = some (.int .i64 a) := by rw [blk_cell hi.p]; rfl
      have q1 : W.cell? ⟨w.heap.size + 1, 1, none⟩ = some (.int .i64 b) := by rw [blk_cell hi.p]; rfl
      unfold slTmps
      have HI := Aside0.mk hi
      clear hb hi hpre hsz hA hlt hc4 hC hc hbe hI0 hz2 hB2 hn1 hx hs hn
      by_cases h2 : x0.2.f0 = 2
      · have b2 : decide (x0.2.f0 = 2) = true := decide_eq_true h2
        have b2' : (x0.2.f0 == 2) = true := by simp [h2]
        cases hq : (x0.2.f2.f0 == a && (x0.2.f2.f1 == b)) with
        | true =>
          have HQ := Aside0.mk (And.intro b2' hq)
          gi_wp2
          exact ⟨(Kpt.refl A' W).setCell HI.out.nr _, rfl, HI.out.r.set _, by simp [readsP, HQ.out.1, HQ.out.2], HI.out.nr, HI.out.ge, HI.out.below.setCell (p := ⟨w.heap.size + 1 + 1, 0, none⟩) (by simp; omega) _⟩
        | false =>
          have HQ := Aside0.mk hq
          gi_wp2
          exact ⟨Kpt.refl A' W, HI.out.r, HI.out.p, by rw [List.any_append, HI.out.ok]; simp only [List.any_cons, List.any_nil, readsP, HQ.out, Bool.and_false, Bool.or_false], HI.out.nr, HI.out.np, HI.out.ge, HI.out.below⟩
      · have b2 : decide (x0.2.f0 = 2) = false := decide_eq_false h2
        have b2' : (x0.2.f0 == 2) = false := by simp [h2]
        have HQ := Aside0.mk b2'
        gi_wp2
        exact ⟨Kpt.refl A' W, HI.out.r, HI.out.p, by rw [List.any_append, HI.out.ok]; simp only [List.any_cons, List.any_nil, readsP, HQ.out, Bool.false_and, Bool.or_false], HI.out.nr, HI.out.np, HI.out.ge, HI.out.below⟩
    case done =>
      rintro D W hD hDl hi hK
      have cr := hi.r.cell
      have fr := hi.r.frozen
      gi_wp2
      have hK' := (KeepsOthers.setCell W ⟨w.heap.size + 1 + 1, 0, none⟩ (.bool false)).same D _ hK rfl
      refine ⟨by simp, .inl ⟨_, _, rfl, run_takeDeferred hK', ?_⟩⟩
      have hc5 := cell_kept (hi.r.set (.bool false)).cell (grownBy_putObj' _ D (.deferred none)) (fun r e => by cases e; exact ⟨_, hK', rfl⟩)
      refine ⟨.bool false, ?_, by rw [HV.out, hi.ok]; rfl, (hi.below.setCell (p := ⟨w.heap.size + 1 + 1, 0, none⟩) (by simp; omega) _).trans (belowK_b (w := w) (Nat.le_refl _) _ D _ _ (by omega) hK' rfl rfl)⟩
      simp [results, Try.f22, go_sem, hc5]
    case stop =>
      rintro D c1 pre W hD hDl hpre ⟨rfl, hr, hok', hnr, hge, hB⟩ hK
      gi_wp2
      refine ⟨by simp, .inl ⟨_, _, rfl, run_takeDeferred hK, ?_⟩⟩
      have hc5 := cell_kept hr.cell (grownBy_putObj' _ D (.deferred none)) (fun r e => by cases e; exact ⟨_, hK, rfl⟩)
      have hall : (partsL e).any (readsP a b) = true := by
        obtain ⟨r, hr'⟩ := hpre
        rw [← hr', List.any_append, hok']; rfl
      refine ⟨.bool true, ?_, by rw [HV.out, hall]; rfl, hB.trans (belowK_b (w := w) (Nat.le_refl _) W D _ _ (by omega) hK rfl rfl)⟩
      simp [results, Try.f22, go_sem, hc5]
end Go.Proofs.Ytiofkhfmdophpaa.B
