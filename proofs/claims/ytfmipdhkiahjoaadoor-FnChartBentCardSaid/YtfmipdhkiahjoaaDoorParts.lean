/- impl.parts: the iterator over the parts of an expression. -/
import Derived.Test.YtfmipdhkiahjoaaDoorB0
import Derived.Test.YtfmipdhkiahjoaaDoorJnG
import Derived.Outline
import Derived.Laws.EntriesVeiled
namespace Go.Proofs.YtfmipdhkiahjoaaDoor.B
open Go.RowKit Go.Proofs.YtfmipdhkiahjoaaDoorW.PrintWords Go.Proofs.YtfmipdhkiahjoaaDoorW.PrintLast Go.Proofs.YtfmipdhkiahjoaaDoorW.PrintMore
set_option linter.unusedVariables false
attribute [local go_sem] Oper.semAt_some

abbrev Ex := S34
abbrev exK := k34

/-- What the iterator yields: from a part with d levels below it, acc having come; false: it stops. -/
def walkP : Nat → Ex → List (Int × Ex) → List (Int × Ex) × Bool
 | 0, e, acc => (acc ++ [(6, e)], false)
 | d + 1, e, acc => if (acc ++ [((5 : Int) - d, e)]).length > 14 then (acc ++ [((5 : Int) - d, e)], false) else e.f3.foldl (fun s k => if s.2 then walkP d k s.1 else s) (acc ++ [((5 : Int) - d, e)], true)
def partsL (e : Ex) : List (Int × Ex) := (walkP 6 e []).1

def PartEnc (w0 : World) (x : Int × Ex) (vs : Array Value) : Prop :=
 ∃ (A : Option Addr) (c : Nat), vs = #[.int .i64 x.1, .agg #[.int .i64 x.2.f0, .int .i64 x.2.f1, .int .i64 x.2.f2.f0, .int .i64 x.2.f2.f1, .slice A x.2.f3.length c]] ∧ x.2.f3.length ≤ c ∧ Kd.C exK w0 A x.2.f3.length x.2.f3

/-- The iterator's own cells: how many have come; yield; the function itself. -/
structure WCells (W : World) (l bm by_ bw m : Nat) : Prop where
 m : Boxed W bm 3 (.int .i64 m)
 y : Boxed W by_ 91 (.func (.yield l) #[] #[])
 w : Boxed W bw 67 (.func (.func 54) #[] #[.pointer (some ⟨bm, 0, none⟩), .pointer (some ⟨by_, 0, none⟩), .pointer (some ⟨bw, 0, none⟩)])

theorem walk_stop (d : Nat) (ks : List Ex) (a : List (Int × Ex)) : ks.foldl (fun s k => if s.2 then walkP d k s.1 else s) (a, false) = (a, false) := by
 induction ks with
 | nil => rfl
 | cons k ks ih => simpa using ih
theorem walk_pre (d : Nat) : ∀ (e : Ex) (acc : List (Int × Ex)), acc ++ [((6 : Int) - d, e)] <+: (walkP d e acc).1 := by
 induction d with
 | zero => intro e acc; simp [walkP]
 | succ d ih =>
  intro e acc
  have hf : ∀ (ks : List Ex) (s : List (Int × Ex) × Bool), s.1 <+: (ks.foldl (fun s k => if s.2 then walkP d k s.1 else s) s).1 := by
   intro ks
   induction ks with
   | nil => intro s; exact List.prefix_refl _
   | cons k ks ihk =>
    intro s
    refine List.IsPrefix.trans ?_ (ihk _)
    show s.1 <+: (if s.2 = true then walkP d k s.1 else s).1
    split
    ·exact (List.prefix_append _ _).trans (ih k s.1)
    ·exact List.prefix_refl _
  have e5 : ((6 : Int) - ((d + 1 : Nat) : Int)) = 5 - d := by omega
  rw [e5]
  unfold walkP
  split
  ·exact List.prefix_refl _
  ·exact hf e.f3 (_, true)
theorem fold_pre (d : Nat) (ks : List Ex) (s : List (Int × Ex) × Bool) : s.1 <+: (ks.foldl (fun s k => if s.2 then walkP d k s.1 else s) s).1 := by
 induction ks generalizing s with
 | nil => exact List.prefix_refl _
 | cons k ks ihk =>
  refine List.IsPrefix.trans ?_ (ihk _)
  show s.1 <+: (if s.2 = true then walkP d k s.1 else s).1
  split
  ·exact (List.prefix_append _ _).trans (walk_pre d k s.1)
  ·exact List.prefix_refl _
theorem fold_snoc (d : Nat) (ks : List Ex) (s : List (Int × Ex) × Bool) (j : Nat) (h : j < ks.length) :
  (ks.take (j + 1)).foldl (fun s k => if s.2 then walkP d k s.1 else s) s = (fun s k => if s.2 then walkP d k s.1 else s) ((ks.take j).foldl (fun s k => if s.2 then walkP d k s.1 else s) s) ks[j] := by
 rw [List.take_succ_eq_append_getElem h, List.foldl_append]; rfl

theorem fold_true (d : Nat) (h : ∀ (e : Ex) (acc : List (Int × Ex)), (walkP d e acc).2 = true → (walkP d e acc).1.length ≤ 14) (ks : List Ex) : ∀ (s : List (Int × Ex) × Bool), s.1.length ≤ 14 →
  (ks.foldl (fun s k => if s.2 then walkP d k s.1 else s) s).2 = true → (ks.foldl (fun s k => if s.2 then walkP d k s.1 else s) s).1.length ≤ 14 := by
 induction ks with
 | nil => intro s h1 _; exact h1
 | cons k ks ih =>
  intro s h1 h2
  refine ih _ ?_ h2
  show (if s.2 = true then walkP d k s.1 else s).1.length ≤ 14
  by_cases hs : s.2 = true
  ·rw [if_pos hs]
   refine h _ _ ?_
   have h3 : (ks.foldl (fun s k => if s.2 then walkP d k s.1 else s) (if s.2 = true then walkP d k s.1 else s)).2 = true := h2
   rw [if_pos hs] at h3
   cases hw : (walkP d k s.1).2 with
   | true => rfl
   | false =>
    rw [show walkP d k s.1 = ((walkP d k s.1).1, false) from Prod.ext rfl hw, walk_stop] at h3
    cases h3
  ·rw [if_neg hs]; exact h1
theorem walk_true (d : Nat) : ∀ (e : Ex) (acc : List (Int × Ex)), (walkP d e acc).2 = true → (walkP d e acc).1.length ≤ 14 := by
 induction d with
 | zero => intro e acc h; simp [walkP] at h
 | succ d ih =>
  intro e acc h
  unfold walkP at h ⊢
  split at h
  ·cases h
  ·rename_i h14
   rw [if_neg h14]
   exact fold_true d ih _ _ (by simp at h14 ⊢; omega) h
theorem fold_rest (d : Nat) (ks : List Ex) (s : List (Int × Ex) × Bool) (j : Nat) (a : List (Int × Ex)) (h : (ks.take j).foldl (fun s k => if s.2 then walkP d k s.1 else s) s = (a, false)) :
  ks.foldl (fun s k => if s.2 then walkP d k s.1 else s) s = (a, false) := by
 conv => lhs; rw [← List.take_append_drop j ks]
 rw [List.foldl_append, h, walk_stop]

theorem fold_len (d : Nat) (ks : List Ex) : ∀ (s : List (Int × Ex) × Bool), (ks.foldl (fun s k => if s.2 then walkP d k s.1 else s) s).2 = true → s.1.length + ks.length ≤ (ks.foldl (fun s k => if s.2 then walkP d k s.1 else s) s).1.length := by
 induction ks with
 | nil => intro s _; simp
 | cons k ks ih =>
  intro s h
  have h1 := ih (if s.2 = true then walkP d k s.1 else s) h
  have h2 : s.1.length + 1 ≤ (if s.2 = true then walkP d k s.1 else s).1.length := by
   by_cases hs : s.2 = true
   ·rw [if_pos hs]
    have := (walk_pre d k s.1).length_le
    simpa using this
   ·have h3 : (ks.foldl (fun s k => if s.2 then walkP d k s.1 else s) (if s.2 = true then walkP d k s.1 else s)).2 = true := h
    rw [if_neg hs, show s = (s.1, false) from Prod.ext rfl (by simpa using hs), walk_stop] at h3
    cases h3
  refine Nat.le_trans ?_ h1
  simp only [List.length_cons]
  omega

theorem Boxed.turn' {W W' : World} {B : Nat} {t : TypeId} {v : Value} (h : Boxed W B t v) (he : W'.heap[B]? = W.heap[B]?) : Boxed W' B t v := he.trans h
theorem WCells.alloc {W : World} {l bm by_ bw m : Nat} (h : WCells W l bm by_ bw m) (o : Obj) : WCells (W.alloc o) l bm by_ bw m := ⟨h.m.alloc o, h.y.alloc o, h.w.alloc o⟩
theorem WCells.next {W : World} {l bm by_ bw m : Nat} (h : WCells W l bm by_ bw m) (hy : bm ≠ by_) (hw : bm ≠ bw) : WCells (W.setCell ⟨bm, 0, none⟩ (.int .i64 ((m + 1 : Nat) : Int))) l bm by_ bw (m + 1) :=
 ⟨h.m.set _, h.y.kept (grownBy_setCell' W bm _) (by simp; omega), h.w.kept (grownBy_setCell' W bm _) (by simp; omega)⟩
theorem WCells.kept {W W' : World} {l bm by_ bw m : Nat} (h : WCells W l bm by_ bw m) (hm : W'.heap[bm]? = W.heap[bm]?) (hy : W'.heap[by_]? = W.heap[by_]?) (hw : W'.heap[bw]? = W.heap[bw]?) : WCells W' l bm by_ bw m := ⟨Boxed.turn' h.m hm, Boxed.turn' h.y hy, Boxed.turn' h.w hw⟩

/-- What a call of the function that walks ends in. -/
def WalkEnd (J Jx : (Nat → Prop) → List (Int × Ex) → World → Prop) (A : Nat → Prop) (xs : List (Int × Ex)) (l bm by_ bw : Nat) (r : List (Int × Ex) × Bool) (W : World) (e : Ending) (W' : World) : Prop :=
 ((e = .returned (.bool r.2) ∧ J A r.1 W' ∧ WCells W' l bm by_ bw r.1.length) ∨ (e = .returned (.bool false) ∧ ∃ pre, pre <+: xs ∧ Jx A pre W')) ∧ W.heap.size ≤ W'.heap.size ∧ ∀ k, A k → k ≠ bm → W'.heap[k]? = W.heap[k]?

def exVal (e : Ex) (A : Option Addr) (c : Nat) : Value := .agg #[.int .i64 e.f0, .int .i64 e.f1, .int .i64 e.f2.f0, .int .i64 e.f2.f1, .slice A e.f3.length c]

/-- What a round that yields (v, e) from the world Wy leaves. -/
def RoundEnd (J Jx : (Nat → Prop) → List (Int × Ex) → World → Prop) (A' : Nat → Prop) (l bm by_ bw : Nat) (b : Nat) (o : Obj) (acc : List (Int × Ex)) (W : World) (e : Ending) (W' : World) : Prop :=
 ((e = .returned (.bool true) ∧ J (fun k => A' k ∨ k = b) acc W' ∧ WCells W' l bm by_ bw acc.length) ∨ (e = .returned (.bool false) ∧ Jx (fun k => A' k ∨ k = b) acc W')) ∧ W.heap.size < W'.heap.size ∧ (∀ k, A' k → k ≠ bm → W'.heap[k]? = W.heap[k]?) ∧ (∀ k, A' k ∨ k = b → k < W'.heap.size) ∧ W'.heap[b]? = some o

theorem yield_at (l : Nat) (J Jx : (Nat → Prop) → List (Int × Ex) → World → Prop) (hJ : Foreign J) (w0 : World) (xs : List (Int × Ex)) (A0 : Nat → Prop)
  (bm by_ bw : Nat) (hmy : bm ≠ by_) (hmw : bm ≠ bw)
  (hY : ∀ (A : Nat → Prop) (pre : List (Int × Ex)) (x : Int × Ex) (vs : Array Value) (W1 : World), (∀ k, A0 k → A k) → (∀ k, A k → k < W1.heap.size) → J A pre W1 → pre ++ [x] <+: xs → PartEnc w0 x vs → ∀ m, YieldAt Fence.wide m Tryd.prog l vs W1 fun e W' =>
   (e = .returned (.bool true) ∧ J A (pre ++ [x]) W' ∧ Kpt A W1 W') ∨ (e = .returned (.bool false) ∧ Jx A (pre ++ [x]) W' ∧ Kpt A W1 W'))
  (v : Int) (e : Ex) (A : Option Addr) (c : Nat) (A' : Nat → Prop) (acc : List (Int × Ex)) (W : World) (hC : Kd.C exK w0 A e.f3.length e.f3) (hc : e.f3.length ≤ c) (hJ0 : J A' acc W) (hA0 : ∀ k, A0 k → A' k) (hAlt : ∀ k, A' k → k < W.heap.size)
  (hAm : A' bm) (hAy : A' by_) (hAw : A' bw) (hW : WCells W l bm by_ bw acc.length) (hpre : acc ++ [(v, e)] <+: xs) (o : Obj) (m : Nat) :
  YieldAt Fence.wide m Tryd.prog l #[.int .i64 v, .agg #[.int .i64 e.f0, .int .i64 e.f1, .int .i64 e.f2.f0, .int .i64 e.f2.f1, .slice A e.f3.length c]] ((W.setCell ⟨bm, 0, none⟩ (.int .i64 (acc.length + 1))).alloc o)
   (RoundEnd J Jx A' l bm by_ bw W.heap.size o (acc ++ [(v, e)]) W) := by
 have hz : (W.setCell ⟨bm, 0, none⟩ (.int .i64 (acc.length + 1))).heap.size = W.heap.size := by simp [World.setCell]
 have hJ1 : J A' acc (W.setCell ⟨bm, 0, none⟩ (.int .i64 (acc.length + 1))) := hJ.turn hJ0 (grownBy_setCell' W bm _) hz hAm
 have hJ2 := hJ.alloc o hJ1
 rw [hz] at hJ2
 have hW1 : WCells ((W.setCell ⟨bm, 0, none⟩ (.int .i64 ((acc.length + 1 : Nat) : Int))).alloc o) l bm by_ bw (acc.length + 1) := (hW.next hmy hmw).alloc o
 have hlt : ∀ k, (A' k ∨ k = W.heap.size) → k < ((W.setCell ⟨bm, 0, none⟩ (.int .i64 (acc.length + 1))).alloc o).heap.size := fun k hk => by
  rw [World.size_alloc, hz]
  rcases hk with hk | rfl
  ·exact Nat.lt_succ_of_lt (hAlt k hk)
  ·exact Nat.lt_succ_self _
 have h := hY _ acc (v, e) _ _ (fun k hk => .inl (hA0 k hk)) hlt hJ2 hpre ⟨A, c, rfl, hc, hC⟩ m
 refine YieldAt.mono h ?_
 have step : ∀ {W' : World}, Kpt (fun k => A' k ∨ k = W.heap.size) ((W.setCell ⟨bm, 0, none⟩ (.int .i64 (acc.length + 1))).alloc o) W' → W.heap.size < W'.heap.size ∧ (∀ k, A' k → k ≠ bm → W'.heap[k]? = W.heap[k]?) ∧ (∀ k, A' k ∨ k = W.heap.size → k < W'.heap.size) ∧ W'.heap[W.heap.size]? = some o := fun {W'} hk =>
  ⟨by have := hk.size; rw [World.size_alloc, hz] at this; omega, fun k h1 h2 => (hk.same k (.inl h1)).trans ((Below.heap_alloc _ o k (by rw [hz]; exact hAlt k h1)).trans (Below.heap_setCell W _ _ k h2)), fun k h1 => Nat.lt_of_lt_of_le (hlt k h1) hk.size, (hk.same _ (.inr rfl)).trans (by have h0 := World.alloc_heap_new (W.setCell ⟨bm, 0, none⟩ (.int .i64 (acc.length + 1))) o; rwa [hz] at h0)⟩
 rintro en W' (⟨rfl, hj, hk⟩ | ⟨rfl, hj, hk⟩)
 ·refine ⟨.inl ⟨rfl, hj, ?_⟩, step hk⟩
  rw [List.length_append]
  exact hW1.kept (hk.same _ (.inl hAm)) (hk.same _ (.inl hAy)) (hk.same _ (.inl hAw))
 ·exact ⟨.inr ⟨rfl, hj⟩, step hk⟩

set_option maxRecDepth 100000 in
set_option maxHeartbeats 4000000 in
theorem walkp_in (l : Nat) (J Jx : (Nat → Prop) → List (Int × Ex) → World → Prop) (hJ : Foreign J) (hJx : Foreign Jx) (w0 : World) (hKp : ∀ A s W, J A s W → Below w0.heap.size w0 W) (xs : List (Int × Ex)) (A0 : Nat → Prop)
  (bm by_ bw : Nat) (hmy : bm ≠ by_) (hmw : bm ≠ bw)
  (hY : ∀ (A : Nat → Prop) (pre : List (Int × Ex)) (x : Int × Ex) (vs : Array Value) (W1 : World), (∀ k, A0 k → A k) → (∀ k, A k → k < W1.heap.size) → J A pre W1 → pre ++ [x] <+: xs → PartEnc w0 x vs → ∀ m, YieldAt Fence.wide m Tryd.prog l vs W1 fun e W' =>
   (e = .returned (.bool true) ∧ J A (pre ++ [x]) W' ∧ Kpt A W1 W') ∨ (e = .returned (.bool false) ∧ Jx A (pre ++ [x]) W' ∧ Kpt A W1 W')) :
  ∀ (d : Nat) (e : Ex) (A : Option Addr) (c : Nat) (A' : Nat → Prop) (acc : List (Int × Ex)) (W : World) (n : Nat), Kd.C exK w0 A e.f3.length e.f3 → e.f3.length ≤ c → J A' acc W → (∀ k, A0 k → A' k) → (∀ k, A' k → k < W.heap.size) → A' bm → A' by_ → A' bw →
   WCells W l bm by_ bw acc.length → acc.length ≤ 14 → d ≤ 6 → (walkP d e acc).1 <+: xs →
   CallsIn Fence.wide n Tryd.prog 54 #[.agg #[.int .i64 e.f0, .int .i64 e.f1, .int .i64 e.f2.f0, .int .i64 e.f2.f1, .slice A e.f3.length c], .int .i64 (6 - d), .pointer (some ⟨bm, 0, none⟩), .pointer (some ⟨by_, 0, none⟩), .pointer (some ⟨bw, 0, none⟩)] W
    (WalkEnd J Jx A' xs l bm by_ bw (walkP d e acc) W) := by
 intro d
 induction d with
 | zero =>
  intro e A c A' acc W n hC hc hJ0 hA0 hAlt hAm hAy hAw hW hlen hd hpre
  have z1 := hW.m.lt
  have z2 := hW.y.lt
  have hp6 := hpre
  simp only [walkP] at hp6
  obtain ⟨fn, tmps, assign, body, hy, hR⟩ := yield_at l J Jx hJ w0 xs A0 bm by_ bw hmy hmw hY 6 e A c A' acc W hC hc hJ0 hA0 hAlt hAm hAy hAw hW hp6 (.cells #[.int .i64 e.f0, .int .i64 e.f1, .int .i64 e.f2.f0, .int .i64 e.f2.f1, .slice A e.f3.length c] 34) (n - 1)
  have cm := hW.m.cell
  have fm := hW.m.frozen
  have cy := hW.y.cell
  have HW := Aside0.mk hW; clear hW hY
  have n1 : ¬ by_ = bm := fun h => hmy h.symm
  have n2 : ¬ bm = by_ := hmy
  have n3 : ¬ W.heap.size = bm := by omega
  have n4 : ¬ bm = W.heap.size := by omega
  have HA := Aside0.mk hAm; clear hAm
  have HX := Aside0.mk hp6; clear hp6 hpre
  refine callsIn_of_wp Tryd.func54 rfl trivial ?_ rfl
  simp only [Tryd.ntmps54, List.size_toArray, List.length_cons, List.length_nil, Nat.reduceAdd, Nat.reduceSub, Array.replicate_succ, Array.replicate_zero, List.push_toArray, List.append_toArray, List.nil_append, List.cons_append]
  gi_wp2
  refine ⟨fun h => (by cases h), hR.mono ?_⟩
  rintro en W' ⟨(⟨rfl, hj, hw⟩ | ⟨rfl, hj⟩), hs, hk, hlt, hbox⟩
  ·have cm' := hw.m.cell
   simp only [List.length_append, List.length_cons, List.length_nil] at cm'
   by_cases h14 : acc.length = 14
   ·have b14 : decide ((14 : Int) < ((acc.length + (0 + 1) : Nat) : Int)) = true := decide_eq_true (by omega)
    gi_wp2
    go_ret
    exact ⟨.inl ⟨rfl, hJ.fewer hj (fun k h => .inl h), hw⟩, Nat.le_of_lt hs, hk⟩
   ·have b14 : decide ((14 : Int) < ((acc.length + (0 + 1) : Nat) : Int)) = false := decide_eq_false (by omega)
    gi_wp2
    go_ret
    exact ⟨.inl ⟨rfl, hJ.fewer hj (fun k h => .inl h), hw⟩, Nat.le_of_lt hs, hk⟩
  ·gi_wp2
   go_ret
   exact ⟨.inr ⟨rfl, _, HX.out, hJx.fewer hj (fun k h => .inl h)⟩, Nat.le_of_lt hs, hk⟩
 | succ d ih =>
  intro e A c A' acc W n hC hc hJ0 hA0 hAlt hAm hAy hAw hW hlen hd hpre
  obtain ⟨v, hv⟩ : ∃ v : Int, v = 5 - d := ⟨_, rfl⟩
  rw [show (6 : Int) - ((d + 1 : Nat) : Int) = v by omega]
  have hv0 : 0 ≤ v := by omega
  have hv5 : v ≤ 5 := by omega
  have z1 := hW.m.lt
  have z2 := hW.y.lt
  have hacc : acc ++ [(v, e)] <+: xs := by
   have := walk_pre (d + 1) e acc
   rw [show (6 : Int) - ((d + 1 : Nat) : Int) = v by omega] at this
   exact this.trans hpre
  obtain ⟨fn, tmps, assign, body, hy, hR⟩ := yield_at l J Jx hJ w0 xs A0 bm by_ bw hmy hmw hY v e A c A' acc W hC hc hJ0 hA0 hAlt hAm hAy hAw hW hacc (.cells #[.int .i64 e.f0, .int .i64 e.f1, .int .i64 e.f2.f0, .int .i64 e.f2.f1, .slice A e.f3.length c] 34) (n - 1)
  have cm := hW.m.cell
  have fm := hW.m.frozen
  have cy := hW.y.cell
  have HW := Aside0.mk hW; clear hW hY
  have n1 : ¬ by_ = bm := fun h => hmy h.symm
  have n2 : ¬ bm = by_ := hmy
  have n3 : ¬ W.heap.size = bm := by omega
  have n4 : ¬ bm = W.heap.size := by omega
  have HA := Aside0.mk hAm; clear hAm
  have HX := Aside0.mk hacc; clear hacc
  have HP := Aside0.mk hpre; clear hpre
  have HV := Aside0.mk hv; clear hv
  have hwalk : walkP (d + 1) e acc = if (acc ++ [(v, e)]).length > 14 then (acc ++ [(v, e)], false) else e.f3.foldl (fun s k => if s.2 then walkP d k s.1 else s) (acc ++ [(v, e)], true) := by rw [walkP, HV.out]
  have HWK := Aside0.mk hwalk; clear hwalk
  refine callsIn_of_wp Tryd.func54 rfl trivial ?_ rfl
  simp only [Tryd.ntmps54, List.size_toArray, List.length_cons, List.length_nil, Nat.reduceAdd, Nat.reduceSub, Array.replicate_succ, Array.replicate_zero, List.push_toArray, List.append_toArray, List.nil_append, List.cons_append]
  gi_wp2
  refine ⟨fun h => (by cases h), hR.mono ?_⟩
  clear hR hy
  rintro en W' ⟨(⟨rfl, hj, hw⟩ | ⟨rfl, hj⟩), hs, hk, hlt, hbox⟩
  ·have cm' := hw.m.cell
   simp only [List.length_append, List.length_cons, List.length_nil] at cm'
   by_cases h14 : acc.length = 14
   ·have b14 : decide ((14 : Int) < ((acc.length + (0 + 1) : Nat) : Int)) = true := decide_eq_true (by omega)
    gi_wp2
    go_ret
    rw [HWK.out, if_pos (by rw [List.length_append, h14]; simp)]
    exact ⟨.inl ⟨rfl, hJ.fewer hj (fun k h => .inl h), hw⟩, Nat.le_of_lt hs, hk⟩
   ·have b14 : decide ((14 : Int) < ((acc.length + (0 + 1) : Nat) : Int)) = false := decide_eq_false (by omega)
    have b6 : decide ((6 : Int) ≤ v) = false := decide_eq_false (by omega)
    have hn14 : ¬ (acc ++ [(v, e)]).length > 14 := by simp; omega
    have hwk : walkP (d + 1) e acc = e.f3.foldl (fun s k => if s.2 then walkP d k s.1 else s) (acc ++ [(v, e)], true) := by rw [HWK.out, if_neg hn14]
    have HWK := Aside0.mk hwk; clear hwk
    have cb : W'.cell? ⟨W.heap.size, 4, none⟩ = some (.slice A e.f3.length c) := by simp [World.cell?, hbox]
    clear hbox
    have HJ := Aside0.mk hj; clear hj
    have HK := Aside0.mk hk; clear hk
    have HL := Aside0.mk hlt; clear hlt
    have HWC := Aside0.mk hw; clear hw
    gi_wp2
    gi_loopw [28] (fun i wr => ∃ (j : Nat) (a : List (Int × Ex)), i = .int .i64 j ∧ Aside0 (j ≤ e.f3.length ∧ (e.f3.take j).foldl (fun s k => if s.2 then walkP d k s.1 else s) (acc ++ [(v, e)], true) = (a, true) ∧ J (fun k => A' k ∨ k = W.heap.size) a wr ∧ WCells wr l bm by_ bw a.length ∧
      W.heap.size < wr.heap.size ∧ (∀ k, A' k → k ≠ bm → wr.heap[k]? = W.heap[k]?) ∧ (∀ k, A' k ∨ k = W.heap.size → k < wr.heap.size)))
     (fun i _ => e.f3.length - (intOf i).toNat)
    case atStart => exact ⟨0, _, rfl, ⟨Nat.zero_le _, rfl, HJ.out, HWC.out, hs, HK.out, HL.out⟩⟩
    case round =>
     obtain ⟨j, a, rfl, HR⟩ := hrel
     by_cases hlt : j < e.f3.length
     ·have hbelow := hKp _ _ _ HR.out.2.2.1
      obtain ⟨ad, A4, c4, hA, h0, h1, h2, h3, h4, hl4, hi4⟩ := at_T34 hC (j : Int) (by omega) (by omega)
      have hkid : rd_T34 e.f3 (j : Int) = e.f3[j] := by simp [rd_T34, hlt]
      cases hA
      replace h0 := (hbelow.cell (World.block_lt_of_cell? w0 _ h0)).trans h0
      replace h1 := (hbelow.cell (World.block_lt_of_cell? w0 _ h1)).trans h1
      replace h2 := (hbelow.cell (World.block_lt_of_cell? w0 _ h2)).trans h2
      replace h3 := (hbelow.cell (World.block_lt_of_cell? w0 _ h3)).trans h3
      replace h4 := (hbelow.cell (World.block_lt_of_cell? w0 _ h4)).trans h4
      clear hbelow
      rw [hkid] at h0 h1 h2 h3 h4 hl4 hi4
      simp only [Int.toNat_natCast] at h0 h1 h2 h3 h4
      obtain ⟨kid, hkd⟩ : ∃ kid, kid = e.f3[j] := ⟨_, rfl⟩
      rw [← hkd] at h0 h1 h2 h3 h4 hl4 hi4
      have HKD := Aside0.mk hkd; clear hkd hkid
      have cw := HR.out.2.2.2.1.w.cell
      have zw := HR.out.2.2.2.1.w.lt
      obtain ⟨b2, hb2⟩ : ∃ b2, b2 = wr.heap.size := ⟨_, rfl⟩
      have hcall := ih kid A4 c4 (fun k => (A' k ∨ k = W.heap.size) ∨ k = wr.heap.size) a (wr.alloc (.cells #[.int .i64 kid.f0, .int .i64 kid.f1, .int .i64 kid.f2.f0, .int .i64 kid.f2.f1, .slice A4 kid.f3.length c4] 34)) (n - 1) hi4 hl4
       (hJ.alloc _ HR.out.2.2.1) (fun k hk => .inl (.inl (hA0 k hk))) (fun k hk => by
        rw [World.size_alloc]
        rcases hk with hk | hk
        ·have := HR.out.2.2.2.2.2.2 k hk; omega
        ·omega) (.inl (.inl HA.out)) (.inl (.inl hAy)) (.inl (.inl hAw)) (HR.out.2.2.2.1.alloc _) (by
         have h := fold_true d (walk_true d) (e.f3.take j) (acc ++ [(v, e)], true) (by simp; omega) (by rw [HR.out.2.1])
         rw [HR.out.2.1] at h; exact h) (by omega) (by
         have h := fold_snoc d e.f3 (acc ++ [(v, e)], true) j hlt
         rw [HR.out.2.1, ← HKD.out] at h
         have h' : (walkP d kid a).1 <+: (e.f3.foldl (fun s k => if s.2 then walkP d k s.1 else s) (acc ++ [(v, e)], true)).1 := by
          have h2 : (e.f3.take (j + 1)).foldl (fun s k => if s.2 then walkP d k s.1 else s) (acc ++ [(v, e)], true) = walkP d kid a := h
          rw [← h2]
          conv => rhs; rw [← List.take_append_drop (j + 1) e.f3]
          rw [List.foldl_append]
          exact fold_pre d _ _
         have hP := HP.out
         rw [HWK.out] at hP
         exact h'.trans hP)
      rw [show (6 : Int) - (d : Int) = v + 1 by have := HV.out; omega] at hcall
      have HC := Aside0.mk hcall; clear hcall
      gi_wp2
      refine ⟨trivial, fun h => (by cases h), HC.out.mono ?_⟩
      clear HC
      have hnext : (e.f3.take (j + 1)).foldl (fun s k => if s.2 then walkP d k s.1 else s) (acc ++ [(v, e)], true) = walkP d kid a := by
       have h := fold_snoc d e.f3 (acc ++ [(v, e)], true) j hlt
       rw [HR.out.2.1, ← HKD.out] at h
       exact h
      have HN := Aside0.mk hnext; clear hnext
      have HLT := Aside0.mk hlt
      have hj14 : j ≤ 14 := by
       have h := fold_len d (e.f3.take j) (acc ++ [(v, e)], true) (by rw [HR.out.2.1])
       have h' := fold_true d (walk_true d) (e.f3.take j) (acc ++ [(v, e)], true) (by simp; omega) (by rw [HR.out.2.1])
       rw [List.length_take, Nat.min_eq_left (Nat.le_of_lt hlt)] at h
       simp only [List.length_append, List.length_cons, List.length_nil] at h
       omega
      rintro e3 W3 ⟨(⟨rfl, hj3, hw3⟩ | ⟨rfl, pre3, hp3, hj3⟩), hs3, hk3⟩
      ·have hs4 : W.heap.size < W3.heap.size := by rw [World.size_alloc] at hs3; have := HR.out.2.2.2.2.1; omega
       have hk4 : ∀ k, A' k → k ≠ bm → W3.heap[k]? = W.heap[k]? := fun k h1 h2 =>
        (hk3 k (.inl (.inl h1)) h2).trans ((Below.heap_alloc wr _ k (HR.out.2.2.2.2.2.2 k (.inl h1))).trans (HR.out.2.2.2.2.2.1 k h1 h2))
       have hl4 : ∀ k, A' k ∨ k = W.heap.size → k < W3.heap.size := fun k h => by rw [World.size_alloc] at hs3; have := HR.out.2.2.2.2.2.2 k h; omega
       have HE := Aside0.mk (And.intro hj3 (And.intro hw3 (And.intro hs4 (And.intro hk4 hl4))))
       clear hj3 hw3 hs4 hk4 hl4 hk3 hs3
       cases hb : (walkP d kid a).2 with
       | true =>
        gi_wp2
        go_roundw
        case rel => exact ⟨j + 1, (walkP d kid a).1, by go_num, ⟨HLT.out, by rw [HN.out]; exact Prod.ext rfl hb, hJ.fewer HE.out.1 (fun k h => .inl h), HE.out.2.1, HE.out.2.2.1, HE.out.2.2.2.1, HE.out.2.2.2.2⟩⟩
        case measure => have := HLT.out; simp [intOf]; omega
       | false =>
        gi_wp2
        go_ret
        have hwk : walkP (d + 1) e acc = ((walkP d kid a).1, false) := by
         rw [HWK.out]
         exact fold_rest d e.f3 _ (j + 1) _ (by rw [HN.out]; exact Prod.ext rfl hb)
        rw [hwk]
        exact ⟨.inl ⟨rfl, hJ.fewer HE.out.1 (fun k h => .inl (.inl h)), HE.out.2.1⟩, Nat.le_of_lt HE.out.2.2.1, HE.out.2.2.2.1⟩
      ·have hs4 : W.heap.size < W3.heap.size := by rw [World.size_alloc] at hs3; have := HR.out.2.2.2.2.1; omega
       have hk4 : ∀ k, A' k → k ≠ bm → W3.heap[k]? = W.heap[k]? := fun k h1 h2 =>
        (hk3 k (.inl (.inl h1)) h2).trans ((Below.heap_alloc wr _ k (HR.out.2.2.2.2.2.2 k (.inl h1))).trans (HR.out.2.2.2.2.2.1 k h1 h2))
       have HE := Aside0.mk (And.intro hj3 (And.intro hs4 hk4))
       clear hj3 hs4 hk4 hk3 hs3
       have HP3 := Aside0.mk hp3; clear hp3
       gi_wp2
       go_ret
       exact ⟨.inr ⟨rfl, pre3, HP3.out, hJx.fewer HE.out.1 (fun k h => .inl (.inl h))⟩, Nat.le_of_lt HE.out.2.1, HE.out.2.2⟩
     ·gi_wp2
      go_ret
      have hjl : j = e.f3.length := by have := HR.out.1; omega
      have hfold := HR.out.2.1
      rw [hjl, List.take_of_length_le (Nat.le_refl _)] at hfold
      rw [HWK.out, hfold]
      exact ⟨.inl ⟨rfl, hJ.fewer HR.out.2.2.1 (fun k h => .inl h), HR.out.2.2.2.1⟩, Nat.le_of_lt HR.out.2.2.2.2.1, HR.out.2.2.2.2.2.1⟩
  ·gi_wp2
   go_ret
   exact ⟨.inr ⟨rfl, _, HX.out, hJx.fewer hj (fun k h => .inl h)⟩, Nat.le_of_lt hs, hk⟩

/-- The function that parts hands back: all of partsL e come, or a round says 'no more'. -/
theorem parts1_seq (e : Ex) (A : Option Addr) (c : Nat) (w0 w : World) (be : Nat) (hC : Kd.C exK w0 A e.f3.length e.f3) (hc : e.f3.length ≤ c) (hw0 : w0.heap.size ≤ be)
  (hbe : w.heap[be]? = some (.cells #[.int .i64 e.f0, .int .i64 e.f1, .int .i64 e.f2.f0, .int .i64 e.f2.f1, .slice A e.f3.length c] 34 (0, 0))) :
  SeqA Tryd.prog 53 #[.pointer (some ⟨be, 0, none⟩)] (PartEnc w0) (fun W => Below w0.heap.size w0 W) (partsL e) w := by
 intro l J Jx A0 W hB hJ hJx hKp hA0 hY h0 n
 have hbe' : be < w.heap.size := (Array.getElem?_eq_some_iff.1 hbe).1
 have hz := hB.size
 have hbW := (hB.block be hbe').trans hbe
 have h1 := hJ.alloc (.cells #[.func (.yield l) #[] #[]] 91) h0
 have h2 := hJ.alloc (.cells #[.int .i64 0] 3) h1
 have h3 := hJ.alloc (.cells #[.func (.func 54) #[] #[.pointer (some ⟨W.heap.size + 1, 0, none⟩), .pointer (some ⟨W.heap.size, 0, none⟩), .pointer (some ⟨W.heap.size + 1 + 1, 0, none⟩)]] 67) h2
 simp only [World.size_alloc] at h2 h3
 have hcall := walkp_in l J Jx hJ hJx w0 hKp (partsL e) A0 (W.heap.size + 1) W.heap.size (W.heap.size + 1 + 1) (by omega) (by omega) hY 6 e A c _ [] _ (n - 1) hC hc h3 (fun k hk => .inl (.inl (.inl hk)))
  (fun k hk => by
   simp only [World.size_alloc]
   rcases hk with ((hk | hk) | hk) | hk
   ·have := hA0 k hk; omega
   ·omega
   ·omega
   ·omega) (.inl (.inr rfl)) (.inl (.inl (.inr rfl))) (.inr rfl)
  ⟨by have := (Boxed.new (W.alloc (.cells #[.func (.yield l) #[] #[]] 91)) 3 (.int .i64 0)).alloc (.cells #[.func (.func 54) #[] #[.pointer (some ⟨W.heap.size + 1, 0, none⟩), .pointer (some ⟨W.heap.size, 0, none⟩), .pointer (some ⟨W.heap.size + 1 + 1, 0, none⟩)]] 67); simpa using this,
     ((Boxed.new W 91 (.func (.yield l) #[] #[])).alloc _).alloc _,
     by have := Boxed.new ((W.alloc (.cells #[.func (.yield l) #[] #[]] 91)).alloc (.cells #[.int .i64 0] 3)) 67 (.func (.func 54) #[] #[.pointer (some ⟨W.heap.size + 1, 0, none⟩), .pointer (some ⟨W.heap.size, 0, none⟩), .pointer (some ⟨W.heap.size + 1 + 1, 0, none⟩)]); simpa using this⟩
  (by simp) (by omega) (List.prefix_refl _)
 rw [show (6 : Int) - ((6 : Nat) : Int) = 0 by omega] at hcall
 have HC := Aside0.mk hcall; clear hcall hY
 have e0 : W.cell? ⟨be, 0, none⟩ = some (.int .i64 e.f0) := by simp [World.cell?, hbW]
 have e1 : W.cell? ⟨be, 1, none⟩ = some (.int .i64 e.f1) := by simp [World.cell?, hbW]
 have e2 : W.cell? ⟨be, 2, none⟩ = some (.int .i64 e.f2.f0) := by simp [World.cell?, hbW]
 have e3 : W.cell? ⟨be, 3, none⟩ = some (.int .i64 e.f2.f1) := by simp [World.cell?, hbW]
 have e4 : W.cell? ⟨be, 4, none⟩ = some (.slice A e.f3.length c) := by simp [World.cell?, hbW]
 clear hbe hbW
 have zb : be < W.heap.size := by omega
 have zl1 : be < W.heap.size + 1 := by omega
 have zl2 : be < W.heap.size + 1 + 1 := by omega
 have zb0 : ¬ be = W.heap.size := by omega
 have zb1 : ¬ be = W.heap.size + 1 := by omega
 have zb2 : ¬ be = W.heap.size + 1 + 1 := by omega
 have HX := Aside0.mk h3; clear h0 h1 h2 h3
 refine callsIn_of_wp Tryd.func53 rfl trivial ?_ rfl
 simp only [Tryd.ntmps53, List.size_toArray, List.length_cons, List.length_nil, Nat.reduceAdd, Nat.reduceSub, Array.replicate_succ, Array.replicate_zero, List.push_toArray, List.append_toArray, List.nil_append, List.cons_append]
 gi_wp2
 refine ⟨trivial, fun h => (by cases h), HC.out.mono ?_⟩
 clear HX HC
 rintro en W' ⟨(⟨rfl, hj, _⟩ | ⟨rfl, pre, hp, hj⟩), hs, _⟩
 ·simp only [World.size_alloc] at hs
  have HE := Aside0.mk (And.intro hj hs); clear hj hs
  gi_wp2
  go_end0
  exact ⟨⟨_, rfl⟩, by have := HE.out.2; omega, .inl (hJ.fewer HE.out.1 (fun k h => .inl (.inl (.inl h))))⟩
 ·simp only [World.size_alloc] at hs
  have HE := Aside0.mk (And.intro hj (And.intro hs hp)); clear hj hs hp
  gi_wp2
  go_end0
  exact ⟨⟨_, rfl⟩, by have := HE.out.2.1; omega, .inr ⟨pre, HE.out.2.2, hJx.fewer HE.out.1 (fun k h => .inl (.inl (.inl h)))⟩⟩

theorem parts_in (e : Ex) (A : Option Addr) (c : Nat) (w : World) (n : Nat) : CallsIn Fence.wide n Tryd.prog 46 #[.agg #[.int .i64 e.f0, .int .i64 e.f1, .int .i64 e.f2.f0, .int .i64 e.f2.f1, .slice A e.f3.length c]] w
  fun en w' => en = .returned (.func (.func 53) #[] #[.pointer (some ⟨w.heap.size, 0, none⟩)]) ∧ w' = w.alloc (.cells #[.int .i64 e.f0, .int .i64 e.f1, .int .i64 e.f2.f0, .int .i64 e.f2.f1, .slice A e.f3.length c] 34) := by
 refine callsIn_of_wp Tryd.func46 rfl trivial ?_ rfl
 simp only [Tryd.ntmps46, List.size_toArray, List.length_cons, List.length_nil, Nat.reduceAdd, Nat.reduceSub, Array.replicate_succ, Array.replicate_zero, List.push_toArray, List.append_toArray, List.nil_append, List.cons_append]
 gi_wp2
 go_ret
 exact ⟨rfl, rfl⟩
end Go.Proofs.YtfmipdhkiahjoaaDoor.B
