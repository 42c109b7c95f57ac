/- impl.wordsOf of what is ok: as many words as parts. -/
import Derived.Test.YtiofkhfmdophpaaOkCon
import Derived.Test.YtiofkhfmdophpaaWords
import Derived.Test.YtiofkhfmdophpaaWeaveIn
import Derived.Shelf.RegionOpen
import Derived.Deep.AppendLies
namespace Go.Proofs.Ytiofkhfmdophpaa.B
open Go Go.RowKit Go.Shelf Go.Proofs.YtiofkhfmdophpaaW.PrintWords Go.Proofs.YtiofkhfmdophpaaW.PrintLast Go.Proofs.YtiofkhfmdophpaaW.PrintMore
set_option linter.unusedVariables false
attribute [local go_sem] Oper.semAt_some

abbrev exA (e : Ex) (A : Option Addr) (c : Nat) : Array Value := #[.int .i64 e.f0, .int .i64 e.f1, .int .i64 e.f2.f0, .int .i64 e.f2.f1, .slice A e.f3.length c]
theorem owns_below {B : Nat} {e : TypeId} {k : Nat} {v : Value} {n : Nat} {xs : List Value} {w w' : World} (h : w.ownsRow B e k v n xs) (hb : Below w.heap.size w w') : w'.ownsRow B e k v n xs :=
 h.kept (row := none) ⟨hb.os, hb.tape, hb.output, hb.size, fun j hj _ => hb.block j hj⟩ (by cases hv : v.ownBlock <;> simp)
structure WdI (w : World) (A : Nat → Prop) (pre : List (Int × Ex)) (W : World) : Prop where
 o : ∃ v xs, Box W (w.heap.size + 1) 86 #[v] ∧ W.ownsRow (w.heap.size + 1 + 1) 9 1 v pre.length xs ∧ ∀ g, v.ownBlock = some g → ¬ A g
 nr : ¬ A (w.heap.size + 1)
 ge : ∀ k, A k → w.heap.size ≤ k
 below : Below w.heap.size w W
def wdTmps (w : World) (e : Ex) (A : Option Addr) (c : Nat) (be : Nat) (x : Int × Ex) (A4 : Option Addr) (c4 Bx : Nat) : Array Value :=
 #[.agg (exA e A c), .pointer (some ⟨w.heap.size, 0, none⟩), .slice none 0 0, .pointer (some ⟨w.heap.size + 1, 0, none⟩), undef, .pointer (some ⟨Bx, 0, none⟩), .agg (exA e A c), .func (.func 85) #[] #[.pointer (some ⟨be, 0, none⟩)],
  .int .i64 x.1, .agg (exA x.2 A4 c4), undef, undef, undef, undef, undef, undef, undef, undef, undef]
def WdM (w : World) (e : Ex) (A : Option Addr) (c : Nat) (be : Nat) (act : Act) (A' : Nat → Prop) (s : List (Int × Ex)) (W : World) : Prop :=
 ∃ (pre : List (Int × Ex)) (x : Int × Ex) (A4 : Option Addr) (c4 Bx : Nat), s = pre ++ [x] ∧ act = { tmps := wdTmps w e A c be x A4 c4 Bx, defers := [] } ∧
  W.heap[Bx]? = some (.cells (exA x.2 A4 c4) 32 (0, 0)) ∧ ¬ A' Bx ∧ w.heap.size + 1 < Bx ∧ x.2.f3.length ≤ c4 ∧ WdI w A' pre W

theorem foreign_wd (w : World) : Foreign (WdI w) where
 turn := fun {A s W W' r} h hg he hr => by
  obtain ⟨v, xs, h1, h2, h3⟩ := h.o
  exact ⟨⟨v, xs, (hg.block _ (blk_lt h1) (fun e => by cases e; exact h.nr hr)).trans h1, h2.kept hg (.inr fun e => h3 r e hr), h3⟩, h.nr, h.ge, h.below.grown hg (h.below.size) (fun k e => by cases e; exact h.ge _ hr)⟩
 alloc := fun {A s W} o h => by
  obtain ⟨v, xs, h1, h2, h3⟩ := h.o
  exact ⟨⟨v, xs, (Below.heap_alloc W o _ (blk_lt h1)).trans h1, h2.alloc o, fun g hg e => e.elim (h3 g hg) (fun e => by have := (h2.lt g hg).2; omega)⟩, fun e => e.elim h.nr (fun e => by have := blk_lt h1; omega), fun k e => e.elim (h.ge k) (fun e => by have := h.below.size; omega), h.below.alloc h.below.size o⟩
 drew := fun {A s W} h => ⟨h.o, h.nr, h.ge, h.below.drew⟩
 fewer := fun {A A' s W} h hA => by
  obtain ⟨v, xs, h1, h2, h3⟩ := h.o
  exact ⟨⟨v, xs, h1, h2, fun g hg e => h3 g hg (hA _ e)⟩, fun e => h.nr (hA _ e), fun k e => h.ge k (hA k e), h.below⟩
theorem foreign_no : Foreign (fun (_ : Nat → Prop) (_ : List (Int × Ex)) (_ : World) => False) where
 turn := fun h _ _ _ => h
 alloc := fun _ h => h
 drew := fun h => h
 fewer := fun h _ => h
theorem foreign_wdm (w : World) (e : Ex) (A : Option Addr) (c : Nat) (be : Nat) (act : Act) : Foreign (WdM w e A c be act) where
 turn := by
  rintro A' s W W' r ⟨pre, x, A4, c4, Bx, rfl, rfl, hb, hn, hlt, hc, hi⟩ hg he hr
  exact ⟨pre, x, A4, c4, Bx, rfl, rfl, (hg.block Bx (Array.getElem?_eq_some_iff.1 hb).1 (fun e => by cases e; exact hn hr)).trans hb, hn, hlt, hc, (foreign_wd w).turn hi hg he hr⟩
 alloc := by
  rintro A' s W o ⟨pre, x, A4, c4, Bx, rfl, rfl, hb, hn, hlt, hc, hi⟩
  have hz := (Array.getElem?_eq_some_iff.1 hb).1
  exact ⟨pre, x, A4, c4, Bx, rfl, rfl, (Below.heap_alloc W o Bx hz).trans hb, fun e => e.elim hn (fun e => by omega), hlt, hc, (foreign_wd w).alloc o hi⟩
 drew := by
  rintro A' s W ⟨pre, x, A4, c4, Bx, rfl, rfl, hb, hn, hlt, hc, hi⟩
  exact ⟨pre, x, A4, c4, Bx, rfl, rfl, hb, hn, hlt, hc, (foreign_wd w).drew hi⟩
 fewer := by
  rintro A' A'' s W ⟨pre, x, A4, c4, Bx, rfl, rfl, hb, hn, hlt, hc, hi⟩ hA
  exact ⟨pre, x, A4, c4, Bx, rfl, rfl, hb, fun e => hn (hA _ e), hlt, hc, (foreign_wd w).fewer hi hA⟩

def Str1 (v : Value) (W : World) : Prop := ∃ g s, v = .slice (some ⟨g, 0, none⟩) 1 1 ∧ W.heap[g]? = some (.cells #[.string s] 9 (0, 0))
theorem Str1.last (v : Value) : Lasts (Str1 v) := fun W W' hb ⟨g, s, h1, h2⟩ => ⟨g, s, h1, blk_below h2 hb⟩

theorem okL_part : ∀ (l : List (Int × Ex)) (n : Nat), okL n l = true → ∀ x ∈ l, kindOk x.2.f0 = true ∧ shapeL x.2.f0 x.2.f1 x.2.f2.f0 x.2.f2.f1 = true
 | [], _, _, x, h => by cases h
 | y :: l, n, h, x, hx => by
  rw [okL, Bool.and_eq_true] at h
  rcases List.mem_cons.1 hx with rfl | hx
  ·have h1 := h.1
   simp only [partOk, Bool.and_eq_true] at h1
   exact ⟨h1.1.1.2, h1.2⟩
  ·exact okL_part l (n + 1) h.2 x hx

set_option maxRecDepth 100000 in
set_option maxHeartbeats 8000000 in
theorem wordsOf_any (e : Ex) (hv : okL 0 (partsL e) = true) (A : Option Addr) (c : Nat) (w : World) (hC : Kd.C exK w A e.f3.length e.f3) (hc : e.f3.length ≤ c) (HT : TabW w) :
  Calls Try.prog 66 #[.agg (exA e A c)] w fun en w' => (∃ A' c', en = .returned (.slice A' (partsL e).length c')) ∧ Below w.heap.size w w' := by
 have mixed : Try.prog.follows .mixedOrders = true := rfl
 refine (callsIn_wide (n := 9)).1 ?_
 refine callsIn_of_wp_marks Try.func66 rfl trivial ?_ rfl
 simp only [Try.ntmps66, List.size_toArray, List.length_cons, List.length_nil, Nat.reduceAdd, Nat.reduceSub, Array.replicate_succ, Array.replicate_zero, List.push_toArray, List.append_toArray, List.nil_append, List.cons_append]
 gi_wp2
 obtain ⟨hs, k1, k2, hB0⟩ := two_blk' w (.cells (exA e A c) 32 (0, 0)) (.cells #[.slice none 0 0] 86 (0, 0))
 refine ⟨trivial, (parts_in e A c _ 8).mono ?_⟩
 rintro en w1' ⟨rfl, rfl⟩
 generalize (w.alloc (.cells (exA e A c) 32)).alloc (.cells #[.slice none 0 0] 86) = w1 at hs k1 k2 hB0 ⊢
 have hz2 : (w1.alloc (.cells (exA e A c) 32)).heap.size = w1.heap.size + 1 := by simp
 have hB2 : Below w.heap.size w (w1.alloc (.cells (exA e A c) 32)) := hB0.alloc hB0.size _
 have hbe := World.alloc_heap_new w1 (.cells (exA e A c) 32)
 have hI0 : WdI w (fun _ => False) [] (w1.alloc (.cells (exA e A c) 32)) :=
  ⟨⟨.slice none 0 0, [], (Below.heap_alloc w1 _ _ (by omega)).trans k2, World.ownsRow_nil _ _ _ _, fun g hg => id⟩, id, fun k h => h.elim, hB2⟩
 generalize w1.alloc (.cells (exA e A c) 32) = w2 at hz2 hB2 hbe hI0 ⊢
 have HV := Aside0.mk (And.intro hv HT)
 have HU := Aside0.mk hs
 have hle : w.heap.size ≤ w1.heap.size := by omega
 clear hv HT k1 k2 hs
 gi_wp2
 refine wpIn_rangeFunc_A (gf := 85) (lb := #[.pointer (some ⟨w1.heap.size, 0, none⟩)]) rfl (enters_of Try.func85 (by kernel_rfl) rfl)
  (parts1_seq e A c w w2 w1.heap.size hC hc hle hbe) (by rintro x vs ⟨A4, c4, rfl, _⟩; rfl)
  (WdI w) (fun _ _ _ _ => False) (WdM w e A c w1.heap.size) (foreign_wd w) (fun _ => foreign_no) (foreign_wdm w e A c _) (fun A' s W h => h.below) hI0 ?assign ?body ?done ?stop
 case assign =>
  rintro l A' pre x vs W hsz hA hi hpre ⟨A4, c4, rfl, hc4, hC4⟩
  gi_wp2
  have hs := HU.out
  exact ⟨(Kpt.refl A' W).alloc hA _, pre, x, A4, c4, W.heap.size, rfl, rfl, World.alloc_heap_new W _, fun h => Nat.lt_irrefl _ (hA _ h), by omega, hc4, (foreign_wd w).fewer ((foreign_wd w).alloc _ hi) (fun k h => .inl h)⟩
 case body =>
  rintro l A' pre0 x0 a1 W hsz hA ⟨pre, x, A4, c4, Bx, hs, rfl, hb, hn, hlt, hc4, hi⟩ hpre
  obtain ⟨rfl, hx⟩ := List.append_inj' hs rfl
  obtain rfl : x0 = x := by simpa using hx
  clear hs hx
  unfold wdTmps
  have hmem : x0 ∈ partsL e := hpre.subset (by simp)
  have hlen : pre0.length + 1 ≤ 15 := by
   have h1 := hpre.length_le
   have h2 := walk_le 6 e [] (by simp)
   simp only [List.length_append, List.length_cons, List.length_nil] at h1
   unfold partsL at h1
   omega
  obtain ⟨hk, hsh⟩ := okL_part _ 0 HV.out.1 x0 hmem
  obtain ⟨T, fw, KI⟩ := word_is x0.2 hk hsh
  obtain ⟨v, xs, o1, o2, o3⟩ := hi.o
  obtain ⟨i0, hi0, hz0, hz1, hz3⟩ := info_parts (P := Try.prog) (e := 9) (z := .string ByteArray.empty) (size := 1) (bytes := 16) (by kernel_rfl)
  have HQ := Aside0.mk hlen
  gi_wp2
  refine weaveTailIn 7 rfl (fun W' => Below W.heap.size W W') (Lasts.below W) (Below.refl _ _) [(10, 0), (11, 1), (12, 2), (13, 3), (14, 4), (15, 5), (16, 6), (17, 7)]
   [fun v' _ => v' = v, fun v' _ => v' = .pointer (some ⟨Bx, 0, none⟩), fun v' _ => v' = .int .i64 x0.2.f0, fun v' _ => v' = .iface T (.agg #[]), fun v' _ => v' = .agg (exA x0.2 A4 c4), IsStr, Str1] mixed (by kernel_rfl) (by kernel_rfl)
   ⟨fun _ => Lasts.const _, fun _ => Lasts.const _, fun _ => Lasts.const _, fun _ => Lasts.const _, fun _ => Lasts.const _, IsStr.last, Str1.last, trivial⟩ (by kernel_rfl) (by kernel_rfl) (by kernel_rfl) ?_
   (fun v7 W' => ∃ g cap xs', v7 = .slice (some ⟨g, 0, none⟩) (pre0.length + 1) cap ∧ W'.ownsRow (w.heap.size + 1 + 1) 9 1 v7 (pre0.length + 1) xs' ∧ Box W' (w.heap.size + 1) 86 #[v] ∧ W.grownBy W' v.ownBlock ∧ ¬ A' g)
   (fun _ W' => Kpt A' W W' ∧ WdI w A' (pre0 ++ [x0]) W') ?_ ?_ ?_
  ·refine ⟨?_, ?_, ?_, ?_, ?_, ?_, ?_, fun h => absurd h (by decide), fun h => absurd h (by decide), trivial⟩
   ·intro _ vs W' hp hv b hs
    have t3 := (hs.oldtm 3 rfl).trans (show _ = some (Value.pointer (some ⟨w.heap.size + 1, 0, none⟩)) from rfl)
    have c0 := (Box.cell (blk_below o1 hp) 0 _ rfl).1
    exact stepVal (v := v) rfl (by go_simp) ⟨Below.refl _ _, rfl⟩
   ·intro _ vs W' hp hv b hs
    have t5 := (hs.oldtm 5 rfl).trans (show _ = some (Value.pointer (some ⟨Bx, 0, none⟩)) from rfl)
    exact stepVal rfl (by go_simp) ⟨Below.refl _ _, rfl⟩
   ·intro _ vs W' hp hv b hs
    have h1 : vs 1 = .pointer (some ⟨Bx, 0, none⟩) := hv 1 (by decide)
    have t11 := (hs.tm 11 1 rfl).trans (congrArg some h1)
    have c0 := (Box.cell (blk_below hb hp) 0 _ rfl).1
    exact stepVal rfl (by go_simp) ⟨Below.refl _ _, rfl⟩
   ·intro _ vs W' hp hv b hs
    have h2 : vs 2 = .int .i64 x0.2.f0 := hv 2 (by decide)
    refine stepCall rfl Try.func56 (by kernel_rfl) rfl #[vs 2] rfl (by simp [Act.eval, hs.tm 12 2 rfl]) (by rw [h2]; exact reckoningOf_calls _ W') ?_
    rintro en W'' ⟨rfl, rfl⟩
    exact ⟨_, rfl, Below.refl _ _, KI.v⟩
   ·intro _ vs W' hp hv b hs
    exact stepGet rfl rfl ((hs.old 5 rfl).trans rfl) (blk_below hb hp) Try.underlying32 rfl (by kernel_rfl) ⟨Below.refl _ _, rfl⟩
   ·intro _ vs W' hp hv b hs
    have h3 : vs 3 = .iface T (.agg #[]) := hv 3 (by decide)
    have h4 : vs 4 = .agg (exA x0.2 A4 c4) := hv 4 (by decide)
    have t13 := (hs.tm 13 3 rfl).trans (congrArg some h3)
    have t14 := (hs.tm 14 4 rfl).trans (congrArg some h4)
    have mw := KI.mw
    have ew := KI.ew
    refine stepEnter (f := fw) (args := #[.agg #[], .agg (exA x0.2 A4 c4)]) rfl (by go_simp) (KI.cw A4 c4 W' (HV.out.2.below (hi.below.trans (hp.mono hi.below.size)))) ?_
    rintro en W'' ⟨⟨s, rfl⟩, hb'⟩
    exact ⟨_, rfl, hb', s, rfl⟩
   ·intro _ vs W' hp hv b hs
    obtain ⟨s, h5⟩ := (hv 5 (by decide) : IsStr (vs 5) W')
    have t15 := (hs.tm 15 5 rfl).trans (congrArg some h5)
    exact stepRun (v := .slice (some ⟨W'.heap.size, 0, none⟩) 1 1) (W' := W'.alloc (.cells #[.string s] 9)) rfl (by go_simp) ⟨(Below.refl _ _).alloc (Nat.le_refl _) _, _, s, rfl, heap_alloc_new _ _⟩
  ·intro o ho vs W' hp hv b hs
   have h0 : vs 0 = v := hv 0 (by decide)
   obtain ⟨g1, s, h6, hg1⟩ := (hv 6 (by decide) : Str1 (vs 6) W')
   have : o = _ := (Option.some.inj ho).symm
   subst this
   have hW : w.heap.size + 1 < W'.heap.size := Nat.lt_of_lt_of_le (blk_lt o1) hp.size
   refine stepOp rfl fun K Q' hK => ?_
   refine wp_append_lies W' (.tmp 10) (.tmp 16) 86 rfl (w.heap.size + 1 + 1) 9 i0 (.string ByteArray.empty) 1 16 Try.underlying86 hi0 hz0 hz1 hz3 rfl (by decide) v pre0.length xs ((hs.ev 10 0 rfl).trans h0) (owns_below o2 hp) ⟨g1, 0, none⟩ 1 1 [.string s] ((hs.ev 16 6 rfl).trans h6) rfl (World.news_of_block hg1) (by intro u hu; simp at hu; subst hu; rfl) (by decide) (by have := HQ.out; unfold maxLen; omega) (by have := HQ.out; omega) (by omega) _ rfl fun g cap W2 q1 q2 q3 q4 => hK _ _ ⟨g, cap, _, rfl, q1, (q2.block _ (by omega) (fun e => by have := (o2.lt _ e.symm).1; omega)).trans (blk_below o1 hp), ?_, ?_⟩
   ·exact World.grownBy.andThen (row := v.ownBlock) ⟨hp.os, hp.tape, hp.output, hp.size, fun j hj _ => hp.block j hj⟩ q2 (fun j hj => .inr hj)
   ·rcases q3 with q3 | q3
    ·exact o3 g q3
    ·intro hAg
     have := hA _ hAg
     have := hp.size
     omega
  ·intro o ho vs W' ⟨g, cap, xs', h7, q1, q2, q3, q4⟩ b hs
   have : o = _ := (Option.some.inj ho).symm
   subst this
   have t3 := (hs.oldtm 3 rfl).trans (show _ = some (Value.pointer (some ⟨w.heap.size + 1, 0, none⟩)) from rfl)
   have t17 := (hs.tm 17 7 rfl).trans (congrArg some h7)
   have c0 := (Box.cell q2 0 _ rfl).1
   have f0 := (Box.cell q2 0 _ rfl).2
   rw [h7] at q1
   have hge := (q1.lt g rfl).1
   refine stepSkip (W' := W'.setCell ⟨w.heap.size + 1, 0, none⟩ (.slice (some ⟨g, 0, none⟩) (pre0.length + 1) cap)) rfl (by go_simp) ⟨?_, ⟨_, xs', blk_set q2 0 _, ?_, fun g' hg' => by cases hg'; exact q4⟩, hi.nr, hi.ge, ?_⟩
   ·exact Kpt.setCell ⟨q3.size, fun k hk => q3.block k (hA k hk) (fun e => o3 k e.symm hk)⟩ hi.nr _
   ·rw [List.length_append]
    exact ownsRow_setCell_below q1 (by simp) _
   ·exact (Below.trans hi.below ⟨q3.os, q3.tape, q3.output, q3.size, fun k hk => q3.block k (by have := hi.below.size; omega) (fun e => by have := (o2.lt _ e.symm).1; omega)⟩).setCell (p := ⟨w.heap.size + 1, 0, none⟩) (by simp) _
  ·intro vs W' h
   exact h
 case done =>
  rintro D W hD hDl hi hK
  obtain ⟨v, xs, o1, o2, o3⟩ := hi.o
  have hvs : ∃ A' c', v = .slice A' (partsL e).length c' := by
   rcases o2.2 with ⟨h1, h2⟩ | ⟨g, cap, cur, h1, _⟩
   ·exact ⟨none, 0, by rw [h1, h2]⟩
   ·exact ⟨_, _, h1⟩
  have cr := (Box.cell o1 0 v rfl).1
  gi_wp2
  refine ⟨by simp, .inl ⟨_, _, rfl, run_takeDeferred hK, ?_⟩⟩
  obtain ⟨A1, c1, rfl⟩ := hvs
  refine ⟨.slice A1 (partsL e).length c1, ?_, ⟨A1, c1, rfl⟩, hi.below.trans (belowK_b (w := w) (Nat.le_refl _) W D _ _ (by have := hB2.size; omega) hK rfl rfl)⟩
  simp [results, Try.f66, go_sem]
 case stop =>
  rintro D c1 pre W hD hDl hpre h hK
  exact h.elim
end Go.Proofs.Ytiofkhfmdophpaa.B
