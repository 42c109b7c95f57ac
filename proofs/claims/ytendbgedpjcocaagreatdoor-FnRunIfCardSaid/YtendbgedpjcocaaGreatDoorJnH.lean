import Derived.Test.YtendbgedpjcocaaGreatDoorJnB
import Derived.Test.YtendbgedpjcocaaGreatDoorPkA
/- Plain law: what the parts say and what the specification says of an expression are the same. -/
namespace Go.Proofs.YtendbgedpjcocaaGreatDoor.B
open Go.RowKit Go.Proofs.YtendbgedpjcocaaGreatDoorW.PrintWords Go.Proofs.YtendbgedpjcocaaGreatDoorW.PrintLast Go.Proofs.YtendbgedpjcocaaGreatDoorW.PrintMore
set_option linter.unusedVariables false

def headOk (e : Ex) : Bool := kindOk e.f0 && ((e.f3.length : Int) == kidsN e.f0) && shapeL e.f0 e.f1 e.f2.f0 e.f2.f1
def formS : Nat → Ex → Bool
 | 0, _ => false
 | d + 1, e => headOk e && e.f3.all (formS d)
def manyS : Nat → Ex → Nat
 | 0, _ => 1
 | d + 1, e => 1 + (e.f3.map (manyS d)).sum
theorem manyS_pos (d : Nat) (e : Ex) : 1 ≤ manyS d e := by cases d <;> simp [manyS]
theorem okL_pre {xs ys : List (Int × Ex)} (h : xs <+: ys) (hx : okL 0 xs = false) : okL 0 ys = false := by
 obtain ⟨zs, rfl⟩ := h
 rw [okL_append, hx]; rfl

/-- What a walk leaves, where all that had come is ok. -/
def WalkOk (r : List (Int × Ex) × Bool) (ok : Bool) (n : Nat) : Prop := okL 0 r.1 = (ok && decide (n ≤ 14)) ∧ (okL 0 r.1 = true → r.2 = true ∧ r.1.length = n)
theorem fold_ok (d : Nat) (ih : ∀ (e : Ex) (acc : List (Int × Ex)), acc.length ≤ 14 → okL 0 acc = true → WalkOk (walkP d e acc) (formS d e) (acc.length + manyS d e)) (ks : List Ex) :
  ∀ acc : List (Int × Ex), acc.length ≤ 14 → okL 0 acc = true → WalkOk (ks.foldl (fun s k => if s.2 then walkP d k s.1 else s) (acc, true)) (ks.all (formS d)) (acc.length + (ks.map (manyS d)).sum) := by
 induction ks with
 | nil => intro acc h1 h2; exact ⟨by simp [h2, h1], fun _ => ⟨rfl, by simp⟩⟩
 | cons k ks ihk =>
  intro acc h1 h2
  have hw := ih k acc h1 h2
  show WalkOk (ks.foldl (fun s k => if s.2 then walkP d k s.1 else s) (walkP d k acc)) _ _
  by_cases hr : okL 0 (walkP d k acc).1 = true
  ·obtain ⟨hr2, hlen⟩ := hw.2 hr
   have hf : formS d k = true ∧ acc.length + manyS d k ≤ 14 := by have := hw.1; rw [hr] at this; simpa using this.symm
   have h3 := ihk (walkP d k acc).1 (by omega) hr
   rw [show walkP d k acc = ((walkP d k acc).1, true) from Prod.ext rfl hr2]
   rw [hlen] at h3
   rw [List.all_cons, hf.1, Bool.true_and, List.map_cons, List.sum_cons, ← Nat.add_assoc]
   exact h3
  ·have hr' : okL 0 (walkP d k acc).1 = false := by simpa using hr
   have hz : okL 0 (ks.foldl (fun s k => if s.2 then walkP d k s.1 else s) (walkP d k acc)).1 = false := okL_pre (fold_pre d ks _) hr'
   refine ⟨?_, fun h => by rw [hz] at h; cases h⟩
   rw [hz]
   have hw1 := hw.1
   rw [hr'] at hw1
   cases hfk : formS d k with
   | false => simp [hfk]
   | true =>
    have : ¬ (acc.length + manyS d k ≤ 14) := by rw [hfk] at hw1; simpa using hw1
    symm
    rw [Bool.and_eq_false_iff]
    right
    simp
    omega
theorem walk_ok (d : Nat) : d ≤ 6 → ∀ (e : Ex) (acc : List (Int × Ex)), acc.length ≤ 14 → okL 0 acc = true → WalkOk (walkP d e acc) (formS d e) (acc.length + manyS d e) := by
 induction d with
 | zero =>
  intro _ e acc h1 h2
  have : okL 0 (walkP 0 e acc).1 = false := by simp [walkP, okL_snoc, partOk]
  exact ⟨by rw [this]; simp [formS], fun h => by rw [this] at h; cases h⟩
 | succ d ih =>
  intro hd e acc h1 h2
  have hp : partOk (acc.length + 1) ((5 : Int) - d, e) = (decide (acc.length + 1 ≤ 14) && headOk e) := by
   simp only [partOk, headOk, decide_eq_true (show (5 : Int) - d < 6 by omega), Bool.and_true, Bool.and_assoc]
  have hs : okL 0 (acc ++ [((5 : Int) - d, e)]) = (decide (acc.length + 1 ≤ 14) && headOk e) := by rw [okL_snoc, h2, Nat.zero_add, hp]; rfl
  by_cases h14 : (acc ++ [((5 : Int) - d, e)]).length > 14
  ·have h13 : decide (acc.length + 1 ≤ 14) = false := by simp at h14 ⊢; omega
   have : okL 0 (walkP (d + 1) e acc).1 = false := by rw [walkP, if_pos h14]; rw [hs, h13]; rfl
   refine ⟨?_, fun h => by rw [this] at h; cases h⟩
   rw [this]
   have := manyS_pos (d + 1) e
   symm; rw [Bool.and_eq_false_iff]; right
   simp at h14 ⊢; omega
  ·have h13 : acc.length + 1 ≤ 14 := by simp at h14; omega
   have hwk : walkP (d + 1) e acc = e.f3.foldl (fun s k => if s.2 then walkP d k s.1 else s) (acc ++ [((5 : Int) - d, e)], true) := by rw [walkP, if_neg h14]
   rw [decide_eq_true h13, Bool.true_and] at hs
   rw [hwk]
   cases hh : headOk e with
   | false =>
    rw [hh] at hs
    have hz := okL_pre (fold_pre d e.f3 (acc ++ [((5 : Int) - d, e)], true)) hs
    refine ⟨?_, fun h => by rw [hz] at h; cases h⟩
    rw [hz]; simp [formS, hh]
   | true =>
    rw [hh] at hs
    have := fold_ok d (ih (by omega)) e.f3 (acc ++ [((5 : Int) - d, e)]) (by simp; omega) hs
    simp only [List.length_append, List.length_cons, List.length_nil] at this
    simp only [formS, hh, Bool.true_and, manyS]
    rw [show acc.length + (1 + (e.f3.map (manyS d)).sum) = acc.length + (0 + 1) + (e.f3.map (manyS d)).sum by omega]
    exact this
theorem okL_eq (e : Ex) : okL 0 (partsL e) = (formS 6 e && decide (manyS 6 e ≤ 14)) := by
 have := (walk_ok 6 (Nat.le_refl _) e [] (by simp) rfl).1
 simpa [partsL] using this
end Go.Proofs.YtendbgedpjcocaaGreatDoor.B
/- impl.reckon: what something that is ok comes to. -/
namespace Go.Proofs.YtendbgedpjcocaaGreatDoor.B
open Go.RowKit Go.Proofs.YtendbgedpjcocaaGreatDoorW.PrintWords Go.Proofs.YtendbgedpjcocaaGreatDoorW.PrintLast Go.Proofs.YtendbgedpjcocaaGreatDoorW.PrintMore
set_option linter.unusedVariables false

theorem meth_of1 : ∀ w, (method 299 138 (.agg #[]) "loop.example/stopgate/impl.of").run Tryz.prog w = .ok (135, .agg #[]) w := fun _ => by kernel_rfl
theorem meth_of2 : ∀ w, (method 299 139 (.agg #[]) "loop.example/stopgate/impl.of").run Tryz.prog w = .ok (139, .agg #[]) w := fun _ => by kernel_rfl
theorem meth_of3 : ∀ w, (method 299 140 (.agg #[]) "loop.example/stopgate/impl.of").run Tryz.prog w = .ok (143, .agg #[]) w := fun _ => by kernel_rfl
theorem meth_of4 : ∀ w, (method 299 141 (.agg #[]) "loop.example/stopgate/impl.of").run Tryz.prog w = .ok (153, .agg #[]) w := fun _ => by kernel_rfl

theorem two_blocks' (w : World) (a b : Obj) : ((w.alloc a).alloc b).heap.size = w.heap.size + 1 + 1 ∧ ((w.alloc a).alloc b).heap[w.heap.size]? = some a ∧ ((w.alloc a).alloc b).heap[w.heap.size + 1]? = some b ∧ Below w.heap.size w ((w.alloc a).alloc b) := by
 have s1 : (w.alloc a).heap.size = w.heap.size + 1 := by simp
 have s2 : ((w.alloc a).alloc b).heap.size = w.heap.size + 1 + 1 := by simp
 refine ⟨s2, ?_, ?_, ((Below.refl w.heap.size w).alloc (Nat.le_refl _) _).alloc (by omega) _⟩
 ·rw [Below.heap_alloc _ _ _ (by omega)]; exact heap_alloc_new w a
 ·rw [← s1]; exact heap_alloc_new _ b
theorem two_of_len : ∀ (l : List Ex) (h : l.length = 2), l = [l[0], l[1]]
 | [a, b], _ => rfl
/-- The cells of one of the parts within. -/
theorem kid_at {w : World} {A : Option Addr} {l : List Ex} (h : Kd.C exK w A l.length l) (j : Nat) (hj : j < l.length) : ∃ ad A4 c4, A = some ad ∧ w.cell? (ad.add (j * 5)) = some (.int .i64 l[j].f0) ∧ w.cell? ⟨(ad.add (j * 5)).block, (ad.add (j * 5)).off + 1, none⟩ = some (.int .i64 l[j].f1) ∧
  w.cell? ⟨(ad.add (j * 5)).block, (ad.add (j * 5)).off + 2, none⟩ = some (.int .i64 l[j].f2.f0) ∧ w.cell? ⟨(ad.add (j * 5)).block, (ad.add (j * 5)).off + 3, none⟩ = some (.int .i64 l[j].f2.f1) ∧ w.cell? ⟨(ad.add (j * 5)).block, (ad.add (j * 5)).off + 4, none⟩ = some (.slice A4 l[j].f3.length c4) ∧ l[j].f3.length ≤ c4 ∧ Kd.C exK w A4 l[j].f3.length l[j].f3 := by
 obtain ⟨ad, A4, c4, hA, e0, e1, e2, e3, e4, hl4, hi4⟩ := at_T27 h (j : Int) (by omega) (by omega)
 have hkid : rd_T27 l (j : Int) = l[j] := by simp [rd_T27, hj]
 rw [hkid] at e0 e1 e2 e3 e4 hl4 hi4
 simp only [Int.toNat_natCast] at e0 e1 e2 e3 e4
 exact ⟨ad, A4, c4, hA, e0, e1, e2, e3, e4, hl4, hi4⟩
theorem numIs_any (b : Bool) (w : World) : Calls Tryz.prog 150 #[.bool b] w fun e w' => e = .returned (.int .i64 (if b then 1 else 0)) ∧ Below w.heap.size w w' :=
 (impl_NumIs.calls b _ w (by unfold impl_NumIs.f; cases b <;> rfl)).mono fun e w' h => ⟨h.1, h.2.below⟩
theorem numOn_any (n : Int) (w : World) : Calls Tryz.prog 22 #[.int .i64 n] w fun e w' => e = .returned (.bool (n != 0)) ∧ Below w.heap.size w w' :=
 (impl_NumOn.calls n _ w rfl).mono fun e w' h => ⟨h.1, h.2.below⟩
/-- What reckon answers of e. -/
def RkPost (bs : List Int) (e : Ex) (w : World) (en : Ending) (w' : World) : Prop := en = .returned (.int .i64 (evalI bs e)) ∧ Below w.heap.size w w'
def Rk (f : Nat) (pre : Array Value) (bs : List Int) (e : Ex) : Prop := ∀ (g : Nat) (A : Option Addr) (c : Nat) (w : World), MemAt w g bs → Kd.C exK w A e.f3.length e.f3 → e.f3.length ≤ c →
 Calls Tryz.prog f (pre ++ #[.pointer (some ⟨g, 0, none⟩), .agg #[.int .i64 e.f0, .int .i64 e.f1, .int .i64 e.f2.f0, .int .i64 e.f2.f1, .slice A e.f3.length c]]) w (RkPost bs e w)

set_option maxRecDepth 100000 in
theorem of1 (bs : List Int) (e : Ex) (h1 : e.f0 = 1) : Rk 135 #[.agg #[]] bs e := by
 intro g A c w hm hC hc
 have HV := Aside0.mk (show evalI bs e = e.f1 by rw [evalI_eq, if_pos h1])
 have HB := Aside0.mk (Below.refl w.heap.size w)
 clear hm hC hc h1
 simp only [List.append_toArray, List.nil_append, List.cons_append]
 go_enter Tryz.func135, Tryz.ntmps135
 go_wp2
 go_ret
 exact ⟨by rw [HV.out]; rfl, by repeat (first | (with_reducible first | exact HB.out | apply below_alloc | apply pw_below_drewN | apply below_drew1) | exact HB.out)⟩
set_option maxRecDepth 100000 in
theorem of2 (bs : List Int) (e : Ex) (h2 : e.f0 = 2) : Rk 139 #[.agg #[]] bs e := by
 intro g A c w hm hC hc
 have HV := Aside0.mk (show evalI bs e = getL bs e.f2.f0 e.f2.f1 by rw [evalI_eq, if_neg (by omega), if_pos h2])
 have HM := Aside0.mk hm
 have HB := Aside0.mk (Below.refl w.heap.size w)
 clear hm hC hc h2
 simp only [List.append_toArray, List.nil_append, List.cons_append]
 go_enter Tryz.func139, Tryz.ntmps139
 go_wp2_with fail
 obtain ⟨hs, k1, k2, hB0⟩ := two_blocks' w (.cells #[] 139 (0, 0)) (.cells #[.int .i64 e.f0, .int .i64 e.f1, .int .i64 e.f2.f0, .int .i64 e.f2.f1, .slice A e.f3.length c] 27 (0, 0))
 refine (get_any g bs _ _ _ (HM.out.below hB0)).mono ?_
 rintro en w1 ⟨rfl, hb1⟩
 have HB1 := Aside0.mk (hB0.trans (hb1.mono hB0.size))
 clear hb1 hB0 hs k1 k2
 go_wp2
 go_ret
 exact ⟨by rw [HV.out]; rfl, HB1.out⟩
set_option maxRecDepth 100000 in
set_option maxHeartbeats 4000000 in
theorem of4 (bs : List Int) (e : Ex) (h10 : e.f0 = 10) (hl : e.f3.length = 1) (ih : ∀ x ∈ e.f3, Rk 49 #[] bs x) : Rk 153 #[.agg #[]] bs e := by
 intro g A c w hm hC hc
 have hC0 := hC
 rw [hl] at hc ⊢
 obtain ⟨hs, k1, k2, hB0⟩ := two_blocks' w (.cells #[] 141 (0, 0)) (.cells #[.int .i64 e.f0, .int .i64 e.f1, .int .i64 e.f2.f0, .int .i64 e.f2.f1, .slice A 1 c] 27 (0, 0))
 obtain ⟨ad, A4, c4, rfl, e0, e1, e2, e3, e4, hl4, hi4⟩ := kid_at (Kd.C_below hC hB0) 0 (by omega)
 have hcall := ih e.f3[0] (List.getElem_mem (by omega)) g A4 c4 _ (hm.below hB0) hi4 hl4
 obtain ⟨kid, hkd⟩ : ∃ kid, kid = e.f3[0] := ⟨_, rfl⟩
 rw [← hkd] at e0 e1 e2 e3 e4 hl4 hi4 hcall
 have HV := Aside0.mk (show evalI bs e = if evalI bs kid = 0 then 1 else 0 by
  have : e.f3 = [kid] := by
   rw [hkd]; exact List.ext_getElem (by simp [hl]) (fun i h1 h2 => by simp at h2; subst h2; rfl)
  rw [evalI_eq, if_neg (by omega), if_neg (by omega), if_pos h10, this]; rfl)
 simp only [List.append_toArray, List.nil_append] at hcall
 have HC := Aside0.mk hcall
 have HB0 := Aside0.mk hB0
 clear ih hcall hm hC hC0 hkd hl4 hi4 hB0 k1 k2 hs hl h10
 simp only [Nat.zero_mul, show ad.add 0 = ad by simp [Addr.add]] at e0 e1 e2 e3 e4
 simp only [List.append_toArray, List.nil_append, List.cons_append]
 go_enter Tryz.func153, Tryz.ntmps153
 go_wp2_with fail
 refine HC.out.mono ?_
 clear HC
 rintro en w1 ⟨rfl, hb1⟩
 have HB1 := Aside0.mk (HB0.out.trans (hb1.mono HB0.out.size))
 clear hb1 e0 e1 e2 e3 e4
 go_wp2_with fail
 refine (numOn_any _ _).mono ?_
 rintro en w2 ⟨rfl, hb2⟩
 have HB2 := Aside0.mk (HB1.out.trans (hb2.mono HB1.out.size))
 clear hb2
 obtain ⟨v, hv⟩ : ∃ v, v = evalI bs kid := ⟨_, rfl⟩
 rw [← hv] at HV ⊢
 clear hv
 by_cases hz : v = 0
 ·subst hz
  go_wp2_with fail
  refine (numIs_any _ _).mono ?_
  rintro en w3 ⟨rfl, hb3⟩
  have HB3 := Aside0.mk (HB2.out.trans (hb3.mono HB2.out.size))
  clear hb3
  go_wp2
  go_ret
  exact ⟨by rw [HV.out]; rfl, HB3.out⟩
 ·have hz1 : (v != 0) = true := by simp [hz]
  have HZ := Aside0.mk hz; clear hz
  go_wp2_with fail
  refine (numIs_any _ _).mono ?_
  rintro en w3 ⟨rfl, hb3⟩
  have HB3 := Aside0.mk (HB2.out.trans (hb3.mono HB2.out.size))
  clear hb3
  go_wp2
  go_ret
  exact ⟨by rw [HV.out, if_neg HZ.out]; rfl, HB3.out⟩
set_option maxRecDepth 100000 in
set_option maxHeartbeats 4000000 in
theorem of3 (bs : List Int) (e : Ex) (h39 : 3 ≤ e.f0 ∧ e.f0 ≤ 9) (hl : e.f3.length = 2) (ih : ∀ x ∈ e.f3, Rk 49 #[] bs x) : Rk 143 #[.agg #[]] bs e := by
 intro g A c w hm hC hc
 have hC0 := hC
 rw [hl] at hc ⊢
 obtain ⟨hs, k1, k2, hB0⟩ := two_blocks' w (.cells #[] 140 (0, 0)) (.cells #[.int .i64 e.f0, .int .i64 e.f1, .int .i64 e.f2.f0, .int .i64 e.f2.f1, .slice A 2 c] 27 (0, 0))
 obtain ⟨ad, A4, c4, hA, e0, e1, e2, e3, e4, hl4, hi4⟩ := kid_at (Kd.C_below hC hB0) 0 (by omega)
 obtain ⟨ad', A5, c5, hA', g0, g1, g2, g3, g4, ml4, mi4⟩ := kid_at (Kd.C_below hC hB0) 1 (by omega)
 subst hA
 cases hA'
 have ih0 := ih e.f3[0] (List.getElem_mem (by omega))
 have ih1 := ih e.f3[1] (List.getElem_mem (by omega))
 obtain ⟨k0, hk0⟩ : ∃ kid, kid = e.f3[0] := ⟨_, rfl⟩
 obtain ⟨k1', hk1⟩ : ∃ kid, kid = e.f3[1] := ⟨_, rfl⟩
 rw [← hk0] at e0 e1 e2 e3 e4 hl4 hi4 ih0
 rw [← hk1] at g0 g1 g2 g3 g4 ml4 mi4 ih1
 have HV := Aside0.mk (show evalI bs e = twoI e.f0 (evalI bs k0) (evalI bs k1') by
  have : e.f3 = [k0, k1'] := by rw [hk0, hk1]; exact two_of_len e.f3 hl
  rw [evalI_eq, if_neg (by omega), if_neg (by omega), if_neg (by omega), this]; rfl)
 simp only [Nat.zero_mul, show ad.add 0 = ad by simp [Addr.add]] at e0 e1 e2 e3 e4
 simp only [Nat.one_mul, show ad.add 5 = ⟨ad.block, ad.off + 5, none⟩ by simp [Addr.add]] at g0 g1 g2 g3 g4
 simp only [List.append_toArray, List.nil_append, List.cons_append]
 have q0 : ((w.alloc (.cells #[] 140)).alloc (.cells #[.int .i64 e.f0, .int .i64 e.f1, .int .i64 e.f2.f0, .int .i64 e.f2.f1, .slice (some ad) 2 c] 27)).cell? ⟨w.heap.size + 1, 0, none⟩ = some (.int .i64 e.f0) := by rw [blk_cell k2]; rfl
 have q4 : ((w.alloc (.cells #[] 140)).alloc (.cells #[.int .i64 e.f0, .int .i64 e.f1, .int .i64 e.f2.f0, .int .i64 e.f2.f1, .slice (some ad) 2 c] 27)).cell? ⟨w.heap.size + 1, 4, none⟩ = some (.slice (some ad) 2 c) := by rw [blk_cell k2]; rfl
 have hm0 := hm.below hB0
 simp only [Rk, List.append_toArray, List.nil_append] at ih0 ih1
 have HC := Aside0.mk (And.intro hB0 (And.intro hm0 (And.intro hi4 (And.intro hl4 (And.intro mi4 (And.intro ml4 (And.intro ih0 ih1)))))))
 have HQ := Aside0.mk (And.intro q0 (And.intro q4 (And.intro e0 (And.intro e1 (And.intro e2 (And.intro e3 (And.intro e4 (And.intro g0 (And.intro g1 (And.intro g2 (And.intro g3 g4)))))))))))
 clear ih ih0 ih1 hm hm0 hC hC0 hk0 hk1 hl4 hi4 ml4 mi4 hB0 k1 k2 hs hl h39 e0 e1 e2 e3 e4 g0 g1 g2 g3 g4 q0 q4
 go_enter Tryz.func143, Tryz.ntmps143
 go_wp2
 generalize (w.alloc (.cells #[] 140)).alloc (.cells #[.int .i64 e.f0, .int .i64 e.f1, .int .i64 e.f2.f0, .int .i64 e.f2.f1, .slice (some ad) 2 c] 27) = W0 at HC HQ ⊢
 obtain ⟨k1, hk1⟩ : ∃ k1, k1 = k1' := ⟨_, rfl⟩
 subst hk1
 have hold : ∀ W, Below W0.heap.size W0 W → W.cell? ⟨w.heap.size + 1, 0, none⟩ = some (.int .i64 e.f0) ∧ W.cell? ⟨w.heap.size + 1, 4, none⟩ = some (.slice (some ad) 2 c) ∧ W.cell? ad = some (.int .i64 k0.f0) ∧ W.cell? ⟨ad.block, ad.off + 1, none⟩ = some (.int .i64 k0.f1) ∧ W.cell? ⟨ad.block, ad.off + 2, none⟩ = some (.int .i64 k0.f2.f0) ∧ W.cell? ⟨ad.block, ad.off + 3, none⟩ = some (.int .i64 k0.f2.f1) ∧ W.cell? ⟨ad.block, ad.off + 4, none⟩ = some (.slice A4 k0.f3.length c4) ∧ W.cell? ⟨ad.block, ad.off + 5, none⟩ = some (.int .i64 k1.f0) ∧ W.cell? ⟨ad.block, ad.off + 5 + 1, none⟩ = some (.int .i64 k1.f1) ∧ W.cell? ⟨ad.block, ad.off + 5 + 2, none⟩ = some (.int .i64 k1.f2.f0) ∧ W.cell? ⟨ad.block, ad.off + 5 + 3, none⟩ = some (.int .i64 k1.f2.f1) ∧ W.cell? ⟨ad.block, ad.off + 5 + 4, none⟩ = some (.slice A5 k1.f3.length c5) ∧ Below W0.heap.size W0 W := fun W h => by
  obtain ⟨q0, q4, e0, e1, e2, e3, e4, g0, g1, g2, g3, g4⟩ := HQ.out
  exact ⟨(h.cell (World.block_lt_of_cell? W0 _ q0)).trans q0, (h.cell (World.block_lt_of_cell? W0 _ q4)).trans q4, (h.cell (World.block_lt_of_cell? W0 _ e0)).trans e0, (h.cell (World.block_lt_of_cell? W0 _ e1)).trans e1, (h.cell (World.block_lt_of_cell? W0 _ e2)).trans e2, (h.cell (World.block_lt_of_cell? W0 _ e3)).trans e3, (h.cell (World.block_lt_of_cell? W0 _ e4)).trans e4, (h.cell (World.block_lt_of_cell? W0 _ g0)).trans g0, (h.cell (World.block_lt_of_cell? W0 _ g1)).trans g1, (h.cell (World.block_lt_of_cell? W0 _ g2)).trans g2, (h.cell (World.block_lt_of_cell? W0 _ g3)).trans g3, (h.cell (World.block_lt_of_cell? W0 _ g4)).trans g4, h⟩
 have HH := Aside0.mk hold
 have HA := Aside0.mk (HC.out.2.2.2.2.2.2.1 g A4 c4 W0.drew (HC.out.2.1.below (below_drew (Below.refl _ W0))) (Kd.C_below HC.out.2.2.1 (below_drew (Below.refl _ W0))) HC.out.2.2.2.1)
 have hD : ∀ W, Below W0.heap.size W0 W → Calls Tryz.prog 49 #[.pointer (some ⟨g, 0, none⟩), .agg #[.int .i64 k1.f0, .int .i64 k1.f1, .int .i64 k1.f2.f0, .int .i64 k1.f2.f1, .slice A5 k1.f3.length c5]] W (RkPost bs k1 W) := fun W h => HC.out.2.2.2.2.2.2.2 g A5 c5 W (HC.out.2.1.below h) (Kd.C_below HC.out.2.2.2.2.1 h) HC.out.2.2.2.2.2.1
 have HD := Aside0.mk hD
 clear hold HQ hD
 go_region_held3 (fun W => W.cell? ⟨w.heap.size + 1, 0, none⟩ = some (.int .i64 e.f0) ∧ W.cell? ⟨w.heap.size + 1, 4, none⟩ = some (.slice (some ad) 2 c) ∧ W.cell? ad = some (.int .i64 k0.f0) ∧ W.cell? ⟨ad.block, ad.off + 1, none⟩ = some (.int .i64 k0.f1) ∧ W.cell? ⟨ad.block, ad.off + 2, none⟩ = some (.int .i64 k0.f2.f0) ∧ W.cell? ⟨ad.block, ad.off + 3, none⟩ = some (.int .i64 k0.f2.f1) ∧ W.cell? ⟨ad.block, ad.off + 4, none⟩ = some (.slice A4 k0.f3.length c4) ∧ W.cell? ⟨ad.block, ad.off + 5, none⟩ = some (.int .i64 k1.f0) ∧ W.cell? ⟨ad.block, ad.off + 5 + 1, none⟩ = some (.int .i64 k1.f1) ∧ W.cell? ⟨ad.block, ad.off + 5 + 2, none⟩ = some (.int .i64 k1.f2.f0) ∧ W.cell? ⟨ad.block, ad.off + 5 + 3, none⟩ = some (.int .i64 k1.f2.f1) ∧ W.cell? ⟨ad.block, ad.off + 5 + 4, none⟩ = some (.slice A5 k1.f3.length c5) ∧ Below W0.heap.size W0 W) (first | exact HH.out _ (below_drew (Below.refl _ _)) | exact HH.out _ HB1.out | exact HH.out _ HB2.out | exact HH.out _ HB3.out)
  (first
  | (go_at_call 49; (with_reducible refine HA.out.mono ?_); rintro en w1 ⟨rfl, hb1⟩; have HB1 : Aside0 (Below W0.heap.size W0 w1) := Aside0.mk ((below_drew (Below.refl _ W0)).trans hb1); clear hb1)
  | (go_at_call 49; (with_reducible refine (HD.out w1 HB1.out).mono ?_); rintro en w2 ⟨rfl, hb2⟩; have HB2 := Aside0.mk (HB1.out.trans (hb2.mono HB1.out.size)); clear hb2)
  | (go_at_call 146; refine (impl_two.calls _ _ _ _ w2 (two_some _ _ _)).mono ?_; rintro en w3 ⟨rfl, hb3⟩; have HB3 := Aside0.mk (HB2.out.trans (hb3.mono HB2.out.size)); clear hb3))
 go_wp2
 go_ret
 exact ⟨by rw [HV.out]; rfl, HC.out.1.trans (HB3.out.mono HC.out.1.size)⟩

structure OfIs (k : Int) (T fo : Nat) : Prop where
 v : kindV k = .iface T (.agg #[])
 mo : ∀ w, (method 299 T (.agg #[]) "loop.example/stopgate/impl.of").run Tryz.prog w = .ok (fo, .agg #[]) w
 eo : ∀ args w, (callFunc fo args).run Tryz.prog w = .ok (.enter fo args) w
set_option maxRecDepth 100000 in
set_option maxHeartbeats 4000000 in
theorem reckon_of (bs : List Int) (e : Ex) (T fo : Nat) (hO : OfIs e.f0 T fo) (co : Rk fo #[.agg #[]] bs e) : Rk 49 #[] bs e := by
 intro g A c w hm hC hc
 have k1 := heap_alloc_new w (.cells #[.int .i64 e.f0, .int .i64 e.f1, .int .i64 e.f2.f0, .int .i64 e.f2.f1, .slice A e.f3.length c] 27)
 have hB0 : Below w.heap.size w (w.alloc (.cells #[.int .i64 e.f0, .int .i64 e.f1, .int .i64 e.f2.f0, .int .i64 e.f2.f1, .slice A e.f3.length c] 27)) := (Below.refl _ _).alloc (Nat.le_refl _) _
 have hco := fun (W : World) (h : Below w.heap.size w W) => co g A c W (hm.below h) (Kd.C_below hC h) hc
 simp only [List.append_toArray, List.nil_append, List.cons_append] at hco
 have mo := hO.mo
 have eo := hO.eo
 have HV := Aside0.mk hO.v
 have HK := Aside0.mk (And.intro k1 hB0)
 have HC := Aside0.mk hco
 clear co hm hC hc k1 hB0 hco hO
 simp only [List.append_toArray, List.nil_append]
 go_enter Tryz.func49, Tryz.ntmps49
 go_wp2
 generalize w.alloc (.cells #[.int .i64 e.f0, .int .i64 e.f1, .int .i64 e.f2.f0, .int .i64 e.f2.f1, .slice A e.f3.length c] 27) = W0 at HK ⊢
 have hold : ∀ W, Below W0.heap.size W0 W → W.cell? ⟨w.heap.size, 0, none⟩ = some (.int .i64 e.f0) ∧ W.cell? ⟨w.heap.size, 1, none⟩ = some (.int .i64 e.f1) ∧ W.cell? ⟨w.heap.size, 2, none⟩ = some (.int .i64 e.f2.f0) ∧ W.cell? ⟨w.heap.size, 3, none⟩ = some (.int .i64 e.f2.f1) ∧ W.cell? ⟨w.heap.size, 4, none⟩ = some (.slice A e.f3.length c) ∧ Below W0.heap.size W0 W := fun W h => by
  have k1 := HK.out.1
  exact ⟨(h.cell (World.block_lt_of_cell? W0 _ ((blk_cell k1 0).trans rfl))).trans ((blk_cell k1 0).trans rfl), (h.cell (World.block_lt_of_cell? W0 _ ((blk_cell k1 1).trans rfl))).trans ((blk_cell k1 1).trans rfl), (h.cell (World.block_lt_of_cell? W0 _ ((blk_cell k1 2).trans rfl))).trans ((blk_cell k1 2).trans rfl), (h.cell (World.block_lt_of_cell? W0 _ ((blk_cell k1 3).trans rfl))).trans ((blk_cell k1 3).trans rfl), (h.cell (World.block_lt_of_cell? W0 _ ((blk_cell k1 4).trans rfl))).trans ((blk_cell k1 4).trans rfl), h⟩
 have HH := Aside0.mk hold
 clear hold
 go_region_held3 (fun W => W.cell? ⟨w.heap.size, 0, none⟩ = some (.int .i64 e.f0) ∧ W.cell? ⟨w.heap.size, 1, none⟩ = some (.int .i64 e.f1) ∧ W.cell? ⟨w.heap.size, 2, none⟩ = some (.int .i64 e.f2.f0) ∧ W.cell? ⟨w.heap.size, 3, none⟩ = some (.int .i64 e.f2.f1) ∧ W.cell? ⟨w.heap.size, 4, none⟩ = some (.slice A e.f3.length c) ∧ Below W0.heap.size W0 W) (first | exact HH.out _ (below_drew (Below.refl _ _)) | exact HH.out _ HB2.out)
  (first
  | (go_at_call 81; (with_reducible refine (reckoningOf_calls _ _).mono ?_); rintro en w1 ⟨rfl, rfl⟩; rw [HV.out])
  | ((with_reducible refine (HC.out _ (HK.out.2.trans ((below_drew (Below.refl _ W0)).mono HK.out.2.size))).mono ?_); rintro en w2 ⟨rfl, hb2⟩; have HB2 : Aside0 (Below W0.heap.size W0 w2) := Aside0.mk ((below_drew (Below.refl _ W0)).trans hb2); clear hb2))
 go_wp2
 go_ret
 exact ⟨rfl, HK.out.2.trans (HB2.out.mono HK.out.2.size)⟩

theorem reckon_any (bs : List Int) (d : Nat) : ∀ e : Ex, formS d e = true → Rk 49 #[] bs e := by
 induction d with
 | zero => intro e h; cases h
 | succ d ih =>
  intro e h
  rw [formS, Bool.and_eq_true] at h
  have hkids : ∀ x ∈ e.f3, Rk 49 #[] bs x := fun x hx => ih x (List.all_eq_true.1 h.2 x hx)
  have hh := h.1
  unfold headOk at hh
  simp only [Bool.and_eq_true, beq_iff_eq] at hh
  obtain ⟨⟨hk, hl⟩, hs⟩ := hh
  have hk' : 1 ≤ e.f0 ∧ e.f0 ≤ 10 := of_decide_eq_true hk
  by_cases h1 : e.f0 = 1
  ·exact reckon_of bs e _ _ ⟨by rw [h1]; rfl, meth_of1, enters_of Tryz.func135 (by kernel_rfl) rfl⟩ (of1 bs e h1)
  ·by_cases h2 : e.f0 = 2
   ·exact reckon_of bs e _ _ ⟨by rw [h2]; rfl, meth_of2, enters_of Tryz.func139 (by kernel_rfl) rfl⟩ (of2 bs e h2)
   ·by_cases h10 : e.f0 = 10
    ·have hl' : e.f3.length = 1 := by
      rw [kidsN, if_neg (by omega), if_neg (by omega)] at hl; omega
     exact reckon_of bs e _ _ ⟨by rw [h10]; rfl, meth_of4, enters_of Tryz.func153 (by kernel_rfl) rfl⟩ (of4 bs e h10 hl' hkids)
    ·have h39 : 3 ≤ e.f0 ∧ e.f0 ≤ 9 := by omega
     have hl' : e.f3.length = 2 := by
      rw [kidsN, if_neg (by omega), if_pos h39] at hl; omega
     exact reckon_of bs e _ _ ⟨by simp [kindV, h1, h2, h39], meth_of3, enters_of Tryz.func143 (by kernel_rfl) rfl⟩ (of3 bs e h39 hl' hkids)
end Go.Proofs.YtendbgedpjcocaaGreatDoor.B
/- Plain law: the specification's own reckoning of ExprOk ends, and says so. -/
namespace Go.Proofs.YtendbgedpjcocaaGreatDoor.B
open Go.RowKit Go.Proofs.YtendbgedpjcocaaGreatDoorW.PrintWords Go.Proofs.YtendbgedpjcocaaGreatDoorW.PrintLast Go.Proofs.YtendbgedpjcocaaGreatDoorW.PrintMore
set_option linter.unusedVariables false

theorem up_le {α : Type} {f : Nat → Option α} (h : ∀ k, LeO (f k) (f (k + 1))) {k k' : Nat} (hk : k ≤ k') {r : α} (hr : f k = some r) : f k' = some r := by
 induction hk with
 | refl => exact hr
 | step _ ih => exact h _ _ ih
theorem rd_get (l : List Ex) (j : Nat) (h : j < l.length) : rd_T27 l (j : Int) = l[j] := by simp [rd_T27, h]
theorem wrap_small {n : Int} (h0 : -9223372036854775808 ≤ n) (h1 : n ≤ 9223372036854775807) : wrap64 n = n := by
 unfold wrap64
 omega
theorem numCut_is (n : Int) : spec_NumCut.f n = some (if n < -1000000 then -1000000 else if 1000000 < n then 1000000 else n) := by
 unfold spec_NumCut.f spec_l1Min.f spec_l1Max.f
 by_cases h1 : n < -1000000
 ·have : ¬ (1000000 : Int) < n := by omega
  simp [h1, this]
 ·by_cases h2 : (1000000 : Int) < n
  ·simp [h1, h2]
  ·have h3 : n > -1000000 ∨ n = -1000000 := by omega
   rcases h3 with h3 | h3
   ·simp [h1, h2]
   ·subst h3; simp
theorem addrOk_is (a b : Int) : spec_AddrOk.f a b = some (addrOkL a b) := by
 unfold spec_AddrOk.f addrOkL
 by_cases h : 1 ≤ a <;> by_cases h' : a ≤ 3 <;> by_cases h'' : 0 ≤ b <;> simp [h, h', h'']
theorem l3Kids_is (k : Nat) (n : Int) : spec_l3Kids.f (k + 1) n = some (if kindOk n then kidsN n else -1) := by
 unfold spec_l3Kids.f spec_l3Kids.j0 kindOk kidsN
 by_cases h1 : n = 1
 ·simp [h1]
 ·by_cases h2 : n = 2
  ·simp [h2]
  ·by_cases h10 : n = 10
   ·simp [h10]
   ·by_cases h3 : 3 ≤ n
    ·by_cases h9 : n ≤ 9
     ·have : 1 ≤ n ∧ n ≤ 10 := by omega
      simp [h1, h2, h10, h3, h9, this]
     ·have : ¬ (1 ≤ n ∧ n ≤ 10) := by omega
      simp [h1, h2, h10, h3, h9, this]
    ·have : ¬ (1 ≤ n ∧ n ≤ 10) := by omega
     simp [h1, h2, h10, h3, this]
theorem form_step (k : Nat) (d : Nat) (e : Ex) : spec_l3Form.f (k + 4) e.f0 e.f1 e.f2.f0 e.f2.f1 e.f3 ((d : Int) + 1) =
  if headOk e then spec_l3Form.l0 k ((d : Int) + 1) 0 e.f0 e.f1 e.f2.f0 e.f2.f1 e.f3 else some false := by
 rw [spec_l3Form.f, if_neg (by omega), l3Kids_is (k + 2)]
 simp only [Option.bind_some, spec_l3Form.j0, spec_l3Form.j1, spec_l3Form.j2, numCut_is, addrOk_is]
 unfold headOk shapeL isNumL
 cases hk : kindOk e.f0 with
 | false =>
  have : ((-1 : Int) != (e.f3.length : Int)) = true := by rw [bne_iff_ne]; omega
  simp [this]
 | true =>
  by_cases hl : (e.f3.length : Int) = kidsN e.f0
  ·rw [← hl]
   simp only [if_true, bne_self_eq_false, Bool.false_eq_true, if_false, beq_self_eq_true, Bool.true_and]
   by_cases h1 : e.f0 = 1
   ·have h12 : ¬ (1 : Int) = 2 := by omega
    simp only [h1, if_true, h12, if_false]
    by_cases c1 : e.f1 < -1000000
    ·have q1 : ¬ (-1000000 : Int) = e.f1 := by omega
     have q2 : ¬ (-1000000 ≤ e.f1 ∧ e.f1 ≤ 1000000) := by omega
     simp [c1, q1, q2]
    ·by_cases c2 : 1000000 < e.f1
     ·have q1 : ¬ (1000000 : Int) = e.f1 := by omega
      have q2 : ¬ (-1000000 ≤ e.f1 ∧ e.f1 ≤ 1000000) := by omega
      simp [c1, c2, q1, q2]
     ·have q2 : (-1000000 ≤ e.f1 ∧ e.f1 ≤ 1000000) := by omega
      by_cases z1 : e.f2.f0 = 0 <;> by_cases z2 : e.f2.f1 = 0 <;> simp [c1, c2, q2, z1, z2]
   ·by_cases h2 : e.f0 = 2
    ·have h12 : ¬ (2 : Int) = 1 := by omega
     simp only [h2, if_true, h12, if_false]
     by_cases z1 : e.f1 = 0 <;> cases z2 : addrOkL e.f2.f0 e.f2.f1 <;> simp [z1]
    ·simp only [h1, h2, if_false]
     by_cases z : e.f1 = 0 <;> by_cases z1 : e.f2.f0 = 0 <;> by_cases z2 : e.f2.f1 = 0 <;> simp [z, z1, z2]
  ·have h1 : (kidsN e.f0 != (e.f3.length : Int)) = true := by rw [bne_iff_ne]; exact fun h => hl h.symm
   have h2 : ((e.f3.length : Int) == kidsN e.f0) = false := by rw [beq_eq_false_iff_ne]; exact hl
   simp [h1, h2]
theorem mono_f (a b c d : Int) (l : List Ex) (n : Int) : ∀ k, LeO (spec_l3Form.f k a b c d l n) (spec_l3Form.f (k + 1) a b c d l n) := fun k => (spec_l3Form.mono_l k).1 a b c d l n
theorem mono_l0 (x i a b c d : Int) (l : List Ex) : ∀ k, LeO (spec_l3Form.l0 k x i a b c d l) (spec_l3Form.l0 (k + 1) x i a b c d l) := fun k => (spec_l3Form.mono_l k).2.2.2.2 x i a b c d l
theorem form_loop (d : Nat) (hd : d < 100) (a b c c' : Int) (l : List Ex) (hl : l.length < 9223372036854775807) (ih : ∀ x ∈ l, ∃ k, spec_l3Form.f k x.f0 x.f1 x.f2.f0 x.f2.f1 x.f3 d = some (formS d x)) :
  ∀ (n j : Nat), n + j = l.length → ∃ k, spec_l3Form.l0 k ((d : Int) + 1) j a b c c' l = some ((l.drop j).all (formS d)) := by
 intro n
 induction n with
 | zero =>
  intro j hj
  refine ⟨1, ?_⟩
  rw [spec_l3Form.l0, if_neg (by omega), List.drop_eq_nil_of_le (by omega)]; rfl
 | succ n ihn =>
  intro j hj
  have hlt : j < l.length := by omega
  obtain ⟨k1, h1⟩ := ih l[j] (List.getElem_mem hlt)
  obtain ⟨k2, h2⟩ := ihn (j + 1) (by omega)
  refine ⟨k1 + k2 + 1, ?_⟩
  rw [spec_l3Form.l0, if_pos (by omega), if_pos (by omega), rd_get l j hlt, wrap_small (by omega) (by omega), wrap_small (by omega) (by omega), show (d : Int) + 1 - 1 = d by omega, up_le (mono_f _ _ _ _ _ _) (Nat.le_add_right k1 k2) h1, Option.bind_some, List.drop_eq_getElem_cons hlt, List.all_cons]
  cases formS d l[j] with
  | false => simp
  | true => simpa using up_le (mono_l0 _ _ _ _ _ _ _) (Nat.le_add_left k2 k1) h2
/-- The lists within are short enough to be counted. -/
inductive Short : Ex → Prop
 | mk (e : Ex) : e.f3.length < 9223372036854775807 → (∀ x ∈ e.f3, Short x) → Short e
theorem form_spec (d : Nat) : d < 100 → ∀ e : Ex, Short e → ∃ k, spec_l3Form.f k e.f0 e.f1 e.f2.f0 e.f2.f1 e.f3 d = some (formS d e) := by
 induction d with
 | zero => intro _ e _; exact ⟨2, by rw [spec_l3Form.f, if_pos (by omega), spec_l3Form.j0, if_pos rfl]; rfl⟩
 | succ d ih =>
  intro hd e he
  cases he with
  | mk _ hlen hk =>
  obtain ⟨k, h⟩ := form_loop d (by omega) e.f0 e.f1 e.f2.f0 e.f2.f1 e.f3 hlen (fun x hx => ih (by omega) x (hk x hx)) e.f3.length 0 (by omega)
  refine ⟨k + 4, ?_⟩
  have := form_step k d e
  rw [show (((d + 1 : Nat)) : Int) = (d : Int) + 1 by omega, this, formS]
  cases headOk e with
  | false => simp
  | true => simpa using h

theorem mono_m (a b c d : Int) (l : List Ex) (n : Int) : ∀ k, LeO (spec_l3Many.f k a b c d l n) (spec_l3Many.f (k + 1) a b c d l n) := fun k => (spec_l3Many.mono_l k).1 a b c d l n
theorem mono_m0 (x i j a b c d : Int) (l : List Ex) : ∀ k, LeO (spec_l3Many.l0 k x i j a b c d l) (spec_l3Many.l0 (k + 1) x i j a b c d l) := fun k => (spec_l3Many.mono_l k).2 x i j a b c d l
theorem kidsN_le (k : Int) : kidsN k ≤ 2 := by
 unfold kidsN; split
 ·omega
 ·split <;> omega
theorem sum_two (f : Ex → Nat) (b : Nat) (l : List Ex) (h : ∀ x ∈ l, f x ≤ b) : (l.map f).sum ≤ l.length * b := by
 induction l with
 | nil => simp
 | cons x l ih =>
  have h1 := h x (by simp)
  have h2 := ih (fun y hy => h y (by simp [hy]))
  simp [Nat.add_mul]; omega
theorem manyS_le (d : Nat) : ∀ e : Ex, formS d e = true → manyS d e + 1 ≤ 2 ^ d := by
 induction d with
 | zero => intro e h; cases h
 | succ d ih =>
  intro e h
  rw [formS, Bool.and_eq_true] at h
  have hl : e.f3.length ≤ 2 := by
   have h1 := h.1
   unfold headOk at h1
   simp only [Bool.and_eq_true, beq_iff_eq] at h1
   have := kidsN_le e.f0
   omega
  have hs := sum_two (manyS d) (2 ^ d - 1) e.f3 (fun x hx => by have := ih x (List.all_eq_true.1 h.2 x hx); omega)
  have : e.f3.length * (2 ^ d - 1) ≤ 2 * (2 ^ d - 1) := Nat.mul_le_mul_right _ hl
  have hp : 1 ≤ 2 ^ d := Nat.one_le_two_pow
  rw [manyS, Nat.pow_succ]
  omega
theorem many_loop (d : Nat) (hd : d < 40) (a b c c' : Int) (l : List Ex) (hl : l.length < 9223372036854775807) (hb : ∀ x ∈ l, manyS d x ≤ 1099511627776) (ih : ∀ x ∈ l, ∃ k, spec_l3Many.f k x.f0 x.f1 x.f2.f0 x.f2.f1 x.f3 d = some (manyS d x : Int)) :
  ∀ (n j acc : Nat), n + j = l.length → acc + ((l.drop j).map (manyS d)).sum ≤ 4611686018427387904 → ∃ k, spec_l3Many.l0 k ((d : Int) + 1) acc j a b c c' l = some ((acc + ((l.drop j).map (manyS d)).sum : Nat) : Int) := by
 intro n
 induction n with
 | zero =>
  intro j acc hj _
  refine ⟨1, ?_⟩
  rw [spec_l3Many.l0, if_neg (by omega), List.drop_eq_nil_of_le (by omega)]; simp
 | succ n ihn =>
  intro j acc hj hacc
  have hlt : j < l.length := by omega
  obtain ⟨k1, h1⟩ := ih l[j] (List.getElem_mem hlt)
  rw [List.drop_eq_getElem_cons hlt, List.map_cons, List.sum_cons, ← Nat.add_assoc] at hacc
  obtain ⟨k2, h2⟩ := ihn (j + 1) (acc + manyS d l[j]) (by omega) hacc
  refine ⟨k1 + k2 + 1, ?_⟩
  rw [spec_l3Many.l0, if_pos (by omega), if_pos (by omega), if_pos (by omega), rd_get l j hlt, wrap_small (n := (d : Int) + 1 - 1) (by omega) (by omega), wrap_small (n := (j : Int) + 1) (by omega) (by omega), show (d : Int) + 1 - 1 = d by omega, up_le (mono_m _ _ _ _ _ _) (Nat.le_add_right k1 k2) h1, Option.bind_some, List.drop_eq_getElem_cons hlt, List.map_cons, List.sum_cons, ← Nat.add_assoc]
  rw [wrap_small (by omega) (by omega)]
  have := up_le (mono_m0 _ _ _ _ _ _ _ _) (Nat.le_add_left k2 k1) h2
  simpa using this
theorem many_spec (d : Nat) : d < 40 → ∀ e : Ex, Short e → formS d e = true → ∃ k, spec_l3Many.f k e.f0 e.f1 e.f2.f0 e.f2.f1 e.f3 d = some (manyS d e : Int) := by
 induction d with
 | zero => intro _ e _ h; cases h
 | succ d ih =>
  intro hd e he hf
  have hle := manyS_le (d + 1) e hf
  have hpow : 2 ^ (d + 1) ≤ 1099511627776 := Nat.le_trans (Nat.pow_le_pow_right (by omega) (show d + 1 ≤ 40 by omega)) (by decide)
  have hf' := hf
  rw [formS, Bool.and_eq_true] at hf'
  cases he with
  | mk _ hlen hk =>
  have hpow' : 2 ^ d ≤ 1099511627776 := Nat.le_trans (Nat.pow_le_pow_right (by omega) (show d ≤ 40 by omega)) (by decide)
  obtain ⟨k, h⟩ := many_loop d (by omega) e.f0 e.f1 e.f2.f0 e.f2.f1 e.f3 hlen (fun x hx => by have := manyS_le d x (List.all_eq_true.1 hf'.2 x hx); omega) (fun x hx => ih (by omega) x (hk x hx) (List.all_eq_true.1 hf'.2 x hx)) e.f3.length 0 1 (by omega) (by rw [manyS] at hle; simp only [List.drop_zero]; omega)
  refine ⟨k + 1, ?_⟩
  rw [show (((d + 1 : Nat)) : Int) = (d : Int) + 1 by omega, spec_l3Many.f, manyS]
  simpa using h
theorem exprOk_spec (e : Ex) (he : Short e) : ∃ k, spec_ExprOk.f k e.f0 e.f1 e.f2.f0 e.f2.f1 e.f3 = some (formS 6 e && decide (manyS 6 e ≤ 14)) := by
 obtain ⟨k1, h1⟩ := form_spec 6 (by omega) e he
 cases hf : formS 6 e with
 | false =>
  refine ⟨k1, ?_⟩
  rw [hf] at h1
  unfold spec_ExprOk.f
  have h1' : spec_l3Form.f k1 e.f0 e.f1 e.f2.f0 e.f2.f1 e.f3 6 = some false := h1
  rw [h1']; simp
 | true =>
  obtain ⟨k2, h2⟩ := many_spec 6 (by omega) e he hf
  rw [hf] at h1
  have h1' : spec_l3Form.f (k1 + k2) e.f0 e.f1 e.f2.f0 e.f2.f1 e.f3 6 = some true := up_le (mono_f _ _ _ _ _ _) (Nat.le_add_right k1 k2) h1
  have h2' : spec_l3Many.f (k1 + k2) e.f0 e.f1 e.f2.f0 e.f2.f1 e.f3 6 = some (manyS 6 e : Int) := up_le (mono_m _ _ _ _ _ _) (Nat.le_add_left k2 k1) h2
  refine ⟨k1 + k2, ?_⟩
  unfold spec_ExprOk.f
  rw [h1']
  simp only [Option.bind_some, if_true, h2', Bool.true_and]
  by_cases h14 : manyS 6 e ≤ 14
  ·rw [decide_eq_true h14, decide_eq_true (by omega)]
  ·rw [decide_eq_false h14, decide_eq_false (by omega)]
end Go.Proofs.YtendbgedpjcocaaGreatDoor.B
/- slices.ContainsFunc over whole numbers, with readMem's own function. -/
namespace Go.Proofs.YtendbgedpjcocaaGreatDoor.B
open Go.RowKit Go.Proofs.YtendbgedpjcocaaGreatDoorW.PrintWords Go.Proofs.YtendbgedpjcocaaGreatDoorW.PrintLast Go.Proofs.YtendbgedpjcocaaGreatDoorW.PrintMore
set_option linter.unusedVariables false
set_option maxRecDepth 100000 in
theorem notNum_any (n : Int) (w : World) : Calls Tryz.prog 65 #[.int .i64 n] w fun e w' => e = .returned (.bool (!isNumL n)) ∧ Below w.heap.size w w' := by
 have HB := Aside0.mk (Below.refl w.heap.size w)
 go_enter Tryz.func65, Tryz.ntmps65
 go_wp2_with fail
 refine (isNum_any _ _).mono ?_
 rintro e w1 ⟨rfl, n1, rfl⟩
 go_wp2
 go_ret
 exact ⟨rfl, by repeat (first | (with_reducible first | exact HB.out | apply below_alloc | apply pw_below_drewN | apply below_drew1) | exact HB.out)⟩

theorem int_at {w : World} {A : Option Addr} {l : List Int} (h : Kd.C (Kd.int .i64) w A l.length l) (j : Nat) (hj : j < l.length) : ∃ ad, A = some ad ∧ w.cell? (ad.add j) = some (.int .i64 l[j]) := by
 obtain ⟨ad, cs, e, hg, hK, hc⟩ := Kd.C_get h 0 (j : Int) (by omega) (by omega)
 have hcs : cs = [.int .i64 (l.getD (j : Int).toNat 0)] := by
  first | exact hK | (obtain ⟨n, rfl⟩ := hK; rfl) | (obtain rfl := hK; rfl)
 refine ⟨ad, e, ?_⟩
 have := hc 0 _ (by rw [hcs]; rfl)
 simpa [hj, show (Kd.int .i64).sz = 1 from rfl] using this
def Pr (f : Nat) (p : Int → Bool) : Prop := ∀ (n : Int) (w : World), Calls Tryz.prog f #[.int .i64 n] w fun e w' => e = .returned (.bool (p n)) ∧ Below w.heap.size w w'
set_option maxRecDepth 100000 in
set_option maxHeartbeats 2000000 in
theorem indexFunc_any (f : Nat) (p : Int → Bool) (hf : Pr f p) (he : ∀ args w, (callFunc f args).run Tryz.prog w = .ok (.enter f args) w) (l : List Int) (A : Option Addr) (c : Nat) (w : World) (hC : Kd.C (Kd.int .i64) w A l.length l) (hc : l.length ≤ c) :
  Calls Tryz.prog 92 #[.slice A l.length c, .func (.func f) #[] #[]] w fun e w' => (∃ r : Int, decide (0 ≤ r) = l.any p ∧ e = .returned (.int .i64 r)) ∧ Below w.heap.size w w' := by
 have hmax : l.length ≤ 9223372036854775807 := hC.2.1
 go_enter Tryz.func92, Tryz.ntmps92
 go_wp2
 go_loopw [5, 8] (fun _ i wr => ∃ (j : Nat), i = .int .i64 j ∧ Aside0 (j ≤ l.length ∧ (l.take j).any p = false ∧ Below w.heap.size w wr)) (fun _ i _ => l.length - (intOf i).toNat)
 case atStart => exact ⟨0, rfl, ⟨Nat.zero_le _, by simp, Below.refl _ _⟩⟩
 case round =>
  obtain ⟨j, rfl, HR⟩ := hrel
  by_cases hj : j < l.length
  ·obtain ⟨ad, hA, e0⟩ := int_at hC j hj
   cases hA
   have hb := HR.out.2.2
   replace e0 := (hb.cell (World.block_lt_of_cell? w _ e0)).trans e0
   obtain ⟨x, hx⟩ : ∃ x, x = l[j] := ⟨_, rfl⟩
   rw [← hx] at e0
   have HX := Aside0.mk (And.intro hx hmax)
   have HJ := Aside0.mk hj
   have HC := Aside0.mk (hf x wr)
   clear hb hx hf
   go_wp2_with fail
   refine HC.out.mono ?_
   clear HC
   rintro e w1 ⟨rfl, hb1⟩
   have HB := Aside0.mk (HR.out.2.2.trans (hb1.mono HR.out.2.2.size))
   clear hb1
   cases hp : p x with
   | true =>
    have HP := Aside0.mk hp; clear hp
    go_wp2
    go_ret
    refine ⟨⟨j, ?_, rfl⟩, HB.out⟩
    have : l.any p = true := List.any_eq_true.2 ⟨l[j], List.getElem_mem HJ.out, by rw [← HX.out.1]; exact HP.out⟩
    rw [this]; simp
   | false =>
    have HP := Aside0.mk hp; clear hp
    go_wp2
    go_roundw
    case rel => exact ⟨j + 1, by go_num, ⟨HJ.out, by rw [List.take_succ_eq_append_getElem HJ.out, List.any_append, HR.out.2.1]; simp [← HX.out.1, HP.out], HB.out⟩⟩
    case measure => have := HJ.out; simp [intOf]; omega
  ·have hjl : j = l.length := by have := HR.out.1; omega
   have hn := HR.out.2.1
   rw [hjl, List.take_of_length_le (Nat.le_refl _)] at hn
   have HN := Aside0.mk hn; clear hn hjl
   go_wp2
   go_ret
   exact ⟨⟨-1, by rw [HN.out]; rfl, rfl⟩, HR.out.2.2⟩
set_option maxRecDepth 100000 in
theorem containsFunc_any (f : Nat) (p : Int → Bool) (hf : Pr f p) (he : ∀ args w, (callFunc f args).run Tryz.prog w = .ok (.enter f args) w) (l : List Int) (A : Option Addr) (c : Nat) (w : World) (hC : Kd.C (Kd.int .i64) w A l.length l) (hc : l.length ≤ c) :
  Calls Tryz.prog 64 #[.slice A l.length c, .func (.func f) #[] #[]] w fun e w' => e = .returned (.bool (l.any p)) ∧ Below w.heap.size w w' := by
 have HC := Aside0.mk (indexFunc_any f p hf he l A c w hC hc)
 clear hC hc hf
 go_enter Tryz.func64, Tryz.ntmps64
 go_wp2_with fail
 refine HC.out.mono ?_
 clear HC
 rintro e w1 ⟨⟨r, hr, rfl⟩, hb1⟩
 have HB := Aside0.mk (And.intro hr hb1)
 clear hr hb1
 go_wp2
 go_ret
 exact ⟨by rw [← HB.out.1]; rfl, HB.out.2⟩
end Go.Proofs.YtendbgedpjcocaaGreatDoor.B
