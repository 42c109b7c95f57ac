import Derived.Test.YtendbgedpjcocaaGreatDoorJnB
import Derived.Deep.RegionHeld3
import Derived.RangeFuncBox
import Derived.Test.YtendbgedpjcocaaGreatDoorB0
import Derived.Test.YtendbgedpjcocaaGreatDoorPkB
import Derived.Test.YtendbgedpjcocaaGreatDoorSq
/- impl.reckon: what something that is ok comes to. -/
namespace Go.Proofs.YtendbgedpjcocaaGreatDoor.B
open Go.RowKit Go.Proofs.YtendbgedpjcocaaGreatDoorW.PrintWords Go.Proofs.YtendbgedpjcocaaGreatDoorW.PrintLast Go.Proofs.YtendbgedpjcocaaGreatDoorW.PrintMore
set_option linter.unusedVariables false

theorem meth_of1 : ∀ w, (method 299 138 (.agg #[]) "loop.example/stopgate/impl.of").run Tryz.prog w = .ok (135, .agg #[]) w := fun _ => by kernel_rfl
theorem meth_of2 : ∀ w, (method 299 139 (.agg #[]) "loop.example/stopgate/impl.of").run Tryz.prog w = .ok (139, .agg #[]) w := fun _ => by kernel_rfl
theorem meth_of3 : ∀ w, (method 299 140 (.agg #[]) "loop.example/stopgate/impl.of").run Tryz.prog w = .ok (143, .agg #[]) w := fun _ => by kernel_rfl
theorem meth_of4 : ∀ w, (method 299 141 (.agg #[]) "loop.example/stopgate/impl.of").run Tryz.prog w = .ok (153, .agg #[]) w := fun _ => by kernel_rfl

theorem two_blocks' (w : World) (a b : Obj) : ((w.alloc a).alloc b).heap.size = w.heap.size + 1 + 1 ∧ ((w.alloc a).alloc b).heap[w.heap.size]? = some a ∧ ((w.alloc a).alloc b).heap[w.heap.size + 1]? = some b ∧ Below w.heap.size w ((w.alloc a).alloc b) := by
 have s1 : (w.alloc a).heap.size = w.heap.size + 1 := by simp
 have s2 : ((w.alloc a).alloc b).heap.size = w.heap.size + 1 + 1 := by simp
 refine ⟨s2, ?_, ?_, ((Below.refl w.heap.size w).alloc (Nat.le_refl _) _).alloc (by omega) _⟩
 ·rw [Below.heap_alloc _ _ _ (by omega)]; exact heap_alloc_new w a
 ·rw [← s1]; exact heap_alloc_new _ b
theorem two_of_len : ∀ (l : List Ex) (h : l.length = 2), l = [l[0], l[1]]
 | [a, b], _ => rfl
/-- The cells of one of the parts within. -/
theorem kid_at {w : World} {A : Option Addr} {l : List Ex} (h : Kd.C exK w A l.length l) (j : Nat) (hj : j < l.length) : ∃ ad A4 c4, A = some ad ∧ w.cell? (ad.add (j * 5)) = some (.int .i64 l[j].f0) ∧ w.cell? ⟨(ad.add (j * 5)).block, (ad.add (j * 5)).off + 1, none⟩ = some (.int .i64 l[j].f1) ∧
  w.cell? ⟨(ad.add (j * 5)).block, (ad.add (j * 5)).off + 2, none⟩ = some (.int .i64 l[j].f2.f0) ∧ w.cell? ⟨(ad.add (j * 5)).block, (ad.add (j * 5)).off + 3, none⟩ = some (.int .i64 l[j].f2.f1) ∧ w.cell? ⟨(ad.add (j * 5)).block, (ad.add (j * 5)).off + 4, none⟩ = some (.slice A4 l[j].f3.length c4) ∧ l[j].f3.length ≤ c4 ∧ Kd.C exK w A4 l[j].f3.length l[j].f3 := by
 obtain ⟨ad, A4, c4, hA, e0, e1, e2, e3, e4, hl4, hi4⟩ := at_T27 h (j : Int) (by omega) (by omega)
 have hkid : rd_T27 l (j : Int) = l[j] := by simp [rd_T27, hj]
 rw [hkid] at e0 e1 e2 e3 e4 hl4 hi4
 simp only [Int.toNat_natCast] at e0 e1 e2 e3 e4
 exact ⟨ad, A4, c4, hA, e0, e1, e2, e3, e4, hl4, hi4⟩
theorem numIs_any (b : Bool) (w : World) : Calls Tryz.prog 150 #[.bool b] w fun e w' => e = .returned (.int .i64 (if b then 1 else 0)) ∧ Below w.heap.size w w' :=
 (impl_NumIs.calls b _ w (by unfold impl_NumIs.f; cases b <;> rfl)).mono fun e w' h => ⟨h.1, h.2.below⟩
theorem numOn_any (n : Int) (w : World) : Calls Tryz.prog 22 #[.int .i64 n] w fun e w' => e = .returned (.bool (n != 0)) ∧ Below w.heap.size w w' :=
 (impl_NumOn.calls n _ w rfl).mono fun e w' h => ⟨h.1, h.2.below⟩
/-- What reckon answers of e. -/
def RkPost (bs : List Int) (e : Ex) (w : World) (en : Ending) (w' : World) : Prop := en = .returned (.int .i64 (evalI bs e)) ∧ Below w.heap.size w w'
def Rk (f : Nat) (pre : Array Value) (bs : List Int) (e : Ex) : Prop := ∀ (g : Nat) (A : Option Addr) (c : Nat) (w : World), MemAt w g bs → Kd.C exK w A e.f3.length e.f3 → e.f3.length ≤ c →
 Calls Tryz.prog f (pre ++ #[.pointer (some ⟨g, 0, none⟩), .agg #[.int .i64 e.f0, .int .i64 e.f1, .int .i64 e.f2.f0, .int .i64 e.f2.f1, .slice A e.f3.length c]]) w (RkPost bs e w)

set_option maxRecDepth 100000 in
theorem of1 (bs : List Int) (e : Ex) (h1 : e.f0 = 1) : Rk 135 #[.agg #[]] bs e := by
 intro g A c w hm hC hc
 have HV := Aside0.mk (show evalI bs e = e.f1 by rw [evalI_eq, if_pos h1])
 have HB := Aside0.mk (Below.refl w.heap.size w)
 clear hm hC hc h1
 simp only [List.append_toArray, List.nil_append, List.cons_append]
 go_enter Tryz.func135, Tryz.ntmps135
 go_wp2
 go_ret
 exact ⟨by rw [HV.out]; rfl, by repeat (first | (with_reducible first | exact HB.out | apply below_alloc | apply pw_below_drewN | apply below_drew1) | exact HB.out)⟩
set_option maxRecDepth 100000 in
theorem of2 (bs : List Int) (e : Ex) (h2 : e.f0 = 2) : Rk 139 #[.agg #[]] bs e := by
 intro g A c w hm hC hc
 have HV := Aside0.mk (show evalI bs e = getL bs e.f2.f0 e.f2.f1 by rw [evalI_eq, if_neg (by omega), if_pos h2])
 have HM := Aside0.mk hm
 have HB := Aside0.mk (Below.refl w.heap.size w)
 clear hm hC hc h2
 simp only [List.append_toArray, List.nil_append, List.cons_append]
 go_enter Tryz.func139, Tryz.ntmps139
 go_wp2_with fail
 obtain ⟨hs, k1, k2, hB0⟩ := two_blocks' w (.cells #[] 139 (0, 0)) (.cells #[.int .i64 e.f0, .int .i64 e.f1, .int .i64 e.f2.f0, .int .i64 e.f2.f1, .slice A e.f3.length c] 27 (0, 0))
 refine (get_any g bs _ _ _ (HM.out.below hB0)).mono ?_
 rintro en w1 ⟨rfl, hb1⟩
 have HB1 := Aside0.mk (hB0.trans (hb1.mono hB0.size))
 clear hb1 hB0 hs k1 k2
 go_wp2
 go_ret
 exact ⟨by rw [HV.out]; rfl, HB1.out⟩
set_option maxRecDepth 100000 in
set_option maxHeartbeats 4000000 in
theorem of4 (bs : List Int) (e : Ex) (h10 : e.f0 = 10) (hl : e.f3.length = 1) (ih : ∀ x ∈ e.f3, Rk 49 #[] bs x) : Rk 153 #[.agg #[]] bs e := by
 intro g A c w hm hC hc
 have hC0 := hC
 rw [hl] at hc ⊢
 obtain ⟨hs, k1, k2, hB0⟩ := two_blocks' w (.cells #[] 141 (0, 0)) (.cells #[.int .i64 e.f0, .int .i64 e.f1, .int .i64 e.f2.f0, .int .i64 e.f2.f1, .slice A 1 c] 27 (0, 0))
 obtain ⟨ad, A4, c4, rfl, e0, e1, e2, e3, e4, hl4, hi4⟩ := kid_at (Kd.C_below hC hB0) 0 (by omega)
 have hcall := ih e.f3[0] (List.getElem_mem (by omega)) g A4 c4 _ (hm.below hB0) hi4 hl4
 obtain ⟨kid, hkd⟩ : ∃ kid, kid = e.f3[0] := ⟨_, rfl⟩
 rw [← hkd] at e0 e1 e2 e3 e4 hl4 hi4 hcall
 have HV := Aside0.mk (show evalI bs e = if evalI bs kid = 0 then 1 else 0 by
  have : e.f3 = [kid] := by
   rw [hkd]; exact List.ext_getElem (by simp [hl]) (fun i h1 h2 => by simp at h2; subst h2; rfl)
  rw [evalI_eq, if_neg (by omega), if_neg (by omega), if_pos h10, this]; rfl)
 simp only [List.append_toArray, List.nil_append] at hcall
 have HC := Aside0.mk hcall
 have HB0 := Aside0.mk hB0
 clear ih hcall hm hC hC0 hkd hl4 hi4 hB0 k1 k2 hs hl h10
 simp only [Nat.zero_mul, show ad.add 0 = ad by simp [Addr.add]] at e0 e1 e2 e3 e4
 simp only [List.append_toArray, List.nil_append, List.cons_append]
 go_enter Tryz.func153, Tryz.ntmps153
 go_wp2_with fail
 refine HC.out.mono ?_
 clear HC
 rintro en w1 ⟨rfl, hb1⟩
 have HB1 := Aside0.mk (HB0.out.trans (hb1.mono HB0.out.size))
 clear hb1 e0 e1 e2 e3 e4
 go_wp2_with fail
 refine (numOn_any _ _).mono ?_
 rintro en w2 ⟨rfl, hb2⟩
 have HB2 := Aside0.mk (HB1.out.trans (hb2.mono HB1.out.size))
 clear hb2
 obtain ⟨v, hv⟩ : ∃ v, v = evalI bs kid := ⟨_, rfl⟩
 rw [← hv] at HV ⊢
 clear hv
 by_cases hz : v = 0
 ·subst hz
  go_wp2_with fail
  refine (numIs_any _ _).mono ?_
  rintro en w3 ⟨rfl, hb3⟩
  have HB3 := Aside0.mk (HB2.out.trans (hb3.mono HB2.out.size))
  clear hb3
  go_wp2
  go_ret
  exact ⟨by rw [HV.out]; rfl, HB3.out⟩
 ·have hz1 : (v != 0) = true := by simp [hz]
  have HZ := Aside0.mk hz; clear hz
  go_wp2_with fail
  refine (numIs_any _ _).mono ?_
  rintro en w3 ⟨rfl, hb3⟩
  have HB3 := Aside0.mk (HB2.out.trans (hb3.mono HB2.out.size))
  clear hb3
  go_wp2
  go_ret
  exact ⟨by rw [HV.out, if_neg HZ.out]; rfl, HB3.out⟩
set_option maxRecDepth 100000 in
set_option maxHeartbeats 4000000 in
theorem of3 (bs : List Int) (e : Ex) (h39 : 3 ≤ e.f0 ∧ e.f0 ≤ 9) (hl : e.f3.length = 2) (ih : ∀ x ∈ e.f3, Rk 49 #[] bs x) : Rk 143 #[.agg #[]] bs e := by
 intro g A c w hm hC hc
 have hC0 := hC
 rw [hl] at hc ⊢
 obtain ⟨hs, k1, k2, hB0⟩ := two_blocks' w (.cells #[] 140 (0, 0)) (.cells #[.int .i64 e.f0, .int .i64 e.f1, .int .i64 e.f2.f0, .int .i64 e.f2.f1, .slice A 2 c] 27 (0, 0))
 obtain ⟨ad, A4, c4, hA, e0, e1, e2, e3, e4, hl4, hi4⟩ := kid_at (Kd.C_below hC hB0) 0 (by omega)
 obtain ⟨ad', A5, c5, hA', g0, g1, g2, g3, g4, ml4, mi4⟩ := kid_at (Kd.C_below hC hB0) 1 (by omega)
 subst hA
 cases hA'
 have ih0 := ih e.f3[0] (List.getElem_mem (by omega))
 have ih1 := ih e.f3[1] (List.getElem_mem (by omega))
 obtain ⟨k0, hk0⟩ : ∃ kid, kid = e.f3[0] := ⟨_, rfl⟩
 obtain ⟨k1', hk1⟩ : ∃ kid, kid = e.f3[1] := ⟨_, rfl⟩
 rw [← hk0] at e0 e1 e2 e3 e4 hl4 hi4 ih0
 rw [← hk1] at g0 g1 g2 g3 g4 ml4 mi4 ih1
 have HV := Aside0.mk (show evalI bs e = twoI e.f0 (evalI bs k0) (evalI bs k1') by
  have : e.f3 = [k0, k1'] := by rw [hk0, hk1]; exact two_of_len e.f3 hl
  rw [evalI_eq, if_neg (by omega), if_neg (by omega), if_neg (by omega), this]; rfl)
 simp only [Nat.zero_mul, show ad.add 0 = ad by simp [Addr.add]] at e0 e1 e2 e3 e4
 simp only [Nat.one_mul, show ad.add 5 = ⟨ad.block, ad.off + 5, none⟩ by simp [Addr.add]] at g0 g1 g2 g3 g4
 simp only [List.append_toArray, List.nil_append, List.cons_append]
 have q0 : ((w.alloc (.cells #[] 140)).alloc (.cells #[.int .i64 e.f0, .int .i64 e.f1, .int .i64 e.f2.f0, .int .i64 e.f2.f1, .slice (some ad) 2 c] 27)).cell? ⟨w.heap.size + 1, 0, none⟩ = some (.int .i64 e.f0) := by rw [blk_cell k2]; rfl
 have q4 : ((w.alloc (.cells #[] 140)).alloc (.cells #[.int .i64 e.f0, .int .i64 e.f1, .int .i64 e.f2.f0, .int .i64 e.f2.f1, .slice (some ad) 2 c] 27)).cell? ⟨w.heap.size + 1, 4, none⟩ = some (.slice (some ad) 2 c) := by rw [blk_cell k2]; rfl
 have hm0 := hm.below hB0
 simp only [Rk, List.append_toArray, List.nil_append] at ih0 ih1
 have HC := Aside0.mk (And.intro hB0 (And.intro hm0 (And.intro hi4 (And.intro hl4 (And.intro mi4 (And.intro ml4 (And.intro ih0 ih1)))))))
 have HQ := Aside0.mk (And.intro q0 (And.intro q4 (And.intro e0 (And.intro e1 (And.intro e2 (And.intro e3 (And.intro e4 (And.intro g0 (And.intro g1 (And.intro g2 (And.intro g3 g4)))))))))))
 clear ih ih0 ih1 hm hm0 hC hC0 hk0 hk1 hl4 hi4 ml4 mi4 hB0 k1 k2 hs hl h39 e0 e1 e2 e3 e4 g0 g1 g2 g3 g4 q0 q4
 go_enter Tryz.func143, Tryz.ntmps143
 go_wp2
 generalize (w.alloc (.cells #[] 140)).alloc (.cells #[.int .i64 e.f0, .int .i64 e.f1, .int .i64 e.f2.f0, .int .i64 e.f2.f1, .slice (some ad) 2 c] 27) = W0 at HC HQ ⊢
 obtain ⟨k1, hk1⟩ : ∃ k1, k1 = k1' := ⟨_, rfl⟩
 subst hk1
 have hold : ∀ W, Below W0.heap.size W0 W → W.cell? ⟨w.heap.size + 1, 0, none⟩ = some (.int .i64 e.f0) ∧ W.cell? ⟨w.heap.size + 1, 4, none⟩ = some (.slice (some ad) 2 c) ∧ W.cell? ad = some (.int .i64 k0.f0) ∧ W.cell? ⟨ad.block, ad.off + 1, none⟩ = some (.int .i64 k0.f1) ∧ W.cell? ⟨ad.block, ad.off + 2, none⟩ = some (.int .i64 k0.f2.f0) ∧ W.cell? ⟨ad.block, ad.off + 3, none⟩ = some (.int .i64 k0.f2.f1) ∧ W.cell? ⟨ad.block, ad.off + 4, none⟩ = some (.slice A4 k0.f3.length c4) ∧ W.cell? ⟨ad.block, ad.off + 5, none⟩ = some (.int .i64 k1.f0) ∧ W.cell? ⟨ad.block, ad.off + 5 + 1, none⟩ = some (.int .i64 k1.f1) ∧ W.cell? ⟨ad.block, ad.off + 5 + 2, none⟩ = some (.int .i64 k1.f2.f0) ∧ W.cell? ⟨ad.block, ad.off + 5 + 3, none⟩ = some (.int .i64 k1.f2.f1) ∧ W.cell? ⟨ad.block, ad.off + 5 + 4, none⟩ = some (.slice A5 k1.f3.length c5) ∧ Below W0.heap.size W0 W := fun W h => by
  obtain ⟨q0, q4, e0, e1, e2, e3, e4, g0, g1, g2, g3, g4⟩ := HQ.out
  exact ⟨(h.cell (World.block_lt_of_cell? W0 _ q0)).trans q0, (h.cell (World.block_lt_of_cell? W0 _ q4)).trans q4, (h.cell (World.block_lt_of_cell? W0 _ e0)).trans e0, (h.cell (World.block_lt_of_cell? W0 _ e1)).trans e1, (h.cell (World.block_lt_of_cell? W0 _ e2)).trans e2, (h.cell (World.block_lt_of_cell? W0 _ e3)).trans e3, (h.cell (World.block_lt_of_cell? W0 _ e4)).trans e4, (h.cell (World.block_lt_of_cell? W0 _ g0)).trans g0, (h.cell (World.block_lt_of_cell? W0 _ g1)).trans g1, (h.cell (World.block_lt_of_cell? W0 _ g2)).trans g2, (h.cell (World.block_lt_of_cell? W0 _ g3)).trans g3, (h.cell (World.block_lt_of_cell? W0 _ g4)).trans g4, h⟩
 have HH := Aside0.mk hold
 have HA := Aside0.mk (HC.out.2.2.2.2.2.2.1 g A4 c4 W0.drew (HC.out.2.1.below (below_drew (Below.refl _ W0))) (Kd.C_below HC.out.2.2.1 (below_drew (Below.refl _ W0))) HC.out.2.2.2.1)
 have hD : ∀ W, Below W0.heap.size W0 W → Calls Tryz.prog 49 #[.pointer (some ⟨g, 0, none⟩), .agg #[.int .i64 k1.f0, .int .i64 k1.f1, .int .i64 k1.f2.f0, .int .i64 k1.f2.f1, .slice A5 k1.f3.length c5]] W (RkPost bs k1 W) := fun W h => HC.out.2.2.2.2.2.2.2 g A5 c5 W (HC.out.2.1.below h) (Kd.C_below HC.out.2.2.2.2.1 h) HC.out.2.2.2.2.2.1
 have HD := Aside0.mk hD
 clear hold HQ hD
 go_region_held3 (fun W => W.cell? ⟨w.heap.size + 1, 0, none⟩ = some (.int .i64 e.f0) ∧ W.cell? ⟨w.heap.size + 1, 4, none⟩ = some (.slice (some ad) 2 c) ∧ W.cell? ad = some (.int .i64 k0.f0) ∧ W.cell? ⟨ad.block, ad.off + 1, none⟩ = some (.int .i64 k0.f1) ∧ W.cell? ⟨ad.block, ad.off + 2, none⟩ = some (.int .i64 k0.f2.f0) ∧ W.cell? ⟨ad.block, ad.off + 3, none⟩ = some (.int .i64 k0.f2.f1) ∧ W.cell? ⟨ad.block, ad.off + 4, none⟩ = some (.slice A4 k0.f3.length c4) ∧ W.cell? ⟨ad.block, ad.off + 5, none⟩ = some (.int .i64 k1.f0) ∧ W.cell? ⟨ad.block, ad.off + 5 + 1, none⟩ = some (.int .i64 k1.f1) ∧ W.cell? ⟨ad.block, ad.off + 5 + 2, none⟩ = some (.int .i64 k1.f2.f0) ∧ W.cell? ⟨ad.block, ad.off + 5 + 3, none⟩ = some (.int .i64 k1.f2.f1) ∧ W.cell? ⟨ad.block, ad.off + 5 + 4, none⟩ = some (.slice A5 k1.f3.length c5) ∧ Below W0.heap.size W0 W) (first | exact HH.out _ (below_drew (Below.refl _ _)) | exact HH.out _ HB1.out | exact HH.out _ HB2.out | exact HH.out _ HB3.out)
  (first
  | (go_at_call 49; (with_reducible refine HA.out.mono ?_); rintro en w1 ⟨rfl, hb1⟩; have HB1 : Aside0 (Below W0.heap.size W0 w1) := Aside0.mk ((below_drew (Below.refl _ W0)).trans hb1); clear hb1)
  | (go_at_call 49; (with_reducible refine (HD.out w1 HB1.out).mono ?_); rintro en w2 ⟨rfl, hb2⟩; have HB2 := Aside0.mk (HB1.out.trans (hb2.mono HB1.out.size)); clear hb2)
  | (go_at_call 146; refine (impl_two.calls _ _ _ _ w2 (two_some _ _ _)).mono ?_; rintro en w3 ⟨rfl, hb3⟩; have HB3 := Aside0.mk (HB2.out.trans (hb3.mono HB2.out.size)); clear hb3))
 go_wp2
 go_ret
 exact ⟨by rw [HV.out]; rfl, HC.out.1.trans (HB3.out.mono HC.out.1.size)⟩

structure OfIs (k : Int) (T fo : Nat) : Prop where
 v : kindV k = .iface T (.agg #[])
 mo : ∀ w, (method 299 T (.agg #[]) "loop.example/stopgate/impl.of").run Tryz.prog w = .ok (fo, .agg #[]) w
 eo : ∀ args w, (callFunc fo args).run Tryz.prog w = .ok (.enter fo args) w
set_option maxRecDepth 100000 in
set_option maxHeartbeats 4000000 in
theorem reckon_of (bs : List Int) (e : Ex) (T fo : Nat) (hO : OfIs e.f0 T fo) (co : Rk fo #[.agg #[]] bs e) : Rk 49 #[] bs e := by
 intro g A c w hm hC hc
 have k1 := heap_alloc_new w (.cells #[.int .i64 e.f0, .int .i64 e.f1, .int .i64 e.f2.f0, .int .i64 e.f2.f1, .slice A e.f3.length c] 27)
 have hB0 : Below w.heap.size w (w.alloc (.cells #[.int .i64 e.f0, .int .i64 e.f1, .int .i64 e.f2.f0, .int .i64 e.f2.f1, .slice A e.f3.length c] 27)) := (Below.refl _ _).alloc (Nat.le_refl _) _
 have hco := fun (W : World) (h : Below w.heap.size w W) => co g A c W (hm.below h) (Kd.C_below hC h) hc
 simp only [List.append_toArray, List.nil_append, List.cons_append] at hco
 have mo := hO.mo
 have eo := hO.eo
 have HV := Aside0.mk hO.v
 have HK := Aside0.mk (And.intro k1 hB0)
 have HC := Aside0.mk hco
 clear co hm hC hc k1 hB0 hco hO
 simp only [List.append_toArray, List.nil_append]
 go_enter Tryz.func49, Tryz.ntmps49
 go_wp2
 generalize w.alloc (.cells #[.int .i64 e.f0, .int .i64 e.f1, .int .i64 e.f2.f0, .int .i64 e.f2.f1, .slice A e.f3.length c] 27) = W0 at HK ⊢
 have hold : ∀ W, Below W0.heap.size W0 W → W.cell? ⟨w.heap.size, 0, none⟩ = some (.int .i64 e.f0) ∧ W.cell? ⟨w.heap.size, 1, none⟩ = some (.int .i64 e.f1) ∧ W.cell? ⟨w.heap.size, 2, none⟩ = some (.int .i64 e.f2.f0) ∧ W.cell? ⟨w.heap.size, 3, none⟩ = some (.int .i64 e.f2.f1) ∧ W.cell? ⟨w.heap.size, 4, none⟩ = some (.slice A e.f3.length c) ∧ Below W0.heap.size W0 W := fun W h => by
  have k1 := HK.out.1
  exact ⟨(h.cell (World.block_lt_of_cell? W0 _ ((blk_cell k1 0).trans rfl))).trans ((blk_cell k1 0).trans rfl), (h.cell (World.block_lt_of_cell? W0 _ ((blk_cell k1 1).trans rfl))).trans ((blk_cell k1 1).trans rfl), (h.cell (World.block_lt_of_cell? W0 _ ((blk_cell k1 2).trans rfl))).trans ((blk_cell k1 2).trans rfl), (h.cell (World.block_lt_of_cell? W0 _ ((blk_cell k1 3).trans rfl))).trans ((blk_cell k1 3).trans rfl), (h.cell (World.block_lt_of_cell? W0 _ ((blk_cell k1 4).trans rfl))).trans ((blk_cell k1 4).trans rfl), h⟩
 have HH := Aside0.mk hold
 clear hold
 go_region_held3 (fun W => W.cell? ⟨w.heap.size, 0, none⟩ = some (.int .i64 e.f0) ∧ W.cell? ⟨w.heap.size, 1, none⟩ = some (.int .i64 e.f1) ∧ W.cell? ⟨w.heap.size, 2, none⟩ = some (.int .i64 e.f2.f0) ∧ W.cell? ⟨w.heap.size, 3, none⟩ = some (.int .i64 e.f2.f1) ∧ W.cell? ⟨w.heap.size, 4, none⟩ = some (.slice A e.f3.length c) ∧ Below W0.heap.size W0 W) (first | exact HH.out _ (below_drew (Below.refl _ _)) | exact HH.out _ HB2.out)
  (first
  | (go_at_call 81; (with_reducible refine (reckoningOf_calls _ _).mono ?_); rintro en w1 ⟨rfl, rfl⟩; rw [HV.out])
  | ((with_reducible refine (HC.out _ (HK.out.2.trans ((below_drew (Below.refl _ W0)).mono HK.out.2.size))).mono ?_); rintro en w2 ⟨rfl, hb2⟩; have HB2 : Aside0 (Below W0.heap.size W0 w2) := Aside0.mk ((below_drew (Below.refl _ W0)).trans hb2); clear hb2))
 go_wp2
 go_ret
 exact ⟨rfl, HK.out.2.trans (HB2.out.mono HK.out.2.size)⟩

theorem reckon_any (bs : List Int) (d : Nat) : ∀ e : Ex, formS d e = true → Rk 49 #[] bs e := by
 induction d with
 | zero => intro e h; cases h
 | succ d ih =>
  intro e h
  rw [formS, Bool.and_eq_true] at h
  have hkids : ∀ x ∈ e.f3, Rk 49 #[] bs x := fun x hx => ih x (List.all_eq_true.1 h.2 x hx)
  have hh := h.1
  unfold headOk at hh
  simp only [Bool.and_eq_true, beq_iff_eq] at hh
  obtain ⟨⟨hk, hl⟩, hs⟩ := hh
  have hk' : 1 ≤ e.f0 ∧ e.f0 ≤ 10 := of_decide_eq_true hk
  by_cases h1 : e.f0 = 1
  ·exact reckon_of bs e _ _ ⟨by rw [h1]; rfl, meth_of1, enters_of Tryz.func135 (by kernel_rfl) rfl⟩ (of1 bs e h1)
  ·by_cases h2 : e.f0 = 2
   ·exact reckon_of bs e _ _ ⟨by rw [h2]; rfl, meth_of2, enters_of Tryz.func139 (by kernel_rfl) rfl⟩ (of2 bs e h2)
   ·by_cases h10 : e.f0 = 10
    ·have hl' : e.f3.length = 1 := by
      rw [kidsN, if_neg (by omega), if_neg (by omega)] at hl; omega
     exact reckon_of bs e _ _ ⟨by rw [h10]; rfl, meth_of4, enters_of Tryz.func153 (by kernel_rfl) rfl⟩ (of4 bs e h10 hl' hkids)
    ·have h39 : 3 ≤ e.f0 ∧ e.f0 ≤ 9 := by omega
     have hl' : e.f3.length = 2 := by
      rw [kidsN, if_neg (by omega), if_pos h39] at hl; omega
     exact reckon_of bs e _ _ ⟨by simp [kindV, h1, h2, h39], meth_of3, enters_of Tryz.func143 (by kernel_rfl) rfl⟩ (of3 bs e h39 hl' hkids)
end Go.Proofs.YtendbgedpjcocaaGreatDoor.B
/- What impl.ExprOk's callers ask of it. -/
namespace Go.Proofs.YtendbgedpjcocaaGreatDoor.B
open Go.RowKit Go.Proofs.YtendbgedpjcocaaGreatDoorW.PrintWords Go.Proofs.YtendbgedpjcocaaGreatDoorW.PrintLast Go.Proofs.YtendbgedpjcocaaGreatDoorW.PrintMore
set_option linter.unusedVariables false

theorem three_blk (w : World) (a b c : Obj) : (((w.alloc a).alloc b).alloc c).heap.size = w.heap.size + 1 + 1 + 1 ∧ (((w.alloc a).alloc b).alloc c).heap[w.heap.size]? = some a ∧ (((w.alloc a).alloc b).alloc c).heap[w.heap.size + 1]? = some b ∧ (((w.alloc a).alloc b).alloc c).heap[w.heap.size + 1 + 1]? = some c ∧ Below w.heap.size w (((w.alloc a).alloc b).alloc c) := by
 have s1 : (w.alloc a).heap.size = w.heap.size + 1 := by simp
 have s2 : ((w.alloc a).alloc b).heap.size = w.heap.size + 1 + 1 := by simp
 have s3 : (((w.alloc a).alloc b).alloc c).heap.size = w.heap.size + 1 + 1 + 1 := by simp
 refine ⟨s3, ?_, ?_, ?_, (((Below.refl w.heap.size w).alloc (Nat.le_refl _) _).alloc (by omega) _).alloc (by omega) _⟩
 ·rw [Below.heap_alloc _ _ _ (by omega), Below.heap_alloc _ _ _ (by omega)]; exact heap_alloc_new w a
 ·rw [Below.heap_alloc _ _ _ (by omega), ← s1]; exact heap_alloc_new _ b
 ·rw [← s2]; exact heap_alloc_new _ c

def OkCon : Prop := ∀ (e : Ex) (A : Option Addr) (c : Nat) (w : World), Kd.C exK w A e.f3.length e.f3 → e.f3.length ≤ c →
 Calls Tryz.prog 48 #[.agg #[.int .i64 e.f0, .int .i64 e.f1, .int .i64 e.f2.f0, .int .i64 e.f2.f1, .slice A e.f3.length c]] w fun en w' => en = .returned (.bool (okL 0 (partsL e))) ∧ Below w.heap.size w w'
end Go.Proofs.YtendbgedpjcocaaGreatDoor.B
/- impl.count: statements are counted one by one. -/
namespace Go.Proofs.YtendbgedpjcocaaGreatDoor.B
open Go.RowKit Go.Shelf Go.Proofs.YtendbgedpjcocaaGreatDoorW.PrintWords Go.Proofs.YtendbgedpjcocaaGreatDoorW.PrintLast Go.Proofs.YtendbgedpjcocaaGreatDoorW.PrintMore
set_option linter.unusedVariables false

def headSt (s : St) : Bool := plainL s && okL 0 (partsL s.f2)
/-- Statements that are counted: are all ok, and how many there are then; at most d of them around one another. -/
def countL : Nat → List St → Int → Bool × Int
 | 0, [], m => (true, m)
 | 0, _ :: _, m => (false, m + 1)
 | d + 1, l, m => l.foldl (fun r s => if r.1 then (if r.2 + 1 > 16 || !headSt s then (false, r.2 + 1) else let r1 := countL d s.f3 (r.2 + 1); if r1.1 then countL d s.f4 r1.2 else r1) else r) (true, m)
/-- One statement more. -/
def cntStep (d : Nat) (s : St) (m : Int) : Bool × Int := if m + 1 > 16 || !headSt s then (false, m + 1) else let r1 := countL d s.f3 (m + 1); if r1.1 then countL d s.f4 r1.2 else r1
theorem countL_succ (d : Nat) (l : List St) (m : Int) : countL (d + 1) l m = l.foldl (fun r s => if r.1 then cntStep d s r.2 else r) (true, m) := rfl
theorem cnt_stop (d : Nat) (l : List St) (m : Int) : l.foldl (fun r s => if r.1 then cntStep d s r.2 else r) (false, m) = (false, m) := by
 induction l with
 | nil => rfl
 | cons a l ih => exact ih
/-- While all is ok the count is within its bounds. -/
theorem count_in : ∀ (d : Nat) (l : List St) (m : Int), m ≤ 16 → ((countL d l m).1 = true → (countL d l m).2 ≤ 16 ∧ m ≤ (countL d l m).2) ∧ (countL d l m).2 ≤ 17 ∧ m ≤ (countL d l m).2 := by
 intro d
 induction d with
 | zero =>
  intro l m hm
  cases l with
  | nil => exact ⟨fun _ => ⟨hm, Int.le_refl _⟩, by show m ≤ 17; omega, Int.le_refl _⟩
  | cons a l => exact ⟨fun h => (by cases h), by show m + 1 ≤ 17; omega, by show m ≤ m + 1; omega⟩
 | succ d ih =>
  intro l
  induction l with
  | nil => intro m hm; exact ⟨fun _ => ⟨hm, Int.le_refl _⟩, by show m ≤ 17; omega, Int.le_refl _⟩
  | cons a l ihl =>
   intro m hm
   rw [countL_succ, List.foldl_cons]
   simp only [if_true]
   have hst : ((cntStep d a m).1 = true → (cntStep d a m).2 ≤ 16) ∧ (cntStep d a m).2 ≤ 17 ∧ m ≤ (cntStep d a m).2 := by
    unfold cntStep
    by_cases h : (decide (m + 1 > 16) || !headSt a) = true
    ·rw [if_pos h]; exact ⟨fun h => (by cases h), by show m + 1 ≤ 17; omega, by show m ≤ m + 1; omega⟩
    ·rw [if_neg h]
     simp only [Bool.or_eq_true, decide_eq_true_eq, not_or] at h
     have h1 := ih a.f3 (m + 1) (by omega)
     by_cases hr : (countL d a.f3 (m + 1)).1 = true
     ·have h2 := ih a.f4 (countL d a.f3 (m + 1)).2 (h1.1 hr).1
      simp only [hr, if_true]
      exact ⟨fun h => (h2.1 h).1, h2.2.1, by have := h1.2.2; have := h2.2.2; omega⟩
     ·simp only [hr]
      exact ⟨fun h => absurd h hr, h1.2.1, by have := h1.2.2; show m ≤ (countL d a.f3 (m + 1)).2; omega⟩
   obtain ⟨r, hr⟩ : ∃ r, r = cntStep d a m := ⟨_, rfl⟩
   rw [← hr] at hst ⊢
   obtain ⟨b, n⟩ := r
   cases b with
   | false => rw [cnt_stop]; exact ⟨fun h => (by cases h), hst.2.1, hst.2.2⟩
   | true =>
    have := ihl n (hst.1 rfl)
    rw [countL_succ] at this
    exact ⟨fun h => ⟨(this.1 h).1, by have := (this.1 h).2; have := hst.2.2; show m ≤ _; omega⟩, this.2.1, by have := this.2.2; have := hst.2.2; show m ≤ _; omega⟩
end Go.Proofs.YtendbgedpjcocaaGreatDoor.B
/- Plain law: the specification's own reckoning of ExprOk ends, and says so. -/
namespace Go.Proofs.YtendbgedpjcocaaGreatDoor.B
open Go.RowKit Go.Proofs.YtendbgedpjcocaaGreatDoorW.PrintWords Go.Proofs.YtendbgedpjcocaaGreatDoorW.PrintLast Go.Proofs.YtendbgedpjcocaaGreatDoorW.PrintMore
set_option linter.unusedVariables false

theorem up_le {α : Type} {f : Nat → Option α} (h : ∀ k, LeO (f k) (f (k + 1))) {k k' : Nat} (hk : k ≤ k') {r : α} (hr : f k = some r) : f k' = some r := by
 induction hk with
 | refl => exact hr
 | step _ ih => exact h _ _ ih
theorem rd_get (l : List Ex) (j : Nat) (h : j < l.length) : rd_T27 l (j : Int) = l[j] := by simp [rd_T27, h]
theorem wrap_small {n : Int} (h0 : -9223372036854775808 ≤ n) (h1 : n ≤ 9223372036854775807) : wrap64 n = n := by
 unfold wrap64
 omega
theorem numCut_is (n : Int) : spec_NumCut.f n = some (if n < -1000000 then -1000000 else if 1000000 < n then 1000000 else n) := by
 unfold spec_NumCut.f spec_l1Min.f spec_l1Max.f
 by_cases h1 : n < -1000000
 ·have : ¬ (1000000 : Int) < n := by omega
  simp [h1, this]
 ·by_cases h2 : (1000000 : Int) < n
  ·simp [h1, h2]
  ·have h3 : n > -1000000 ∨ n = -1000000 := by omega
   rcases h3 with h3 | h3
   ·simp [h1, h2]
   ·subst h3; simp
theorem addrOk_is (a b : Int) : spec_AddrOk.f a b = some (addrOkL a b) := by
 unfold spec_AddrOk.f addrOkL
 by_cases h : 1 ≤ a <;> by_cases h' : a ≤ 3 <;> by_cases h'' : 0 ≤ b <;> simp [h, h', h'']
theorem l3Kids_is (k : Nat) (n : Int) : spec_l3Kids.f (k + 1) n = some (if kindOk n then kidsN n else -1) := by
 unfold spec_l3Kids.f spec_l3Kids.j0 kindOk kidsN
 by_cases h1 : n = 1
 ·simp [h1]
 ·by_cases h2 : n = 2
  ·simp [h2]
  ·by_cases h10 : n = 10
   ·simp [h10]
   ·by_cases h3 : 3 ≤ n
    ·by_cases h9 : n ≤ 9
     ·have : 1 ≤ n ∧ n ≤ 10 := by omega
      simp [h1, h2, h10, h3, h9, this]
     ·have : ¬ (1 ≤ n ∧ n ≤ 10) := by omega
      simp [h1, h2, h10, h3, h9, this]
    ·have : ¬ (1 ≤ n ∧ n ≤ 10) := by omega
     simp [h1, h2, h10, h3, this]
theorem form_step (k : Nat) (d : Nat) (e : Ex) : spec_l3Form.f (k + 4) e.f0 e.f1 e.f2.f0 e.f2.f1 e.f3 ((d : Int) + 1) =
  if headOk e then spec_l3Form.l0 k ((d : Int) + 1) 0 e.f0 e.f1 e.f2.f0 e.f2.f1 e.f3 else some false := by
 rw [spec_l3Form.f, if_neg (by omega), l3Kids_is (k + 2)]
 simp only [Option.bind_some, spec_l3Form.j0, spec_l3Form.j1, spec_l3Form.j2, numCut_is, addrOk_is]
 unfold headOk shapeL isNumL
 cases hk : kindOk e.f0 with
 | false =>
  have : ((-1 : Int) != (e.f3.length : Int)) = true := by rw [bne_iff_ne]; omega
  simp [this]
 | true =>
  by_cases hl : (e.f3.length : Int) = kidsN e.f0
  ·rw [← hl]
   simp only [if_true, bne_self_eq_false, Bool.false_eq_true, if_false, beq_self_eq_true, Bool.true_and]
   by_cases h1 : e.f0 = 1
   ·have h12 : ¬ (1 : Int) = 2 := by omega
    simp only [h1, if_true, h12, if_false]
    by_cases c1 : e.f1 < -1000000
    ·have q1 : ¬ (-1000000 : Int) = e.f1 := by omega
     have q2 : ¬ (-1000000 ≤ e.f1 ∧ e.f1 ≤ 1000000) := by omega
     simp [c1, q1, q2]
    ·by_cases c2 : 1000000 < e.f1
     ·have q1 : ¬ (1000000 : Int) = e.f1 := by omega
      have q2 : ¬ (-1000000 ≤ e.f1 ∧ e.f1 ≤ 1000000) := by omega
      simp [c1, c2, q1, q2]
     ·have q2 : (-1000000 ≤ e.f1 ∧ e.f1 ≤ 1000000) := by omega
      by_cases z1 : e.f2.f0 = 0 <;> by_cases z2 : e.f2.f1 = 0 <;> simp [c1, c2, q2, z1, z2]
   ·by_cases h2 : e.f0 = 2
    ·have h12 : ¬ (2 : Int) = 1 := by omega
     simp only [h2, if_true, h12, if_false]
     by_cases z1 : e.f1 = 0 <;> cases z2 : addrOkL e.f2.f0 e.f2.f1 <;> simp [z1]
    ·simp only [h1, h2, if_false]
     by_cases z : e.f1 = 0 <;> by_cases z1 : e.f2.f0 = 0 <;> by_cases z2 : e.f2.f1 = 0 <;> simp [z, z1, z2]
  ·have h1 : (kidsN e.f0 != (e.f3.length : Int)) = true := by rw [bne_iff_ne]; exact fun h => hl h.symm
   have h2 : ((e.f3.length : Int) == kidsN e.f0) = false := by rw [beq_eq_false_iff_ne]; exact hl
   simp [h1, h2]
theorem mono_f (a b c d : Int) (l : List Ex) (n : Int) : ∀ k, LeO (spec_l3Form.f k a b c d l n) (spec_l3Form.f (k + 1) a b c d l n) := fun k => (spec_l3Form.mono_l k).1 a b c d l n
theorem mono_l0 (x i a b c d : Int) (l : List Ex) : ∀ k, LeO (spec_l3Form.l0 k x i a b c d l) (spec_l3Form.l0 (k + 1) x i a b c d l) := fun k => (spec_l3Form.mono_l k).2.2.2.2 x i a b c d l
theorem form_loop (d : Nat) (hd : d < 100) (a b c c' : Int) (l : List Ex) (hl : l.length < 9223372036854775807) (ih : ∀ x ∈ l, ∃ k, spec_l3Form.f k x.f0 x.f1 x.f2.f0 x.f2.f1 x.f3 d = some (formS d x)) :
  ∀ (n j : Nat), n + j = l.length → ∃ k, spec_l3Form.l0 k ((d : Int) + 1) j a b c c' l = some ((l.drop j).all (formS d)) := by
 intro n
 induction n with
 | zero =>
  intro j hj
  refine ⟨1, ?_⟩
  rw [spec_l3Form.l0, if_neg (by omega), List.drop_eq_nil_of_le (by omega)]; rfl
 | succ n ihn =>
  intro j hj
  have hlt : j < l.length := by omega
  obtain ⟨k1, h1⟩ := ih l[j] (List.getElem_mem hlt)
  obtain ⟨k2, h2⟩ := ihn (j + 1) (by omega)
  refine ⟨k1 + k2 + 1, ?_⟩
  rw [spec_l3Form.l0, if_pos (by omega), if_pos (by omega), rd_get l j hlt, wrap_small (by omega) (by omega), wrap_small (by omega) (by omega), show (d : Int) + 1 - 1 = d by omega, up_le (mono_f _ _ _ _ _ _) (Nat.le_add_right k1 k2) h1, Option.bind_some, List.drop_eq_getElem_cons hlt, List.all_cons]
  cases formS d l[j] with
  | false => simp
  | true => simpa using up_le (mono_l0 _ _ _ _ _ _ _) (Nat.le_add_left k2 k1) h2
/-- The lists within are short enough to be counted. -/
inductive Short : Ex → Prop
 | mk (e : Ex) : e.f3.length < 9223372036854775807 → (∀ x ∈ e.f3, Short x) → Short e
theorem form_spec (d : Nat) : d < 100 → ∀ e : Ex, Short e → ∃ k, spec_l3Form.f k e.f0 e.f1 e.f2.f0 e.f2.f1 e.f3 d = some (formS d e) := by
 induction d with
 | zero => intro _ e _; exact ⟨2, by rw [spec_l3Form.f, if_pos (by omega), spec_l3Form.j0, if_pos rfl]; rfl⟩
 | succ d ih =>
  intro hd e he
  cases he with
  | mk _ hlen hk =>
  obtain ⟨k, h⟩ := form_loop d (by omega) e.f0 e.f1 e.f2.f0 e.f2.f1 e.f3 hlen (fun x hx => ih (by omega) x (hk x hx)) e.f3.length 0 (by omega)
  refine ⟨k + 4, ?_⟩
  have := form_step k d e
  rw [show (((d + 1 : Nat)) : Int) = (d : Int) + 1 by omega, this, formS]
  cases headOk e with
  | false => simp
  | true => simpa using h

theorem mono_m (a b c d : Int) (l : List Ex) (n : Int) : ∀ k, LeO (spec_l3Many.f k a b c d l n) (spec_l3Many.f (k + 1) a b c d l n) := fun k => (spec_l3Many.mono_l k).1 a b c d l n
theorem mono_m0 (x i j a b c d : Int) (l : List Ex) : ∀ k, LeO (spec_l3Many.l0 k x i j a b c d l) (spec_l3Many.l0 (k + 1) x i j a b c d l) := fun k => (spec_l3Many.mono_l k).2 x i j a b c d l
theorem kidsN_le (k : Int) : kidsN k ≤ 2 := by
 unfold kidsN; split
 ·omega
 ·split <;> omega
theorem sum_two (f : Ex → Nat) (b : Nat) (l : List Ex) (h : ∀ x ∈ l, f x ≤ b) : (l.map f).sum ≤ l.length * b := by
 induction l with
 | nil => simp
 | cons x l ih =>
  have h1 := h x (by simp)
  have h2 := ih (fun y hy => h y (by simp [hy]))
  simp [Nat.add_mul]; omega
theorem manyS_le (d : Nat) : ∀ e : Ex, formS d e = true → manyS d e + 1 ≤ 2 ^ d := by
 induction d with
 | zero => intro e h; cases h
 | succ d ih =>
  intro e h
  rw [formS, Bool.and_eq_true] at h
  have hl : e.f3.length ≤ 2 := by
   have h1 := h.1
   unfold headOk at h1
   simp only [Bool.and_eq_true, beq_iff_eq] at h1
   have := kidsN_le e.f0
   omega
  have hs := sum_two (manyS d) (2 ^ d - 1) e.f3 (fun x hx => by have := ih x (List.all_eq_true.1 h.2 x hx); omega)
  have : e.f3.length * (2 ^ d - 1) ≤ 2 * (2 ^ d - 1) := Nat.mul_le_mul_right _ hl
  have hp : 1 ≤ 2 ^ d := Nat.one_le_two_pow
  rw [manyS, Nat.pow_succ]
  omega
theorem many_loop (d : Nat) (hd : d < 40) (a b c c' : Int) (l : List Ex) (hl : l.length < 9223372036854775807) (hb : ∀ x ∈ l, manyS d x ≤ 1099511627776) (ih : ∀ x ∈ l, ∃ k, spec_l3Many.f k x.f0 x.f1 x.f2.f0 x.f2.f1 x.f3 d = some (manyS d x : Int)) :
  ∀ (n j acc : Nat), n + j = l.length → acc + ((l.drop j).map (manyS d)).sum ≤ 4611686018427387904 → ∃ k, spec_l3Many.l0 k ((d : Int) + 1) acc j a b c c' l = some ((acc + ((l.drop j).map (manyS d)).sum : Nat) : Int) := by
 intro n
 induction n with
 | zero =>
  intro j acc hj _
  refine ⟨1, ?_⟩
  rw [spec_l3Many.l0, if_neg (by omega), List.drop_eq_nil_of_le (by omega)]; simp
 | succ n ihn =>
  intro j acc hj hacc
  have hlt : j < l.length := by omega
  obtain ⟨k1, h1⟩ := ih l[j] (List.getElem_mem hlt)
  rw [List.drop_eq_getElem_cons hlt, List.map_cons, List.sum_cons, ← Nat.add_assoc] at hacc
  obtain ⟨k2, h2⟩ := ihn (j + 1) (acc + manyS d l[j]) (by omega) hacc
  refine ⟨k1 + k2 + 1, ?_⟩
  rw [spec_l3Many.l0, if_pos (by omega), if_pos (by omega), if_pos (by omega), rd_get l j hlt, wrap_small (n := (d : Int) + 1 - 1) (by omega) (by omega), wrap_small (n := (j : Int) + 1) (by omega) (by omega), show (d : Int) + 1 - 1 = d by omega, up_le (mono_m _ _ _ _ _ _) (Nat.le_add_right k1 k2) h1, Option.bind_some, List.drop_eq_getElem_cons hlt, List.map_cons, List.sum_cons, ← Nat.add_assoc]
  rw [wrap_small (by omega) (by omega)]
  have := up_le (mono_m0 _ _ _ _ _ _ _ _) (Nat.le_add_left k2 k1) h2
  simpa using this
theorem many_spec (d : Nat) : d < 40 → ∀ e : Ex, Short e → formS d e = true → ∃ k, spec_l3Many.f k e.f0 e.f1 e.f2.f0 e.f2.f1 e.f3 d = some (manyS d e : Int) := by
 induction d with
 | zero => intro _ e _ h; cases h
 | succ d ih =>
  intro hd e he hf
  have hle := manyS_le (d + 1) e hf
  have hpow : 2 ^ (d + 1) ≤ 1099511627776 := Nat.le_trans (Nat.pow_le_pow_right (by omega) (show d + 1 ≤ 40 by omega)) (by decide)
  have hf' := hf
  rw [formS, Bool.and_eq_true] at hf'
  cases he with
  | mk _ hlen hk =>
  have hpow' : 2 ^ d ≤ 1099511627776 := Nat.le_trans (Nat.pow_le_pow_right (by omega) (show d ≤ 40 by omega)) (by decide)
  obtain ⟨k, h⟩ := many_loop d (by omega) e.f0 e.f1 e.f2.f0 e.f2.f1 e.f3 hlen (fun x hx => by have := manyS_le d x (List.all_eq_true.1 hf'.2 x hx); omega) (fun x hx => ih (by omega) x (hk x hx) (List.all_eq_true.1 hf'.2 x hx)) e.f3.length 0 1 (by omega) (by rw [manyS] at hle; simp only [List.drop_zero]; omega)
  refine ⟨k + 1, ?_⟩
  rw [show (((d + 1 : Nat)) : Int) = (d : Int) + 1 by omega, spec_l3Many.f, manyS]
  simpa using h
theorem exprOk_spec (e : Ex) (he : Short e) : ∃ k, spec_ExprOk.f k e.f0 e.f1 e.f2.f0 e.f2.f1 e.f3 = some (formS 6 e && decide (manyS 6 e ≤ 14)) := by
 obtain ⟨k1, h1⟩ := form_spec 6 (by omega) e he
 cases hf : formS 6 e with
 | false =>
  refine ⟨k1, ?_⟩
  rw [hf] at h1
  unfold spec_ExprOk.f
  have h1' : spec_l3Form.f k1 e.f0 e.f1 e.f2.f0 e.f2.f1 e.f3 6 = some false := h1
  rw [h1']; simp
 | true =>
  obtain ⟨k2, h2⟩ := many_spec 6 (by omega) e he hf
  rw [hf] at h1
  have h1' : spec_l3Form.f (k1 + k2) e.f0 e.f1 e.f2.f0 e.f2.f1 e.f3 6 = some true := up_le (mono_f _ _ _ _ _ _) (Nat.le_add_right k1 k2) h1
  have h2' : spec_l3Many.f (k1 + k2) e.f0 e.f1 e.f2.f0 e.f2.f1 e.f3 6 = some (manyS 6 e : Int) := up_le (mono_m _ _ _ _ _ _) (Nat.le_add_left k2 k1) h2
  refine ⟨k1 + k2, ?_⟩
  unfold spec_ExprOk.f
  rw [h1']
  simp only [Option.bind_some, if_true, h2', Bool.true_and]
  by_cases h14 : manyS 6 e ≤ 14
  ·rw [decide_eq_true h14, decide_eq_true (by omega)]
  ·rw [decide_eq_false h14, decide_eq_false (by omega)]
end Go.Proofs.YtendbgedpjcocaaGreatDoor.B
/- A printed function that ends from some fuel on; the loops of the laws' own helpers, once for all types. -/
namespace Go.Proofs.YtendbgedpjcocaaGreatDoor.B
open Go.RowKit Go.Proofs.YtendbgedpjcocaaGreatDoorW.PrintWords Go.Proofs.YtendbgedpjcocaaGreatDoorW.PrintLast Go.Proofs.YtendbgedpjcocaaGreatDoorW.PrintMore
set_option linter.unusedVariables false

def Ends {α : Type} (f : Nat → Option α) (r : α) : Prop := ∃ K, ∀ k, K ≤ k → f k = some r
theorem Ends.const {α : Type} {f : Nat → Option α} {r : α} (h : ∀ k, f k = some r) : Ends f r := ⟨0, fun k _ => h k⟩
theorem Ends.bind {α β : Type} {f : Nat → Option α} {g : Nat → α → Option β} {a : α} {r : β} (h : Ends f a) (h' : Ends (fun k => g k a) r) : Ends (fun k => (f k).bind (g k)) r := by
 obtain ⟨K, hK⟩ := h
 obtain ⟨K', hK'⟩ := h'
 exact ⟨max K K', fun k hk => by show (f k).bind (g k) = some r; rw [hK k (by omega), Option.bind_some]; exact hK' k (by omega)⟩
theorem Ends.succ {α : Type} {f g : Nat → Option α} {r : α} (h : ∀ k, f (k + 1) = g k) (hg : Ends g r) : Ends f r := by
 obtain ⟨K, hK⟩ := hg
 exact ⟨K + 1, fun k hk => by obtain ⟨k', rfl⟩ : ∃ k', k = k' + 1 := ⟨k - 1, by omega⟩; rw [h]; exact hK k' (by omega)⟩
theorem Ends.of {α : Type} {f g : Nat → Option α} {r : α} (hg : Ends g r) (h : ∀ k, f k = g k) : Ends f r := by
 obtain ⟨K, hK⟩ := hg
 exact ⟨K, fun k hk => by rw [h]; exact hK k hk⟩
theorem wrap_in {n : Int} (h0 : -9223372036854775808 ≤ n) (h1 : n ≤ 9223372036854775807) : wrap64 n = n := by
 unfold wrap64
 omega
section loops
variable {α β : Type} {rd : List α → Int → α} (hrd : ∀ (l : List α) (j : Nat) (h : j < l.length), rd l (j : Int) = l[j])
include hrd
end loops
end Go.Proofs.YtendbgedpjcocaaGreatDoor.B
/- The draws of numbers, places and expressions end. -/
namespace Go.Proofs.YtendbgedpjcocaaGreatDoor.B
open Go.RowKit Go.Proofs.YtendbgedpjcocaaGreatDoorW.PrintWords Go.Proofs.YtendbgedpjcocaaGreatDoorW.PrintLast Go.Proofs.YtendbgedpjcocaaGreatDoorW.PrintMore
set_option linter.unusedVariables false

/-- A tree whose lists are short indeed. -/
inductive Tiny : Ex → Prop
 | mk (e : Ex) : e.f3.length ≤ 1000 → (∀ x ∈ e.f3, Tiny x) → Tiny e
theorem Tiny.short {e : Ex} (h : Tiny e) : Short e := by
 induction h with
 | mk e hl _ ih => exact .mk e (by omega) ih
theorem rd_mem (l : List Int) (i : Int) (h0 : 0 ≤ i) (h1 : i < l.length) : rd l i ∈ l := by
 have : i.toNat < l.length := by omega
 have e : rd l i = l[i.toNat] := by simp [rd, this]
 rw [e]; exact List.getElem_mem this
theorem num_total (s : List Int) (hs : Bytes s) (hl : s.length ≤ 2000) (p : Int) (hp : 0 ≤ p) (hp1 : p < 1099511627776) (l : List Int) (h1 : 1 ≤ l.length) (h2 : l.length < 1000) :
  ∃ x, x ∈ l ∧ ∀ k, spec_l12Rd_num.f (k + 1) s p l = some (x, p + 1) := by
 obtain ⟨r, r0, r1, hr⟩ := pick_total s hs hl p l.length hp hp1 (by omega) (by omega)
 refine ⟨rd l r, rd_mem l r r0 r1, fun k => ?_⟩
 rw [spec_l12Rd_num.f, hr k]
 simp only [Option.bind_some, if_pos r0, if_pos r1]
theorem addr_total (s : List Int) (hs : Bytes s) (hl : s.length ≤ 2000) (p : Int) (hp : 0 ≤ p) (hp1 : p < 1099511627770) :
  ∃ a b : Int, (1 ≤ a ∧ a ≤ 3) ∧ (0 ≤ b ∧ b < 3) ∧ ∀ k, spec_l2Addr.f (k + 1) s p = some (a, b, p + 2) := by
 obtain ⟨r, r0, r1, hr⟩ := pick_total s hs hl p 3 hp (by omega) (by omega) (by omega)
 obtain ⟨q, q0, q1, hq⟩ := pick_total s hs hl (p + 1) 3 (by omega) (by omega) (by omega) (by omega)
 refine ⟨1 + r, q, by omega, by omega, fun k => ?_⟩
 rw [spec_l2Addr.f, hr k]
 simp only [Option.bind_some]
 rw [hq k]
 simp only [Option.bind_some]
 rw [wrap_id (by omega) (by omega), show p + 1 + 1 = p + 2 by omega]
/-- What a draw of an expression leaves. -/
def Drew1 (o : Option (Int × Int × Int × Int × List Ex × Int)) (e : Ex) (p : Int) : Prop := o = some (e.f0, e.f1, e.f2.f0, e.f2.f1, e.f3, p)
theorem leaf_total (s : List Int) (hs : Bytes s) (hl : s.length ≤ 2000) (p : Int) (hp : 0 ≤ p) (hp1 : p < 1099511627000) (a1 : Int) :
  ∃ (e : Ex) (p' : Int), Tiny e ∧ p ≤ p' ∧ p' ≤ p + 3 ∧ ∀ k, Drew1 (spec_l3Expr.j0 (k + 2) a1 true s p) e p' := by
 obtain ⟨r, r0, r1, hr⟩ := pick_total s hs hl p 3 hp (by omega) (by omega) (by omega)
 by_cases hz : r = 0
 ·obtain ⟨x, hx, hn⟩ := num_total s hs hl (p + 1) (by omega) (by omega) [0, 1, 2, 3, (-1), 5, 1000000] (by simp) (by simp)
  refine ⟨⟨1, x, ⟨0, 0⟩, []⟩, p + 1 + 1, .mk _ (by simp) (by simp), by omega, by omega, fun k => ?_⟩
  unfold Drew1
  rw [spec_l3Expr.j0, if_pos rfl, hr k]
  simp only [Option.bind_some, if_pos hz]
  rw [hn k]; rfl
 ·obtain ⟨a, b, ha, hb, hq⟩ := addr_total s hs hl (p + 1) (by omega) (by omega)
  refine ⟨⟨2, 0, ⟨a, b⟩, []⟩, p + 1 + 2, .mk _ (by simp) (by simp), by omega, by omega, fun k => ?_⟩
  unfold Drew1
  rw [spec_l3Expr.j0, if_pos rfl, hr k]
  simp only [Option.bind_some, if_neg hz]
  rw [hq k]; rfl
theorem mono_ef (s : List Int) (p a : Int) : ∀ k, LeO (spec_l3Expr.f k s p a) (spec_l3Expr.f (k + 1) s p a) := fun k => (spec_l3Expr.mono_l k).1 s p a
theorem mono_el (x n : Int) (s : List Int) (p a b c d : Int) (l : List Ex) : ∀ k, LeO (spec_l3Expr.l0 k x n s p a b c d l) (spec_l3Expr.l0 (k + 1) x n s p a b c d l) := fun k => (spec_l3Expr.mono_l k).2.2 x n s p a b c d l
def bnd : Nat → Int
 | 0 => 10
 | d + 1 => 10 + 2 * bnd d
theorem kids_total (s : List Int) (d : Nat) (kd : Int) (B : Int) (hB : 0 ≤ B) (ih : ∀ p : Int, 0 ≤ p → p + B < 1099510000000 → ∃ (e : Ex) (p' : Int) (k : Nat), Tiny e ∧ p ≤ p' ∧ p' ≤ p + B ∧ Drew1 (spec_l3Expr.f k s p d) e p') (hd : d < 1000) :
  ∀ (n : Nat) (p : Int) (acc : List Ex), 0 ≤ p → p + n * B < 1099510000000 → acc.length + n ≤ 2 → (∀ x ∈ acc, Tiny x) →
   ∃ (l : List Ex) (p' : Int) (k : Nat), l.length = acc.length + n ∧ (∀ x ∈ l, Tiny x) ∧ p ≤ p' ∧ p' ≤ p + n * B ∧ spec_l3Expr.l0 k ((d : Int) + 1) n s p kd 0 0 0 acc = some (kd, 0, 0, 0, l, p') := by
 intro n
 induction n with
 | zero =>
  intro p acc hp hpb ha hacc
  exact ⟨acc, p, 1, by omega, hacc, by omega, by omega, by rw [spec_l3Expr.l0, if_neg (by omega)]⟩
 | succ n ihn =>
  intro p acc hp hpb ha hacc
  have e1 : ((n + 1 : Nat) : Int) * B = n * B + B := by rw [Int.natCast_add, Int.add_mul]; simp
  have nb : 0 ≤ (n : Int) * B := Int.mul_nonneg (by omega) hB
  rw [e1] at hpb
  obtain ⟨e, p1, k1, he, q1, q2, hk1⟩ := ih p hp (by omega)
  obtain ⟨l, p2, k2, hl1, hl2, q3, q4, hk2⟩ := ihn p1 (acc ++ [e]) (by omega) (by omega) (by simp; omega) (by intro x hx; rcases List.mem_append.1 hx with hx | hx; exact hacc x hx; simp at hx; rw [hx]; exact he)
  refine ⟨l, p2, k1 + k2 + 1, by rw [hl1]; simp; omega, hl2, by omega, by rw [e1]; omega, ?_⟩
  unfold Drew1 at hk1
  rw [spec_l3Expr.l0, if_pos (by omega), show (d : Int) + 1 - 1 = d by omega, wrap_id (n := (d : Int)) (by omega) (by omega), up_le (mono_ef _ _ _) (Nat.le_add_right k1 k2) hk1]
  simp only [Option.bind_some]
  rw [if_pos (by omega), show (((n + 1 : Nat) : Int) - 1) = (n : Int) by omega, wrap_id (n := (n : Int)) (by omega) (by omega)]
  have eta : (⟨e.f0, e.f1, ⟨e.f2.f0, e.f2.f1⟩, e.f3⟩ : Ex) = e := by cases e with | mk a b c l => cases c; rfl
  rw [eta]
  exact up_le (mono_el _ _ _ _ _ _ _ _ _) (Nat.le_add_left k2 k1) hk2
theorem bnd_pos (d : Nat) : 10 ≤ bnd d := by
 induction d with
 | zero => simp [bnd]
 | succ d ih => simp [bnd]; omega
theorem bnd_le (d : Nat) : d ≤ 10 → bnd d ≤ 100000 := by
 intro h
 have : d = 0 ∨ d = 1 ∨ d = 2 ∨ d = 3 ∨ d = 4 ∨ d = 5 ∨ d = 6 ∨ d = 7 ∨ d = 8 ∨ d = 9 ∨ d = 10 := by omega
 rcases this with rfl | rfl | rfl | rfl | rfl | rfl | rfl | rfl | rfl | rfl | rfl <;> decide
theorem expr_total (s : List Int) (hs : Bytes s) (hl : s.length ≤ 2000) (d : Nat) : d ≤ 10 → ∀ p : Int, 0 ≤ p → p + bnd d < 1099510000000 → ∃ (e : Ex) (p' : Int) (k : Nat), Tiny e ∧ p ≤ p' ∧ p' ≤ p + bnd d ∧ Drew1 (spec_l3Expr.f k s p d) e p' := by
 induction d with
 | zero =>
  intro _ p hp hp1
  have h10 := bnd_pos 0
  obtain ⟨e, p', he, q1, q2, h⟩ := leaf_total s hs hl p hp (by omega) 0
  refine ⟨e, p', 3, he, q1, by simp only [bnd]; omega, ?_⟩
  have := h 0
  unfold Drew1 at this ⊢
  rw [spec_l3Expr.f, if_pos (by omega)]
  exact this
 | succ d ih =>
  intro hd p hp hp1
  have hb := bnd_pos d
  have hb2 := bnd_le d (by omega)
  have hbd : bnd (d + 1) = 10 + 2 * bnd d := rfl
  by_cases h0 : d = 0
  ·subst h0
   obtain ⟨e, p', he, q1, q2, h⟩ := leaf_total s hs hl p hp (by omega) 1
   refine ⟨e, p', 3, he, q1, by omega, ?_⟩
   have := h 0
   unfold Drew1 at this ⊢
   rw [spec_l3Expr.f, if_pos (by omega)]
   exact this
  ·obtain ⟨r, r0, r1, hr⟩ := pick_total s hs hl p 4 hp (by omega) (by omega) (by omega)
   by_cases hz : r = 0
   ·obtain ⟨e, p', he, q1, q2, h⟩ := leaf_total s hs hl (p + 1) (by omega) (by omega) ((d + 1 : Nat) : Int)
    refine ⟨e, p', 3, he, by omega, by omega, ?_⟩
    have := h 0
    unfold Drew1 at this ⊢
    rw [spec_l3Expr.f, if_neg (by omega), hr 1]
    simp only [Option.bind_some, hz]
    exact this
   ·obtain ⟨x, hx, hn⟩ := num_total s hs hl (p + 1) (by omega) (by omega) [3, 3, 4, 5, 6, 6, 7, 8, 9, 10] (by simp) (by simp)
    have hx' : 3 ≤ x ∧ x ≤ 10 := by
     simp only [List.mem_cons, List.mem_nil_iff, or_false] at hx
     omega
    have hk2 : kidsN x = 1 ∨ kidsN x = 2 := by
     unfold kidsN
     rw [if_neg (by omega)]
     split
     ·exact .inr rfl
     ·exact .inl rfl
    obtain ⟨n, hn2, hnk⟩ : ∃ n : Nat, n ≤ 2 ∧ kidsN x = (n : Int) := by
     rcases hk2 with h | h
     ·exact ⟨1, by omega, by rw [h]; rfl⟩
     ·exact ⟨2, by omega, by rw [h]; rfl⟩
    have hmul : (n : Int) * bnd d ≤ 2 * bnd d := Int.mul_le_mul_of_nonneg_right (by omega) (by omega)
    obtain ⟨l, p', k, hl1, hl2, q1, q2, h⟩ := kids_total s d x (bnd d) (by omega) (fun q hq0 hq1 => ih (by omega) q hq0 hq1) (by omega) n (p + 2) [] (by omega) (by omega) (by simpa using hn2) (by simp)
    simp only [List.length_nil, Nat.zero_add] at hl1
    refine ⟨⟨x, 0, ⟨0, 0⟩, l⟩, p', k + 4, .mk _ (by show l.length ≤ _; omega) hl2, by omega, by omega, ?_⟩
    unfold Drew1
    have hz' : (r == 0) = false := beq_false_of_ne hz
    have hko : kindOk x = true := by unfold kindOk; exact decide_eq_true (by omega)
    rw [spec_l3Expr.f, if_neg (by omega), hr (k + 2)]
    simp only [Option.bind_some, hz']
    rw [spec_l3Expr.j0, if_neg (by decide), hn (k + 1)]
    simp only [Option.bind_some]
    rw [l3Kids_is (k + 1), hko, if_pos rfl, hnk]
    simp only [Option.bind_some]
    rw [show p + 1 + 1 = p + 2 by omega, show ((d + 1 : Nat) : Int) = (d : Int) + 1 by omega]
    exact up_le (mono_el _ _ _ _ _ _ _ _ _) (by omega) h
end Go.Proofs.YtendbgedpjcocaaGreatDoor.B
/- impl.count: the walk. -/
namespace Go.Proofs.YtendbgedpjcocaaGreatDoor.B
open Go.RowKit Go.Shelf Go.Proofs.YtendbgedpjcocaaGreatDoorW.PrintWords Go.Proofs.YtendbgedpjcocaaGreatDoorW.PrintLast Go.Proofs.YtendbgedpjcocaaGreatDoorW.PrintMore
set_option linter.unusedVariables false

def stepD : Nat → St → Int → Bool × Int
 | 0, _, m => (false, m + 1)
 | d + 1, s, m => cntStep d s m
theorem stepD_stop (d : Nat) (l : List St) (m : Int) : l.foldl (fun r s => if r.1 then stepD d s r.2 else r) (false, m) = (false, m) := by
 induction l with
 | nil => rfl
 | cons a l ih => exact ih
theorem countL_fold (d : Nat) (l : List St) (m : Int) : countL d l m = l.foldl (fun r s => if r.1 then stepD d s r.2 else r) (true, m) := by
 cases d with
 | succ d => rfl
 | zero =>
  cases l with
  | nil => rfl
  | cons a l => rw [List.foldl_cons]; exact (stepD_stop 0 l (m + 1)).symm
theorem count_take (d : Nat) (l : List St) (m : Int) (j : Nat) (hj : j < l.length) (n : Int) (h : countL d (l.take j) m = (true, n)) : countL d (l.take (j + 1)) m = stepD d l[j] n := by
 rw [countL_fold] at h ⊢
 rw [List.take_succ_eq_append_getElem hj, List.foldl_append, h]; rfl
theorem count_stop (d : Nat) (l : List St) (m : Int) (j : Nat) (hj : j < l.length) (n n' : Int) (h : countL d (l.take j) m = (true, n)) (hs : stepD d l[j] n = (false, n')) : countL d l m = (false, n') := by
 have h1 := count_take d l m j hj n h
 rw [hs, countL_fold] at h1
 rw [countL_fold, ← List.take_append_drop (j + 1) l, List.foldl_append, h1, stepD_stop]
structure CntEnd (w0 w : World) (gm : Nat) (r : Bool × Int) (e : Ending) (w' : World) : Prop where
 e : e = .returned (.bool r.1)
 box : Boxed w' gm 3 (.int .i64 r.2)
 below : Below w0.heap.size w0 w'
 keep : KeepBut w w' gm none
def CntCon (d : Nat) : Prop := ∀ (l : List St) (A : Option Addr) (c gm : Nat) (deep m : Int) (w0 w : World), deep = 4 - d → 0 ≤ m → m ≤ 16 → w0.heap.size ≤ gm → Boxed w gm 3 (.int .i64 m) → Below w0.heap.size w0 w → Kd.C stK w0 A l.length l → l.length ≤ c →
 Calls Tryz.prog 67 #[.slice A l.length c, .int .i64 deep, .pointer (some ⟨gm, 0, none⟩)] w (CntEnd w0 w gm (countL d l m))
set_option maxRecDepth 100000 in
set_option maxHeartbeats 8000000 in
theorem count_step (hok : OkCon) (d : Nat) (hd : d ≤ 4) (ih : ∀ d', d = d' + 1 → CntCon d') : CntCon d := by
 intro l A c gm deep m w0 w hdeep hm0 hm1 hg hbox hB hC hc
 have hmax : l.length ≤ 9223372036854775807 := hC.2.1
 have HI := Aside0.mk (And.intro hdeep (And.intro hd (And.intro hm0 (And.intro hm1 (And.intro hg (And.intro hB (And.intro hC (And.intro hc hmax))))))))
 have HBX := Aside0.mk hbox
 clear hdeep hm0 hm1 hg hbox hB hC
 go_enter Tryz.func67, Tryz.ntmps67
 go_wp2
 go_loopw [8, 9, 12] (fun _ _ i wr => ∃ (j : Nat), i = .int .i64 j ∧ Aside0 (j ≤ l.length ∧ (∃ n, countL d (l.take j) m = (true, n) ∧ Boxed wr gm 3 (.int .i64 n)) ∧ Below w0.heap.size w0 wr ∧ KeepBut w wr gm none)) (fun _ _ i _ => l.length - (intOf i).toNat)
 case atStart => exact ⟨0, rfl, ⟨Nat.zero_le _, ⟨m, by cases d <;> rfl, HBX.out⟩, HI.out.2.2.2.2.2.1, KeepBut.refl _ _ _⟩⟩
 case round =>
  obtain ⟨j, rfl, HR⟩ := hrel
  by_cases hj : j < l.length
  ·obtain ⟨ad, A7, c7, A8, c8, A9, c9, hA, e0, e1, e2, e3, e4, e5, e6, e7, e8, e9, hl7, hi7, hl8, hi8, hl9, hi9⟩ := at_T35 HI.out.2.2.2.2.2.2.1 (j : Int) (by omega) (by omega)
   cases hA
   have hkid : rd_T35 l (j : Int) = l[j] := by simp [rd_T35, hj]
   have hb := HR.out.2.2.1
   replace e0 := (hb.cell (World.block_lt_of_cell? w0 _ e0)).trans e0
   replace e1 := (hb.cell (World.block_lt_of_cell? w0 _ e1)).trans e1
   replace e2 := (hb.cell (World.block_lt_of_cell? w0 _ e2)).trans e2
   replace e3 := (hb.cell (World.block_lt_of_cell? w0 _ e3)).trans e3
   replace e4 := (hb.cell (World.block_lt_of_cell? w0 _ e4)).trans e4
   replace e5 := (hb.cell (World.block_lt_of_cell? w0 _ e5)).trans e5
   replace e6 := (hb.cell (World.block_lt_of_cell? w0 _ e6)).trans e6
   replace e7 := (hb.cell (World.block_lt_of_cell? w0 _ e7)).trans e7
   replace e8 := (hb.cell (World.block_lt_of_cell? w0 _ e8)).trans e8
   replace e9 := (hb.cell (World.block_lt_of_cell? w0 _ e9)).trans e9
   rw [hkid] at e0 e1 e2 e3 e4 e5 e6 e7 e8 e9 hl7 hi7 hl8 hi8 hl9 hi9
   simp only [Int.toNat_natCast] at e0 e1 e2 e3 e4 e5 e6 e7 e8 e9
   obtain ⟨x, hx⟩ : ∃ x, x = l[j] := ⟨_, rfl⟩
   rw [← hx] at e0 e1 e2 e3 e4 e5 e6 e7 e8 e9 hl7 hi7 hl8 hi8 hl9 hi9
   obtain ⟨n, hn, hbn⟩ := HR.out.2.1
   have hmn := count_in d (l.take j) m HI.out.2.2.2.1
   rw [hn] at hmn
   have n16 : n ≤ 16 := (hmn.1 rfl).1
   have n0 : 0 ≤ n := by have h1 := (hmn.1 rfl).2; have h2 := HI.out.2.2.1; exact Int.le_trans h2 h1
   have HX := Aside0.mk (And.intro hx (And.intro hj (And.intro hn (And.intro n0 n16))))
   have HC := Aside0.mk (And.intro hi7 (And.intro hl7 (And.intro hi8 (And.intro hl8 (And.intro hi9 hl9)))))
   have HBN := Aside0.mk hbn
   clear hb hkid hx hi7 hl7 hi8 hl8 hi9 hl9 hn hbn hmn n0 n16
   go_upto_region 4 with (fail)
   have j1 := heap_alloc_new wr (.cells (stCells x A7 c7 A8 c8 A9 c9) 35)
   have hb1 : Below wr.heap.size wr (wr.alloc (.cells (stCells x A7 c7 A8 c8 A9 c9) 35)) := (Below.refl _ _).alloc (Nat.le_refl _) _
   unfold stCells at j1 hb1
   generalize wr.alloc (.cells #[.int .i64 x.f0, .int .i64 x.f1.f0, .int .i64 x.f1.f1, .int .i64 x.f2.f0, .int .i64 x.f2.f1, .int .i64 x.f2.f2.f0, .int .i64 x.f2.f2.f1, .slice A7 x.f2.f3.length c7, .slice A8 x.f3.length c8, .slice A9 x.f4.length c9] 35) = W1 at j1 hb1 ⊢
   have q0 : W1.cell? ⟨gm, 0, none⟩ = some (.int .i64 n) := Boxed.cell ((hb1.block _ HBN.out.lt).trans HBN.out)
   have q1 : W1.frozen? ⟨gm, 0, none⟩ = false := Boxed.frozen ((hb1.block _ HBN.out.lt).trans HBN.out)
   have n0 := HX.out.2.2.2.1
   have n16 := HX.out.2.2.2.2
   clear e0 e1 e2 e3 e4 e5 e6 e7 e8 e9
   go_upto_region 5 with (fail)
   have hgw : wr.heap.size ≠ gm := by have := HBN.out.lt; omega
   have j2 : (W1.setCell ⟨gm, 0, none⟩ (.int .i64 (n + 1))).heap[wr.heap.size]? = _ := blk_far j1 hgw _
   have bx2 : Boxed (W1.setCell ⟨gm, 0, none⟩ (.int .i64 (n + 1))) gm 3 (.int .i64 (n + 1)) := Boxed.set _ ((hb1.block _ HBN.out.lt).trans HBN.out)
   have hB2 : Below w0.heap.size w0 (W1.setCell ⟨gm, 0, none⟩ (.int .i64 (n + 1))) := below_set (HR.out.2.2.1.trans (hb1.mono HR.out.2.2.1.size)) HI.out.2.2.2.2.1
   have hK2 : KeepBut w (W1.setCell ⟨gm, 0, none⟩ (.int .i64 (n + 1))) gm none := KeepBut.set_ (HR.out.2.2.2.trans (KeepBut.of_below hb1 gm none) (.inl rfl)) 0 _
   generalize W1.setCell ⟨gm, 0, none⟩ (.int .i64 (n + 1)) = W2 at j2 bx2 hB2 hK2 ⊢
   have HW2 := Aside0.mk (And.intro j2 (And.intro bx2 (And.intro hB2 hK2)))
   have HG := Aside0.mk hgw
   clear q0 q1 j1 hb1 bx2 hB2 hK2 hgw
   obtain ⟨e0, e1, e2, e3, e4, e5, e6, e7, e8, e9, _⟩ := cel10 j2
   clear j2
   go_wp2_with fail
   refine (doing_any x A7 c7 A8 c8 A9 c9 W2).mono ?_
   rintro e w1 ⟨rfl, hb2⟩
   have j3 := (hb2.block _ (blk_lt HW2.out.1)).trans HW2.out.1
   have bx3 : Boxed w1 gm 3 (.int .i64 (n + 1)) := (hb2.block _ HW2.out.2.1.lt).trans HW2.out.2.1
   have q0 := Boxed.cell bx3
   have HW3 := Aside0.mk (And.intro j3 (And.intro bx3 (And.intro (HW2.out.2.2.1.trans (hb2.mono HW2.out.2.2.1.size)) (HW2.out.2.2.2.trans (KeepBut.of_below hb2 gm none) (.inl rfl)))))
   clear hb2 bx3 e0 e1 e2 e3 e4 e5 e6 e7 e8 e9 HW2 HBN
   obtain ⟨e0, e1, e2, e3, e4, e5, e6, e7, e8, e9, _⟩ := cel10 j3
   clear j3
   have HDV := Aside0.mk (show n + 1 > 16 → doV x A7 c7 A8 c8 A9 c9 = doV x A7 c7 A8 c8 A9 c9 from fun _ => rfl)
   by_cases h16 : n + 1 > 16
   ·have b16 : decide (16 < n + 1) = true := decide_eq_true h16
    have HS : Aside0 (stepD d x n = (false, n + 1)) := Aside0.mk (by
     cases d with
     | zero => rfl
     | succ d => show cntStep d x n = _; rw [cntStep, if_pos (by rw [decide_eq_true h16]; rfl)])
    clear h16
    obtain ⟨v, hv⟩ : ∃ v, v = doV x A7 c7 A8 c8 A9 c9 := ⟨_, rfl⟩
    rw [← hv]
    clear hv
    go_wp2
    go_ret
    exact ⟨by rw [count_stop d l m j HX.out.2.1 n (n + 1) HX.out.2.2.1 (by rw [← HX.out.1]; exact HS.out)]; rfl, by rw [count_stop d l m j HX.out.2.1 n (n + 1) HX.out.2.2.1 (by rw [← HX.out.1]; exact HS.out)]; exact HW3.out.2.1, HW3.out.2.2.1, HW3.out.2.2.2⟩
   ·have b16 : decide (16 < n + 1) = false := decide_eq_false h16
    have H16 := Aside0.mk h16; clear h16 HDV
    by_cases hd0 : d = 0
    ·have hdp : deep = 4 := by have := HI.out.1; omega
     have b4 : decide (4 ≤ deep) = true := decide_eq_true (by omega)
     have HS : Aside0 (stepD d x n = (false, n + 1)) := Aside0.mk (by rw [hd0]; rfl)
     clear hd0 hdp
     obtain ⟨v, hv⟩ : ∃ v, v = doV x A7 c7 A8 c8 A9 c9 := ⟨_, rfl⟩
     rw [← hv]
     clear hv
     go_wp2
     go_ret
     exact ⟨by rw [count_stop d l m j HX.out.2.1 n (n + 1) HX.out.2.2.1 (by rw [← HX.out.1]; exact HS.out)]; rfl, by rw [count_stop d l m j HX.out.2.1 n (n + 1) HX.out.2.2.1 (by rw [← HX.out.1]; exact HS.out)]; exact HW3.out.2.1, HW3.out.2.2.1, HW3.out.2.2.2⟩
    ·obtain ⟨d', hd'⟩ : ∃ d', d = d' + 1 := ⟨d - 1, by omega⟩
     have hdp : ¬ (4 ≤ deep) := by have := HI.out.1; omega
     have b4 : decide (4 ≤ deep) = false := decide_eq_false hdp
     have HD := Aside0.mk (And.intro hd' (ih d' hd'))
     have HDP := Aside0.mk hdp
     clear hd0 hdp hd'
     by_cases hk : x.f0 = 1 ∨ x.f0 = 2 ∨ x.f0 = 3
     rotate_left
     ·have hnil := do_nil x A7 c7 A8 c8 A9 c9 hk
      have HS : Aside0 (stepD d x n = (false, n + 1)) := Aside0.mk (by
       rw [HD.out.1]; show cntStep d' x n = _; rw [cntStep, if_pos (by rw [headSt, hnil.2]; simp)])
      rw [hnil.1]
      clear hk hnil
      go_wp2
      go_ret
      exact ⟨by rw [count_stop d l m j HX.out.2.1 n (n + 1) HX.out.2.2.1 (by rw [← HX.out.1]; exact HS.out)]; rfl, by rw [count_stop d l m j HX.out.2.1 n (n + 1) HX.out.2.2.1 (by rw [← HX.out.1]; exact HS.out)]; exact HW3.out.2.1, HW3.out.2.2.1, HW3.out.2.2.2⟩
     ·obtain ⟨T, v, fp, hdo⟩ := do_is x A7 c7 A8 c8 A9 c9 hk
      rw [hdo.v']
      have hm := hdo.m
      have hep := hdo.ep
      have HDO := Aside0.mk hdo
      clear hk hdo
      have HP := Aside0.mk (HDO.out.cp w1 (Kd.C_below HC.out.1 HW3.out.2.2.1) HC.out.2.1 (Kd.C_below HC.out.2.2.1 HW3.out.2.2.1) HC.out.2.2.2.1 (Kd.C_below HC.out.2.2.2.2.1 HW3.out.2.2.1) HC.out.2.2.2.2.2)
      cases hp : plainL x with
      | false =>
       have HS : Aside0 (stepD d x n = (false, n + 1)) := Aside0.mk (by
        rw [HD.out.1]; show cntStep d' x n = _; rw [cntStep, if_pos (by rw [headSt, hp]; simp)])
       have HPL := Aside0.mk hp; clear hp
       go_wp2_with fail
       refine HP.out.mono ?_
       clear HP
       rintro e w2 ⟨rfl, hb3⟩
       rw [HPL.out]
       have j4 := (hb3.block _ (blk_lt HW3.out.1)).trans HW3.out.1
       have bx4 : Boxed w2 gm 3 (.int .i64 (n + 1)) := (hb3.block _ HW3.out.2.1.lt).trans HW3.out.2.1
       have HW4 := Aside0.mk (And.intro j4 (And.intro bx4 (And.intro (HW3.out.2.2.1.trans (hb3.mono HW3.out.2.2.1.size)) (HW3.out.2.2.2.trans (KeepBut.of_below hb3 gm none) (.inl rfl)))))
       clear hb3 bx4 q0 e0 e1 e2 e3 e4 e5 e6 e7 e8 e9 j4
       go_wp2
       go_ret
       exact ⟨by rw [count_stop d l m j HX.out.2.1 n (n + 1) HX.out.2.2.1 (by rw [← HX.out.1]; exact HS.out)]; rfl, by rw [count_stop d l m j HX.out.2.1 n (n + 1) HX.out.2.2.1 (by rw [← HX.out.1]; exact HS.out)]; exact HW4.out.2.1, HW4.out.2.2.1, HW4.out.2.2.2⟩
      | true =>
       have HPL := Aside0.mk hp; clear hp
       go_wp2_with fail
       refine HP.out.mono ?_
       clear HP
       rintro e w2 ⟨rfl, hb3⟩
       rw [HPL.out]
       have j4 := (hb3.block _ (blk_lt HW3.out.1)).trans HW3.out.1
       have bx4 : Boxed w2 gm 3 (.int .i64 (n + 1)) := (hb3.block _ HW3.out.2.1.lt).trans HW3.out.2.1
       have HW4 := Aside0.mk (And.intro j4 (And.intro bx4 (And.intro (HW3.out.2.2.1.trans (hb3.mono HW3.out.2.2.1.size)) (HW3.out.2.2.2.trans (KeepBut.of_below hb3 gm none) (.inl rfl)))))
       clear hb3 bx4 q0 e0 e1 e2 e3 e4 e5 e6 e7 e8 e9
       obtain ⟨e0, e1, e2, e3, e4, e5, e6, e7, e8, e9, _⟩ := cel10 j4
       clear j4
       go_wp2_with fail
       refine (hok x.f2 A7 c7 w2 (Kd.C_below HC.out.1 HW4.out.2.2.1) HC.out.2.1).mono ?_
       rintro e w3 ⟨rfl, hb3⟩
       have j4 := (hb3.block _ (blk_lt HW4.out.1)).trans HW4.out.1
       have bx4 : Boxed w3 gm 3 (.int .i64 (n + 1)) := (hb3.block _ HW4.out.2.1.lt).trans HW4.out.2.1
       have HW5 := Aside0.mk (And.intro j4 (And.intro bx4 (And.intro (HW4.out.2.2.1.trans (hb3.mono HW4.out.2.2.1.size)) (HW4.out.2.2.2.trans (KeepBut.of_below hb3 gm none) (.inl rfl)))))
       clear hb3 bx4 e0 e1 e2 e3 e4 e5 e6 e7 e8 e9
       cases ho : okL 0 (partsL x.f2) with
       | false =>
        have HS : Aside0 (stepD d x n = (false, n + 1)) := Aside0.mk (by
         rw [HD.out.1]; show cntStep d' x n = _; rw [cntStep, if_pos (by rw [headSt, ho, Bool.and_false]; simp)])
        have HO := Aside0.mk ho; clear ho j4
        go_wp2
        go_ret
        exact ⟨by rw [count_stop d l m j HX.out.2.1 n (n + 1) HX.out.2.2.1 (by rw [← HX.out.1]; exact HS.out)]; rfl, by rw [count_stop d l m j HX.out.2.1 n (n + 1) HX.out.2.2.1 (by rw [← HX.out.1]; exact HS.out)]; exact HW5.out.2.1, HW5.out.2.2.1, HW5.out.2.2.2⟩
       | true =>
        have HS : Aside0 (stepD d x n = let r1 := countL d' x.f3 (n + 1); if r1.1 then countL d' x.f4 r1.2 else r1) := Aside0.mk (by
         rw [HD.out.1]; show cntStep d' x n = _; rw [cntStep, if_neg (by rw [headSt, HPL.out, ho, decide_eq_false (show ¬ (16 < n + 1) by have := H16.out; omega)]; simp)])
        have HO := Aside0.mk ho; clear ho
        obtain ⟨e0, e1, e2, e3, e4, e5, e6, e7, e8, e9, _⟩ := cel10 j4
        clear j4
        have dl : deep ≤ 4 := by have := HDP.out; omega
        have d0 : 0 ≤ deep := by have h1 := HI.out.1; have h2 := HI.out.2.1; omega
        have n17 : n + 1 ≤ 16 := by have := H16.out; omega
        have HCALL := Aside0.mk (HD.out.2 x.f3 A8 c8 gm (deep + 1) (n + 1) w0 w3 (by have h1 := HI.out.1; have h2 := HD.out.1; omega) (by have := HX.out.2.2.2.1; omega) n17 HI.out.2.2.2.2.1 HW5.out.2.1 HW5.out.2.2.1 HC.out.2.2.1 HC.out.2.2.2.1)
        go_wp2_with fail
        refine HCALL.out.mono ?_
        clear HCALL
        rintro e w4 ⟨rfl, hbx, hB4, hK4⟩
        have j4 := hK4.blk HW5.out.1 HG.out (by simp)
        have HW6 := Aside0.mk (And.intro hbx (And.intro hB4 (HW5.out.2.2.2.trans hK4 (.inl rfl))))
        have HJ4 := Aside0.mk j4
        have hin := count_in d' x.f3 (n + 1) n17
        have HIN := Aside0.mk hin
        clear hbx hB4 hK4 e0 e1 e2 e3 e4 e5 e6 e7 e8 e9 n17 hin dl d0
        obtain ⟨r1, hr1⟩ : ∃ r1, r1 = countL d' x.f3 (n + 1) := ⟨_, rfl⟩
        rw [← hr1] at HW6 HIN ⊢
        have HS1 : Aside0 (stepD d x n = if r1.1 then countL d' x.f4 r1.2 else r1) := Aside0.mk (by rw [HS.out, ← hr1])
        clear HS hr1
        obtain ⟨b1, n1⟩ := r1
        cases b1 with
        | false =>
         clear j4
         have HS2 : Aside0 (stepD d x n = (false, n1)) := Aside0.mk (by rw [HS1.out]; rfl)
         go_wp2
         go_ret
         exact ⟨by rw [count_stop d l m j HX.out.2.1 n n1 HX.out.2.2.1 (by rw [← HX.out.1]; exact HS2.out)]; rfl, by rw [count_stop d l m j HX.out.2.1 n n1 HX.out.2.2.1 (by rw [← HX.out.1]; exact HS2.out)]; exact HW6.out.1, HW6.out.2.1, HW6.out.2.2⟩
        | true =>
         obtain ⟨e0, e1, e2, e3, e4, e5, e6, e7, e8, e9, _⟩ := cel10 j4
         clear j4
         have HS2 : Aside0 (stepD d x n = countL d' x.f4 n1) := Aside0.mk (by rw [HS1.out]; rfl)
         have dl : deep ≤ 4 := by have := HDP.out; omega
         have d0 : 0 ≤ deep := by have h1 := HI.out.1; have h2 := HI.out.2.1; omega
         have n17 : n1 ≤ 16 := (HIN.out.1 rfl).1
         have HCALL := Aside0.mk (HD.out.2 x.f4 A9 c9 gm (deep + 1) n1 w0 w4 (by have h1 := HI.out.1; have h2 := HD.out.1; omega) (by have h1 := HX.out.2.2.2.1; have h2 := (HIN.out.1 rfl).2; omega) n17 HI.out.2.2.2.2.1 HW6.out.1 HW6.out.2.1 HC.out.2.2.2.2.1 HC.out.2.2.2.2.2)
         go_wp2_with fail
         refine HCALL.out.mono ?_
         clear HCALL
         rintro e w5 ⟨rfl, hbx, hB4, hK4⟩
         have HW7 := Aside0.mk (And.intro hbx (And.intro hB4 (HW6.out.2.2.trans hK4 (.inl rfl))))
         clear hbx hB4 hK4 e0 e1 e2 e3 e4 e5 e6 e7 e8 e9 n17 dl d0
         obtain ⟨r2, hr2⟩ : ∃ r2, r2 = countL d' x.f4 n1 := ⟨_, rfl⟩
         rw [← hr2] at HW7 HS2 ⊢
         clear hr2
         obtain ⟨b2, n2⟩ := r2
         cases b2 with
         | false =>
          go_wp2
          go_ret
          exact ⟨by rw [count_stop d l m j HX.out.2.1 n n2 HX.out.2.2.1 (by rw [← HX.out.1]; exact HS2.out)]; rfl, by rw [count_stop d l m j HX.out.2.1 n n2 HX.out.2.2.1 (by rw [← HX.out.1]; exact HS2.out)]; exact HW7.out.1, HW7.out.2.1, HW7.out.2.2⟩
         | true =>
          go_wp2
          go_roundw
          case rel => exact ⟨j + 1, by go_num, ⟨HX.out.2.1, ⟨n2, by rw [count_take d l m j HX.out.2.1 n HX.out.2.2.1, ← HX.out.1]; exact HS2.out, HW7.out.1⟩, HW7.out.2.1, HW7.out.2.2⟩⟩
          case measure => have := HX.out.2.1; simp [intOf]; omega
  ·have hjl : j = l.length := by have := HR.out.1; omega
   obtain ⟨n, hn, hbn⟩ := HR.out.2.1
   rw [hjl, List.take_of_length_le (Nat.le_refl _)] at hn
   have HN := Aside0.mk (And.intro hn hbn); clear hn hbn hjl
   go_wp2
   go_ret
   exact ⟨by rw [HN.out.1]; rfl, by rw [HN.out.1]; exact HN.out.2, HR.out.2.2.1, HR.out.2.2.2⟩
end Go.Proofs.YtendbgedpjcocaaGreatDoor.B
