/- impl.reckon: what something that is ok comes to. -/
import Derived.Test.YtacbbpbopmdpeaaMemory
import Derived.Test.YtacbbpbopmdpeaaOkLaw
namespace Go.Proofs.Ytacbbpbopmdpeaa.B
open Go.RowKit Go.Proofs.YtacbbpbopmdpeaaW.PrintWords Go.Proofs.YtacbbpbopmdpeaaW.PrintLast Go.Proofs.YtacbbpbopmdpeaaW.PrintMore
set_option linter.unusedVariables false

theorem meth_of1 : ∀ w, (method 228 84 (.agg #[]) "loop.example/stopgate/impl.of").run Try.prog w = .ok (76, .agg #[]) w := fun _ => by kernel_rfl
theorem meth_of2 : ∀ w, (method 228 85 (.agg #[]) "loop.example/stopgate/impl.of").run Try.prog w = .ok (94, .agg #[]) w := fun _ => by kernel_rfl
theorem meth_of3 : ∀ w, (method 228 86 (.agg #[]) "loop.example/stopgate/impl.of").run Try.prog w = .ok (99, .agg #[]) w := fun _ => by kernel_rfl
theorem meth_of4 : ∀ w, (method 228 87 (.agg #[]) "loop.example/stopgate/impl.of").run Try.prog w = .ok (112, .agg #[]) w := fun _ => by kernel_rfl

theorem two_blocks' (w : World) (a b : Obj) : ((w.alloc a).alloc b).heap.size = w.heap.size + 1 + 1 ∧ ((w.alloc a).alloc b).heap[w.heap.size]? = some a ∧ ((w.alloc a).alloc b).heap[w.heap.size + 1]? = some b ∧ Below w.heap.size w ((w.alloc a).alloc b) := by
 have s1 : (w.alloc a).heap.size = w.heap.size + 1 := by simp
 have s2 : ((w.alloc a).alloc b).heap.size = w.heap.size + 1 + 1 := by simp
 refine ⟨s2, ?_, ?_, ((Below.refl w.heap.size w).alloc (Nat.le_refl _) _).alloc (by omega) _⟩
 ·rw [Below.heap_alloc _ _ _ (by omega)]; exact heap_alloc_new w a
 ·rw [← s1]; exact heap_alloc_new _ b
theorem two_of_len : ∀ (l : List Ex) (h : l.length = 2), l = [l[0], l[1]]
 | [a, b], _ => rfl
/-- The cells of one of the parts within. -/
theorem kid_at {w : World} {A : Option Addr} {l : List Ex} (h : Kd.C exK w A l.length l) (j : Nat) (hj : j < l.length) : ∃ ad A4 c4, A = some ad ∧ w.cell? (ad.add (j * 5)) = some (.int .i64 l[j].f0) ∧ w.cell? ⟨(ad.add (j * 5)).block, (ad.add (j * 5)).off + 1, none⟩ = some (.int .i64 l[j].f1) ∧
  w.cell? ⟨(ad.add (j * 5)).block, (ad.add (j * 5)).off + 2, none⟩ = some (.int .i64 l[j].f2.f0) ∧ w.cell? ⟨(ad.add (j * 5)).block, (ad.add (j * 5)).off + 3, none⟩ = some (.int .i64 l[j].f2.f1) ∧ w.cell? ⟨(ad.add (j * 5)).block, (ad.add (j * 5)).off + 4, none⟩ = some (.slice A4 l[j].f3.length c4) ∧ l[j].f3.length ≤ c4 ∧ Kd.C exK w A4 l[j].f3.length l[j].f3 := by
 obtain ⟨ad, A4, c4, hA, e0, e1, e2, e3, e4, hl4, hi4⟩ := at_T27 h (j : Int) (by omega) (by omega)
 have hkid : rd_T27 l (j : Int) = l[j] := by simp [rd_T27, hj]
 rw [hkid] at e0 e1 e2 e3 e4 hl4 hi4
 simp only [Int.toNat_natCast] at e0 e1 e2 e3 e4
 exact ⟨ad, A4, c4, hA, e0, e1, e2, e3, e4, hl4, hi4⟩
theorem numIs_any (b : Bool) (w : World) : Calls Try.prog 107 #[.bool b] w fun e w' => e = .returned (.int .i64 (if b then 1 else 0)) ∧ Below w.heap.size w w' :=
 (impl_NumIs.calls b _ w (by unfold impl_NumIs.f; cases b <;> rfl)).mono fun e w' h => ⟨h.1, h.2.below⟩
theorem numOn_any (n : Int) (w : World) : Calls Try.prog 108 #[.int .i64 n] w fun e w' => e = .returned (.bool (n != 0)) ∧ Below w.heap.size w w' :=
 (impl_NumOn.calls n _ w rfl).mono fun e w' h => ⟨h.1, h.2.below⟩
/-- What reckon answers of e. -/
def RkPost (bs : List Int) (e : Ex) (w : World) (en : Ending) (w' : World) : Prop := en = .returned (.int .i64 (evalI bs e)) ∧ Below w.heap.size w w'
def Rk (f : Nat) (pre : Array Value) (bs : List Int) (e : Ex) : Prop := ∀ (g : Nat) (A : Option Addr) (c : Nat) (w : World), MemAt w g bs → Kd.C exK w A e.f3.length e.f3 → e.f3.length ≤ c →
 Calls Try.prog f (pre ++ #[.pointer (some ⟨g, 0, none⟩), .agg #[.int .i64 e.f0, .int .i64 e.f1, .int .i64 e.f2.f0, .int .i64 e.f2.f1, .slice A e.f3.length c]]) w (RkPost bs e w)

set_option maxRecDepth 100000 in
theorem of1 (bs : List Int) (e : Ex) (h1 : e.f0 = 1) : Rk 76 #[.agg #[]] bs e := by
 intro g A c w hm hC hc
 have HV := Aside0.mk (show evalI bs e = e.f1 by rw [evalI_eq, if_pos h1])
 have HB := Aside0.mk (Below.refl w.heap.size w)
 clear hm hC hc h1
 simp only [List.append_toArray, List.nil_append, List.cons_append]
 go_enter Try.func76, Try.ntmps76
 go_wp2
 go_ret
 exact ⟨by rw [HV.out]; rfl, by repeat (first | (with_reducible first | exact HB.out | apply below_alloc | apply pw_below_drewN | apply below_drew1) | exact HB.out)⟩
set_option maxRecDepth 100000 in
theorem of2 (bs : List Int) (e : Ex) (h2 : e.f0 = 2) : Rk 94 #[.agg #[]] bs e := by
 intro g A c w hm hC hc
 have HV := Aside0.mk (show evalI bs e = getL bs e.f2.f0 e.f2.f1 by rw [evalI_eq, if_neg (by omega), if_pos h2])
 have HM := Aside0.mk hm
 have HB := Aside0.mk (Below.refl w.heap.size w)
 clear hm hC hc h2
 simp only [List.append_toArray, List.nil_append, List.cons_append]
 go_enter Try.func94, Try.ntmps94
 go_wp2_with fail
 obtain ⟨hs, k1, k2, hB0⟩ := two_blocks' w (.cells #[] 85 (0, 0)) (.cells #[.int .i64 e.f0, .int .i64 e.f1, .int .i64 e.f2.f0, .int .i64 e.f2.f1, .slice A e.f3.length c] 27 (0, 0))
 refine (get_any g bs _ _ _ (HM.out.below hB0)).mono ?_
 rintro en w1 ⟨rfl, hb1⟩
 have HB1 := Aside0.mk (hB0.trans (hb1.mono hB0.size))
 clear hb1 hB0 hs k1 k2
 go_wp2
 go_ret
 exact ⟨by rw [HV.out]; rfl, HB1.out⟩
set_option maxRecDepth 100000 in
set_option maxHeartbeats 4000000 in
theorem of4 (bs : List Int) (e : Ex) (h10 : e.f0 = 10) (hl : e.f3.length = 1) (ih : ∀ x ∈ e.f3, Rk 20 #[] bs x) : Rk 112 #[.agg #[]] bs e := by
 intro g A c w hm hC hc
 have hC0 := hC
 rw [hl] at hc ⊢
 obtain ⟨hs, k1, k2, hB0⟩ := two_blocks' w (.cells #[] 87 (0, 0)) (.cells #[.int .i64 e.f0, .int .i64 e.f1, .int .i64 e.f2.f0, .int .i64 e.f2.f1, .slice A 1 c] 27 (0, 0))
 obtain ⟨ad, A4, c4, rfl, e0, e1, e2, e3, e4, hl4, hi4⟩ := kid_at (Kd.C_below hC hB0) 0 (by omega)
 have hcall := ih e.f3[0] (List.getElem_mem (by omega)) g A4 c4 _ (hm.below hB0) hi4 hl4
 obtain ⟨kid, hkd⟩ : ∃ kid, kid = e.f3[0] := ⟨_, rfl⟩
 rw [← hkd] at e0 e1 e2 e3 e4 hl4 hi4 hcall
 have HV := Aside0.mk (show evalI bs e = if evalI bs kid = 0 then 1 else 0 by
  have : e.f3 = [kid] := by
   rw [hkd]; exact List.ext_getElem (by simp [hl]) (fun i h1 h2 => by simp at h2; subst h2; rfl)
  rw [evalI_eq, if_neg (by omega), if_neg (by omega), if_pos h10, this]; rfl)
 simp only [List.append_toArray, List.nil_append] at hcall
 have HC := Aside0.mk hcall
 have HB0 := Aside0.mk hB0
 clear ih hcall hm hC hC0 hkd hl4 hi4 hB0 k1 k2 hs hl h10
 simp only [Nat.zero_mul, show ad.add 0 = ad by simp [Addr.add]] at e0 e1 e2 e3 e4
 simp only [List.append_toArray, List.nil_append, List.cons_append]
 go_enter Try.func112, Try.ntmps112
 go_wp2_with fail
 refine HC.out.mono ?_
 clear HC
 rintro en w1 ⟨rfl, hb1⟩
 have HB1 := Aside0.mk (HB0.out.trans (hb1.mono HB0.out.size))
 clear hb1 e0 e1 e2 e3 e4
 go_wp2_with fail
 refine (numOn_any _ _).mono ?_
 rintro en w2 ⟨rfl, hb2⟩
 have HB2 := Aside0.mk (HB1.out.trans (hb2.mono HB1.out.size))
 clear hb2
 obtain ⟨v, hv⟩ : ∃ v, v = evalI bs kid := ⟨_, rfl⟩
 rw [← hv] at HV ⊢
 clear hv
 by_cases hz : v = 0
 ·subst hz
  go_wp2_with fail
  refine (numIs_any _ _).mono ?_
  rintro en w3 ⟨rfl, hb3⟩
  have HB3 := Aside0.mk (HB2.out.trans (hb3.mono HB2.out.size))
  clear hb3
  go_wp2
  go_ret
  exact ⟨by rw [HV.out]; rfl, HB3.out⟩
 ·have hz1 : (v != 0) = true := by simp [hz]
  have HZ := Aside0.mk hz; clear hz
  go_wp2_with fail
  refine (numIs_any _ _).mono ?_
  rintro en w3 ⟨rfl, hb3⟩
  have HB3 := Aside0.mk (HB2.out.trans (hb3.mono HB2.out.size))
  clear hb3
  go_wp2
  go_ret
  exact ⟨by rw [HV.out, if_neg HZ.out]; rfl, HB3.out⟩
set_option maxRecDepth 100000 in
set_option maxHeartbeats 4000000 in
theorem of3 (bs : List Int) (e : Ex) (h39 : 3 ≤ e.f0 ∧ e.f0 ≤ 9) (hl : e.f3.length = 2) (ih : ∀ x ∈ e.f3, Rk 20 #[] bs x) : Rk 99 #[.agg #[]] bs e := by
 intro g A c w hm hC hc
 have hC0 := hC
 rw [hl] at hc ⊢
 obtain ⟨hs, k1, k2, hB0⟩ := two_blocks' w (.cells #[] 86 (0, 0)) (.cells #[.int .i64 e.f0, .int .i64 e.f1, .int .i64 e.f2.f0, .int .i64 e.f2.f1, .slice A 2 c] 27 (0, 0))
 obtain ⟨ad, A4, c4, hA, e0, e1, e2, e3, e4, hl4, hi4⟩ := kid_at (Kd.C_below hC hB0) 0 (by omega)
 obtain ⟨ad', A5, c5, hA', g0, g1, g2, g3, g4, ml4, mi4⟩ := kid_at (Kd.C_below hC hB0) 1 (by omega)
 subst hA
 cases hA'
 have ih0 := ih e.f3[0] (List.getElem_mem (by omega))
 have ih1 := ih e.f3[1] (List.getElem_mem (by omega))
 obtain ⟨k0, hk0⟩ : ∃ kid, kid = e.f3[0] := ⟨_, rfl⟩
 obtain ⟨k1', hk1⟩ : ∃ kid, kid = e.f3[1] := ⟨_, rfl⟩
 rw [← hk0] at e0 e1 e2 e3 e4 hl4 hi4 ih0
 rw [← hk1] at g0 g1 g2 g3 g4 ml4 mi4 ih1
 have HV := Aside0.mk (show evalI bs e = twoI e.f0 (evalI bs k0) (evalI bs k1') by
  have : e.f3 = [k0, k1'] := by rw [hk0, hk1]; exact two_of_len e.f3 hl
  rw [evalI_eq, if_neg (by omega), if_neg (by omega), if_neg (by omega), this]; rfl)
 simp only [Nat.zero_mul, show ad.add 0 = ad by simp [Addr.add]] at e0 e1 e2 e3 e4
 simp only [Nat.one_mul, show ad.add 5 = ⟨ad.block, ad.off + 5, none⟩ by simp [Addr.add]] at g0 g1 g2 g3 g4
 simp only [List.append_toArray, List.nil_append, List.cons_append]
 have q0 : ((w.alloc (.cells #[] 86)).alloc (.cells #[.int .i64 e.f0, .int .i64 e.f1, .int .i64 e.f2.f0, .int .i64 e.f2.f1, .slice (some ad) 2 c] 27)).cell? ⟨w.heap.size + 1, 0, none⟩ = some (.int .i64 e.f0) := by rw [blk_cell k2]; rfl
 have q4 : ((w.alloc (.cells #[] 86)).alloc (.cells #[.int .i64 e.f0, .int .i64 e.f1, .int .i64 e.f2.f0, .int .i64 e.f2.f1, .slice (some ad) 2 c] 27)).cell? ⟨w.heap.size + 1, 4, none⟩ = some (.slice (some ad) 2 c) := by rw [blk_cell k2]; rfl
 have hm0 := hm.below hB0
 simp only [Rk, List.append_toArray, List.nil_append] at ih0 ih1
 have HC := Aside0.mk (And.intro hB0 (And.intro hm0 (And.intro hi4 (And.intro hl4 (And.intro mi4 (And.intro ml4 (And.intro ih0 ih1)))))))
 have HQ := Aside0.mk (And.intro q0 (And.intro q4 (And.intro e0 (And.intro e1 (And.intro e2 (And.intro e3 (And.intro e4 (And.intro g0 (And.intro g1 (And.intro g2 (And.intro g3 g4)))))))))))
 clear ih ih0 ih1 hm hm0 hC hC0 hk0 hk1 hl4 hi4 ml4 mi4 hB0 k1 k2 hs hl h39 e0 e1 e2 e3 e4 g0 g1 g2 g3 g4 q0 q4
 go_enter Try.func99, Try.ntmps99
 go_wp2
 generalize (w.alloc (.cells #[] 86)).alloc (.cells #[.int .i64 e.f0, .int .i64 e.f1, .int .i64 e.f2.f0, .int .i64 e.f2.f1, .slice (some ad) 2 c] 27) = W0 at HC HQ ⊢
 obtain ⟨k1, hk1⟩ : ∃ k1, k1 = k1' := ⟨_, rfl⟩
 subst hk1
 have hold : ∀ W, Below W0.heap.size W0 W → W.cell? ⟨w.heap.size + 1, 0, none⟩ = some (.int .i64 e.f0) ∧ W.cell? ⟨w.heap.size + 1, 4, none⟩ = some (.slice (some ad) 2 c) ∧ W.cell? ad = some (.int .i64 k0.f0) ∧ W.cell? ⟨ad.block, ad.off + 1, none⟩ = some (.int .i64 k0.f1) ∧ W.cell? ⟨ad.block, ad.off + 2, none⟩ = some (.int .i64 k0.f2.f0) ∧ W.cell? ⟨ad.block, ad.off + 3, none⟩ = some (.int .i64 k0.f2.f1) ∧ W.cell? ⟨ad.block, ad.off + 4, none⟩ = some (.slice A4 k0.f3.length c4) ∧ W.cell? ⟨ad.block, ad.off + 5, none⟩ = some (.int .i64 k1.f0) ∧ W.cell? ⟨ad.block, ad.off + 5 + 1, none⟩ = some (.int .i64 k1.f1) ∧ W.cell? ⟨ad.block, ad.off + 5 + 2, none⟩ = some (.int .i64 k1.f2.f0) ∧ W.cell? ⟨ad.block, ad.off + 5 + 3, none⟩ = some (.int .i64 k1.f2.f1) ∧ W.cell? ⟨ad.block, ad.off + 5 + 4, none⟩ = some (.slice A5 k1.f3.length c5) ∧ Below W0.heap.size W0 W := fun W h => by
  obtain ⟨q0, q4, e0, e1, e2, e3, e4, g0, g1, g2, g3, g4⟩ := HQ.out
  exact ⟨(h.cell (World.block_lt_of_cell? W0 _ q0)).trans q0, (h.cell (World.block_lt_of_cell? W0 _ q4)).trans q4, (h.cell (World.block_lt_of_cell? W0 _ e0)).trans e0, (h.cell (World.block_lt_of_cell? W0 _ e1)).trans e1, (h.cell (World.block_lt_of_cell? W0 _ e2)).trans e2, (h.cell (World.block_lt_of_cell? W0 _ e3)).trans e3, (h.cell (World.block_lt_of_cell? W0 _ e4)).trans e4, (h.cell (World.block_lt_of_cell? W0 _ g0)).trans g0, (h.cell (World.block_lt_of_cell? W0 _ g1)).trans g1, (h.cell (World.block_lt_of_cell? W0 _ g2)).trans g2, (h.cell (World.block_lt_of_cell? W0 _ g3)).trans g3, (h.cell (World.block_lt_of_cell? W0 _ g4)).trans g4, h⟩
 have HH := Aside0.mk hold
 have HA := Aside0.mk (HC.out.2.2.2.2.2.2.1 g A4 c4 W0.drew (HC.out.2.1.below (below_drew (Below.refl _ W0))) (Kd.C_below HC.out.2.2.1 (below_drew (Below.refl _ W0))) HC.out.2.2.2.1)
 have hD : ∀ W, Below W0.heap.size W0 W → Calls Try.prog 20 #[.pointer (some ⟨g, 0, none⟩), .agg #[.int .i64 k1.f0, .int .i64 k1.f1, .int .i64 k1.f2.f0, .int .i64 k1.f2.f1, .slice A5 k1.f3.length c5]] W (RkPost bs k1 W) := fun W h => HC.out.2.2.2.2.2.2.2 g A5 c5 W (HC.out.2.1.below h) (Kd.C_below HC.out.2.2.2.2.1 h) HC.out.2.2.2.2.2.1
 have HD := Aside0.mk hD
 clear hold HQ hD
 go_region_held3 (fun W => W.cell? ⟨w.heap.size + 1, 0, none⟩ = some (.int .i64 e.f0) ∧ W.cell? ⟨w.heap.size + 1, 4, none⟩ = some (.slice (some ad) 2 c) ∧ W.cell? ad = some (.int .i64 k0.f0) ∧ W.cell? ⟨ad.block, ad.off + 1, none⟩ = some (.int .i64 k0.f1) ∧ W.cell? ⟨ad.block, ad.off + 2, none⟩ = some (.int .i64 k0.f2.f0) ∧ W.cell? ⟨ad.block, ad.off + 3, none⟩ = some (.int .i64 k0.f2.f1) ∧ W.cell? ⟨ad.block, ad.off + 4, none⟩ = some (.slice A4 k0.f3.length c4) ∧ W.cell? ⟨ad.block, ad.off + 5, none⟩ = some (.int .i64 k1.f0) ∧ W.cell? ⟨ad.block, ad.off + 5 + 1, none⟩ = some (.int .i64 k1.f1) ∧ W.cell? ⟨ad.block, ad.off + 5 + 2, none⟩ = some (.int .i64 k1.f2.f0) ∧ W.cell? ⟨ad.block, ad.off + 5 + 3, none⟩ = some (.int .i64 k1.f2.f1) ∧ W.cell? ⟨ad.block, ad.off + 5 + 4, none⟩ = some (.slice A5 k1.f3.length c5) ∧ Below W0.heap.size W0 W) (first | exact HH.out _ (below_drew (Below.refl _ _)) | exact HH.out _ HB1.out | exact HH.out _ HB2.out | exact HH.out _ HB3.out)
  (first
  | (go_at_call 20; (with_reducible refine HA.out.mono ?_); rintro en w1 ⟨rfl, hb1⟩; have HB1 : Aside0 (Below W0.heap.size W0 w1) := Aside0.mk ((below_drew (Below.refl _ W0)).trans hb1); clear hb1)
  | (go_at_call 20; (with_reducible refine (HD.out w1 HB1.out).mono ?_); rintro en w2 ⟨rfl, hb2⟩; have HB2 := Aside0.mk (HB1.out.trans (hb2.mono HB1.out.size)); clear hb2)
  | (go_at_call 102; refine (impl_two.calls _ _ _ _ w2 (two_some _ _ _)).mono ?_; rintro en w3 ⟨rfl, hb3⟩; have HB3 := Aside0.mk (HB2.out.trans (hb3.mono HB2.out.size)); clear hb3))
 go_wp2
 go_ret
 exact ⟨by rw [HV.out]; rfl, HC.out.1.trans (HB3.out.mono HC.out.1.size)⟩

structure OfIs (k : Int) (T fo : Nat) : Prop where
 v : kindV k = .iface T (.agg #[])
 mo : ∀ w, (method 228 T (.agg #[]) "loop.example/stopgate/impl.of").run Try.prog w = .ok (fo, .agg #[]) w
 eo : ∀ args w, (callFunc fo args).run Try.prog w = .ok (.enter fo args) w
set_option maxRecDepth 100000 in
set_option maxHeartbeats 4000000 in
theorem reckon_of (bs : List Int) (e : Ex) (T fo : Nat) (hO : OfIs e.f0 T fo) (co : Rk fo #[.agg #[]] bs e) : Rk 20 #[] bs e := by
 intro g A c w hm hC hc
 have k1 := heap_alloc_new w (.cells #[.int .i64 e.f0, .int .i64 e.f1, .int .i64 e.f2.f0, .int .i64 e.f2.f1, .slice A e.f3.length c] 27)
 have hB0 : Below w.heap.size w (w.alloc (.cells #[.int .i64 e.f0, .int .i64 e.f1, .int .i64 e.f2.f0, .int .i64 e.f2.f1, .slice A e.f3.length c] 27)) := (Below.refl _ _).alloc (Nat.le_refl _) _
 have hco := fun (W : World) (h : Below w.heap.size w W) => co g A c W (hm.below h) (Kd.C_below hC h) hc
 simp only [List.append_toArray, List.nil_append, List.cons_append] at hco
 have mo := hO.mo
 have eo := hO.eo
 have HV := Aside0.mk hO.v
 have HK := Aside0.mk (And.intro k1 hB0)
 have HC := Aside0.mk hco
 clear co hm hC hc k1 hB0 hco hO
 simp only [List.append_toArray, List.nil_append]
 go_enter Try.func20, Try.ntmps20
 go_wp2
 generalize w.alloc (.cells #[.int .i64 e.f0, .int .i64 e.f1, .int .i64 e.f2.f0, .int .i64 e.f2.f1, .slice A e.f3.length c] 27) = W0 at HK ⊢
 have hold : ∀ W, Below W0.heap.size W0 W → W.cell? ⟨w.heap.size, 0, none⟩ = some (.int .i64 e.f0) ∧ W.cell? ⟨w.heap.size, 1, none⟩ = some (.int .i64 e.f1) ∧ W.cell? ⟨w.heap.size, 2, none⟩ = some (.int .i64 e.f2.f0) ∧ W.cell? ⟨w.heap.size, 3, none⟩ = some (.int .i64 e.f2.f1) ∧ W.cell? ⟨w.heap.size, 4, none⟩ = some (.slice A e.f3.length c) ∧ Below W0.heap.size W0 W := fun W h => by
  have k1 := HK.out.1
  exact ⟨(h.cell (World.block_lt_of_cell? W0 _ ((blk_cell k1 0).trans rfl))).trans ((blk_cell k1 0).trans rfl), (h.cell (World.block_lt_of_cell? W0 _ ((blk_cell k1 1).trans rfl))).trans ((blk_cell k1 1).trans rfl), (h.cell (World.block_lt_of_cell? W0 _ ((blk_cell k1 2).trans rfl))).trans ((blk_cell k1 2).trans rfl), (h.cell (World.block_lt_of_cell? W0 _ ((blk_cell k1 3).trans rfl))).trans ((blk_cell k1 3).trans rfl), (h.cell (World.block_lt_of_cell? W0 _ ((blk_cell k1 4).trans rfl))).trans ((blk_cell k1 4).trans rfl), h⟩
 have HH := Aside0.mk hold
 clear hold
 go_region_held3 (fun W => W.cell? ⟨w.heap.size, 0, none⟩ = some (.int .i64 e.f0) ∧ W.cell? ⟨w.heap.size, 1, none⟩ = some (.int .i64 e.f1) ∧ W.cell? ⟨w.heap.size, 2, none⟩ = some (.int .i64 e.f2.f0) ∧ W.cell? ⟨w.heap.size, 3, none⟩ = some (.int .i64 e.f2.f1) ∧ W.cell? ⟨w.heap.size, 4, none⟩ = some (.slice A e.f3.length c) ∧ Below W0.heap.size W0 W) (first | exact HH.out _ (below_drew (Below.refl _ _)) | exact HH.out _ HB2.out)
  (first
  | (go_at_call 27; (with_reducible refine (reckoningOf_calls _ _).mono ?_); rintro en w1 ⟨rfl, rfl⟩; rw [HV.out])
  | ((with_reducible refine (HC.out _ (HK.out.2.trans ((below_drew (Below.refl _ W0)).mono HK.out.2.size))).mono ?_); rintro en w2 ⟨rfl, hb2⟩; have HB2 : Aside0 (Below W0.heap.size W0 w2) := Aside0.mk ((below_drew (Below.refl _ W0)).trans hb2); clear hb2))
 go_wp2
 go_ret
 exact ⟨rfl, HK.out.2.trans (HB2.out.mono HK.out.2.size)⟩

theorem reckon_any (bs : List Int) (d : Nat) : ∀ e : Ex, formS d e = true → Rk 20 #[] bs e := by
 induction d with
 | zero => intro e h; cases h
 | succ d ih =>
  intro e h
  rw [formS, Bool.and_eq_true] at h
  have hkids : ∀ x ∈ e.f3, Rk 20 #[] bs x := fun x hx => ih x (List.all_eq_true.1 h.2 x hx)
  have hh := h.1
  unfold headOk at hh
  simp only [Bool.and_eq_true, beq_iff_eq] at hh
  obtain ⟨⟨hk, hl⟩, hs⟩ := hh
  have hk' : 1 ≤ e.f0 ∧ e.f0 ≤ 10 := of_decide_eq_true hk
  by_cases h1 : e.f0 = 1
  ·exact reckon_of bs e _ _ ⟨by rw [h1]; rfl, meth_of1, enters_of Try.func76 (by kernel_rfl) rfl⟩ (of1 bs e h1)
  ·by_cases h2 : e.f0 = 2
   ·exact reckon_of bs e _ _ ⟨by rw [h2]; rfl, meth_of2, enters_of Try.func94 (by kernel_rfl) rfl⟩ (of2 bs e h2)
   ·by_cases h10 : e.f0 = 10
    ·have hl' : e.f3.length = 1 := by
      rw [kidsN, if_neg (by omega), if_neg (by omega)] at hl; omega
     exact reckon_of bs e _ _ ⟨by rw [h10]; rfl, meth_of4, enters_of Try.func112 (by kernel_rfl) rfl⟩ (of4 bs e h10 hl' hkids)
    ·have h39 : 3 ≤ e.f0 ∧ e.f0 ≤ 9 := by omega
     have hl' : e.f3.length = 2 := by
      rw [kidsN, if_neg (by omega), if_pos h39] at hl; omega
     exact reckon_of bs e _ _ ⟨by simp [kindV, h1, h2, h39], meth_of3, enters_of Try.func99 (by kernel_rfl) rfl⟩ (of3 bs e h39 hl' hkids)
end Go.Proofs.Ytacbbpbopmdpeaa.B
