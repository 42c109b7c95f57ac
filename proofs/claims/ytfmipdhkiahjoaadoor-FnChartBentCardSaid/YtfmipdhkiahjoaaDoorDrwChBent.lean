/- spec.l8Bent, by its size. -/
import Derived.Test.YtfmipdhkiahjoaaDoorDrwChart
namespace Go.Proofs.YtfmipdhkiahjoaaDoor.B
open Go Go.RowKit Go.Shelf Go.Proofs.YtfmipdhkiahjoaaDoorW.PrintWords Go.Proofs.YtfmipdhkiahjoaaDoorW.PrintLast Go.Proofs.YtfmipdhkiahjoaaDoorW.PrintMore
set_option linter.unusedVariables false
theorem chart_fr {w0 wb W : World} {g N : Nat} {s : List Int} (h : At w0 wb g s (N + 10000000) W) : Calls Tryd.prog 22 #[.pointer (some ⟨g, 0, none⟩)] W fun e w' => ChD W w' 1 4 4 e (At w0 wb g s N w' ∧ KeepBut W w' g none) :=
 (chart_at h.here).mono fun e w' ⟨s, l, A1, c1, m, A2, c2, KT, KA, h1, h2, h3, h4, h5, h6, h7, h8, h9⟩ => ⟨s, l, A1, c1, m, A2, c2, KT, KA, h1, h2, h3, h4, h5, h6, h7, h8, h9.over h, h9.k⟩
set_option maxRecDepth 10000000 in
set_option maxHeartbeats 8000000 in
theorem chBent_at {w0 w : World} {g N : Nat} {s : List Int} (h : At w0 w g s (N + 20000000) w) : Calls Tryd.prog 9 #[.pointer (some ⟨g, 0, none⟩)] w fun e w' => ChD w w' 0 7 5 e (At w0 w g s N w') := by
 have mixed : Tryd.prog.follows .mixedOrders = true := rfl
 have fr := h.fresh
 have H0 := Aside0.mk h
 clear h
 go_enter Tryd.func9, Tryd.ntmps9
 go_wp2_with ((with_reducible refine gate_dst (N := 2) rfl ?_); refine boxNew_ rfl rfl zCh 26 ?hr ?_; (case hr => (go_simp; first | done | rfl)); intro g2 w1 hg2' b2 hb1; have hg2 := Nat.le_of_eq hg2'.symm; clear hg2')
 have n2 : g2 ≠ g := fr g2 hg2
 have H1 := Aside0.mk (show At w0 w g s (N + 9000000 + 10000000) w1 ∧ Box w1 g2 26 zCh from ⟨At.less (At.below H0.out hb1) (by omega), b2⟩)
 clear H0 b2 hb1
 have sg2 := blk_lt (H1.out.2)
 refine (chart_fr H1.out.1).mono ?_
 rintro e w2 ⟨sI, lw, A, c, m, B, e', KT0, KA0, rfl, hS, hF, kt0, ka0, kd0, hN, hM, hA, hk⟩
 have hk2 := hk.1
 obtain ⟨KT, hKT⟩ : ∃ K : Nat → Prop, K = fun k => KT0 k ∧ k < w2.heap.size := ⟨_, rfl⟩
 obtain ⟨KA, hKA⟩ : ∃ K : Nat → Prop, K = fun k => KA0 k ∧ k < w2.heap.size := ⟨_, rfl⟩
 have kt : ∀ k, KT k → w1.heap.size ≤ k ∧ k < w2.heap.size := fun k h => by rw [hKT] at h; exact ⟨kt0 k h.1, h.2⟩
 have ka : ∀ k, KA k → w1.heap.size ≤ k ∧ k < w2.heap.size := fun k h => by rw [hKA] at h; exact ⟨ka0 k h.1, h.2⟩
 have kd : ∀ k, KT k → ¬ KA k := fun k h h' => by rw [hKT] at h; rw [hKA] at h'; exact kd0 k h.1 h'.1
 have hws1 : w.heap.size ≤ w1.heap.size := Nat.le_trans hg2 (Nat.le_of_lt sg2)
 have hN' : Kd.N k37 37 w2 w.heap.size KT (.slice A lw.length c) lw := by rw [hKT]; exact Kd.N_lower (Kd.N_bound hN) hws1
 have hM' : Kd.N k39 39 w2 w.heap.size KA (.slice B m.length e') m := by rw [hKA]; exact Kd.N_lower (Kd.N_bound hM) hws1
 have HF := Aside0.mk (And.intro hS hF)
 clear kt0 ka0 kd0 hKT hKA hN hM hS hF
 have H2 := Aside0.mk (show At w0 w g s (N + 9000000) w2 ∧ Kd.N k37 37 w2 w.heap.size KT (.slice A lw.length c) lw ∧ Kd.N k39 39 w2 w.heap.size KA (.slice B m.length e') m ∧ Box w2 g2 26 zCh from ⟨hA, hN', hM', Box.keep H1.out.2 hk n2⟩)
 clear H1 hA hk hN' hM'
 go_wp2_with ((with_reducible refine gate_dst (N := 3) rfl ?_); refine new1_ (N := 3) (x := 5) (T := 26) (chC sI lw.length A c m.length B e') (zs := zCh) (by simp [Value.oneCell']) ?_ ?_ ?_ ?_ ?_ ?_ ?_ ?_ ?_ ?_ ?_ ?_ ?_)
 all_goals (first | rfl | decide | (intro _ _; go_simp; done) | kernel_rfl | skip)
 intro g3 w3 hg3 b3 hb
 simp only [Act.put, List.setIfInBounds_toArray, List.set_cons_zero, List.set_cons_succ]
 have n3 : g3 ≠ g := fr g3 (by omega)
 have n23 : g2 ≠ g3 := by omega
 have sz3 := hb.size
 have sg3 := blk_lt b3
 have nT : ∀ k, KT k → k ≠ g := (fun k h => fr k (by have := kt k h; omega))
 have nA : ∀ k, KA k → k ≠ g := (fun k h => fr k (by have := ka k h; omega))
 have H3 := Aside0.mk (show At w0 w g s (N + 8000000 + 1) w3 ∧ ChAt g2 g3 w.heap.size KT KA sI lw A c m B e' w3 from ⟨At.less (At.below H2.out.1 hb) (by omega), ⟨b3, Box.keep (H2.out.2.2.2) (kb_below (g := g) hb) n2, Kd.N_below (H2.out.2.1) hb, Kd.N_below (H2.out.2.2.1) hb⟩⟩)
 clear H2 hb b3
 have fin : ∀ (W : World) (s' : Int) (l : List ITr) (A1 : Option Addr) (c1 : Nat) (m' : List IAc) (A2 : Option Addr) (c2 : Nat) (K1 K2 : Nat → Prop), (0 ≤ s' ∧ s' ≤ 7) → ChFit 5 l m' → (∀ k, K1 k → w.heap.size ≤ k ∧ k ≠ g2) → (∀ k, K2 k → w.heap.size ≤ k ∧ k ≠ g2) → (∀ k, K1 k → ¬ K2 k) → At w0 w g s N W → ChAt g2 g3 w.heap.size K1 K2 s' l A1 c1 m' A2 c2 W → ∀ W', Put1 g2 W W' → ChD w W' 0 7 5 (.returned (.agg (chC s' l.length A1 c1 m'.length A2 c2))) (At w0 w g s N W') :=
  fun W s' l A1 c1 m' A2 c2 K1 K2 hs hf h1 h2 hd hA hC W' hp => ⟨s', l, A1, c1, m', A2, c2, K1, K2, rfl, hs, hf, fun k h => (h1 k h).1, fun k h => (h2 k h).1, hd, Kd.N_step hC.t fun k hk _ => hp.far k (h1 k hk).2, Kd.N_step hC.a fun k hk _ => hp.far k (h2 k hk).2, hA.put1 hp hg2⟩
 have FIN := Aside0.mk fin
 clear fin
 go_wp2_with fail
 refine (pick_dr H3.out.1 50 (by omega) (by omega)).mono ?_
 rintro e w4 ⟨r, rfl, r0, r1, hA, hk⟩
 have hk4 := hk.1
 have H4 := Aside0.mk (show At w0 w g s (N + 8000000) w4 ∧ ChAt g2 g3 w.heap.size KT KA sI lw A c m B e' w4 from ⟨hA, ChAt.keep H3.out.2 hk n2 n3 nT nA⟩)
 clear H3 hA hk
 have hg3s : g2 < w4.heap.size ∧ g3 < w4.heap.size ∧ g < w.heap.size := ⟨blk_lt (H4.out.2).b2, blk_lt (H4.out.2).b3, (H4.out.1).lt⟩
 have hw24 : w2.heap.size ≤ w4.heap.size := by omega
 by_cases h0 : r = 0
 ·have c0 : (r == 0) = true := by simp [h0]
  clear h0
  go_wp2_with ((with_reducible refine gate_dst (N := 11) rfl ?_); refine Kd.R_lit (Kd.int .i64) w4.heap.size 3 rfl (N := 11) rfl (xs := [0, 6, 7]) (inner := [.int .i64 0, .int .i64 6, .int .i64 7]) (ok := fun k => k ≠ g) (okp := fun k => k ≠ g) (by go_simp; try rfl) (reps_ints _ _ _ [0, 6, 7]) (fun _ hk => hk) (by show w4.heap.size ≠ g; omega) (Below.refl _ _) (Nat.le_refl _) (by simp) ?_; intro v13 w5 hR hb4 hg_ hn_; clear hg_ hn_; obtain ⟨A4, c4, e4⟩ := Kd.R_slice hR; subst e4)
  have H5 := Aside0.mk (show At w0 w g s (N + 7999999 + 1) w5 ∧ ChAt g2 g3 w.heap.size KT KA sI lw A c m B e' w5 from ⟨At.less (At.below H4.out.1 hb4) (by omega), ChAt.keep H4.out.2 (kb_below (g := g) hb4) n2 n3 nT nA⟩)
  clear H4 hb4
  refine (num_dr H5.out.1 [0, 6, 7] (by decide) (by decide) A4 c4 (Kd.R_reads' hR).2.2 (Kd.R_reads' hR).2.1 (far_slice fun e => hR.1 g e.symm rfl)).mono ?_
  rintro e w6 ⟨n, rfl, hn, hA, hk⟩
  have H6 := Aside0.mk (show At w0 w g s (N) w6 ∧ ChAt g2 g3 w.heap.size KT KA sI lw A c m B e' w6 from ⟨At.less hA (by omega), ChAt.keep H5.out.2 hk n2 n3 nT nA⟩)
  clear H5 hA hk hR
  have hn7 : 0 ≤ n ∧ n ≤ 7 := by simp at hn; omega
  have lch := H6.out.2
  have lb := lch.b3
  have cc := (Box.cell lb 0 _ rfl).1
  have cf := (Box.cell lb 0 _ rfl).2
  have lat := H6.out.1
  have lb2 := lch.b2
  go_wp2_with (first | ((with_reducible refine gate_store (t := 3) (p := 13) rfl ?_); refine setF_ (i := 0) (v := .int .i64 n) rfl rfl rfl lb (by go_simp) ?_; intro w7 lb3 hput0; have lb27 := Box.put1 lb2 hput0 n23) | ((with_reducible refine gate_dst (N := 65) rfl ?_); refine boxGet_ rfl rfl rfl rfl lb3 Tryd.underlying26 rfl (by kernel_rfl) ?_) | ((with_reducible refine gate_store (t := 26) (p := 2) rfl ?_); refine boxPut_ rfl rfl rfl rfl (chC n lw.length A c m.length B e') (by rfl) lb27 rfl (by kernel_rfl) (by simp [Value.oneCell']) ?_; intro w9 hbx hput))
  refine bodyPost_ret (results_cell_row rfl _ _ g2 26 (chC n lw.length A c m.length B e') (0, 0) _ rfl hbx Tryd.underlying26 rfl (by kernel_rfl)) rfl ?_
  exact FIN.out w7 n lw A c m B e' KT KA hn7 (HF.out.2.mono (by omega)) (fun k h => by have := kt k h; omega) (fun k h => by have := ka k h; omega) kd (lat.put1 hput0 (by omega)) ⟨lb3, lb27, Kd.N_step lch.t fun k hk _ => hput0.far k (by have := kt k hk; omega), Kd.N_step lch.a fun k hk _ => hput0.far k (by have := ka k hk; omega)⟩ w9 hput
 have c0 : (r == 0) = false := by simp [h0]
 by_cases h1 : r = 1
 ·have c1 : (r == 1) = true := by simp [h1]
  clear h0 h1
  have HB := Aside0.mk (show At w0 w g s (N + 7000000 + owe [7] 100000 fun _ => false) w4 ∧ ChAt g2 g3 w.heap.size (fun k => KT k ∨ w4.heap.size ≤ k) KA sI lw A c m B e' w4 from ⟨At.less H4.out.1 (by rw [owe_start]; simp only [List.length_cons, List.length_nil]; omega), ChAt.mono (H4.out.2) (fun k h _ => .inl h) (fun k h _ => h)⟩)
  have hlt := Kd.N_lt (H4.out.2).t
  clear H4
  have nT9 : ∀ k, (fun k => KT k ∨ w4.heap.size ≤ k) k → k ≠ g := fun k h => h.elim (nT k) fun h => fr k (by omega)
  have nA9 : ∀ k, KA k → k ≠ g := fun k h => nA k h
  go_upto_region 6 with fail
  refine weaveKT_ g 10 12 rfl (by decide) [(11, .pointer (some ⟨g3, 1, none⟩))] rfl rfl (fun l W => At w0 w g s (N + 7000000 + owe [7] 100000 l) W ∧ ChAt g2 g3 w.heap.size (fun k => KT k ∨ w4.heap.size ≤ k) KA sI lw A c m B e' W ∧ w4.heap.size ≤ W.heap.size) ⟨HB.out.1.below (drew_below _), HB.out.2.below (drew_below _), Nat.le_refl _⟩ [(16, 0), (17, 1), (18, 2), (19, 3), (20, 4), (21, 5), (22, 6), (23, 7), (24, 8), (25, 9), (26, 10), (27, 11)] [fun v _ => v = .pointer (some ⟨g3, 1, none⟩), fun v _ => v = .slice A lw.length c, fun (v : Value) (W : World) => ∃ (n : Int) (A : Option Addr) (c : Nat), v = .slice A 1 c ∧ IVo W (Fr w4) [n] A c, fun v _ => v = .pointer (some ⟨g3, 0, none⟩), fun v _ => v = .int .i64 sI, fun (v : Value) (W : World) => ∃ (n : Int) (A : Option Addr) (c : Nat), v = .slice A 1 c ∧ IVo W (Fr w4) [n] A c, fun v _ => v = .pointer (some ⟨g, 0, none⟩), fun (v : Value) (W : World) => ∃ (x : Ex) (A : Option Addr) (c : Nat), v = .agg (eC x A c) ∧ Tiny x ∧ TVo W (Fr w4) x A c, fun (v : Value) (W : World) => ∃ (l0 : List Int) (A0 : Option Addr) (c0 : Nat) (l1 : List Int) (A1 : Option Addr) (c1 : Nat) (x : Ex) (A : Option Addr) (c : Nat), v = .agg (trC l0.length A0 c0 l1.length A1 c1 x A c) ∧ TrFit ⟨l0, l1, x⟩ ∧ IVo W (Fr w4) l0 A0 c0 ∧ IVo W (Fr w4) l1 A1 c1 ∧ TVo W (Fr w4) x A c, fun (v : Value) (W : World) => ∃ (t : ITr) (A : Option Addr) (c : Nat), v = .slice A 1 c ∧ TrFit t ∧ Kd.V k37 37 W 0 (Fr w4) (.slice A 1 c) [t]] mixed (by kernel_rfl) ⟨fun _ => LastK.const _ _, fun _ => LastK.const _ _, fun _ W W' hk ⟨n, A, c, h1, h2⟩ => ⟨n, A, c, h1, h2.keep hk (fun k h => fr k (by have : w4.heap.size ≤ k := h; omega))⟩, fun _ => LastK.const _ _, fun _ => LastK.const _ _, fun _ W W' hk ⟨n, A, c, h1, h2⟩ => ⟨n, A, c, h1, h2.keep hk (fun k h => fr k (by have : w4.heap.size ≤ k := h; omega))⟩, fun _ => LastK.const _ _, fun _ W W' hk ⟨x, A, c, h1, h2, h3⟩ => ⟨x, A, c, h1, h2, h3.keep hk (fun k h => fr k (by have : w4.heap.size ≤ k := h; omega))⟩, fun _ W W' hk ⟨l0, A0, c0, l1, A1, c1, x, A, c, h1, h2, h3, h4, h5⟩ => ⟨l0, A0, c0, l1, A1, c1, x, A, c, h1, h2, h3.keep hk (fun k h => fr k (by have : w4.heap.size ≤ k := h; omega)), h4.keep hk (fun k h => fr k (by have : w4.heap.size ≤ k := h; omega)), h5.keep hk (fun k h => fr k (by have : w4.heap.size ≤ k := h; omega))⟩, fun _ W W' hk ⟨t, A, c, h1, h2, h3⟩ => ⟨t, A, c, h1, h2, Kd.V_keep h3 hk (fun k h => fr k (by have : w4.heap.size ≤ k := h; omega))⟩, trivial⟩ (by kernel_rfl) (by kernel_rfl) (by kernel_rfl) ?_ ?_ (by simp) (fun v W => ∃ (t : ITr) (B' : Option Addr) (d' : Nat), v = .slice B' (lw.length + 1) d' ∧ TrFit t ∧ At w0 w g s (N + 7000000) W ∧ ChT g2 g3 w.heap.size (fun k => KT k ∨ w4.heap.size ≤ k) KA sI lw A c t B' d' m B e' W ∧ w4.heap.size ≤ W.heap.size) (fun _ W => ∃ (t : ITr) (B' : Option Addr) (d' : Nat), TrFit t ∧ At w0 w g s (N + 7000000) W ∧ ChAt g2 g3 w.heap.size (fun k => KT k ∨ w4.heap.size ≤ k) KA sI (lw ++ [t]) B' d' m B e' W ∧ w4.heap.size ≤ W.heap.size) ?_ ?_ ?_
  ·refine ⟨?_, ?_, ?_, ?_, ?_, ?_, ?_, ?_, ?_, ?_, ?_, ?_, ?_, trivial⟩
   ·intro _ l vs W hp hl hv b hs
    have t3 := (hs.oldtm 3 rfl).trans (show _ = some (Value.pointer (some ⟨g3, 0, none⟩)) from rfl)
    exact stepVal rfl (by go_simp) ⟨KeepBut.refl _ _ _, ⟨At.less hp.1 (Nat.add_le_add_left (owe_skip _ _ l 0) _), hp.2⟩, rfl⟩
   ·intro _ l vs W hp hl hv b hs
    have h0 : vs 0 = .pointer (some ⟨g3, 1, none⟩) := hv 0 (by decide)
    have t16 := (hs.tm 16 0 rfl).trans (congrArg some h0)
    have cm := (Box.cell hp.2.1.b3 1 _ rfl).1
    exact stepVal rfl (by go_simp) ⟨KeepBut.refl _ _ _, ⟨At.less hp.1 (Nat.add_le_add_left (owe_skip _ _ l 1) _), hp.2⟩, rfl⟩
   ·intro _ l vs W hp hl hv b hs
    exact stepInt1 0 rfl rfl (by go_simp; try rfl) fun A c W' hI hb => ⟨kb_below hb, ⟨At.less (hp.1.below hb) (Nat.add_le_add_left (owe_skip _ _ l 2) _), hp.2.1.below hb, Nat.le_trans hp.2.2 hb.size⟩, 0, A, c, rfl, hI.mono (fun k hk => Nat.le_trans hp.2.2 hk)⟩
   ·intro _ l vs W hp hl hv b hs
    have t3 := (hs.oldtm 3 rfl).trans (show _ = some (Value.pointer (some ⟨g3, 0, none⟩)) from rfl)
    exact stepVal rfl (by go_simp) ⟨KeepBut.refl _ _ _, ⟨At.less hp.1 (Nat.add_le_add_left (owe_skip _ _ l 3) _), hp.2⟩, rfl⟩
   ·intro _ l vs W hp hl hv b hs
    have h3 : vs 3 = .pointer (some ⟨g3, 0, none⟩) := hv 3 (by decide)
    have t19 := (hs.tm 19 3 rfl).trans (congrArg some h3)
    have cm := (Box.cell hp.2.1.b3 0 _ rfl).1
    exact stepVal rfl (by go_simp) ⟨KeepBut.refl _ _ _, ⟨At.less hp.1 (Nat.add_le_add_left (owe_skip _ _ l 4) _), hp.2⟩, rfl⟩
   ·intro _ l vs W hp hl hv b hs
    have h4 : vs 4 = .int .i64 sI := hv 4 (by decide)
    have t20 := (hs.tm 20 4 rfl).trans (congrArg some h4)
    exact stepInt1 sI rfl rfl (by go_simp; try rfl) fun A c W' hI hb => ⟨kb_below hb, ⟨At.less (hp.1.below hb) (Nat.add_le_add_left (owe_skip _ _ l 5) _), hp.2.1.below hb, Nat.le_trans hp.2.2 hb.size⟩, sI, A, c, rfl, hI.mono (fun k hk => Nat.le_trans hp.2.2 hk)⟩
   ·intro _ l vs W hp hl hv b hs
    have t0 := (hs.oldtm 0 rfl).trans (show _ = some (Value.pointer (some ⟨g, 0, none⟩)) from rfl)
    exact stepVal rfl (by go_simp) ⟨KeepBut.refl _ _ _, ⟨At.less hp.1 (Nat.add_le_add_left (owe_skip _ _ l 6) _), hp.2⟩, rfl⟩
   ·intro _ l vs W hp hl hv b hs
    have h6 : vs 6 = .pointer (some ⟨g, 0, none⟩) := hv 6 (by decide)
    have t22 := (hs.tm 22 6 rfl).trans (congrArg some h6)
    have hA : At w0 w g s (N + 7000000 + owe [7] 100000 (fun j => j == 7 || l j) + 100000) W := At.less hp.1 (by have := owe_take (L := [7]) (c := 100000) (i := 7) rfl hl; omega)
    refine stepCall rfl Tryd.func25 (by kernel_rfl) rfl #[.pointer (some ⟨g, 0, none⟩), .int .i64 1] rfl (by simp [Act.eval, t22]) (by exact expr_dr 1 (by omega) hA) ?_
    rintro e W' ⟨x, A, c, rfl, hx, hT, hA', hk⟩
    exact ⟨_, rfl, hk, ⟨hA', hp.2.1.keep hk n2 n3 nT9 nA9, Nat.le_trans hp.2.2 hk.1⟩, x, A, c, rfl, hx, hT.mono fun k hk => Nat.le_trans hp.2.2 hk⟩
   ·intro _ l vs W hp hl hv b hs
    obtain ⟨n2, A2, c2, h2, i2⟩ : (fun (v : Value) (W : World) => ∃ (n : Int) (A : Option Addr) (c : Nat), v = .slice A 1 c ∧ IVo W (Fr w4) [n] A c) (vs 2) W := hv 2 (by decide)
    have t18 := (hs.tm 18 2 rfl).trans (congrArg some h2)
    obtain ⟨n5, A5, c5, h5, i5⟩ : (fun (v : Value) (W : World) => ∃ (n : Int) (A : Option Addr) (c : Nat), v = .slice A 1 c ∧ IVo W (Fr w4) [n] A c) (vs 5) W := hv 5 (by decide)
    have t21 := (hs.tm 21 5 rfl).trans (congrArg some h5)
    obtain ⟨x7, A7, c7, h7, f7, i7⟩ : (fun (v : Value) (W : World) => ∃ (x : Ex) (A : Option Addr) (c : Nat), v = .agg (eC x A c) ∧ Tiny x ∧ TVo W (Fr w4) x A c) (vs 7) W := hv 7 (by decide)
    have t23 := (hs.tm 23 7 rfl).trans (congrArg some h7)
    exact stepVal rfl (by go_simp) ⟨KeepBut.refl _ _ _, ⟨At.less hp.1 (Nat.add_le_add_left (owe_skip _ _ l 8) _), hp.2⟩, [n2], A2, c2, [n5], A5, c5, x7, A7, c7, rfl, ⟨by simp, by simp, f7⟩, i2, i5, i7⟩
   ·intro _ l vs W hp hl hv b hs
    obtain ⟨l0, A0, c0, l1, A1, c1, x, B0, d0, h8, f8, i0, i1, hT⟩ : (fun (v : Value) (W : World) => ∃ (l0 : List Int) (A0 : Option Addr) (c0 : Nat) (l1 : List Int) (A1 : Option Addr) (c1 : Nat) (x : Ex) (A : Option Addr) (c : Nat), v = .agg (trC l0.length A0 c0 l1.length A1 c1 x A c) ∧ TrFit ⟨l0, l1, x⟩ ∧ IVo W (Fr w4) l0 A0 c0 ∧ IVo W (Fr w4) l1 A1 c1 ∧ TVo W (Fr w4) x A c) (vs 8) W := hv 8 (by decide)
    have t24 := (hs.tm 24 8 rfl).trans (congrArg some h8)
    exact stepTr1 ⟨l0, l1, x⟩ (trC l0.length A0 c0 l1.length A1 c1 x B0 d0).toList (Fr w4) rfl rfl (by go_simp; try rfl) hp.2.2 (trLit_F i0 i1 hT) rfl fun A c W' hV hb => ⟨kb_below hb, ⟨At.less (hp.1.below hb) (Nat.add_le_add_left (owe_skip _ _ l 9) _), hp.2.1.below hb, Nat.le_trans hp.2.2 hb.size⟩, _, A, c, rfl, f8, hV⟩
   ·intro h
    exact absurd h (by decide)
   ·intro h
    exact absurd h (by decide)
   ·intro h
    exact absurd h (by decide)
  ·intro q hq o ho vs W b hs
   obtain rfl := List.mem_singleton.1 hq
   obtain rfl := Option.some.inj ho
   have t3 := (hs.oldtm 3 rfl).trans (show _ = some (Value.pointer (some ⟨g3, 0, none⟩)) from rfl)
   exact stepVal rfl (by go_simp) ⟨rfl, rfl⟩
  ·intro o ho l vs W hl hp hv b hs
   obtain rfl := Option.some.inj ho
   have h1 : vs 1 = .slice A lw.length c := hv 1 (by decide)
   obtain ⟨t, A', c', h2, hfit, hV⟩ : (fun (v : Value) (W : World) => ∃ (t : ITr) (A : Option Addr) (c : Nat), v = .slice A 1 c ∧ TrFit t ∧ Kd.V k37 37 W 0 (Fr w4) (.slice A 1 c) [t]) (vs 9) W := hv 9 (by decide)
   exact stepAppT rfl rfl ((hs.ev 17 1 rfl).trans h1) ((hs.ev 25 9 rfl).trans h2) hp.2.1 hV (fun k hk => ⟨.inr hk, fun e => by have := hlt k e.symm; have : w4.heap.size ≤ k := hk; omega⟩) (fun k hk => .inr (by have := hp.2.2; omega)) (by have := hp.2.2; omega) (by have := HF.out.2.1; omega) (fun h => h.elim (fun h => by have := kt _ h; omega) fun h => by omega) (fun h => h.elim (fun h => by have := kt _ h; omega) fun h => by omega) (fun k h1 h2 => h1.elim (fun h => kd k h h2) fun h => by have := ka k h2; omega) fun B' d' W' hC hb _ hz => ⟨t, B', d', rfl, hfit, At.less (At.low hp.1 hb) (by omega), hC, Nat.le_trans hp.2.2 hz⟩
  ·intro o ho vs W ⟨t, B', d', h2, hfit, hA, hC, hz⟩ hq b hs
   obtain rfl := Option.some.inj ho
   have h3 : vs 11 = .pointer (some ⟨g3, 1, none⟩) := hq _ (List.mem_singleton.2 rfl)
   have t8 := (hs.tm 26 10 rfl).trans (congrArg some h2)
   have t9 := (hs.tm 27 11 rfl).trans (congrArg some h3)
   have cm1 := (Box.cell hC.b3 1 _ rfl).1
   have cm2 := (Box.cell hC.b3 1 _ rfl).2
   exact stepField (i := 1) (v := .slice B' (lw.length + 1) d') rfl rfl hC.b3 (by go_simp) fun W' hb hp => ⟨t, B', d', hfit, hA.put1 hp (by omega), hC.put n23 (fun h => h.elim (fun h => by have := kt _ h; omega) fun h => by omega) (fun h => by have := ka _ h; omega) hb hp, by rw [hp.size]; exact hz⟩
  ·rintro vs W7 ⟨t, B', d', hfit, hA, hC, hz⟩
   simp only [List.map_cons, List.map_nil, putL]
   simp only [Act.put, List.setIfInBounds_toArray, List.set_cons_zero, List.set_cons_succ]
   have HW := Aside0.mk (And.intro hA (And.intro hC hz))
   clear hA hC hz HB
   have lb3 := (HW.out.2.1).b3
   have lb2 := (HW.out.2.1).b2
   go_wp2_with (first | ((with_reducible refine gate_dst (N := 65) rfl ?_); refine boxGet_ rfl rfl rfl rfl lb3 Tryd.underlying26 rfl (by kernel_rfl) ?_) | ((with_reducible refine gate_store (t := 26) (p := 2) rfl ?_); refine boxPut_ rfl rfl rfl rfl (chC sI (lw ++ [t]).length B' d' m.length B e') (by rfl) lb2 rfl (by kernel_rfl) (by simp [Value.oneCell']) ?_; intro w9 hbx hput))
   refine bodyPost_ret (results_cell_row rfl _ _ g2 26 (chC sI (lw ++ [t]).length B' d' m.length B e') (0, 0) _ rfl hbx Tryd.underlying26 rfl (by kernel_rfl)) rfl ?_
   exact FIN.out _ sI (lw ++ [t]) B' d' m B e' (fun k => KT k ∨ w4.heap.size ≤ k) KA (by have := HF.out.1; omega) (HF.out.2.snocT hfit) (fun k h => h.elim (fun h => by have := kt k h; omega) fun h => by omega) (fun k h => by have := ka k h; omega) ((fun k h1 h2 => h1.elim (fun h => kd k h h2) fun h => by have := ka k h2; omega)) (At.less HW.out.1 (by omega)) (HW.out.2.1) w9 hput
 have c1 : (r == 1) = false := by simp [h1]
 by_cases h2 : r = 2
 ·have c2 : (r == 2) = true := by simp [h2]
  clear h0 h1 h2
  have HB := Aside0.mk (show At w0 w g s (N + 7000000 + owe [4] 100000 fun _ => false) w4 ∧ ChAt g2 g3 w.heap.size (fun k => KT k ∨ w4.heap.size ≤ k) KA sI lw A c m B e' w4 from ⟨At.less H4.out.1 (by rw [owe_start]; simp only [List.length_cons, List.length_nil]; omega), ChAt.mono (H4.out.2) (fun k h _ => .inl h) (fun k h _ => h)⟩)
  have hlt := Kd.N_lt (H4.out.2).t
  clear H4
  have nT9 : ∀ k, (fun k => KT k ∨ w4.heap.size ≤ k) k → k ≠ g := fun k h => h.elim (nT k) fun h => fr k (by omega)
  have nA9 : ∀ k, KA k → k ≠ g := fun k h => nA k h
  go_upto_region 8 with fail
  refine weaveKT_ g 7 9 rfl (by decide) [(8, .pointer (some ⟨g3, 1, none⟩))] rfl rfl (fun l W => At w0 w g s (N + 7000000 + owe [4] 100000 l) W ∧ ChAt g2 g3 w.heap.size (fun k => KT k ∨ w4.heap.size ≤ k) KA sI lw A c m B e' W ∧ w4.heap.size ≤ W.heap.size) ⟨HB.out.1.below (drew_below _), HB.out.2.below (drew_below _), Nat.le_refl _⟩ [(30, 0), (31, 1), (32, 2), (33, 3), (34, 4), (35, 5), (36, 6), (37, 7), (38, 8)] [fun v _ => v = .pointer (some ⟨g3, 1, none⟩), fun v _ => v = .slice A lw.length c, fun (v : Value) (W : World) => ∃ (n : Int) (A : Option Addr) (c : Nat), v = .slice A 1 c ∧ IVo W (Fr w4) [n] A c, fun v _ => v = .pointer (some ⟨g, 0, none⟩), fun (v : Value) (W : World) => ∃ (x : Ex) (A : Option Addr) (c : Nat), v = .agg (eC x A c) ∧ Tiny x ∧ TVo W (Fr w4) x A c, fun (v : Value) (W : World) => ∃ (l0 : List Int) (A0 : Option Addr) (c0 : Nat) (l1 : List Int) (A1 : Option Addr) (c1 : Nat) (x : Ex) (A : Option Addr) (c : Nat), v = .agg (trC l0.length A0 c0 l1.length A1 c1 x A c) ∧ TrFit ⟨l0, l1, x⟩ ∧ IVo W (Fr w4) l0 A0 c0 ∧ IVo W (Fr w4) l1 A1 c1 ∧ TVo W (Fr w4) x A c, fun (v : Value) (W : World) => ∃ (t : ITr) (A : Option Addr) (c : Nat), v = .slice A 1 c ∧ TrFit t ∧ Kd.V k37 37 W 0 (Fr w4) (.slice A 1 c) [t]] mixed (by kernel_rfl) ⟨fun _ => LastK.const _ _, fun _ => LastK.const _ _, fun _ W W' hk ⟨n, A, c, h1, h2⟩ => ⟨n, A, c, h1, h2.keep hk (fun k h => fr k (by have : w4.heap.size ≤ k := h; omega))⟩, fun _ => LastK.const _ _, fun _ W W' hk ⟨x, A, c, h1, h2, h3⟩ => ⟨x, A, c, h1, h2, h3.keep hk (fun k h => fr k (by have : w4.heap.size ≤ k := h; omega))⟩, fun _ W W' hk ⟨l0, A0, c0, l1, A1, c1, x, A, c, h1, h2, h3, h4, h5⟩ => ⟨l0, A0, c0, l1, A1, c1, x, A, c, h1, h2, h3.keep hk (fun k h => fr k (by have : w4.heap.size ≤ k := h; omega)), h4.keep hk (fun k h => fr k (by have : w4.heap.size ≤ k := h; omega)), h5.keep hk (fun k h => fr k (by have : w4.heap.size ≤ k := h; omega))⟩, fun _ W W' hk ⟨t, A, c, h1, h2, h3⟩ => ⟨t, A, c, h1, h2, Kd.V_keep h3 hk (fun k h => fr k (by have : w4.heap.size ≤ k := h; omega))⟩, trivial⟩ (by kernel_rfl) (by kernel_rfl) (by kernel_rfl) ?_ ?_ (by simp) (fun v W => ∃ (t : ITr) (B' : Option Addr) (d' : Nat), v = .slice B' (lw.length + 1) d' ∧ TrFit t ∧ At w0 w g s (N + 7000000) W ∧ ChT g2 g3 w.heap.size (fun k => KT k ∨ w4.heap.size ≤ k) KA sI lw A c t B' d' m B e' W ∧ w4.heap.size ≤ W.heap.size) (fun _ W => ∃ (t : ITr) (B' : Option Addr) (d' : Nat), TrFit t ∧ At w0 w g s (N + 7000000) W ∧ ChAt g2 g3 w.heap.size (fun k => KT k ∨ w4.heap.size ≤ k) KA sI (lw ++ [t]) B' d' m B e' W ∧ w4.heap.size ≤ W.heap.size) ?_ ?_ ?_
  ·refine ⟨?_, ?_, ?_, ?_, ?_, ?_, ?_, ?_, ?_, ?_, trivial⟩
   ·intro _ l vs W hp hl hv b hs
    have t3 := (hs.oldtm 3 rfl).trans (show _ = some (Value.pointer (some ⟨g3, 0, none⟩)) from rfl)
    exact stepVal rfl (by go_simp) ⟨KeepBut.refl _ _ _, ⟨At.less hp.1 (Nat.add_le_add_left (owe_skip _ _ l 0) _), hp.2⟩, rfl⟩
   ·intro _ l vs W hp hl hv b hs
    have h0 : vs 0 = .pointer (some ⟨g3, 1, none⟩) := hv 0 (by decide)
    have t30 := (hs.tm 30 0 rfl).trans (congrArg some h0)
    have cm := (Box.cell hp.2.1.b3 1 _ rfl).1
    exact stepVal rfl (by go_simp) ⟨KeepBut.refl _ _ _, ⟨At.less hp.1 (Nat.add_le_add_left (owe_skip _ _ l 1) _), hp.2⟩, rfl⟩
   ·intro _ l vs W hp hl hv b hs
    exact stepInt1 0 rfl rfl (by go_simp; try rfl) fun A c W' hI hb => ⟨kb_below hb, ⟨At.less (hp.1.below hb) (Nat.add_le_add_left (owe_skip _ _ l 2) _), hp.2.1.below hb, Nat.le_trans hp.2.2 hb.size⟩, 0, A, c, rfl, hI.mono (fun k hk => Nat.le_trans hp.2.2 hk)⟩
   ·intro _ l vs W hp hl hv b hs
    have t0 := (hs.oldtm 0 rfl).trans (show _ = some (Value.pointer (some ⟨g, 0, none⟩)) from rfl)
    exact stepVal rfl (by go_simp) ⟨KeepBut.refl _ _ _, ⟨At.less hp.1 (Nat.add_le_add_left (owe_skip _ _ l 3) _), hp.2⟩, rfl⟩
   ·intro _ l vs W hp hl hv b hs
    have h3 : vs 3 = .pointer (some ⟨g, 0, none⟩) := hv 3 (by decide)
    have t33 := (hs.tm 33 3 rfl).trans (congrArg some h3)
    have hA : At w0 w g s (N + 7000000 + owe [4] 100000 (fun j => j == 4 || l j) + 100000) W := At.less hp.1 (by have := owe_take (L := [4]) (c := 100000) (i := 4) rfl hl; omega)
    refine stepCall rfl Tryd.func25 (by kernel_rfl) rfl #[.pointer (some ⟨g, 0, none⟩), .int .i64 1] rfl (by simp [Act.eval, t33]) (by exact expr_dr 1 (by omega) hA) ?_
    rintro e W' ⟨x, A, c, rfl, hx, hT, hA', hk⟩
    exact ⟨_, rfl, hk, ⟨hA', hp.2.1.keep hk n2 n3 nT9 nA9, Nat.le_trans hp.2.2 hk.1⟩, x, A, c, rfl, hx, hT.mono fun k hk => Nat.le_trans hp.2.2 hk⟩
   ·intro _ l vs W hp hl hv b hs
    obtain ⟨n2, A2, c2, h2, i2⟩ : (fun (v : Value) (W : World) => ∃ (n : Int) (A : Option Addr) (c : Nat), v = .slice A 1 c ∧ IVo W (Fr w4) [n] A c) (vs 2) W := hv 2 (by decide)
    have t32 := (hs.tm 32 2 rfl).trans (congrArg some h2)
    obtain ⟨x4, A4, c4, h4, f4, i4⟩ : (fun (v : Value) (W : World) => ∃ (x : Ex) (A : Option Addr) (c : Nat), v = .agg (eC x A c) ∧ Tiny x ∧ TVo W (Fr w4) x A c) (vs 4) W := hv 4 (by decide)
    have t34 := (hs.tm 34 4 rfl).trans (congrArg some h4)
    exact stepVal rfl (by go_simp) ⟨KeepBut.refl _ _ _, ⟨At.less hp.1 (Nat.add_le_add_left (owe_skip _ _ l 5) _), hp.2⟩, [], none, 0, [n2], A2, c2, x4, A4, c4, rfl, ⟨by simp, by simp, f4⟩, IVo.nil _ _, i2, i4⟩
   ·intro _ l vs W hp hl hv b hs
    obtain ⟨l0, A0, c0, l1, A1, c1, x, B0, d0, h5, f5, i0, i1, hT⟩ : (fun (v : Value) (W : World) => ∃ (l0 : List Int) (A0 : Option Addr) (c0 : Nat) (l1 : List Int) (A1 : Option Addr) (c1 : Nat) (x : Ex) (A : Option Addr) (c : Nat), v = .agg (trC l0.length A0 c0 l1.length A1 c1 x A c) ∧ TrFit ⟨l0, l1, x⟩ ∧ IVo W (Fr w4) l0 A0 c0 ∧ IVo W (Fr w4) l1 A1 c1 ∧ TVo W (Fr w4) x A c) (vs 5) W := hv 5 (by decide)
    have t35 := (hs.tm 35 5 rfl).trans (congrArg some h5)
    exact stepTr1 ⟨l0, l1, x⟩ (trC l0.length A0 c0 l1.length A1 c1 x B0 d0).toList (Fr w4) rfl rfl (by go_simp; try rfl) hp.2.2 (trLit_F i0 i1 hT) rfl fun A c W' hV hb => ⟨kb_below hb, ⟨At.less (hp.1.below hb) (Nat.add_le_add_left (owe_skip _ _ l 6) _), hp.2.1.below hb, Nat.le_trans hp.2.2 hb.size⟩, _, A, c, rfl, f5, hV⟩
   ·intro h
    exact absurd h (by decide)
   ·intro h
    exact absurd h (by decide)
   ·intro h
    exact absurd h (by decide)
  ·intro q hq o ho vs W b hs
   obtain rfl := List.mem_singleton.1 hq
   obtain rfl := Option.some.inj ho
   have t3 := (hs.oldtm 3 rfl).trans (show _ = some (Value.pointer (some ⟨g3, 0, none⟩)) from rfl)
   exact stepVal rfl (by go_simp) ⟨rfl, rfl⟩
  ·intro o ho l vs W hl hp hv b hs
   obtain rfl := Option.some.inj ho
   have h1 : vs 1 = .slice A lw.length c := hv 1 (by decide)
   obtain ⟨t, A', c', h2, hfit, hV⟩ : (fun (v : Value) (W : World) => ∃ (t : ITr) (A : Option Addr) (c : Nat), v = .slice A 1 c ∧ TrFit t ∧ Kd.V k37 37 W 0 (Fr w4) (.slice A 1 c) [t]) (vs 6) W := hv 6 (by decide)
   exact stepAppT rfl rfl ((hs.ev 31 1 rfl).trans h1) ((hs.ev 36 6 rfl).trans h2) hp.2.1 hV (fun k hk => ⟨.inr hk, fun e => by have := hlt k e.symm; have : w4.heap.size ≤ k := hk; omega⟩) (fun k hk => .inr (by have := hp.2.2; omega)) (by have := hp.2.2; omega) (by have := HF.out.2.1; omega) (fun h => h.elim (fun h => by have := kt _ h; omega) fun h => by omega) (fun h => h.elim (fun h => by have := kt _ h; omega) fun h => by omega) (fun k h1 h2 => h1.elim (fun h => kd k h h2) fun h => by have := ka k h2; omega) fun B' d' W' hC hb _ hz => ⟨t, B', d', rfl, hfit, At.less (At.low hp.1 hb) (by omega), hC, Nat.le_trans hp.2.2 hz⟩
  ·intro o ho vs W ⟨t, B', d', h2, hfit, hA, hC, hz⟩ hq b hs
   obtain rfl := Option.some.inj ho
   have h3 : vs 8 = .pointer (some ⟨g3, 1, none⟩) := hq _ (List.mem_singleton.2 rfl)
   have t8 := (hs.tm 37 7 rfl).trans (congrArg some h2)
   have t9 := (hs.tm 38 8 rfl).trans (congrArg some h3)
   have cm1 := (Box.cell hC.b3 1 _ rfl).1
   have cm2 := (Box.cell hC.b3 1 _ rfl).2
   exact stepField (i := 1) (v := .slice B' (lw.length + 1) d') rfl rfl hC.b3 (by go_simp) fun W' hb hp => ⟨t, B', d', hfit, hA.put1 hp (by omega), hC.put n23 (fun h => h.elim (fun h => by have := kt _ h; omega) fun h => by omega) (fun h => by have := ka _ h; omega) hb hp, by rw [hp.size]; exact hz⟩
  ·rintro vs W7 ⟨t, B', d', hfit, hA, hC, hz⟩
   simp only [List.map_cons, List.map_nil, putL]
   simp only [Act.put, List.setIfInBounds_toArray, List.set_cons_zero, List.set_cons_succ]
   have HW := Aside0.mk (And.intro hA (And.intro hC hz))
   clear hA hC hz HB
   have lb3 := (HW.out.2.1).b3
   have lb2 := (HW.out.2.1).b2
   go_wp2_with (first | ((with_reducible refine gate_dst (N := 65) rfl ?_); refine boxGet_ rfl rfl rfl rfl lb3 Tryd.underlying26 rfl (by kernel_rfl) ?_) | ((with_reducible refine gate_store (t := 26) (p := 2) rfl ?_); refine boxPut_ rfl rfl rfl rfl (chC sI (lw ++ [t]).length B' d' m.length B e') (by rfl) lb2 rfl (by kernel_rfl) (by simp [Value.oneCell']) ?_; intro w9 hbx hput))
   refine bodyPost_ret (results_cell_row rfl _ _ g2 26 (chC sI (lw ++ [t]).length B' d' m.length B e') (0, 0) _ rfl hbx Tryd.underlying26 rfl (by kernel_rfl)) rfl ?_
   exact FIN.out _ sI (lw ++ [t]) B' d' m B e' (fun k => KT k ∨ w4.heap.size ≤ k) KA (by have := HF.out.1; omega) (HF.out.2.snocT hfit) (fun k h => h.elim (fun h => by have := kt k h; omega) fun h => by omega) (fun k h => by have := ka k h; omega) ((fun k h1 h2 => h1.elim (fun h => kd k h h2) fun h => by have := ka k h2; omega)) (At.less HW.out.1 (by omega)) (HW.out.2.1) w9 hput
 have c2 : (r == 2) = false := by simp [h2]
 by_cases h3 : r = 3
 ·have c3 : (r == 3) = true := by simp [h3]
  clear h0 h1 h2 h3
  have HB := Aside0.mk (show At w0 w g s (N + 7000000 + owe [3, 5, 7] 100000 fun _ => false) w4 ∧ ChAt g2 g3 w.heap.size KT (fun k => KA k ∨ w4.heap.size ≤ k) sI lw A c m B e' w4 from ⟨At.less H4.out.1 (by rw [owe_start]; simp only [List.length_cons, List.length_nil]; omega), ChAt.mono (H4.out.2) (fun k h _ => h) (fun k h _ => .inl h)⟩)
  have hlt := Kd.N_lt (H4.out.2).a
  clear H4
  have nT9 : ∀ k, KT k → k ≠ g := fun k h => nT k h
  have nA9 : ∀ k, (fun k => KA k ∨ w4.heap.size ≤ k) k → k ≠ g := fun k h => h.elim (nA k) fun h => fr k (by omega)
  go_upto_region 10 with fail
  refine weaveKT_ g 10 12 rfl (by decide) [(11, .pointer (some ⟨g3, 2, none⟩))] rfl rfl (fun l W => At w0 w g s (N + 7000000 + owe [3, 5, 7] 100000 l) W ∧ ChAt g2 g3 w.heap.size KT (fun k => KA k ∨ w4.heap.size ≤ k) sI lw A c m B e' W ∧ w4.heap.size ≤ W.heap.size) ⟨HB.out.1.below (drew_below _), HB.out.2.below (drew_below _), Nat.le_refl _⟩ [(41, 0), (42, 1), (43, 2), (44, 3), (45, 4), (46, 5), (47, 6), (48, 7), (49, 8), (50, 9), (51, 10), (52, 11)] [fun v _ => v = .pointer (some ⟨g3, 2, none⟩), fun v _ => v = .slice B m.length e', fun v _ => v = .pointer (some ⟨g, 0, none⟩), fun (v : Value) (W : World) => ∃ n : Int, v = .int .i64 n, fun v _ => v = .pointer (some ⟨g, 0, none⟩), fun (v : Value) (W : World) => ∃ n : Int, v = .int .i64 n, fun v _ => v = .pointer (some ⟨g, 0, none⟩), fun (v : Value) (W : World) => ∃ a b : Int, v = .agg #[.int .i64 a, .int .i64 b], fun (v : Value) (W : World) => ∃ a : IAc, v = .agg #[.int .i64 a.f0, .int .i64 a.f1, .int .i64 a.f2.f0, .int .i64 a.f2.f1], fun (v : Value) (W : World) => ∃ (t : IAc) (A : Option Addr) (c : Nat), v = .slice A 1 c ∧ Kd.V k39 39 W 0 (Fr w4) (.slice A 1 c) [t]] mixed (by kernel_rfl) ⟨fun _ => LastK.const _ _, fun _ => LastK.const _ _, fun _ => LastK.const _ _, fun _ => LastK.const _ _, fun _ => LastK.const _ _, fun _ => LastK.const _ _, fun _ => LastK.const _ _, fun _ => LastK.const _ _, fun _ => LastK.const _ _, fun _ W W' hk ⟨t, A, c, h1, h2⟩ => ⟨t, A, c, h1, Kd.V_keep h2 hk (fun k h => fr k (by have : w4.heap.size ≤ k := h; omega))⟩, trivial⟩ (by kernel_rfl) (by kernel_rfl) (by kernel_rfl) ?_ ?_ (by simp) (fun v W => ∃ (t : IAc) (B' : Option Addr) (d' : Nat), v = .slice B' (m.length + 1) d' ∧ At w0 w g s (N + 7000000) W ∧ ChA g2 g3 w.heap.size KT (fun k => KA k ∨ w4.heap.size ≤ k) sI lw A c t B' d' m B e' W ∧ w4.heap.size ≤ W.heap.size) (fun _ W => ∃ (t : IAc) (B' : Option Addr) (d' : Nat), At w0 w g s (N + 7000000) W ∧ ChAt g2 g3 w.heap.size KT (fun k => KA k ∨ w4.heap.size ≤ k) sI lw A c (m ++ [t]) B' d' W ∧ w4.heap.size ≤ W.heap.size) ?_ ?_ ?_
  ·refine ⟨?_, ?_, ?_, ?_, ?_, ?_, ?_, ?_, ?_, ?_, ?_, ?_, ?_, trivial⟩
   ·intro _ l vs W hp hl hv b hs
    have t3 := (hs.oldtm 3 rfl).trans (show _ = some (Value.pointer (some ⟨g3, 0, none⟩)) from rfl)
    exact stepVal rfl (by go_simp) ⟨KeepBut.refl _ _ _, ⟨At.less hp.1 (Nat.add_le_add_left (owe_skip _ _ l 0) _), hp.2⟩, rfl⟩
   ·intro _ l vs W hp hl hv b hs
    have h0 : vs 0 = .pointer (some ⟨g3, 2, none⟩) := hv 0 (by decide)
    have t41 := (hs.tm 41 0 rfl).trans (congrArg some h0)
    have cm := (Box.cell hp.2.1.b3 2 _ rfl).1
    exact stepVal rfl (by go_simp) ⟨KeepBut.refl _ _ _, ⟨At.less hp.1 (Nat.add_le_add_left (owe_skip _ _ l 1) _), hp.2⟩, rfl⟩
   ·intro _ l vs W hp hl hv b hs
    have t0 := (hs.oldtm 0 rfl).trans (show _ = some (Value.pointer (some ⟨g, 0, none⟩)) from rfl)
    exact stepVal rfl (by go_simp) ⟨KeepBut.refl _ _ _, ⟨At.less hp.1 (Nat.add_le_add_left (owe_skip _ _ l 2) _), hp.2⟩, rfl⟩
   ·intro _ l vs W hp hl hv b hs
    have h2 : vs 2 = .pointer (some ⟨g, 0, none⟩) := hv 2 (by decide)
    have t43 := (hs.tm 43 2 rfl).trans (congrArg some h2)
    have hA : At w0 w g s (N + 7000000 + owe [3, 5, 7] 100000 (fun j => j == 3 || l j) + 100000) W := At.less hp.1 (by have := owe_take (L := [3, 5, 7]) (c := 100000) (i := 3) rfl hl; omega)
    refine stepCall rfl Tryd.func23 (by kernel_rfl) rfl #[.pointer (some ⟨g, 0, none⟩), .int .i64 6] rfl (by simp [Act.eval, t43]) (by exact pick_dr (N := N + 7000000 + owe [3, 5, 7] 100000 (fun j => j == 3 || l j)) (hA.less (by omega)) 6 (by omega) (by omega)) ?_
    rintro e W' ⟨r, rfl, r0, r1, hA', hk⟩
    exact ⟨_, rfl, hk, ⟨hA', hp.2.1.keep hk n2 n3 nT9 nA9, Nat.le_trans hp.2.2 hk.1⟩, r, rfl⟩
   ·intro _ l vs W hp hl hv b hs
    have t0 := (hs.oldtm 0 rfl).trans (show _ = some (Value.pointer (some ⟨g, 0, none⟩)) from rfl)
    exact stepVal rfl (by go_simp) ⟨KeepBut.refl _ _ _, ⟨At.less hp.1 (Nat.add_le_add_left (owe_skip _ _ l 4) _), hp.2⟩, rfl⟩
   ·intro _ l vs W hp hl hv b hs
    have h4 : vs 4 = .pointer (some ⟨g, 0, none⟩) := hv 4 (by decide)
    have t45 := (hs.tm 45 4 rfl).trans (congrArg some h4)
    have hA : At w0 w g s (N + 7000000 + owe [3, 5, 7] 100000 (fun j => j == 5 || l j) + 100000) W := At.less hp.1 (by have := owe_take (L := [3, 5, 7]) (c := 100000) (i := 5) rfl hl; omega)
    refine stepCall rfl Tryd.func23 (by kernel_rfl) rfl #[.pointer (some ⟨g, 0, none⟩), .int .i64 7] rfl (by simp [Act.eval, t45]) (by exact pick_dr (N := N + 7000000 + owe [3, 5, 7] 100000 (fun j => j == 5 || l j)) (hA.less (by omega)) 7 (by omega) (by omega)) ?_
    rintro e W' ⟨r, rfl, r0, r1, hA', hk⟩
    exact ⟨_, rfl, hk, ⟨hA', hp.2.1.keep hk n2 n3 nT9 nA9, Nat.le_trans hp.2.2 hk.1⟩, r, rfl⟩
   ·intro _ l vs W hp hl hv b hs
    have t0 := (hs.oldtm 0 rfl).trans (show _ = some (Value.pointer (some ⟨g, 0, none⟩)) from rfl)
    exact stepVal rfl (by go_simp) ⟨KeepBut.refl _ _ _, ⟨At.less hp.1 (Nat.add_le_add_left (owe_skip _ _ l 6) _), hp.2⟩, rfl⟩
   ·intro _ l vs W hp hl hv b hs
    have h6 : vs 6 = .pointer (some ⟨g, 0, none⟩) := hv 6 (by decide)
    have t47 := (hs.tm 47 6 rfl).trans (congrArg some h6)
    have hA : At w0 w g s (N + 7000000 + owe [3, 5, 7] 100000 (fun j => j == 7 || l j) + 100000) W := At.less hp.1 (by have := owe_take (L := [3, 5, 7]) (c := 100000) (i := 7) rfl hl; omega)
    refine stepCall rfl Tryd.func26 (by kernel_rfl) rfl #[.pointer (some ⟨g, 0, none⟩)] rfl (by simp [Act.eval, t47]) (by exact addrBent_dr' (N := N + 7000000 + owe [3, 5, 7] 100000 (fun j => j == 7 || l j)) (hA.less (by omega))) ?_
    rintro e W' ⟨a, b, rfl, hA', hk⟩
    exact ⟨_, rfl, hk, ⟨hA', hp.2.1.keep hk n2 n3 nT9 nA9, Nat.le_trans hp.2.2 hk.1⟩, a, b, rfl⟩
   ·intro _ l vs W hp hl hv b hs
    obtain ⟨n3', h3⟩ : (fun (v : Value) (W : World) => ∃ n : Int, v = .int .i64 n) (vs 3) W := hv 3 (by decide)
    have t44 := (hs.tm 44 3 rfl).trans (congrArg some h3)
    obtain ⟨n5, h5⟩ : (fun (v : Value) (W : World) => ∃ n : Int, v = .int .i64 n) (vs 5) W := hv 5 (by decide)
    have t46 := (hs.tm 46 5 rfl).trans (congrArg some h5)
    obtain ⟨a7, b7, h7⟩ : (fun (v : Value) (W : World) => ∃ a b : Int, v = .agg #[.int .i64 a, .int .i64 b]) (vs 7) W := hv 7 (by decide)
    have t48 := (hs.tm 48 7 rfl).trans (congrArg some h7)
    exact stepVal rfl (by go_simp) ⟨KeepBut.refl _ _ _, ⟨At.less hp.1 (Nat.add_le_add_left (owe_skip _ _ l 8) _), hp.2⟩, ⟨n3', n5, ⟨a7, b7⟩⟩, rfl⟩
   ·intro _ l vs W hp hl hv b hs
    obtain ⟨a8, h8⟩ : (fun (v : Value) (W : World) => ∃ a : IAc, v = .agg #[.int .i64 a.f0, .int .i64 a.f1, .int .i64 a.f2.f0, .int .i64 a.f2.f1]) (vs 8) W := hv 8 (by decide)
    have t49 := (hs.tm 49 8 rfl).trans (congrArg some h8)
    exact stepAc1 a8 (Fr w4) rfl rfl (by go_simp; try rfl) hp.2.2 fun A c W' hV hb => ⟨kb_below hb, ⟨At.less (hp.1.below hb) (Nat.add_le_add_left (owe_skip _ _ l 9) _), hp.2.1.below hb, Nat.le_trans hp.2.2 hb.size⟩, a8, A, c, rfl, hV⟩
   ·intro h
    exact absurd h (by decide)
   ·intro h
    exact absurd h (by decide)
   ·intro h
    exact absurd h (by decide)
  ·intro q hq o ho vs W b hs
   obtain rfl := List.mem_singleton.1 hq
   obtain rfl := Option.some.inj ho
   have t3 := (hs.oldtm 3 rfl).trans (show _ = some (Value.pointer (some ⟨g3, 0, none⟩)) from rfl)
   exact stepVal rfl (by go_simp) ⟨rfl, rfl⟩
  ·intro o ho l vs W hl hp hv b hs
   obtain rfl := Option.some.inj ho
   have h1 : vs 1 = .slice B m.length e' := hv 1 (by decide)
   obtain ⟨t, A', c', h2, hV⟩ : (fun (v : Value) (W : World) => ∃ (t : IAc) (A : Option Addr) (c : Nat), v = .slice A 1 c ∧ Kd.V k39 39 W 0 (Fr w4) (.slice A 1 c) [t]) (vs 9) W := hv 9 (by decide)
   exact stepAppA rfl rfl ((hs.ev 42 1 rfl).trans h1) ((hs.ev 50 9 rfl).trans h2) hp.2.1 hV (fun k hk => ⟨.inr hk, fun e => by have := hlt k e.symm; have : w4.heap.size ≤ k := hk; omega⟩) (fun k hk => .inr (by have := hp.2.2; omega)) (by have := hp.2.2; omega) (by have := HF.out.2.2.2; omega) (fun h => h.elim (fun h => by have := ka _ h; omega) fun h => by omega) (fun h => h.elim (fun h => by have := ka _ h; omega) fun h => by omega) (fun k h1 h2 => h2.elim (fun h => kd k h1 h) fun h => by have := kt k h1; omega) fun B' d' W' hC hb _ hz => ⟨t, B', d', rfl, At.less (At.low hp.1 hb) (by omega), hC, Nat.le_trans hp.2.2 hz⟩
  ·intro o ho vs W ⟨t, B', d', h2, hA, hC, hz⟩ hq b hs
   obtain rfl := Option.some.inj ho
   have h3 : vs 11 = .pointer (some ⟨g3, 2, none⟩) := hq _ (List.mem_singleton.2 rfl)
   have t8 := (hs.tm 51 10 rfl).trans (congrArg some h2)
   have t9 := (hs.tm 52 11 rfl).trans (congrArg some h3)
   have cm1 := (Box.cell hC.b3 2 _ rfl).1
   have cm2 := (Box.cell hC.b3 2 _ rfl).2
   exact stepField (i := 2) (v := .slice B' (m.length + 1) d') rfl rfl hC.b3 (by go_simp) fun W' hb hp => ⟨t, B', d', hA.put1 hp (by omega), hC.put n23 (fun h => by have := kt _ h; omega) (fun h => h.elim (fun h => by have := ka _ h; omega) fun h => by omega) hb hp, by rw [hp.size]; exact hz⟩
  ·rintro vs W7 ⟨t, B', d', hA, hC, hz⟩
   simp only [List.map_cons, List.map_nil, putL]
   simp only [Act.put, List.setIfInBounds_toArray, List.set_cons_zero, List.set_cons_succ]
   have HW := Aside0.mk (And.intro hA (And.intro hC hz))
   clear hA hC hz HB
   have lb3 := (HW.out.2.1).b3
   have lb2 := (HW.out.2.1).b2
   go_wp2_with (first | ((with_reducible refine gate_dst (N := 65) rfl ?_); refine boxGet_ rfl rfl rfl rfl lb3 Tryd.underlying26 rfl (by kernel_rfl) ?_) | ((with_reducible refine gate_store (t := 26) (p := 2) rfl ?_); refine boxPut_ rfl rfl rfl rfl (chC sI lw.length A c (m ++ [t]).length B' d') (by rfl) lb2 rfl (by kernel_rfl) (by simp [Value.oneCell']) ?_; intro w9 hbx hput))
   refine bodyPost_ret (results_cell_row rfl _ _ g2 26 (chC sI lw.length A c (m ++ [t]).length B' d') (0, 0) _ rfl hbx Tryd.underlying26 rfl (by kernel_rfl)) rfl ?_
   exact FIN.out _ sI lw A c (m ++ [t]) B' d' KT (fun k => KA k ∨ w4.heap.size ≤ k) (by have := HF.out.1; omega) (HF.out.2.snocA) (fun k h => by have := kt k h; omega) (fun k h => h.elim (fun h => by have := ka k h; omega) fun h => by omega) ((fun k h1 h2 => h2.elim (fun h => kd k h1 h) fun h => by have := kt k h1; omega)) (At.less HW.out.1 (by omega)) (HW.out.2.1) w9 hput
 have c3 : (r == 3) = false := by simp [h3]
 by_cases h4 : r = 4
 ·have c4 : (r == 4) = true := by simp [h4]
  clear h0 h1 h2 h3 h4
  have HB := Aside0.mk (show At w0 w g s (N + 7000000 + owe [5] 1000000 fun _ => false) w4 ∧ ChAt g2 g3 w.heap.size (fun k => KT k ∨ w4.heap.size ≤ k) KA sI lw A c m B e' w4 from ⟨At.less H4.out.1 (by rw [owe_start]; simp only [List.length_cons, List.length_nil]; omega), ChAt.mono (H4.out.2) (fun k h _ => .inl h) (fun k h _ => h)⟩)
  have hlt := Kd.N_lt (H4.out.2).t
  clear H4
  have nT9 : ∀ k, (fun k => KT k ∨ w4.heap.size ≤ k) k → k ≠ g := fun k h => h.elim (nT k) fun h => fr k (by omega)
  have nA9 : ∀ k, KA k → k ≠ g := fun k h => nA k h
  go_upto_region 12 with fail
  refine weaveKT_ g 8 10 rfl (by decide) [(9, .pointer (some ⟨g3, 1, none⟩))] rfl rfl (fun l W => At w0 w g s (N + 7000000 + owe [5] 1000000 l) W ∧ ChAt g2 g3 w.heap.size (fun k => KT k ∨ w4.heap.size ≤ k) KA sI lw A c m B e' W ∧ w4.heap.size ≤ W.heap.size) ⟨HB.out.1.below (drew_below _), HB.out.2.below (drew_below _), Nat.le_refl _⟩ [(55, 0), (56, 1), (57, 2), (58, 3), (59, 4), (60, 5), (61, 6), (62, 7), (63, 8), (64, 9)] [fun v _ => v = .pointer (some ⟨g3, 1, none⟩), fun v _ => v = .slice A lw.length c, fun (v : Value) (W : World) => ∃ (n : Int) (A : Option Addr) (c : Nat), v = .slice A 1 c ∧ IVo W (Fr w4) [n] A c, fun (v : Value) (W : World) => ∃ (n : Int) (A : Option Addr) (c : Nat), v = .slice A 1 c ∧ IVo W (Fr w4) [n] A c, fun v _ => v = .pointer (some ⟨g, 0, none⟩), fun (v : Value) (W : World) => ∃ (x : Ex) (A : Option Addr) (c : Nat), v = .agg (eC x A c) ∧ Tiny x ∧ TVo W (Fr w4) x A c, fun (v : Value) (W : World) => ∃ (l0 : List Int) (A0 : Option Addr) (c0 : Nat) (l1 : List Int) (A1 : Option Addr) (c1 : Nat) (x : Ex) (A : Option Addr) (c : Nat), v = .agg (trC l0.length A0 c0 l1.length A1 c1 x A c) ∧ TrFit ⟨l0, l1, x⟩ ∧ IVo W (Fr w4) l0 A0 c0 ∧ IVo W (Fr w4) l1 A1 c1 ∧ TVo W (Fr w4) x A c, fun (v : Value) (W : World) => ∃ (t : ITr) (A : Option Addr) (c : Nat), v = .slice A 1 c ∧ TrFit t ∧ Kd.V k37 37 W 0 (Fr w4) (.slice A 1 c) [t]] mixed (by kernel_rfl) ⟨fun _ => LastK.const _ _, fun _ => LastK.const _ _, fun _ W W' hk ⟨n, A, c, h1, h2⟩ => ⟨n, A, c, h1, h2.keep hk (fun k h => fr k (by have : w4.heap.size ≤ k := h; omega))⟩, fun _ W W' hk ⟨n, A, c, h1, h2⟩ => ⟨n, A, c, h1, h2.keep hk (fun k h => fr k (by have : w4.heap.size ≤ k := h; omega))⟩, fun _ => LastK.const _ _, fun _ W W' hk ⟨x, A, c, h1, h2, h3⟩ => ⟨x, A, c, h1, h2, h3.keep hk (fun k h => fr k (by have : w4.heap.size ≤ k := h; omega))⟩, fun _ W W' hk ⟨l0, A0, c0, l1, A1, c1, x, A, c, h1, h2, h3, h4, h5⟩ => ⟨l0, A0, c0, l1, A1, c1, x, A, c, h1, h2, h3.keep hk (fun k h => fr k (by have : w4.heap.size ≤ k := h; omega)), h4.keep hk (fun k h => fr k (by have : w4.heap.size ≤ k := h; omega)), h5.keep hk (fun k h => fr k (by have : w4.heap.size ≤ k := h; omega))⟩, fun _ W W' hk ⟨t, A, c, h1, h2, h3⟩ => ⟨t, A, c, h1, h2, Kd.V_keep h3 hk (fun k h => fr k (by have : w4.heap.size ≤ k := h; omega))⟩, trivial⟩ (by kernel_rfl) (by kernel_rfl) (by kernel_rfl) ?_ ?_ (by simp) (fun v W => ∃ (t : ITr) (B' : Option Addr) (d' : Nat), v = .slice B' (lw.length + 1) d' ∧ TrFit t ∧ At w0 w g s (N + 7000000) W ∧ ChT g2 g3 w.heap.size (fun k => KT k ∨ w4.heap.size ≤ k) KA sI lw A c t B' d' m B e' W ∧ w4.heap.size ≤ W.heap.size) (fun _ W => ∃ (t : ITr) (B' : Option Addr) (d' : Nat), TrFit t ∧ At w0 w g s (N + 7000000) W ∧ ChAt g2 g3 w.heap.size (fun k => KT k ∨ w4.heap.size ≤ k) KA sI (lw ++ [t]) B' d' m B e' W ∧ w4.heap.size ≤ W.heap.size) ?_ ?_ ?_
  ·refine ⟨?_, ?_, ?_, ?_, ?_, ?_, ?_, ?_, ?_, ?_, ?_, trivial⟩
   ·intro _ l vs W hp hl hv b hs
    have t3 := (hs.oldtm 3 rfl).trans (show _ = some (Value.pointer (some ⟨g3, 0, none⟩)) from rfl)
    exact stepVal rfl (by go_simp) ⟨KeepBut.refl _ _ _, ⟨At.less hp.1 (Nat.add_le_add_left (owe_skip _ _ l 0) _), hp.2⟩, rfl⟩
   ·intro _ l vs W hp hl hv b hs
    have h0 : vs 0 = .pointer (some ⟨g3, 1, none⟩) := hv 0 (by decide)
    have t55 := (hs.tm 55 0 rfl).trans (congrArg some h0)
    have cm := (Box.cell hp.2.1.b3 1 _ rfl).1
    exact stepVal rfl (by go_simp) ⟨KeepBut.refl _ _ _, ⟨At.less hp.1 (Nat.add_le_add_left (owe_skip _ _ l 1) _), hp.2⟩, rfl⟩
   ·intro _ l vs W hp hl hv b hs
    exact stepInt1 0 rfl rfl (by go_simp; try rfl) fun A c W' hI hb => ⟨kb_below hb, ⟨At.less (hp.1.below hb) (Nat.add_le_add_left (owe_skip _ _ l 2) _), hp.2.1.below hb, Nat.le_trans hp.2.2 hb.size⟩, 0, A, c, rfl, hI.mono (fun k hk => Nat.le_trans hp.2.2 hk)⟩
   ·intro _ l vs W hp hl hv b hs
    exact stepInt1 0 rfl rfl (by go_simp; try rfl) fun A c W' hI hb => ⟨kb_below hb, ⟨At.less (hp.1.below hb) (Nat.add_le_add_left (owe_skip _ _ l 3) _), hp.2.1.below hb, Nat.le_trans hp.2.2 hb.size⟩, 0, A, c, rfl, hI.mono (fun k hk => Nat.le_trans hp.2.2 hk)⟩
   ·intro _ l vs W hp hl hv b hs
    have t0 := (hs.oldtm 0 rfl).trans (show _ = some (Value.pointer (some ⟨g, 0, none⟩)) from rfl)
    exact stepVal rfl (by go_simp) ⟨KeepBut.refl _ _ _, ⟨At.less hp.1 (Nat.add_le_add_left (owe_skip _ _ l 4) _), hp.2⟩, rfl⟩
   ·intro _ l vs W hp hl hv b hs
    have h4 : vs 4 = .pointer (some ⟨g, 0, none⟩) := hv 4 (by decide)
    have t59 := (hs.tm 59 4 rfl).trans (congrArg some h4)
    have hA : At w0 w g s (N + 7000000 + owe [5] 1000000 (fun j => j == 5 || l j) + 1000000) W := At.less hp.1 (by have := owe_take (L := [5]) (c := 1000000) (i := 5) rfl hl; omega)
    refine stepCall rfl Tryd.func27 (by kernel_rfl) rfl #[.pointer (some ⟨g, 0, none⟩)] rfl (by simp [Act.eval, t59]) (by exact exBent_dr hA) ?_
    rintro e W' ⟨x, A, c, rfl, hx, hT, hA', hk⟩
    exact ⟨_, rfl, hk, ⟨hA', hp.2.1.keep hk n2 n3 nT9 nA9, Nat.le_trans hp.2.2 hk.1⟩, x, A, c, rfl, hx, hT.mono fun k hk => Nat.le_trans hp.2.2 hk⟩
   ·intro _ l vs W hp hl hv b hs
    obtain ⟨n2, A2, c2, h2, i2⟩ : (fun (v : Value) (W : World) => ∃ (n : Int) (A : Option Addr) (c : Nat), v = .slice A 1 c ∧ IVo W (Fr w4) [n] A c) (vs 2) W := hv 2 (by decide)
    have t57 := (hs.tm 57 2 rfl).trans (congrArg some h2)
    obtain ⟨n3, A3, c3, h3, i3⟩ : (fun (v : Value) (W : World) => ∃ (n : Int) (A : Option Addr) (c : Nat), v = .slice A 1 c ∧ IVo W (Fr w4) [n] A c) (vs 3) W := hv 3 (by decide)
    have t58 := (hs.tm 58 3 rfl).trans (congrArg some h3)
    obtain ⟨x5, A5, c5, h5, f5, i5⟩ : (fun (v : Value) (W : World) => ∃ (x : Ex) (A : Option Addr) (c : Nat), v = .agg (eC x A c) ∧ Tiny x ∧ TVo W (Fr w4) x A c) (vs 5) W := hv 5 (by decide)
    have t60 := (hs.tm 60 5 rfl).trans (congrArg some h5)
    exact stepVal rfl (by go_simp) ⟨KeepBut.refl _ _ _, ⟨At.less hp.1 (Nat.add_le_add_left (owe_skip _ _ l 6) _), hp.2⟩, [n2], A2, c2, [n3], A3, c3, x5, A5, c5, rfl, ⟨by simp, by simp, f5⟩, i2, i3, i5⟩
   ·intro _ l vs W hp hl hv b hs
    obtain ⟨l0, A0, c0, l1, A1, c1, x, B0, d0, h6, f6, i0, i1, hT⟩ : (fun (v : Value) (W : World) => ∃ (l0 : List Int) (A0 : Option Addr) (c0 : Nat) (l1 : List Int) (A1 : Option Addr) (c1 : Nat) (x : Ex) (A : Option Addr) (c : Nat), v = .agg (trC l0.length A0 c0 l1.length A1 c1 x A c) ∧ TrFit ⟨l0, l1, x⟩ ∧ IVo W (Fr w4) l0 A0 c0 ∧ IVo W (Fr w4) l1 A1 c1 ∧ TVo W (Fr w4) x A c) (vs 6) W := hv 6 (by decide)
    have t61 := (hs.tm 61 6 rfl).trans (congrArg some h6)
    exact stepTr1 ⟨l0, l1, x⟩ (trC l0.length A0 c0 l1.length A1 c1 x B0 d0).toList (Fr w4) rfl rfl (by go_simp; try rfl) hp.2.2 (trLit_F i0 i1 hT) rfl fun A c W' hV hb => ⟨kb_below hb, ⟨At.less (hp.1.below hb) (Nat.add_le_add_left (owe_skip _ _ l 7) _), hp.2.1.below hb, Nat.le_trans hp.2.2 hb.size⟩, _, A, c, rfl, f6, hV⟩
   ·intro h
    exact absurd h (by decide)
   ·intro h
    exact absurd h (by decide)
   ·intro h
    exact absurd h (by decide)
  ·intro q hq o ho vs W b hs
   obtain rfl := List.mem_singleton.1 hq
   obtain rfl := Option.some.inj ho
   have t3 := (hs.oldtm 3 rfl).trans (show _ = some (Value.pointer (some ⟨g3, 0, none⟩)) from rfl)
   exact stepVal rfl (by go_simp) ⟨rfl, rfl⟩
  ·intro o ho l vs W hl hp hv b hs
   obtain rfl := Option.some.inj ho
   have h1 : vs 1 = .slice A lw.length c := hv 1 (by decide)
   obtain ⟨t, A', c', h2, hfit, hV⟩ : (fun (v : Value) (W : World) => ∃ (t : ITr) (A : Option Addr) (c : Nat), v = .slice A 1 c ∧ TrFit t ∧ Kd.V k37 37 W 0 (Fr w4) (.slice A 1 c) [t]) (vs 7) W := hv 7 (by decide)
   exact stepAppT rfl rfl ((hs.ev 56 1 rfl).trans h1) ((hs.ev 62 7 rfl).trans h2) hp.2.1 hV (fun k hk => ⟨.inr hk, fun e => by have := hlt k e.symm; have : w4.heap.size ≤ k := hk; omega⟩) (fun k hk => .inr (by have := hp.2.2; omega)) (by have := hp.2.2; omega) (by have := HF.out.2.1; omega) (fun h => h.elim (fun h => by have := kt _ h; omega) fun h => by omega) (fun h => h.elim (fun h => by have := kt _ h; omega) fun h => by omega) (fun k h1 h2 => h1.elim (fun h => kd k h h2) fun h => by have := ka k h2; omega) fun B' d' W' hC hb _ hz => ⟨t, B', d', rfl, hfit, At.less (At.low hp.1 hb) (by omega), hC, Nat.le_trans hp.2.2 hz⟩
  ·intro o ho vs W ⟨t, B', d', h2, hfit, hA, hC, hz⟩ hq b hs
   obtain rfl := Option.some.inj ho
   have h3 : vs 9 = .pointer (some ⟨g3, 1, none⟩) := hq _ (List.mem_singleton.2 rfl)
   have t8 := (hs.tm 63 8 rfl).trans (congrArg some h2)
   have t9 := (hs.tm 64 9 rfl).trans (congrArg some h3)
   have cm1 := (Box.cell hC.b3 1 _ rfl).1
   have cm2 := (Box.cell hC.b3 1 _ rfl).2
   exact stepField (i := 1) (v := .slice B' (lw.length + 1) d') rfl rfl hC.b3 (by go_simp) fun W' hb hp => ⟨t, B', d', hfit, hA.put1 hp (by omega), hC.put n23 (fun h => h.elim (fun h => by have := kt _ h; omega) fun h => by omega) (fun h => by have := ka _ h; omega) hb hp, by rw [hp.size]; exact hz⟩
  ·rintro vs W7 ⟨t, B', d', hfit, hA, hC, hz⟩
   simp only [List.map_cons, List.map_nil, putL]
   simp only [Act.put, List.setIfInBounds_toArray, List.set_cons_zero, List.set_cons_succ]
   have HW := Aside0.mk (And.intro hA (And.intro hC hz))
   clear hA hC hz HB
   have lb3 := (HW.out.2.1).b3
   have lb2 := (HW.out.2.1).b2
   go_wp2_with (first | ((with_reducible refine gate_dst (N := 65) rfl ?_); refine boxGet_ rfl rfl rfl rfl lb3 Tryd.underlying26 rfl (by kernel_rfl) ?_) | ((with_reducible refine gate_store (t := 26) (p := 2) rfl ?_); refine boxPut_ rfl rfl rfl rfl (chC sI (lw ++ [t]).length B' d' m.length B e') (by rfl) lb2 rfl (by kernel_rfl) (by simp [Value.oneCell']) ?_; intro w9 hbx hput))
   refine bodyPost_ret (results_cell_row rfl _ _ g2 26 (chC sI (lw ++ [t]).length B' d' m.length B e') (0, 0) _ rfl hbx Tryd.underlying26 rfl (by kernel_rfl)) rfl ?_
   exact FIN.out _ sI (lw ++ [t]) B' d' m B e' (fun k => KT k ∨ w4.heap.size ≤ k) KA (by have := HF.out.1; omega) (HF.out.2.snocT hfit) (fun k h => h.elim (fun h => by have := kt k h; omega) fun h => by omega) (fun k h => by have := ka k h; omega) ((fun k h1 h2 => h1.elim (fun h => kd k h h2) fun h => by have := ka k h2; omega)) (At.less HW.out.1 (by omega)) (HW.out.2.1) w9 hput
 have c4 : (r == 4) = false := by simp [h4]
 clear h0 h1 h2 h3 h4
 have HE := Aside0.mk (show At w0 w g s N w4 ∧ ChAt g2 g3 w.heap.size KT KA sI lw A c m B e' w4 from ⟨At.less H4.out.1 (by omega), H4.out.2⟩)
 clear H4
 have lb3 := (HE.out.2).b3
 have lb2 := (HE.out.2).b2
 go_wp2_with (first | ((with_reducible refine gate_dst (N := 65) rfl ?_); refine boxGet_ rfl rfl rfl rfl lb3 Tryd.underlying26 rfl (by kernel_rfl) ?_) | ((with_reducible refine gate_store (t := 26) (p := 2) rfl ?_); refine boxPut_ rfl rfl rfl rfl (chC sI lw.length A c m.length B e') (by rfl) lb2 rfl (by kernel_rfl) (by simp [Value.oneCell']) ?_; intro w9 hbx hput))
 refine bodyPost_ret (results_cell_row rfl _ _ g2 26 (chC sI lw.length A c m.length B e') (0, 0) _ rfl hbx Tryd.underlying26 rfl (by kernel_rfl)) rfl ?_
 exact FIN.out _ sI lw A c m B e' KT KA (by have := HF.out.1; omega) (HF.out.2.mono (by omega)) (fun k h => by have := kt k h; omega) (fun k h => by have := ka k h; omega) (kd) (HE.out.1) (HE.out.2) w9 hput
theorem chBent_fr {w0 wb W : World} {g N : Nat} {s : List Int} (h : At w0 wb g s (N + 20000000) W) : Calls Tryd.prog 9 #[.pointer (some ⟨g, 0, none⟩)] W fun e w' => ChD W w' 0 7 5 e (At w0 wb g s N w' ∧ KeepBut W w' g none) :=
 (chBent_at h.here).mono fun e w' ⟨s, l, A1, c1, m, A2, c2, KT, KA, h1, h2, h3, h4, h5, h6, h7, h8, h9⟩ => ⟨s, l, A1, c1, m, A2, c2, KT, KA, h1, h2, h3, h4, h5, h6, h7, h8, h9.over h, h9.k⟩
end Go.Proofs.YtfmipdhkiahjoaaDoor.B
