/- spec.l4Count, by its size. -/
import Derived.Test.YtendbgedpjcocaaGreatDoorJnJ
import Derived.Test.YtendbgedpjcocaaGreatDoorJnK
import Derived.Test.YtendbgedpjcocaaGreatDoorJnD
namespace Go.Proofs.YtendbgedpjcocaaGreatDoor.B
open Go Go.RowKit Go.Shelf Go.Proofs.YtendbgedpjcocaaGreatDoorW.PrintWords Go.Proofs.YtendbgedpjcocaaGreatDoorW.PrintLast Go.Proofs.YtendbgedpjcocaaGreatDoorW.PrintMore
set_option linter.unusedVariables false
abbrev stC (k a b : Int) (x : Ex) (B : Option Addr) (d : Nat) (n3 : Nat) (A3 : Option Addr) (c3 : Nat) (n4 : Nat) (A4 : Option Addr) (c4 : Nat) : Array Value := #[.int .i64 k, .int .i64 a, .int .i64 b, .int .i64 x.f0, .int .i64 x.f1, .int .i64 x.f2.f0, .int .i64 x.f2.f1, .slice B x.f3.length d, .slice A3 n3 c3, .slice A4 n4 c4]
abbrev zS : Array Value := #[.int .i64 0, .int .i64 0, .int .i64 0, .int .i64 0, .int .i64 0, .int .i64 0, .int .i64 0, .slice none 0 0, .slice none 0 0, .slice none 0 0]
theorem own_size {α : Type} {d : Kd α} {e base : Nat} {W : World} {ok : Nat → Prop} {v : Value} {xs : List α} (h : Kd.N d e W base ok v xs) (hn : 0 < xs.length) : ∃ b cs, v.ownBlock = some b ∧ base ≤ b ∧ W.heap[b]? = some (.cells cs e (0, 0)) ∧ xs.length * d.sz ≤ cs.size := by
 obtain ⟨_, rows, hl, ⟨_, inner, ho, _⟩, _⟩ := h
 rcases ho.2 with ⟨_, h0⟩ | ⟨b, cap, cur, rfl, hb, hh, hc, _, hs, _⟩
 ·omega
 ·refine ⟨b, cur, rfl, hb, hh, ?_⟩
  rw [hs, ← hl]
  exact Nat.mul_le_mul_right _ hc
theorem own_box {α : Type} {d : Kd α} {e base : Nat} {W : World} {ok : Nat → Prop} {v : Value} {xs : List α} (h : Kd.N d e W base ok v xs) (hn : 0 < xs.length) {q : Nat} {T : TypeId} {cs : Array Value} (hb : Box W q T cs) (hs : cs.size < xs.length * d.sz) : ∃ b, v.ownBlock = some b ∧ base ≤ b ∧ b < W.heap.size ∧ b ≠ q := by
 obtain ⟨b, cs', h1, hle, h2, h3⟩ := own_size h hn
 refine ⟨b, h1, hle, blk_lt h2, fun e => ?_⟩
 rw [e] at h2
 have hb' := h2.symm.trans hb
 injection hb' with hb'
 injection hb' with hb'
 rw [hb'] at h3
 omega
theorem exLeaf_F (k n a b : Int) (W : World) (ok : Nat → Prop) : Kd.FK k27 W ok (⟨k, n, ⟨a, b⟩, []⟩ : Ex) [.int .i64 k, .int .i64 n, .int .i64 a, .int .i64 b, .slice none 0 0] := k27_mkF _ _ (⟨k, n, ⟨a, b⟩, []⟩ : Ex) (Nat.le_refl _) (Kd.F_nil _ _ _)
set_option maxRecDepth 100000 in
set_option maxHeartbeats 4000000 in
theorem count_dr {w0 w : World} {g N : Nat} {s : List Int} (h : At w0 w g s (N + 200000) w) : Calls Tryz.prog 102 #[.pointer (some ⟨g, 0, none⟩)] w fun e w' => ∃ (x : St) (B : Option Addr) (d : Nat) (A3 : Option Addr) (c3 : Nat), e = .returned (.agg (stC x.f0 x.f1.f0 x.f1.f1 x.f2 B d x.f3.length A3 c3 0 none 0)) ∧ x.f4 = [] ∧ TinyS x ∧ cntS x ≤ 3 ∧ TVo w' (Fr w) x.f2 B d ∧ LVo w' (Fr w) x.f3 A3 c3 ∧ At w0 w g s N w' := by
 have mixed : Tryz.prog.follows .mixedOrders = true := rfl
 have fr := h.fresh
 have H0 := Aside0.mk h
 clear h
 go_enter Tryz.func102, Tryz.ntmps102
 go_wp2_with ((with_reducible refine gate_dst (N := 2) rfl ?_); refine boxNew_ rfl rfl zS 35 ?hr ?_; (case hr => (go_simp; first | done | rfl)); intro g2 w1 hg2' b2 hb1; have hg2 := Nat.le_of_eq hg2'.symm; clear hg2')
 have n2 : g2 ≠ g := fr g2 hg2
 have H1 := Aside0.mk (show At w0 w g s (N + 199999 + 1) w1 ∧ Box w1 g2 35 zS from ⟨At.less (At.below H0.out hb1) (by omega), b2⟩)
 clear H0 b2 hb1
 go_wp2_with fail
 refine (pick_dr H1.out.1 3 (by omega) (by omega)).mono ?_
 rintro e w2 ⟨r, rfl, r0, r1, hA, hk⟩
 have hk2 := hk.1
 have H2 := Aside0.mk (show At w0 w g s (N + 199999) w2 ∧ Box w2 g2 35 zS from ⟨hA, Box.keep H1.out.2 hk n2⟩)
 clear H1 hA hk
 have sw2 := (H2.out.1).k.1
 have sg2 := blk_lt (H2.out.2)
 go_wp2_with (first | ((with_reducible refine gate_dst (N := 3) rfl ?_); refine new1_ (N := 3) (x := 10) (T := 24) (#[.int .i64 3, .int .i64 r]) (zs := #[.int .i64 0, .int .i64 0]) (by simp [Value.oneCell']) ?_ ?_ ?_ ?_ ?_ ?_ ?_ ?_ ?_ ?_ ?_ ?_ ?_))
 all_goals (first | rfl | decide | (intro _ _; go_simp; done) | kernel_rfl | skip)
 intro g3 w3 hg3 bg3 hb
 simp only [Act.put, List.setIfInBounds_toArray, List.set_cons_zero, List.set_cons_succ]
 have ng3 : g3 ≠ g := fr g3 (by have := (H2.out.1).k.1; omega)
 have sw3 := hb.size
 have H3 := Aside0.mk (show At w0 w g s (N + 199999) w3 ∧ Box w3 g3 24 #[.int .i64 3, .int .i64 r] ∧ Box w3 g2 35 zS from ⟨At.below H2.out.1 hb, bg3, Box.keep H2.out.2 (kb_below (g := g) hb) n2⟩)
 clear H2 hb bg3
 have lb := H3.out.2.1
 go_wp2_with (first | ((with_reducible refine gate_dst (N := 4) rfl ?_); refine new1_ (N := 4) (x := 12) (T := 27) (#[.int .i64 2, .int .i64 0, .int .i64 3, .int .i64 r, .slice none 0 0]) (zs := zE) (by simp [Value.oneCell']) ?_ ?_ ?_ ?_ ?_ ?_ ?_ ?_ ?_ ?_ ?_ ?_ ?_) | ((with_reducible refine gate_dst (N := 11) rfl ?_); refine boxGet_ rfl rfl rfl rfl lb Tryz.underlying24 rfl (by kernel_rfl) ?_))
 all_goals (first | rfl | decide | (intro _ _; go_simp; done) | kernel_rfl | skip)
 intro g4 w4 hg4 bg4 hb
 simp only [Act.put, List.setIfInBounds_toArray, List.set_cons_zero, List.set_cons_succ]
 have ng4 : g4 ≠ g := fr g4 (by have := (H3.out.1).k.1; omega)
 have sw4 := hb.size
 have H4 := Aside0.mk (show At w0 w g s (N + 199999) w4 ∧ Box w4 g4 27 #[.int .i64 2, .int .i64 0, .int .i64 3, .int .i64 r, .slice none 0 0] ∧ Box w4 g3 24 #[.int .i64 3, .int .i64 r] ∧ Box w4 g2 35 zS from ⟨At.below H3.out.1 hb, bg4, Box.keep H3.out.2.1 (kb_below (g := g) hb) ng3, Box.keep H3.out.2.2 (kb_below (g := g) hb) n2⟩)
 clear H3 hb bg4 lb
 go_upto_region 3 with fail
 refine weaveK_ g 8 rfl (fun l W => At w0 w g s (N + 199998 + (if l 3 = true then 0 else 1)) W ∧ w4.heap.size ≤ W.heap.size ∧ Box W g4 27 #[.int .i64 2, .int .i64 0, .int .i64 3, .int .i64 r, .slice none 0 0] ∧ Box W g3 24 #[.int .i64 3, .int .i64 r] ∧ Box W g2 35 zS) ⟨At.below H4.out.1 (drew_below _), Nat.le_refl _, Box.keep H4.out.2.1 (kb_below (g := g) (drew_below _)) ng4, Box.keep H4.out.2.2.1 (kb_below (g := g) (drew_below _)) ng3, Box.keep H4.out.2.2.2 (kb_below (g := g) (drew_below _)) n2⟩ [(13, 0), (14, 1), (15, 2), (16, 3), (17, 4), (18, 5), (19, 6), (5, 7)] [fun v _ => v = .agg #[.int .i64 2, .int .i64 0, .int .i64 3, .int .i64 r, .slice none 0 0], fun v _ => v = .pointer (some ⟨g, 0, none⟩), fun v W => Kd.R (Kd.int .i64) 3 W w.heap.size (fun k => k ≠ g) v [1, 3, 5, 9, 200], fun v _ => ∃ c : Int, v = .int .i64 c, fun v _ => ∃ c : Int, v = .agg #[.int .i64 1, .int .i64 c, .int .i64 0, .int .i64 0, .slice none 0 0], fun v W => ∃ c A d b, v = .slice A 2 d ∧ b ≠ g ∧ Kd.N k27 27 W w4.heap.size (fun k => k = b) (.slice A 2 d) [(⟨2, 0, ⟨3, r⟩, []⟩ : Ex), (⟨1, c, ⟨0, 0⟩, []⟩ : Ex)], fun v W => ∃ c A d b, v = .agg #[.int .i64 6, .int .i64 0, .int .i64 0, .int .i64 0, .slice A 2 d] ∧ b ≠ g ∧ Kd.N k27 27 W w4.heap.size (fun k => k = b) (.slice A 2 d) [(⟨2, 0, ⟨3, r⟩, []⟩ : Ex), (⟨1, c, ⟨0, 0⟩, []⟩ : Ex)], fun v W => ∃ q, v = .pointer (some ⟨q, 0, none⟩) ∧ w4.heap.size ≤ q ∧ q ≠ g ∧ Box W q 27 zE] mixed (by kernel_rfl) ⟨fun _ => LastK.const _ _, fun _ => LastK.const _ _, fun _ W W' hk h => Kd.R_keep h hk fun _ h => h, fun _ => LastK.const _ _, fun _ => LastK.const _ _, fun _ W W' hk ⟨c, A, d, b, h1, h2, h3⟩ => ⟨c, A, d, b, h1, h2, Kd.N_keep h3 hk fun k e => e ▸ h2⟩, fun _ W W' hk ⟨c, A, d, b, h1, h2, h3⟩ => ⟨c, A, d, b, h1, h2, Kd.N_keep h3 hk fun k e => e ▸ h2⟩, fun _ W W' hk ⟨q, h1, h2, h3, h4⟩ => ⟨q, h1, h2, h3, Box.keep h4 hk h3⟩, trivial⟩ (by kernel_rfl) (by kernel_rfl) ?_ (fun vs W => ∃ q c A d b, vs 7 = .pointer (some ⟨q, 0, none⟩) ∧ Box W q 27 #[.int .i64 6, .int .i64 0, .int .i64 0, .int .i64 0, .slice A 2 d] ∧ w.heap.size ≤ q ∧ b ≠ g ∧ w4.heap.size ≤ b ∧ b < W.heap.size ∧ TVo W (fun k => k = b) (⟨6, 0, ⟨0, 0⟩, [(⟨2, 0, ⟨3, r⟩, []⟩ : Ex), (⟨1, c, ⟨0, 0⟩, []⟩ : Ex)]⟩ : Ex) A d ∧ At w0 w g s (N + 199998) W ∧ w4.heap.size ≤ W.heap.size ∧ Box W g4 27 #[.int .i64 2, .int .i64 0, .int .i64 3, .int .i64 r, .slice none 0 0] ∧ Box W g3 24 #[.int .i64 3, .int .i64 r] ∧ Box W g2 35 zS) ?_ ?_
 ·refine ⟨?_, ?_, ?_, ?_, ?_, ?_, ?_, ?_, ?_, trivial⟩
  ·intro _ l vs W hp hl hv b hs
   exact stepGet rfl rfl ((hs.old 4 rfl).trans rfl) (hp.2.2.1) Tryz.underlying27 rfl (by kernel_rfl) ⟨KeepBut.refl _ _ _, hp, rfl⟩
  ·intro _ l vs W hp hl hv b hs
   have t0 := (hs.oldtm 0 rfl).trans (show _ = some (Value.pointer (some ⟨g, 0, none⟩)) from rfl)
   exact stepVal rfl (by go_simp) ⟨KeepBut.refl _ _ _, hp, rfl⟩
  ·intro _ l vs W hp hl hv b hs
   exact stepInts rfl rfl [1, 3, 5, 9, 200] (by decide) (by go_simp; try rfl) hp.1.lt' fun v W' hR hb => ⟨kb_below hb, ⟨hp.1.below hb, Nat.le_trans hp.2.1 ((kb_below (g := g) hb)).1, Box.keep hp.2.2.1 (kb_below (g := g) hb) ng4, Box.keep hp.2.2.2.1 (kb_below (g := g) hb) ng3, Box.keep hp.2.2.2.2 (kb_below (g := g) hb) n2⟩, Kd.R_lower hR hp.1.k.1⟩
  ·intro _ l vs W hp hl hv b hs
   have hA : At w0 w g s (N + 199998 + 1) W := by
    have := hp.1
    rw [hl] at this
    exact this
   have h1 : vs 1 = .pointer (some ⟨g, 0, none⟩) := hv 1 (by decide)
   have h2 : Kd.R (Kd.int .i64) 3 W w.heap.size (fun k => k ≠ g) (vs 2) [1, 3, 5, 9, 200] := hv 2 (by decide)
   have e2 := hs.ev 15 2 rfl
   have e1 := hs.ev 14 1 rfl
   generalize vs 2 = v2 at *
   obtain ⟨A, d, rfl⟩ := Kd.R_slice h2
   refine stepCall rfl Tryz.func51 (by kernel_rfl) rfl #[vs 1, .slice A 5 d] rfl (by simp [e1, e2]) (by rw [h1]; exact num_dr hA [1, 3, 5, 9, 200] (by decide) (by decide) A d (Kd.R_reads' h2).2.2 (Kd.R_reads' h2).2.1 (far_slice fun e => h2.1 g e.symm rfl)) ?_
   rintro e W' ⟨c, rfl, _, hA', hk⟩
   exact ⟨_, rfl, hk, ⟨hA', Nat.le_trans hp.2.1 (hk).1, Box.keep hp.2.2.1 hk ng4, Box.keep hp.2.2.2.1 hk ng3, Box.keep hp.2.2.2.2 hk n2⟩, c, rfl⟩
  ·intro _ l vs W hp hl hv b hs
   obtain ⟨c, h3⟩ : ∃ c : Int, vs 3 = .int .i64 c := hv 3 (by decide)
   have t3 := (hs.tm 16 3 rfl).trans (congrArg some h3)
   exact stepVal rfl (by go_simp) ⟨KeepBut.refl _ _ _, hp, c, rfl⟩
  ·intro _ l vs W hp hl hv b hs
   have h0 : vs 0 = .agg #[.int .i64 2, .int .i64 0, .int .i64 3, .int .i64 r, .slice none 0 0] := hv 0 (by decide)
   obtain ⟨c, h4⟩ : ∃ c : Int, vs 4 = .agg #[.int .i64 1, .int .i64 c, .int .i64 0, .int .i64 0, .slice none 0 0] := hv 4 (by decide)
   have t0 := (hs.tm 13 0 rfl).trans (congrArg some h0)
   have t4 := (hs.tm 17 4 rfl).trans (congrArg some h4)
   refine stepLit k27 27 rfl rfl [(⟨2, 0, ⟨3, r⟩, []⟩ : Ex), (⟨1, c, ⟨0, 0⟩, []⟩ : Ex)] [.int .i64 2, .int .i64 0, .int .i64 3, .int .i64 r, .slice none 0 0, .int .i64 1, .int .i64 c, .int .i64 0, .int .i64 0, .slice none 0 0] (fun _ => False) (show (2 : Nat) ≤ 1000 by omega) (by go_simp; try rfl) (Reps.c5 (exLeaf_F 2 0 3 r _ _) (Reps.c5 (exLeaf_F 1 c 0 0 _ _) (Reps.none _ _))) fun v W' hN hb => ?_
   obtain ⟨A, d, rfl⟩ := Kd.N_slice hN
   exact ⟨kb_below hb, ⟨hp.1.below hb, Nat.le_trans hp.2.1 ((kb_below (g := g) hb)).1, Box.keep hp.2.2.1 (kb_below (g := g) hb) ng4, Box.keep hp.2.2.2.1 (kb_below (g := g) hb) ng3, Box.keep hp.2.2.2.2 (kb_below (g := g) hb) n2⟩, c, A, d, W.heap.size, rfl, fr _ hp.1.k.1, Kd.N_lower (Kd.N_mono hN fun k hk => hk.elim False.elim id) hp.2.1⟩
  ·intro _ l vs W hp hl hv b hs
   obtain ⟨c, A, d, b', h5, hb', hN⟩ : ∃ c A d b, vs 5 = .slice A 2 d ∧ b ≠ g ∧ Kd.N k27 27 W w4.heap.size (fun k => k = b) (.slice A 2 d) [(⟨2, 0, ⟨3, r⟩, []⟩ : Ex), (⟨1, c, ⟨0, 0⟩, []⟩ : Ex)] := hv 5 (by decide)
   have t5 := (hs.tm 18 5 rfl).trans (congrArg some h5)
   exact stepVal rfl (by go_simp) ⟨KeepBut.refl _ _ _, hp, c, A, d, b', rfl, hb', hN⟩
  ·intro _ l vs W hp hl hv b hs
   exact stepBox (cs := zE) (T := 27) rfl (by go_simp; try rfl) fun W' q hq hbx hb => ⟨kb_below hb, ⟨hp.1.below hb, Nat.le_trans hp.2.1 ((kb_below (g := g) hb)).1, Box.keep hp.2.2.1 (kb_below (g := g) hb) ng4, Box.keep hp.2.2.2.1 (kb_below (g := g) hb) ng3, Box.keep hp.2.2.2.2 (kb_below (g := g) hb) n2⟩, q, rfl, Nat.le_trans hp.2.1 hq, fr _ (Nat.le_trans hp.1.k.1 hq), hbx⟩
  ·intro h
   exact absurd h (by decide)
 ·intro o ho l vs W hl hp hv b hs
  obtain rfl := Option.some.inj ho
  obtain ⟨c, A, d, b', h6, hb', hN⟩ : ∃ c A d b, vs 6 = .agg #[.int .i64 6, .int .i64 0, .int .i64 0, .int .i64 0, .slice A 2 d] ∧ b ≠ g ∧ Kd.N k27 27 W w4.heap.size (fun k => k = b) (.slice A 2 d) [(⟨2, 0, ⟨3, r⟩, []⟩ : Ex), (⟨1, c, ⟨0, 0⟩, []⟩ : Ex)] := hv 6 (by decide)
  obtain ⟨q, h7, hq, hqg, hbx⟩ : ∃ q, vs 7 = .pointer (some ⟨q, 0, none⟩) ∧ w4.heap.size ≤ q ∧ q ≠ g ∧ Box W q 27 zE := hv 7 (by decide)
  obtain ⟨b2, ho2, hle, hlt, hne⟩ := own_box hN (show (0 : Nat) < 2 by omega) hbx (show (5 : Nat) < 2 * 5 by omega)
  obtain rfl := hN.1 b2 ho2
  have hA : At w0 w g s (N + 199998) W := by
   have := hp.1
   rw [hl 3 (by decide)] at this
   exact this
  have hw := (H4.out.1).k.1
  have hT : TVo W (fun k => k = b2) (⟨6, 0, ⟨0, 0⟩, [(⟨2, 0, ⟨3, r⟩, []⟩ : Ex), (⟨1, c, ⟨0, 0⟩, []⟩ : Ex)]⟩ : Ex) A d := TV.ofN hN fun _ h => h
  exact stepPutB rfl rfl ((hs.ev 5 7 rfl).trans h7) #[.int .i64 6, .int .i64 0, .int .i64 0, .int .i64 0, .slice A 2 d] ((hs.ev 19 6 rfl).trans h6) hbx rfl (by kernel_rfl) (by simp [Value.oneCell']) fun W' hbx' hput => ⟨q, c, A, d, b2, h7, hbx', Nat.le_trans hw hq, hb', hle, by rw [hput.size]; exact hlt, ⟨Kd.V_step hT.v fun k hk _ => hput.far k (by rw [hk]; exact hne)⟩, hA.put1 hput (Nat.le_trans hw hq), by rw [hput.size]; exact hp.2.1, Box.put1 (hp.2.2.1) hput (by have := blk_lt (H4.out.2.1); omega), Box.put1 (hp.2.2.2.1) hput (by have := blk_lt (H4.out.2.2.1); omega), Box.put1 (hp.2.2.2.2) hput (by have := blk_lt (H4.out.2.2.2); omega)⟩
 ·rintro vs w5 ⟨g5, cX, A5, d5, b5, h7, hbx, hq, hbg, hbw, hblt, hT, hA, sw5, k0, k1, k2⟩
  simp only [List.map_cons, List.map_nil, putL, h7]
  simp only [Act.put, List.setIfInBounds_toArray, List.set_cons_zero, List.set_cons_succ]
  clear h7
  have ng5 : g5 ≠ g := fr _ hq
  have hbgg5 := hbg
  have hbwg5 := hbw
  have hbltg5 := hblt
  have H5 := Aside0.mk (show At w0 w g s (N + 199998) w5 ∧ Box w5 g5 27 #[.int .i64 6, .int .i64 0, .int .i64 0, .int .i64 0, .slice A5 2 d5] ∧ TVo w5 (fun k => k = b5) (⟨6, 0, ⟨0, 0⟩, [(⟨2, 0, ⟨3, r⟩, []⟩ : Ex), (⟨1, cX, ⟨0, 0⟩, []⟩ : Ex)]⟩ : Ex) A5 d5 ∧ Box w5 g4 27 #[.int .i64 2, .int .i64 0, .int .i64 3, .int .i64 r, .slice none 0 0] ∧ Box w5 g3 24 #[.int .i64 3, .int .i64 r] ∧ Box w5 g2 35 zS from ⟨hA, hbx, hT, k0, k1, k2⟩)
  clear H4 hA hbx hT hbg hbw hblt hq k0 k1 k2
  go_upto_region 4 with fail
  refine weaveK_ g 8 rfl (fun l W => At w0 w g s (N + 199997 + (if l 3 = true then 0 else 1)) W ∧ w5.heap.size ≤ W.heap.size ∧ Box W g5 27 #[.int .i64 6, .int .i64 0, .int .i64 0, .int .i64 0, .slice A5 2 d5] ∧ TVo W (fun k => k = b5) (⟨6, 0, ⟨0, 0⟩, [(⟨2, 0, ⟨3, r⟩, []⟩ : Ex), (⟨1, cX, ⟨0, 0⟩, []⟩ : Ex)]⟩ : Ex) A5 d5 ∧ Box W g4 27 #[.int .i64 2, .int .i64 0, .int .i64 3, .int .i64 r, .slice none 0 0] ∧ Box W g3 24 #[.int .i64 3, .int .i64 r] ∧ Box W g2 35 zS) ⟨At.below H5.out.1 (drew_below _), Nat.le_refl _, Box.keep H5.out.2.1 (kb_below (g := g) (drew_below _)) ng5, TVo.keep H5.out.2.2.1 (kb_below (g := g) (drew_below _)) (fun k e => e ▸ hbgg5), Box.keep H5.out.2.2.2.1 (kb_below (g := g) (drew_below _)) ng4, Box.keep H5.out.2.2.2.2.1 (kb_below (g := g) (drew_below _)) ng3, Box.keep H5.out.2.2.2.2.2 (kb_below (g := g) (drew_below _)) n2⟩ [(20, 0), (21, 1), (22, 2), (23, 3), (24, 4), (25, 5), (26, 6), (6, 7)] [fun v _ => v = .agg #[.int .i64 2, .int .i64 0, .int .i64 3, .int .i64 r, .slice none 0 0], fun v _ => v = .pointer (some ⟨g, 0, none⟩), fun v W => Kd.R (Kd.int .i64) 3 W w.heap.size (fun k => k ≠ g) v [1, 1, 2, 0], fun v _ => ∃ c : Int, v = .int .i64 c, fun v _ => ∃ c : Int, v = .agg #[.int .i64 1, .int .i64 c, .int .i64 0, .int .i64 0, .slice none 0 0], fun v W => ∃ c A d b, v = .slice A 2 d ∧ b ≠ g ∧ Kd.N k27 27 W w5.heap.size (fun k => k = b) (.slice A 2 d) [(⟨2, 0, ⟨3, r⟩, []⟩ : Ex), (⟨1, c, ⟨0, 0⟩, []⟩ : Ex)], fun v W => ∃ c A d b, v = .agg #[.int .i64 3, .int .i64 0, .int .i64 0, .int .i64 0, .slice A 2 d] ∧ b ≠ g ∧ Kd.N k27 27 W w5.heap.size (fun k => k = b) (.slice A 2 d) [(⟨2, 0, ⟨3, r⟩, []⟩ : Ex), (⟨1, c, ⟨0, 0⟩, []⟩ : Ex)], fun v W => ∃ q, v = .pointer (some ⟨q, 0, none⟩) ∧ w5.heap.size ≤ q ∧ q ≠ g ∧ Box W q 27 zE] mixed (by kernel_rfl) ⟨fun _ => LastK.const _ _, fun _ => LastK.const _ _, fun _ W W' hk h => Kd.R_keep h hk fun _ h => h, fun _ => LastK.const _ _, fun _ => LastK.const _ _, fun _ W W' hk ⟨c, A, d, b, h1, h2, h3⟩ => ⟨c, A, d, b, h1, h2, Kd.N_keep h3 hk fun k e => e ▸ h2⟩, fun _ W W' hk ⟨c, A, d, b, h1, h2, h3⟩ => ⟨c, A, d, b, h1, h2, Kd.N_keep h3 hk fun k e => e ▸ h2⟩, fun _ W W' hk ⟨q, h1, h2, h3, h4⟩ => ⟨q, h1, h2, h3, Box.keep h4 hk h3⟩, trivial⟩ (by kernel_rfl) (by kernel_rfl) ?_ (fun vs W => ∃ q c A d b, vs 7 = .pointer (some ⟨q, 0, none⟩) ∧ Box W q 27 #[.int .i64 3, .int .i64 0, .int .i64 0, .int .i64 0, .slice A 2 d] ∧ w.heap.size ≤ q ∧ b ≠ g ∧ w5.heap.size ≤ b ∧ b < W.heap.size ∧ TVo W (fun k => k = b) (⟨3, 0, ⟨0, 0⟩, [(⟨2, 0, ⟨3, r⟩, []⟩ : Ex), (⟨1, c, ⟨0, 0⟩, []⟩ : Ex)]⟩ : Ex) A d ∧ At w0 w g s (N + 199997) W ∧ w5.heap.size ≤ W.heap.size ∧ Box W g5 27 #[.int .i64 6, .int .i64 0, .int .i64 0, .int .i64 0, .slice A5 2 d5] ∧ TVo W (fun k => k = b5) (⟨6, 0, ⟨0, 0⟩, [(⟨2, 0, ⟨3, r⟩, []⟩ : Ex), (⟨1, cX, ⟨0, 0⟩, []⟩ : Ex)]⟩ : Ex) A5 d5 ∧ Box W g4 27 #[.int .i64 2, .int .i64 0, .int .i64 3, .int .i64 r, .slice none 0 0] ∧ Box W g3 24 #[.int .i64 3, .int .i64 r] ∧ Box W g2 35 zS) ?_ ?_
  ·refine ⟨?_, ?_, ?_, ?_, ?_, ?_, ?_, ?_, ?_, trivial⟩
   ·intro _ l vs W hp hl hv b hs
    exact stepGet rfl rfl ((hs.old 4 rfl).trans rfl) (hp.2.2.2.2.1) Tryz.underlying27 rfl (by kernel_rfl) ⟨KeepBut.refl _ _ _, hp, rfl⟩
   ·intro _ l vs W hp hl hv b hs
    have t0 := (hs.oldtm 0 rfl).trans (show _ = some (Value.pointer (some ⟨g, 0, none⟩)) from rfl)
    exact stepVal rfl (by go_simp) ⟨KeepBut.refl _ _ _, hp, rfl⟩
   ·intro _ l vs W hp hl hv b hs
    exact stepInts rfl rfl [1, 1, 2, 0] (by decide) (by go_simp; try rfl) hp.1.lt' fun v W' hR hb => ⟨kb_below hb, ⟨hp.1.below hb, Nat.le_trans hp.2.1 ((kb_below (g := g) hb)).1, Box.keep hp.2.2.1 (kb_below (g := g) hb) ng5, TVo.keep hp.2.2.2.1 (kb_below (g := g) hb) (fun k e => e ▸ hbgg5), Box.keep hp.2.2.2.2.1 (kb_below (g := g) hb) ng4, Box.keep hp.2.2.2.2.2.1 (kb_below (g := g) hb) ng3, Box.keep hp.2.2.2.2.2.2 (kb_below (g := g) hb) n2⟩, Kd.R_lower hR hp.1.k.1⟩
   ·intro _ l vs W hp hl hv b hs
    have hA : At w0 w g s (N + 199997 + 1) W := by
     have := hp.1
     rw [hl] at this
     exact this
    have h1 : vs 1 = .pointer (some ⟨g, 0, none⟩) := hv 1 (by decide)
    have h2 : Kd.R (Kd.int .i64) 3 W w.heap.size (fun k => k ≠ g) (vs 2) [1, 1, 2, 0] := hv 2 (by decide)
    have e2 := hs.ev 22 2 rfl
    have e1 := hs.ev 21 1 rfl
    generalize vs 2 = v2 at *
    obtain ⟨A, d, rfl⟩ := Kd.R_slice h2
    refine stepCall rfl Tryz.func51 (by kernel_rfl) rfl #[vs 1, .slice A 4 d] rfl (by simp [e1, e2]) (by rw [h1]; exact num_dr hA [1, 1, 2, 0] (by decide) (by decide) A d (Kd.R_reads' h2).2.2 (Kd.R_reads' h2).2.1 (far_slice fun e => h2.1 g e.symm rfl)) ?_
    rintro e W' ⟨c, rfl, _, hA', hk⟩
    exact ⟨_, rfl, hk, ⟨hA', Nat.le_trans hp.2.1 (hk).1, Box.keep hp.2.2.1 hk ng5, TVo.keep hp.2.2.2.1 hk (fun k e => e ▸ hbgg5), Box.keep hp.2.2.2.2.1 hk ng4, Box.keep hp.2.2.2.2.2.1 hk ng3, Box.keep hp.2.2.2.2.2.2 hk n2⟩, c, rfl⟩
   ·intro _ l vs W hp hl hv b hs
    obtain ⟨c, h3⟩ : ∃ c : Int, vs 3 = .int .i64 c := hv 3 (by decide)
    have t3 := (hs.tm 23 3 rfl).trans (congrArg some h3)
    exact stepVal rfl (by go_simp) ⟨KeepBut.refl _ _ _, hp, c, rfl⟩
   ·intro _ l vs W hp hl hv b hs
    have h0 : vs 0 = .agg #[.int .i64 2, .int .i64 0, .int .i64 3, .int .i64 r, .slice none 0 0] := hv 0 (by decide)
    obtain ⟨c, h4⟩ : ∃ c : Int, vs 4 = .agg #[.int .i64 1, .int .i64 c, .int .i64 0, .int .i64 0, .slice none 0 0] := hv 4 (by decide)
    have t0 := (hs.tm 20 0 rfl).trans (congrArg some h0)
    have t4 := (hs.tm 24 4 rfl).trans (congrArg some h4)
    refine stepLit k27 27 rfl rfl [(⟨2, 0, ⟨3, r⟩, []⟩ : Ex), (⟨1, c, ⟨0, 0⟩, []⟩ : Ex)] [.int .i64 2, .int .i64 0, .int .i64 3, .int .i64 r, .slice none 0 0, .int .i64 1, .int .i64 c, .int .i64 0, .int .i64 0, .slice none 0 0] (fun _ => False) (show (2 : Nat) ≤ 1000 by omega) (by go_simp; try rfl) (Reps.c5 (exLeaf_F 2 0 3 r _ _) (Reps.c5 (exLeaf_F 1 c 0 0 _ _) (Reps.none _ _))) fun v W' hN hb => ?_
    obtain ⟨A, d, rfl⟩ := Kd.N_slice hN
    exact ⟨kb_below hb, ⟨hp.1.below hb, Nat.le_trans hp.2.1 ((kb_below (g := g) hb)).1, Box.keep hp.2.2.1 (kb_below (g := g) hb) ng5, TVo.keep hp.2.2.2.1 (kb_below (g := g) hb) (fun k e => e ▸ hbgg5), Box.keep hp.2.2.2.2.1 (kb_below (g := g) hb) ng4, Box.keep hp.2.2.2.2.2.1 (kb_below (g := g) hb) ng3, Box.keep hp.2.2.2.2.2.2 (kb_below (g := g) hb) n2⟩, c, A, d, W.heap.size, rfl, fr _ hp.1.k.1, Kd.N_lower (Kd.N_mono hN fun k hk => hk.elim False.elim id) hp.2.1⟩
   ·intro _ l vs W hp hl hv b hs
    obtain ⟨c, A, d, b', h5, hb', hN⟩ : ∃ c A d b, vs 5 = .slice A 2 d ∧ b ≠ g ∧ Kd.N k27 27 W w5.heap.size (fun k => k = b) (.slice A 2 d) [(⟨2, 0, ⟨3, r⟩, []⟩ : Ex), (⟨1, c, ⟨0, 0⟩, []⟩ : Ex)] := hv 5 (by decide)
    have t5 := (hs.tm 25 5 rfl).trans (congrArg some h5)
    exact stepVal rfl (by go_simp) ⟨KeepBut.refl _ _ _, hp, c, A, d, b', rfl, hb', hN⟩
   ·intro _ l vs W hp hl hv b hs
    exact stepBox (cs := zE) (T := 27) rfl (by go_simp; try rfl) fun W' q hq hbx hb => ⟨kb_below hb, ⟨hp.1.below hb, Nat.le_trans hp.2.1 ((kb_below (g := g) hb)).1, Box.keep hp.2.2.1 (kb_below (g := g) hb) ng5, TVo.keep hp.2.2.2.1 (kb_below (g := g) hb) (fun k e => e ▸ hbgg5), Box.keep hp.2.2.2.2.1 (kb_below (g := g) hb) ng4, Box.keep hp.2.2.2.2.2.1 (kb_below (g := g) hb) ng3, Box.keep hp.2.2.2.2.2.2 (kb_below (g := g) hb) n2⟩, q, rfl, Nat.le_trans hp.2.1 hq, fr _ (Nat.le_trans hp.1.k.1 hq), hbx⟩
   ·intro h
    exact absurd h (by decide)
  ·intro o ho l vs W hl hp hv b hs
   obtain rfl := Option.some.inj ho
   obtain ⟨c, A, d, b', h6, hb', hN⟩ : ∃ c A d b, vs 6 = .agg #[.int .i64 3, .int .i64 0, .int .i64 0, .int .i64 0, .slice A 2 d] ∧ b ≠ g ∧ Kd.N k27 27 W w5.heap.size (fun k => k = b) (.slice A 2 d) [(⟨2, 0, ⟨3, r⟩, []⟩ : Ex), (⟨1, c, ⟨0, 0⟩, []⟩ : Ex)] := hv 6 (by decide)
   obtain ⟨q, h7, hq, hqg, hbx⟩ : ∃ q, vs 7 = .pointer (some ⟨q, 0, none⟩) ∧ w5.heap.size ≤ q ∧ q ≠ g ∧ Box W q 27 zE := hv 7 (by decide)
   obtain ⟨b2, ho2, hle, hlt, hne⟩ := own_box hN (show (0 : Nat) < 2 by omega) hbx (show (5 : Nat) < 2 * 5 by omega)
   obtain rfl := hN.1 b2 ho2
   have hA : At w0 w g s (N + 199997) W := by
    have := hp.1
    rw [hl 3 (by decide)] at this
    exact this
   have hw := (H5.out.1).k.1
   have hT : TVo W (fun k => k = b2) (⟨3, 0, ⟨0, 0⟩, [(⟨2, 0, ⟨3, r⟩, []⟩ : Ex), (⟨1, c, ⟨0, 0⟩, []⟩ : Ex)]⟩ : Ex) A d := TV.ofN hN fun _ h => h
   exact stepPutB rfl rfl ((hs.ev 6 7 rfl).trans h7) #[.int .i64 3, .int .i64 0, .int .i64 0, .int .i64 0, .slice A 2 d] ((hs.ev 26 6 rfl).trans h6) hbx rfl (by kernel_rfl) (by simp [Value.oneCell']) fun W' hbx' hput => ⟨q, c, A, d, b2, h7, hbx', Nat.le_trans hw hq, hb', hle, by rw [hput.size]; exact hlt, ⟨Kd.V_step hT.v fun k hk _ => hput.far k (by rw [hk]; exact hne)⟩, hA.put1 hput (Nat.le_trans hw hq), by rw [hput.size]; exact hp.2.1, Box.put1 (hp.2.2.1) hput (by have := blk_lt (H5.out.2.1); omega), ⟨Kd.V_step (hp.2.2.2.1).v fun k hk _ => hput.far k (by rw [hk]; have := hbltg5; omega)⟩, Box.put1 (hp.2.2.2.2.1) hput (by have := blk_lt (H5.out.2.2.2.1); omega), Box.put1 (hp.2.2.2.2.2.1) hput (by have := blk_lt (H5.out.2.2.2.2.1); omega), Box.put1 (hp.2.2.2.2.2.2) hput (by have := blk_lt (H5.out.2.2.2.2.2); omega)⟩
  ·rintro vs w6 ⟨g6, cN, A6, d6, b6, h7, hbx, hq, hbg, hbw, hblt, hT, hA, sw6, k0, k1, k2, k3, k4⟩
   simp only [List.map_cons, List.map_nil, putL, h7]
   simp only [Act.put, List.setIfInBounds_toArray, List.set_cons_zero, List.set_cons_succ]
   clear h7
   have ng6 : g6 ≠ g := fr _ hq
   have hbgg6 := hbg
   have hbwg6 := hbw
   have hbltg6 := hblt
   have H6 := Aside0.mk (show At w0 w g s (N + 199997) w6 ∧ Box w6 g6 27 #[.int .i64 3, .int .i64 0, .int .i64 0, .int .i64 0, .slice A6 2 d6] ∧ TVo w6 (fun k => k = b6) (⟨3, 0, ⟨0, 0⟩, [(⟨2, 0, ⟨3, r⟩, []⟩ : Ex), (⟨1, cN, ⟨0, 0⟩, []⟩ : Ex)]⟩ : Ex) A6 d6 ∧ Box w6 g5 27 #[.int .i64 6, .int .i64 0, .int .i64 0, .int .i64 0, .slice A5 2 d5] ∧ TVo w6 (fun k => k = b5) (⟨6, 0, ⟨0, 0⟩, [(⟨2, 0, ⟨3, r⟩, []⟩ : Ex), (⟨1, cX, ⟨0, 0⟩, []⟩ : Ex)]⟩ : Ex) A5 d5 ∧ Box w6 g4 27 #[.int .i64 2, .int .i64 0, .int .i64 3, .int .i64 r, .slice none 0 0] ∧ Box w6 g3 24 #[.int .i64 3, .int .i64 r] ∧ Box w6 g2 35 zS from ⟨hA, hbx, hT, k0, k1, k2, k3, k4⟩)
   clear H5 hA hbx hT hbg hbw hblt hq k0 k1 k2 k3 k4
   obtain ⟨xL, hxL⟩ : ∃ x : Ex, x = ⟨6, 0, ⟨0, 0⟩, [⟨2, 0, ⟨3, r⟩, []⟩, ⟨1, cX, ⟨0, 0⟩, []⟩]⟩ := ⟨_, rfl⟩
   obtain ⟨xA, hxA⟩ : ∃ x : Ex, x = ⟨3, 0, ⟨0, 0⟩, [⟨2, 0, ⟨3, r⟩, []⟩, ⟨1, cN, ⟨0, 0⟩, []⟩]⟩ := ⟨_, rfl⟩
   have sz6 := show w2.heap.size ≤ w3.heap.size ∧ w3.heap.size ≤ w4.heap.size ∧ w4.heap.size ≤ w5.heap.size ∧ w5.heap.size ≤ w6.heap.size ∧ w.heap.size ≤ w2.heap.size ∧ g2 < w2.heap.size from ⟨sw3, sw4, sw5, sw6, sw2, sg2⟩
   have lb3 := H6.out.2.2.2.2.2.2.1
   have lb5 := H6.out.2.2.2.1
   have lb6 := H6.out.2.1
   have lt6 := H6.out.2.2.1
   go_wp2_with (first | ((with_reducible refine gate_dst (N := 27) rfl ?_); refine boxGet_ rfl rfl rfl rfl lb5 Tryz.underlying27 rfl (by kernel_rfl) ?_) | ((with_reducible refine gate_dst (N := 28) rfl ?_); refine boxGet_ rfl rfl rfl rfl lb3 Tryz.underlying24 rfl (by kernel_rfl) ?_) | ((with_reducible refine gate_dst (N := 29) rfl ?_); refine boxGet_ rfl rfl rfl rfl lb6 Tryz.underlying27 rfl (by kernel_rfl) ?_) | ((with_reducible refine gate_dst (N := 31) rfl ?_); refine Kd.N_lit stK w6.heap.size 35 rfl (N' := 31) rfl (xs := [(⟨1, ⟨3, r⟩, (⟨3, 0, ⟨0, 0⟩, [⟨2, 0, ⟨3, r⟩, []⟩, ⟨1, cN, ⟨0, 0⟩, []⟩]⟩ : Ex), [], []⟩ : St)]) (inner := [.int .i64 1, .int .i64 3, .int .i64 r, .int .i64 3, .int .i64 0, .int .i64 0, .int .i64 0, .slice A6 2 d6, .slice none 0 0, .slice none 0 0]) (ok := fun k => w2.heap.size ≤ k) (okp := fun k => k = b6) (by go_simp; try rfl) (Reps.c10 (stLitO_F 1 3 r (⟨3, 0, ⟨0, 0⟩, [⟨2, 0, ⟨3, r⟩, []⟩, ⟨1, cN, ⟨0, 0⟩, []⟩]⟩ : Ex) A6 d6 [] none 0 [] none 0 w6 _ lt6 (LVo.nil _ _) (LVo.nil _ _)) (Reps.none _ _)) (fun k hk => by have := hbwg6; omega) (by show w2.heap.size ≤ w6.heap.size; omega) (Below.refl w6.heap.size w6) (Nat.le_refl _) (by simp) ?_; intro vL wL ho hbL hgL hnL; clear hgL hnL; obtain ⟨A7, c7, eL⟩ := Kd.N_slice ho; subst eL) | ((with_reducible refine gate_dst (N := 7) rfl ?_); refine new1_ (N := 7) (x := 32) (T := 35) (stC 3 0 0 (⟨6, 0, ⟨0, 0⟩, [⟨2, 0, ⟨3, r⟩, []⟩, ⟨1, cX, ⟨0, 0⟩, []⟩]⟩ : Ex) A5 d5 1 A7 c7 0 none 0) (zs := zS) (by simp [Value.oneCell']) ?_ ?_ ?_ ?_ ?_ ?_ ?_ ?_ ?_ ?_ ?_ ?_ ?_))
   all_goals (first | rfl | decide | (intro _ _; go_simp; done) | kernel_rfl | skip)
   intro g7 w7 hg7 bg7 hb
   simp only [Act.put, List.setIfInBounds_toArray, List.set_cons_zero, List.set_cons_succ]
   clear lb3 lb5 lb6 lt6
   have hg7' : w6.heap.size ≤ g7 := Nat.le_trans hbL.size hg7
   have ng7 : g7 ≠ g := fr g7 (by omega)
   have hown := Kd.N_base ho
   have holt := Kd.N_lt ho
   have hw2 : w.heap.size ≤ w2.heap.size := by omega
   have H7 := Aside0.mk (show At w0 w g s (N + 199997) wL ∧ Kd.N stK 35 wL w6.heap.size (fun k => w2.heap.size ≤ k ∧ k ≠ g7) (.slice A7 1 c7) [(⟨1, ⟨3, r⟩, (⟨3, 0, ⟨0, 0⟩, [⟨2, 0, ⟨3, r⟩, []⟩, ⟨1, cN, ⟨0, 0⟩, []⟩]⟩ : Ex), [], []⟩ : St)] ∧ Box wL g5 27 #[.int .i64 6, .int .i64 0, .int .i64 0, .int .i64 0, .slice A5 2 d5] ∧ TVo wL (fun k => k = b5) (⟨6, 0, ⟨0, 0⟩, [(⟨2, 0, ⟨3, r⟩, []⟩ : Ex), (⟨1, cX, ⟨0, 0⟩, []⟩ : Ex)]⟩ : Ex) A5 d5 ∧ Box wL g2 35 zS from ⟨At.below H6.out.1 hbL, Kd.N_elderB ho g7 hg7, Box.keep H6.out.2.2.2.1 (kb_below (g := g) hbL) ng5, TVo.keep H6.out.2.2.2.2.1 (kb_below (g := g) hbL) (fun k e => e ▸ hbgg5), Box.keep H6.out.2.2.2.2.2.2.2 (kb_below (g := g) hbL) n2⟩)
   clear H6 ho hbL
   have H8 := Aside0.mk (show At w0 w g s (N + 199996 + 1) w7 ∧ Box w7 g7 35 (stC 3 0 0 (⟨6, 0, ⟨0, 0⟩, [⟨2, 0, ⟨3, r⟩, []⟩, ⟨1, cX, ⟨0, 0⟩, []⟩]⟩ : Ex) A5 d5 1 A7 c7 0 none 0) ∧ Kd.N stK 35 w7 w6.heap.size (fun k => w2.heap.size ≤ k ∧ k ≠ g7) (.slice A7 1 c7) [(⟨1, ⟨3, r⟩, (⟨3, 0, ⟨0, 0⟩, [⟨2, 0, ⟨3, r⟩, []⟩, ⟨1, cN, ⟨0, 0⟩, []⟩]⟩ : Ex), [], []⟩ : St)] ∧ Box w7 g5 27 #[.int .i64 6, .int .i64 0, .int .i64 0, .int .i64 0, .slice A5 2 d5] ∧ TVo w7 (fun k => k = b5) (⟨6, 0, ⟨0, 0⟩, [(⟨2, 0, ⟨3, r⟩, []⟩ : Ex), (⟨1, cX, ⟨0, 0⟩, []⟩ : Ex)]⟩ : Ex) A5 d5 ∧ Box w7 g2 35 zS from ⟨At.less (At.below H7.out.1 hb) (by omega), bg7, Kd.N_keep H7.out.2.1 (kb_below (g := g) hb) (fun k hk => fr k (Nat.le_trans hw2 hk.1)), Box.keep H7.out.2.2.1 (kb_below (g := g) hb) ng5, TVo.keep H7.out.2.2.2.1 (kb_below (g := g) hb) (fun k e => e ▸ hbgg5), Box.keep H7.out.2.2.2.2 (kb_below (g := g) hb) n2⟩)
   clear H7 bg7 hb
   have fin : ∀ (W : World) (l3 : List St) (A : Option Addr) (c : Nat), At w0 w g s N W → Box W g7 35 (stC 3 0 0 (⟨6, 0, ⟨0, 0⟩, [⟨2, 0, ⟨3, r⟩, []⟩, ⟨1, cX, ⟨0, 0⟩, []⟩]⟩ : Ex) A5 d5 l3.length A c 0 none 0) → Box W g2 35 zS → TVo W (fun k => k = b5) (⟨6, 0, ⟨0, 0⟩, [⟨2, 0, ⟨3, r⟩, []⟩, ⟨1, cX, ⟨0, 0⟩, []⟩]⟩ : Ex) A5 d5 → LVo W (fun k => w2.heap.size ≤ k ∧ k ≠ g7) l3 A c → Fit 2 l3 → ∀ W', Box W' g2 35 (stC 3 0 0 (⟨6, 0, ⟨0, 0⟩, [⟨2, 0, ⟨3, r⟩, []⟩, ⟨1, cX, ⟨0, 0⟩, []⟩]⟩ : Ex) A5 d5 l3.length A c 0 none 0) → Put1 g2 W W' →
     ∃ (x : St) (B : Option Addr) (d : Nat) (A3 : Option Addr) (c3 : Nat), Ending.returned (Value.agg (stC 3 0 0 (⟨6, 0, ⟨0, 0⟩, [⟨2, 0, ⟨3, r⟩, []⟩, ⟨1, cX, ⟨0, 0⟩, []⟩]⟩ : Ex) A5 d5 l3.length A c 0 none 0)) = .returned (.agg (stC x.f0 x.f1.f0 x.f1.f1 x.f2 B d x.f3.length A3 c3 0 none 0)) ∧ x.f4 = [] ∧ TinyS x ∧ cntS x ≤ 3 ∧ TVo W' (Fr w) x.f2 B d ∧ LVo W' (Fr w) x.f3 A3 c3 ∧ At w0 w g s N W' := by
    intro W l3 A c hA _ _ hT hL hF W' _ hp
    have hm := Fit.mk1 (n := 2) (m := 0) (k := 3) (a := ⟨0, 0⟩) (e := (⟨6, 0, ⟨0, 0⟩, [⟨2, 0, ⟨3, r⟩, []⟩, ⟨1, cX, ⟨0, 0⟩, []⟩]⟩ : Ex)) (l := l3) (l' := []) (.mk _ (by simp) (fun x hx => by
     simp only [List.mem_cons, List.mem_nil_iff, or_false] at hx
     rcases hx with rfl | rfl <;> exact .mk _ (by simp) (by simp))) hF (Fit.nil 0) (by omega) (by omega)
    refine ⟨⟨3, ⟨0, 0⟩, (⟨6, 0, ⟨0, 0⟩, [⟨2, 0, ⟨3, r⟩, []⟩, ⟨1, cX, ⟨0, 0⟩, []⟩]⟩ : Ex), l3, []⟩, A5, d5, A, c, rfl, rfl, hm.1, by have := hm.2; omega, TVo.mono (ok := fun k => k = b5) ⟨Kd.V_step hT.v fun k hk _ => hp.far k (by rw [hk]; have := hbwg5; omega)⟩ (fun k hk => by rw [hk]; have := hbwg5; show w.heap.size ≤ b5; omega), LVo.mono (ok := (fun k => w2.heap.size ≤ k ∧ k ≠ g7)) ⟨Kd.V_step hL.v fun k hk _ => hp.far k (by have := hk.1; omega)⟩ (fun k hk => Nat.le_trans hw2 hk.1), hA.put1 hp (by omega)⟩
   have FIN := Aside0.mk fin
   clear fin
   go_wp2_with fail
   refine (pick_dr H8.out.1 2 (by omega) (by omega)).mono ?_
   rintro e w8 ⟨t, rfl, t0, t1, hA, hk⟩
   have hk8 := hk.1
   have H9 := Aside0.mk (show At w0 w g s (N + 199996) w8 ∧ Box w8 g7 35 (stC 3 0 0 (⟨6, 0, ⟨0, 0⟩, [⟨2, 0, ⟨3, r⟩, []⟩, ⟨1, cX, ⟨0, 0⟩, []⟩]⟩ : Ex) A5 d5 1 A7 c7 0 none 0) ∧ Kd.N stK 35 w8 w6.heap.size (fun k => w2.heap.size ≤ k ∧ k ≠ g7) (.slice A7 1 c7) [(⟨1, ⟨3, r⟩, (⟨3, 0, ⟨0, 0⟩, [⟨2, 0, ⟨3, r⟩, []⟩, ⟨1, cN, ⟨0, 0⟩, []⟩]⟩ : Ex), [], []⟩ : St)] ∧ Box w8 g5 27 #[.int .i64 6, .int .i64 0, .int .i64 0, .int .i64 0, .slice A5 2 d5] ∧ TVo w8 (fun k => k = b5) (⟨6, 0, ⟨0, 0⟩, [(⟨2, 0, ⟨3, r⟩, []⟩ : Ex), (⟨1, cX, ⟨0, 0⟩, []⟩ : Ex)]⟩ : Ex) A5 d5 ∧ Box w8 g2 35 zS from ⟨hA, Box.keep H8.out.2.1 hk ng7, Kd.N_keep H8.out.2.2.1 hk (fun k hk => fr k (Nat.le_trans hw2 hk.1)), Box.keep H8.out.2.2.2.1 hk ng5, TVo.keep H8.out.2.2.2.2.1 hk (fun k e => e ▸ hbgg5), Box.keep H8.out.2.2.2.2.2 hk n2⟩)
   clear H8 hA hk
   have sw8 := (H9.out.1).k.1
   have sz8 : w7.heap.size ≤ w8.heap.size := hk8
   have hg7s := blk_lt (H9.out.2.1)
   clear sw8
   by_cases hz : t = 0
   rotate_left
   ·have hq : (t == 0) = false := by simp [hz]
    have lb7 := H9.out.2.1
    have lb2 := H9.out.2.2.2.2.2
    go_wp2_with (first | ((with_reducible refine gate_dst (N := 46) rfl ?_); refine boxGet_ rfl rfl rfl rfl lb7 Tryz.underlying35 rfl (by kernel_rfl) ?_) | (refine boxPut_ rfl rfl rfl rfl (stC 3 0 0 (⟨6, 0, ⟨0, 0⟩, [⟨2, 0, ⟨3, r⟩, []⟩, ⟨1, cX, ⟨0, 0⟩, []⟩]⟩ : Ex) A5 d5 1 A7 c7 0 none 0) rfl lb2 rfl (by kernel_rfl) (by simp [Value.oneCell']) ?_; intro w9 hbx hput))
    refine bodyPost_ret (results_cell_row rfl _ _ g2 35 (stC 3 0 0 (⟨6, 0, ⟨0, 0⟩, [⟨2, 0, ⟨3, r⟩, []⟩, ⟨1, cX, ⟨0, 0⟩, []⟩]⟩ : Ex) A5 d5 1 A7 c7 0 none 0) (0, 0) _ rfl hbx Tryz.underlying35 rfl (by kernel_rfl)) rfl ?_
    refine FIN.out w8 [(⟨1, ⟨3, r⟩, (⟨3, 0, ⟨0, 0⟩, [⟨2, 0, ⟨3, r⟩, []⟩, ⟨1, cN, ⟨0, 0⟩, []⟩]⟩ : Ex), [], []⟩ : St)] A7 c7 (At.less H9.out.1 (by omega)) lb7 lb2 (H9.out.2.2.2.2.1) ⟨Kd.N_V (H9.out.2.2.1)⟩ ?_ w9 hbx hput
    have := (Fit.nil 0).snoc (Fit.mk1 (n := 0) (m := 0) (k := 1) (a := ⟨3, r⟩) (e := (⟨3, 0, ⟨0, 0⟩, [⟨2, 0, ⟨3, r⟩, []⟩, ⟨1, cN, ⟨0, 0⟩, []⟩]⟩ : Ex)) (l := []) (l' := []) (.mk _ (by simp) (fun x hx => by simp only [List.mem_cons, List.mem_nil_iff, or_false] at hx; rcases hx with rfl | rfl <;> exact .mk _ (by simp) (by simp))) (Fit.nil 0) (Fit.nil 0) (by omega) (by omega)).1 (m := 1) (by rw [cntS_eq]; simp)
    exact Fit.mono (by simpa using this) (by omega)
   have hq : (t == 0) = true := by simp [hz]
   go_upto_region 7 with fail
   clear hq hz
   refine weaveKT_ g 8 10 rfl (by decide) [(9, .pointer (some ⟨g7, 8, none⟩))] rfl rfl (fun l W => At w0 w g s (N + (if l 3 = true then 0 else 2) + (if l 5 = true then 0 else 100000)) W ∧ w8.heap.size ≤ W.heap.size ∧ Box W g7 35 (stC 3 0 0 (⟨6, 0, ⟨0, 0⟩, [⟨2, 0, ⟨3, r⟩, []⟩, ⟨1, cX, ⟨0, 0⟩, []⟩]⟩ : Ex) A5 d5 1 A7 c7 0 none 0) ∧ Kd.N stK 35 W w6.heap.size (fun k => w2.heap.size ≤ k ∧ k ≠ g7) (.slice A7 1 c7) [(⟨1, ⟨3, r⟩, (⟨3, 0, ⟨0, 0⟩, [⟨2, 0, ⟨3, r⟩, []⟩, ⟨1, cN, ⟨0, 0⟩, []⟩]⟩ : Ex), [], []⟩ : St)] ∧ Box W g5 27 #[.int .i64 6, .int .i64 0, .int .i64 0, .int .i64 0, .slice A5 2 d5] ∧ TVo W (fun k => k = b5) (⟨6, 0, ⟨0, 0⟩, [(⟨2, 0, ⟨3, r⟩, []⟩ : Ex), (⟨1, cX, ⟨0, 0⟩, []⟩ : Ex)]⟩ : Ex) A5 d5 ∧ Box W g2 35 zS) ⟨At.less (At.below H9.out.1 (drew_below _)) (by simp), Nat.le_refl _, Box.keep H9.out.2.1 (kb_below (g := g) (drew_below _)) ng7, Kd.N_keep H9.out.2.2.1 (kb_below (g := g) (drew_below _)) (fun k hk => fr k (Nat.le_trans hw2 hk.1)), Box.keep H9.out.2.2.2.1 (kb_below (g := g) (drew_below _)) ng5, TVo.keep H9.out.2.2.2.2.1 (kb_below (g := g) (drew_below _)) (fun k e => e ▸ hbgg5), Box.keep H9.out.2.2.2.2.2 (kb_below (g := g) (drew_below _)) n2⟩ [(36, 0), (37, 1), (38, 2), (39, 3), (40, 4), (41, 5), (42, 6), (43, 7), (44, 8), (45, 9)] [fun v _ => v = .pointer (some ⟨g7, 8, none⟩), fun v _ => v = .slice A7 1 c7, fun v _ => v = .pointer (some ⟨g, 0, none⟩), fun v _ => ∃ a b : Int, v = .agg #[.int .i64 a, .int .i64 b], fun v _ => v = .pointer (some ⟨g, 0, none⟩), fun v W => ∃ x A d, v = .agg (eA x A d) ∧ Tiny x ∧ TVo W (Fr w8) x A d, fun v W => ∃ a b x A d, v = .agg (stC 1 a b x A d 0 none 0 0 none 0) ∧ Tiny x ∧ TVo W (Fr w8) x A d, fun v W => ∃ a b x A d, v = .slice A 1 d ∧ Tiny x ∧ LVo W (Fr w8) [(⟨1, ⟨a, b⟩, x, [], []⟩ : St)] A d] mixed (by kernel_rfl) ⟨fun _ => LastK.const _ _, fun _ => LastK.const _ _, fun _ => LastK.const _ _, fun _ => LastK.const _ _, fun _ => LastK.const _ _, fun _ W W' hk ⟨x, A, d, h1, h2, h3⟩ => ⟨x, A, d, h1, h2, h3.keep hk (fun k hk => fr k (by have : w8.heap.size ≤ k := hk; omega))⟩, fun _ W W' hk ⟨a, b, x, A, d, h1, h2, h3⟩ => ⟨a, b, x, A, d, h1, h2, h3.keep hk (fun k hk => fr k (by have : w8.heap.size ≤ k := hk; omega))⟩, fun _ W W' hk ⟨a, b, x, A, d, h1, h2, h3⟩ => ⟨a, b, x, A, d, h1, h2, h3.keep hk (fun k hk => fr k (by have : w8.heap.size ≤ k := hk; omega))⟩, trivial⟩ (by kernel_rfl) (by kernel_rfl) (by kernel_rfl) ?_ ?_ (by simp) (fun v W => ∃ a b x A c, v = .slice A 2 c ∧ Box W g7 35 (stC 3 0 0 (⟨6, 0, ⟨0, 0⟩, [⟨2, 0, ⟨3, r⟩, []⟩, ⟨1, cX, ⟨0, 0⟩, []⟩]⟩ : Ex) A5 d5 1 A7 c7 0 none 0) ∧ At w0 w g s N W ∧ Box W g2 35 zS ∧ TVo W (fun k => k = b5) (⟨6, 0, ⟨0, 0⟩, [⟨2, 0, ⟨3, r⟩, []⟩, ⟨1, cX, ⟨0, 0⟩, []⟩]⟩ : Ex) A5 d5 ∧ Tiny x ∧ LVo W (fun k => w2.heap.size ≤ k ∧ k ≠ g7) [(⟨1, ⟨3, r⟩, (⟨3, 0, ⟨0, 0⟩, [⟨2, 0, ⟨3, r⟩, []⟩, ⟨1, cN, ⟨0, 0⟩, []⟩]⟩ : Ex), [], []⟩ : St), (⟨1, ⟨a, b⟩, x, [], []⟩ : St)] A c) (fun _ W => ∃ a b x A c, Box W g7 35 (stC 3 0 0 (⟨6, 0, ⟨0, 0⟩, [⟨2, 0, ⟨3, r⟩, []⟩, ⟨1, cX, ⟨0, 0⟩, []⟩]⟩ : Ex) A5 d5 2 A c 0 none 0) ∧ At w0 w g s N W ∧ Box W g2 35 zS ∧ TVo W (fun k => k = b5) (⟨6, 0, ⟨0, 0⟩, [⟨2, 0, ⟨3, r⟩, []⟩, ⟨1, cX, ⟨0, 0⟩, []⟩]⟩ : Ex) A5 d5 ∧ Tiny x ∧ LVo W (fun k => w2.heap.size ≤ k ∧ k ≠ g7) [(⟨1, ⟨3, r⟩, (⟨3, 0, ⟨0, 0⟩, [⟨2, 0, ⟨3, r⟩, []⟩, ⟨1, cN, ⟨0, 0⟩, []⟩]⟩ : Ex), [], []⟩ : St), (⟨1, ⟨a, b⟩, x, [], []⟩ : St)] A c) ?_ ?_ ?_
   ·refine ⟨?_, ?_, ?_, ?_, ?_, ?_, ?_, ?_, ?_, ?_, ?_, trivial⟩
    ·intro _ l vs W hp hl hv b hs
     have t7 := (hs.oldtm 7 rfl).trans (show _ = some (Value.pointer (some ⟨g7, 0, none⟩)) from rfl)
     exact stepVal rfl (by go_simp) ⟨KeepBut.refl _ _ _, hp, rfl⟩
    ·intro _ l vs W hp hl hv b hs
     have h0 : vs 0 = .pointer (some ⟨g7, 8, none⟩) := hv 0 (by decide)
     have t0 := (hs.tm 36 0 rfl).trans (congrArg some h0)
     have cm := (Box.cell (hp.2.2.1) 8 _ rfl).1
     exact stepVal rfl (by go_simp) ⟨KeepBut.refl _ _ _, hp, rfl⟩
    ·intro _ l vs W hp hl hv b hs
     have t0 := (hs.oldtm 0 rfl).trans (show _ = some (Value.pointer (some ⟨g, 0, none⟩)) from rfl)
     exact stepVal rfl (by go_simp) ⟨KeepBut.refl _ _ _, hp, rfl⟩
    ·intro _ l vs W hp hl hv b hs
     have hA : At w0 w g s (N + (if l 5 = true then 0 else 100000) + 2) W := At.less hp.1 (by rw [hl]; simp; omega)
     have h2 : vs 2 = .pointer (some ⟨g, 0, none⟩) := hv 2 (by decide)
     refine stepCall rfl Tryz.func84 (by kernel_rfl) rfl #[vs 2] rfl (by simp [Act.eval, hs.tm 38 2 rfl]) (by rw [h2]; exact to_dr hA) ?_
     rintro e W' ⟨a, b, rfl, hA', hk⟩
     exact ⟨_, rfl, hk, ⟨At.less hA' (by simp), Nat.le_trans hp.2.1 (hk).1, Box.keep hp.2.2.1 hk ng7, Kd.N_keep hp.2.2.2.1 hk (fun k hk => fr k (Nat.le_trans hw2 hk.1)), Box.keep hp.2.2.2.2.1 hk ng5, TVo.keep hp.2.2.2.2.2.1 hk (fun k e => e ▸ hbgg5), Box.keep hp.2.2.2.2.2.2 hk n2⟩, a, b, rfl⟩
    ·intro _ l vs W hp hl hv b hs
     have t0 := (hs.oldtm 0 rfl).trans (show _ = some (Value.pointer (some ⟨g, 0, none⟩)) from rfl)
     exact stepVal rfl (by go_simp) ⟨KeepBut.refl _ _ _, hp, rfl⟩
    ·intro _ l vs W hp hl hv b hs
     have hA : At w0 w g s (N + (if l 3 = true then 0 else 2) + 100000) W := At.less hp.1 (by rw [hl]; simp)
     have h4 : vs 4 = .pointer (some ⟨g, 0, none⟩) := hv 4 (by decide)
     refine stepCall rfl Tryz.func83 (by kernel_rfl) rfl #[vs 4, .int .i64 2] rfl (by simp [Act.eval, hs.tm 40 4 rfl]) (by rw [h4]; exact expr_dr 2 (by omega) hA) ?_
     rintro e W' ⟨x, A, d, rfl, hx, hT, hA', hk⟩
     exact ⟨_, rfl, hk, ⟨At.less hA' (by simp), Nat.le_trans hp.2.1 (hk).1, Box.keep hp.2.2.1 hk ng7, Kd.N_keep hp.2.2.2.1 hk (fun k hk => fr k (Nat.le_trans hw2 hk.1)), Box.keep hp.2.2.2.2.1 hk ng5, TVo.keep hp.2.2.2.2.2.1 hk (fun k e => e ▸ hbgg5), Box.keep hp.2.2.2.2.2.2 hk n2⟩, x, A, d, rfl, hx, hT.mono fun k hk' => Nat.le_trans hp.2.1 hk'⟩
    ·intro _ l vs W hp hl hv b hs
     obtain ⟨a, b', h3⟩ : ∃ a b : Int, vs 3 = .agg #[.int .i64 a, .int .i64 b] := hv 3 (by decide)
     obtain ⟨x, A, d, h5, hx, hT⟩ : ∃ x A d, vs 5 = .agg (eA x A d) ∧ Tiny x ∧ TVo W (Fr w8) x A d := hv 5 (by decide)
     have t3 := (hs.tm 39 3 rfl).trans (congrArg some h3)
     have t5 := (hs.tm 41 5 rfl).trans (congrArg some h5)
     have HT := Aside0.mk hT
     clear hT
     exact stepVal (v := .agg (stC 1 a b' x A d 0 none 0 0 none 0)) rfl (by go_simp; try rfl) ⟨KeepBut.refl _ _ _, hp, a, b', x, A, d, rfl, hx, HT.out⟩
    ·intro _ l vs W hp hl hv b hs
     obtain ⟨a, b', x, A, d, h6, hx, hT⟩ : ∃ a b x A d, vs 6 = .agg (stC 1 a b x A d 0 none 0 0 none 0) ∧ Tiny x ∧ TVo W (Fr w8) x A d := hv 6 (by decide)
     have t6 := (hs.tm 42 6 rfl).trans (congrArg some h6)
     refine stepLit stK 35 rfl rfl [(⟨1, ⟨a, b'⟩, x, [], []⟩ : St)] [.int .i64 1, .int .i64 a, .int .i64 b', .int .i64 x.f0, .int .i64 x.f1, .int .i64 x.f2.f0, .int .i64 x.f2.f1, .slice A x.f3.length d, .slice none 0 0, .slice none 0 0] (Fr w8) (show (1 : Nat) ≤ 1000 by omega) (by go_simp; try rfl) (Reps.c10 (stLitO_F 1 a b' x A d [] none 0 [] none 0 W _ hT (LVo.nil _ _) (LVo.nil _ _)) (Reps.none _ _)) fun v W' hN hb => ?_
     obtain ⟨A', d', rfl⟩ := Kd.N_slice hN
     exact ⟨kb_below (g := g) hb, ⟨hp.1.below hb, Nat.le_trans hp.2.1 ((kb_below (g := g) hb)).1, Box.keep hp.2.2.1 (kb_below (g := g) hb) ng7, Kd.N_keep hp.2.2.2.1 (kb_below (g := g) hb) (fun k hk => fr k (Nat.le_trans hw2 hk.1)), Box.keep hp.2.2.2.2.1 (kb_below (g := g) hb) ng5, TVo.keep hp.2.2.2.2.2.1 (kb_below (g := g) hb) (fun k e => e ▸ hbgg5), Box.keep hp.2.2.2.2.2.2 (kb_below (g := g) hb) n2⟩, a, b', x, A', d', rfl, hx, ⟨Kd.V_mono (Kd.N_V hN) fun k hk => hk.elim id fun e => e ▸ hp.2.1⟩⟩
    ·intro h
     exact absurd h (by decide)
    ·intro h
     exact absurd h (by decide)
    ·intro h
     exact absurd h (by decide)
   ·intro q hq o ho vs W b hs
    obtain rfl := List.mem_singleton.1 hq
    obtain rfl := Option.some.inj ho
    have t7 := (hs.oldtm 7 rfl).trans (show _ = some (Value.pointer (some ⟨g7, 0, none⟩)) from rfl)
    exact stepVal rfl (by go_simp) ⟨rfl, rfl⟩
   ·intro o ho l vs W hl hp hv b hs
    obtain rfl := Option.some.inj ho
    have h1 : vs 1 = .slice A7 1 c7 := hv 1 (by decide)
    obtain ⟨a, b', x, A, d, h7, hx, hL⟩ : ∃ a b x A d, vs 7 = .slice A 1 d ∧ Tiny x ∧ LVo W (Fr w8) [(⟨1, ⟨a, b⟩, x, [], []⟩ : St)] A d := hv 7 (by decide)
    have hA : At w0 w g s N W := At.less hp.1 (by omega)
    intro K Q hK
    refine Kd.N_append_rows_step stK w6.heap.size rfl (.tmp 37) (.tmp 43) 33 35 (.agg zS) 128 rfl Tryz.underlying33 info35 rfl (by decide) (by omega) (.slice A7 1 c7) [(⟨1, ⟨3, r⟩, (⟨3, 0, ⟨0, 0⟩, [⟨2, 0, ⟨3, r⟩, []⟩, ⟨1, cN, ⟨0, 0⟩, []⟩]⟩ : Ex), [], []⟩ : St)] [(⟨1, ⟨a, b'⟩, x, [], []⟩ : St)] A 1 d (fun k => w2.heap.size ≤ k ∧ k ≠ g7) (Fr w8) ((hs.ev 37 1 rfl).trans h1) ((hs.ev 43 7 rfl).trans h7) (hp.2.2.2.1) (Kd.V_F hL.v) (fun k hk => ⟨⟨by have : w8.heap.size ≤ k := hk; omega, by have : w8.heap.size ≤ k := hk; omega⟩, fun e => by have := holt k e.symm; have : w8.heap.size ≤ k := hk; omega⟩) (fun k hk => ⟨by have := hp.2.1; omega, by have := hp.2.1; omega⟩) (Below.refl w6.heap.size W) (by have := hp.2.1; omega) (by simp) ?_
    intro v1 W1 hN hb' hg hat
    obtain ⟨A1, c1, rfl⟩ := Kd.N_slice hN
    have hrow : ∀ (T : TypeId) (cs : Array Value) (q : Nat), Box W q T cs → (∀ k, (Value.slice A7 1 c7).ownBlock = some k → q ≠ k) → Box W1 q T cs := fun T cs q hbx hne => (hg.block q (blk_lt hbx) fun e => hne q e.symm rfl).trans hbx
    exact hK _ _ ⟨a, b', x, A1, c1, rfl, hrow _ _ _ (hp.2.2.1) fun k hk => by have := holt k hk; omega, hA.low (hb'.mono (by omega)), hrow _ _ _ (hp.2.2.2.2.2.2) fun k hk => by have := hown k hk; omega, ⟨Kd.V_grown (hp.2.2.2.2.2.1).v hg fun k hk e => by have := hown k e.symm; omega⟩, hx, ⟨Kd.N_V hN⟩⟩
   ·intro o ho vs W ⟨a, b', x, A, c, h8, hb7, hA, hb2, hT, hx, hL⟩ hq b hs
    obtain rfl := Option.some.inj ho
    have h9 : vs 9 = .pointer (some ⟨g7, 8, none⟩) := hq _ (List.mem_singleton.2 rfl)
    have t8 := (hs.tm 44 8 rfl).trans (congrArg some h8)
    have t9 := (hs.tm 45 9 rfl).trans (congrArg some h9)
    have cm := (Box.cell hb7 8 _ rfl)
    have c1 := cm.1
    have c2 := cm.2
    refine stepSkipB (W' := W.setCell ⟨g7, 8, none⟩ (.slice A 2 c)) rfl (by go_simp) ?_
    have hput : Put1 g7 W (W.setCell ⟨g7, 8, none⟩ (.slice A 2 c)) := ⟨rfl, rfl, rfl, by simp [World.setCell], fun j hj => Below.heap_setCell _ _ _ _ hj⟩
    exact ⟨a, b', x, A, c, blk_set hb7 8 _, hA.put1 hput (by omega), Box.put1 hb2 hput (by omega), ⟨Kd.V_far hT.v (fun k hk => by show k ≠ g7; omega) _⟩, hx, ⟨Kd.V_far hL.v (fun k hk => hk.2) _⟩⟩
   ·rintro vs W ⟨a, b', x, A, c, lb7, hA, lb2, hT, hx, hL⟩
    simp only [List.map_cons, List.map_nil, putL]
    simp only [Act.put, List.setIfInBounds_toArray, List.set_cons_zero, List.set_cons_succ]
    have HH := Aside0.mk (And.intro hA (And.intro hT (And.intro hx hL)))
    clear hA hT hx hL
    go_wp2_with (first | ((with_reducible refine gate_dst (N := 46) rfl ?_); refine boxGet_ rfl rfl rfl rfl lb7 Tryz.underlying35 rfl (by kernel_rfl) ?_) | (refine boxPut_ rfl rfl rfl rfl (stC 3 0 0 (⟨6, 0, ⟨0, 0⟩, [⟨2, 0, ⟨3, r⟩, []⟩, ⟨1, cX, ⟨0, 0⟩, []⟩]⟩ : Ex) A5 d5 2 A c 0 none 0) rfl lb2 rfl (by kernel_rfl) (by simp [Value.oneCell']) ?_; intro w9 hbx hput))
    refine bodyPost_ret (results_cell_row rfl _ _ g2 35 (stC 3 0 0 (⟨6, 0, ⟨0, 0⟩, [⟨2, 0, ⟨3, r⟩, []⟩, ⟨1, cX, ⟨0, 0⟩, []⟩]⟩ : Ex) A5 d5 2 A c 0 none 0) (0, 0) _ rfl hbx Tryz.underlying35 rfl (by kernel_rfl)) rfl ?_
    refine FIN.out W [(⟨1, ⟨3, r⟩, (⟨3, 0, ⟨0, 0⟩, [⟨2, 0, ⟨3, r⟩, []⟩, ⟨1, cN, ⟨0, 0⟩, []⟩]⟩ : Ex), [], []⟩ : St), (⟨1, ⟨a, b'⟩, x, [], []⟩ : St)] A c HH.out.1 lb7 lb2 HH.out.2.1 HH.out.2.2.2 ?_ w9 hbx hput
    have := (Fit.nil 0).snoc (Fit.mk1 (n := 0) (m := 0) (k := 1) (a := ⟨3, r⟩) (e := (⟨3, 0, ⟨0, 0⟩, [⟨2, 0, ⟨3, r⟩, []⟩, ⟨1, cN, ⟨0, 0⟩, []⟩]⟩ : Ex)) (l := []) (l' := []) (.mk _ (by simp) (fun x hx => by simp only [List.mem_cons, List.mem_nil_iff, or_false] at hx; rcases hx with rfl | rfl <;> exact .mk _ (by simp) (by simp))) (Fit.nil 0) (Fit.nil 0) (by omega) (by omega)).1 (m := 1) (by rw [cntS_eq]; simp)
    exact (show Fit 1 [_] by simpa using this).snoc (Fit.mk1 (n := 0) (m := 0) (k := 1) (a := ⟨a, b'⟩) HH.out.2.2.1 (Fit.nil 0) (Fit.nil 0) (by omega) (by omega)).1 (m := 1) (by rw [cntS_eq]; simp)
end Go.Proofs.YtendbgedpjcocaaGreatDoor.B
