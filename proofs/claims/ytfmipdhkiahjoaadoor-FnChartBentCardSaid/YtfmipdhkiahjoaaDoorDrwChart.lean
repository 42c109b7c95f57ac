/- spec.l8Chart, by its size. -/
import Derived.Test.YtfmipdhkiahjoaaDoorJnB
namespace Go.Proofs.YtfmipdhkiahjoaaDoor.B
open Go Go.RowKit Go.Shelf Go.Proofs.YtfmipdhkiahjoaaDoorW.PrintWords Go.Proofs.YtfmipdhkiahjoaaDoorW.PrintLast Go.Proofs.YtfmipdhkiahjoaaDoorW.PrintMore
set_option linter.unusedVariables false
/-- A drawn chart: its value, its size, its memory. -/
abbrev ChD (w w' : World) (a b : Int) (n : Nat) (e : Ending) (P : Prop) : Prop := ∃ (s : Int) (l : List ITr) (A1 : Option Addr) (c1 : Nat) (m : List IAc) (A2 : Option Addr) (c2 : Nat) (KT KA : Nat → Prop), e = .returned (.agg (chC s l.length A1 c1 m.length A2 c2)) ∧ (a ≤ s ∧ s ≤ b) ∧ ChFit n l m ∧ (∀ k, KT k → w.heap.size ≤ k) ∧ (∀ k, KA k → w.heap.size ≤ k) ∧ (∀ k, KT k → ¬ KA k) ∧ Kd.N k37 37 w' w.heap.size KT (.slice A1 l.length c1) l ∧ Kd.N k39 39 w' w.heap.size KA (.slice A2 m.length c2) m ∧ P
set_option maxRecDepth 100000 in
set_option maxHeartbeats 8000000 in
theorem chart_at {w0 w : World} {g N : Nat} {s : List Int} (h : At w0 w g s (N + 10000000) w) : Calls Tryd.prog 22 #[.pointer (some ⟨g, 0, none⟩)] w fun e w' => ChD w w' 1 4 4 e (At w0 w g s N w') := by
 have mixed : Tryd.prog.follows .mixedOrders = true := rfl
 have fr := h.fresh
 have H0 := Aside0.mk h
 clear h
 go_enter Tryd.func22, Tryd.ntmps22
 go_wp2_with ((with_reducible refine gate_dst (N := 2) rfl ?_); refine boxNew_ rfl rfl zCh 26 ?hr ?_; (case hr => (go_simp; first | done | rfl)); intro g2 w1 hg2' b2 hb1; have hg2 := Nat.le_of_eq hg2'.symm; clear hg2')
 have n2 : g2 ≠ g := fr g2 hg2
 have H1 := Aside0.mk (show At w0 w g s (N + 9000000 + 1) w1 ∧ Box w1 g2 26 zCh from ⟨At.less (At.below H0.out hb1) (by omega), b2⟩)
 clear H0 b2 hb1
 have sg2 := blk_lt (H1.out.2)
 refine (pick_dr H1.out.1 4 (by omega) (by omega)).mono ?_
 rintro e w2 ⟨r, rfl, r0, r1, hA, hk⟩
 have hk2 := hk.1
 have H2 := Aside0.mk (show At w0 w g s (N + 9000000) w2 ∧ Box w2 g2 26 zCh from ⟨hA, Box.keep H1.out.2 hk n2⟩)
 clear H1 hA hk
 go_wp2_with ((with_reducible refine gate_dst (N := 3) rfl ?_); refine new1_ (N := 3) (x := 10) (T := 26) (#[.int .i64 (1 + r), .slice none 0 0, .slice none 0 0]) (zs := zCh) (by simp [Value.oneCell']) ?_ ?_ ?_ ?_ ?_ ?_ ?_ ?_ ?_ ?_ ?_ ?_ ?_)
 all_goals (first | rfl | decide | (intro _ _; go_simp; done) | kernel_rfl | skip)
 intro g3 w3 hg3 b3 hb
 simp only [Act.put, List.setIfInBounds_toArray, List.set_cons_zero, List.set_cons_succ]
 obtain ⟨sI, hsI⟩ : ∃ sI, sI = 1 + r := ⟨_, rfl⟩
 have hS : 1 ≤ sI ∧ sI ≤ 4 := by omega
 rw [← hsI] at b3
 clear hsI r0 r1
 have n3 : g3 ≠ g := fr g3 (by have := (H2.out.1).k.1; omega)
 have n23 : g2 ≠ g3 := by omega
 have hww2 := (H2.out.1).k.1
 have sz3 := hb.size
 have sg3 := blk_lt b3
 have nT : ∀ k, w3.heap.size ≤ k → k ≠ g := fun k hk => fr k (by omega)
 have nA : ∀ k : Nat, False → k ≠ g := fun _ h => h.elim
 have H3 := Aside0.mk (show At w0 w g s (N + 8000000 + 1) w3 ∧ ChAt g2 g3 w.heap.size (fun k => w3.heap.size ≤ k) (fun _ => False) sI [] none 0 [] none 0 w3 from ⟨At.less (At.below H2.out.1 hb) (by omega), ⟨b3, Box.keep (H2.out.2) (kb_below (g := g) hb) n2, Kd.N_nil _ _ _ _ _, Kd.N_nil _ _ _ _ _⟩⟩)
 clear H2 hb b3
 go_wp2_with fail
 refine (pick_dr H3.out.1 5 (by omega) (by omega)).mono ?_
 rintro e w4 ⟨x0, rfl, x00, x01, hA, hk⟩
 have hk4 := hk.1
 have H4 := Aside0.mk (show At w0 w g s (N + 8000000) w4 ∧ ChAt g2 g3 w.heap.size (fun k => w3.heap.size ≤ k) (fun _ => False) sI [] none 0 [] none 0 w4 from ⟨hA, ChAt.keep H3.out.2 hk n2 n3 nT nA⟩)
 clear H3 hA hk
 go_wp2
 go_loopw [4] (fun v wr => ∃ (x4 : Int), v = .int .i64 x4 ∧ Aside0 (w3.heap.size ≤ wr.heap.size ∧ ∃ (n : Nat) (lw : List ITr) (A : Option Addr) (c : Nat), x4 = n ∧ n ≤ 4 ∧ ChFit 4 lw [] ∧ lw.length + n ≤ 4 ∧ At w0 w g s (N + 4000000 + n * 500000) wr ∧ ChAt g2 g3 w.heap.size (fun k => w3.heap.size ≤ k) (fun _ => False) sI lw A c [] none 0 wr)) (fun v _ => (intOf v).toNat)
 case atStart =>
  obtain ⟨n, rfl⟩ := Int.eq_ofNat_of_zero_le x00
  exact ⟨_, rfl, ⟨hk4, n, [], none, 0, rfl, by omega, ⟨by simp, by simp, by simp⟩, by simp; omega, At.less H4.out.1 (by omega), H4.out.2⟩⟩
 case round =>
  clear H4
  obtain ⟨x4, rfl, HR⟩ := hrel
  obtain ⟨hw3, n, lw, A, c, hn, hn4, hF, hln, hA, hC⟩ := HR.out
  clear HR
  have hwr := hA.k.1
  by_cases hx : 0 < x4
  ·have bx : decide (0 < x4) = true := decide_eq_true hx
   obtain ⟨n', rfl⟩ : ∃ n', n = n' + 1 := ⟨n - 1, by omega⟩
   rw [Nat.succ_mul] at hA
   have hw6 : wrap64 (x4 - 1) = (n' : Int) := by unfold wrap64; omega
   have HF := Aside0.mk (show ChFit 4 lw [] ∧ x4 = n' + 1 ∧ n' ≤ 3 ∧ lw.length + n' ≤ 3 from ⟨hF, by omega, by omega, by omega⟩)
   have hw3r : w3.heap.size ≤ wr.heap.size ∧ g2 < wr.heap.size ∧ g3 < wr.heap.size ∧ g < wr.heap.size ∧ g < w.heap.size := ⟨hw3, blk_lt hC.b2, blk_lt hC.b3, hA.lt', hA.lt⟩
   have HB := Aside0.mk (show At w0 w g s (N + 4000000 + n' * 500000 + 100000 + owe [3, 8, 12, 14] 100000 fun _ => false) wr ∧ ChAt g2 g3 w.heap.size (fun k => w3.heap.size ≤ k ∧ k < wr.heap.size) (fun _ => False) sI lw A c [] none 0 wr from ⟨At.less hA (by rw [owe_start]; simp; omega), hC.mono (fun k h1 h2 => ⟨h1, h2⟩) fun _ h _ => h⟩)
   have hlt := Kd.N_lt hC.t
   clear hA hC hF hx hn hn4 hln
   have nT9 : ∀ k, w3.heap.size ≤ k ∧ k < wr.heap.size → k ≠ g := fun k h => nT k h.1
   have nA9 := nA
   go_upto_region 5 with fail
   refine weaveNewK_ g hw3r.2.2.2.1 (fun l W => At w0 w g s (N + 4000000 + n' * 500000 + 100000 + owe [3, 8, 12, 14] 100000 l) W ∧ ChAt g2 g3 w.heap.size (fun k => w3.heap.size ≤ k ∧ k < wr.heap.size) (fun _ => False) sI lw A c [] none 0 W ∧ wr.heap.size ≤ W.heap.size) ⟨HB.out.1.below (drew_below _), HB.out.2.below (drew_below _), Nat.le_refl _⟩ (fun l W W' hb h => ⟨h.1.below hb, h.2.1.below hb, Nat.le_trans h.2.2 hb.size⟩) (fun l W W' b hb hp h => ⟨h.1.put1 hp (by omega), h.2.1.put1 hp (by omega) (by omega) (fun k hk _ => by have := hk.2; omega) (fun _ h => h.elim), by rw [hp.size]; exact h.2.2⟩) 16 15 5 32 37 zTr aggOf [(17, 0), (18, 1), (19, 2), (20, 3), (21, 4), (22, 5), (23, 6), (24, 7), (25, 8), (26, 9), (27, 10), (28, 11), (29, 12), (30, 13), (31, 14), (32, 15), (5, 16)] [fun v _ _ => v = .pointer (some ⟨g, 0, none⟩), fun v _ _ => v = .pointer (some ⟨g3, 0, none⟩), fun v _ _ => v = .int .i64 sI, fun (v : Value) (W : World) (ok : Nat → Prop) => ∃ n : Int, v = .int .i64 n, fun (v : Value) (W : World) (ok : Nat → Prop) => ∃ (n : Int) (A : Option Addr) (c : Nat), v = .slice A 1 c ∧ IVo W ok [n] A c, fun v _ _ => v = .pointer (some ⟨g, 0, none⟩), fun v _ _ => v = .pointer (some ⟨g3, 0, none⟩), fun v _ _ => v = .int .i64 sI, fun (v : Value) (W : World) (ok : Nat → Prop) => ∃ n : Int, v = .int .i64 n, fun (v : Value) (W : World) (ok : Nat → Prop) => ∃ (n : Int) (A : Option Addr) (c : Nat), v = .slice A 1 c ∧ IVo W ok [n] A c, fun v _ _ => v = .pointer (some ⟨g, 0, none⟩), fun v _ _ => v = .pointer (some ⟨g, 0, none⟩), fun (v : Value) (W : World) (ok : Nat → Prop) => ∃ n : Int, v = .int .i64 n ∧ 0 ≤ n ∧ n < 2, fun (v : Value) (W : World) (ok : Nat → Prop) => ∃ n : Nat, v = .int .i64 (n : Int) ∧ n ≤ 10, fun (v : Value) (W : World) (ok : Nat → Prop) => ∃ (x : Ex) (A : Option Addr) (c : Nat), v = .agg (eC x A c) ∧ Tiny x ∧ TVo W ok x A c, fun (v : Value) (W : World) (ok : Nat → Prop) => ∃ (l0 : List Int) (A0 : Option Addr) (c0 : Nat) (l1 : List Int) (A1 : Option Addr) (c1 : Nat) (x : Ex) (A : Option Addr) (c : Nat), v = .agg (trC l0.length A0 c0 l1.length A1 c1 x A c) ∧ TrFit ⟨l0, l1, x⟩ ∧ IVo W ok l0 A0 c0 ∧ IVo W ok l1 A1 c1 ∧ TVo W ok x A c] mixed (by kernel_rfl) ⟨GoodK.pure _, GoodK.pure _, GoodK.pure _, GoodK.pure _, ⟨fun v ok W W' ho hk ⟨n, A, c, h1, h3⟩ => ⟨n, A, c, h1, h3.keep hk ho⟩, fun v W ok ok' ho ⟨n, A, c, h1, h3⟩ => ⟨n, A, c, h1, h3.mono ho⟩, fun v W ok ⟨n, A, c, h1, h3⟩ => ⟨n, A, c, h1, h3.bound⟩, fun v W W' ok b hp hb ⟨n, A, c, h1, h3⟩ => ⟨n, A, c, h1, h3.far hp hb⟩⟩, GoodK.pure _, GoodK.pure _, GoodK.pure _, GoodK.pure _, ⟨fun v ok W W' ho hk ⟨n, A, c, h1, h3⟩ => ⟨n, A, c, h1, h3.keep hk ho⟩, fun v W ok ok' ho ⟨n, A, c, h1, h3⟩ => ⟨n, A, c, h1, h3.mono ho⟩, fun v W ok ⟨n, A, c, h1, h3⟩ => ⟨n, A, c, h1, h3.bound⟩, fun v W W' ok b hp hb ⟨n, A, c, h1, h3⟩ => ⟨n, A, c, h1, h3.far hp hb⟩⟩, GoodK.pure _, GoodK.pure _, GoodK.pure _, GoodK.pure _, ⟨fun v ok W W' ho hk ⟨x, A, c, h1, h2, h3⟩ => ⟨x, A, c, h1, h2, h3.keep hk ho⟩, fun v W ok ok' ho ⟨x, A, c, h1, h2, h3⟩ => ⟨x, A, c, h1, h2, h3.mono ho⟩, fun v W ok ⟨x, A, c, h1, h2, h3⟩ => ⟨x, A, c, h1, h2, h3.bound⟩, fun v W W' ok b hp hb ⟨x, A, c, h1, h2, h3⟩ => ⟨x, A, c, h1, h2, h3.far hp hb⟩⟩, ⟨fun v ok W W' ho hk ⟨n0, A0, c0, n1, A1, c1, x, A, c, h1, h2, h3, h4, h5⟩ => ⟨n0, A0, c0, n1, A1, c1, x, A, c, h1, h2, h3.keep hk ho, h4.keep hk ho, h5.keep hk ho⟩, fun v W ok ok' ho ⟨n0, A0, c0, n1, A1, c1, x, A, c, h1, h2, h3, h4, h5⟩ => ⟨n0, A0, c0, n1, A1, c1, x, A, c, h1, h2, h3.mono ho, h4.mono ho, h5.mono ho⟩, fun v W ok ⟨n0, A0, c0, n1, A1, c1, x, A, c, h1, h2, h3, h4, h5⟩ => ⟨n0, A0, c0, n1, A1, c1, x, A, c, h1, h2, h3.bound, h4.bound, h5.bound⟩, fun v W W' ok b hp hb ⟨n0, A0, c0, n1, A1, c1, x, A, c, h1, h2, h3, h4, h5⟩ => ⟨n0, A0, c0, n1, A1, c1, x, A, c, h1, h2, h3.far hp hb, h4.far hp hb, h5.far hp hb⟩⟩, trivial⟩ _ _ rfl rfl rfl rfl rfl rfl rfl rfl ?_ rfl rfl (by kernel_rfl) (by kernel_rfl) (fun v W ok h => by obtain ⟨l0, A0, c0, l1, A1, c1, x, A, c, rfl, _⟩ := (show (fun (v : Value) (W : World) (ok : Nat → Prop) => ∃ (l0 : List Int) (A0 : Option Addr) (c0 : Nat) (l1 : List Int) (A1 : Option Addr) (c1 : Nat) (x : Ex) (A : Option Addr) (c : Nat), v = .agg (trC l0.length A0 c0 l1.length A1 c1 x A c) ∧ TrFit ⟨l0, l1, x⟩ ∧ IVo W ok l0 A0 c0 ∧ IVo W ok l1 A1 c1 ∧ TVo W ok x A c) v W ok from h); exact ⟨rfl, rfl, by simp [aggOf, Value.oneCell']⟩) (by kernel_rfl) ?_ (by kernel_rfl) ?_
   ·intro _ _
    go_simp
   ·refine ⟨?_, ?_, ?_, ?_, ?_, ?_, ?_, ?_, ?_, ?_, ?_, ?_, ?_, ?_, ?_, ?_, ?_, ?_, trivial⟩
    ·intro _ l vs W ok hz hn ho hp hl hv b hs
     have t0 := (hs.oldtm 0 rfl).trans (show _ = some (Value.pointer (some ⟨g, 0, none⟩)) from rfl)
     exact stepVal rfl (by go_simp) ⟨KeepBut.refl _ _ _, ⟨At.less hp.1 (Nat.add_le_add_left (owe_skip _ _ l 0) _), hp.2⟩, rfl⟩
    ·intro _ l vs W ok hz hn ho hp hl hv b hs
     have t3 := (hs.oldtm 3 rfl).trans (show _ = some (Value.pointer (some ⟨g3, 0, none⟩)) from rfl)
     exact stepVal rfl (by go_simp) ⟨KeepBut.refl _ _ _, ⟨At.less hp.1 (Nat.add_le_add_left (owe_skip _ _ l 1) _), hp.2⟩, rfl⟩
    ·intro _ l vs W ok hz hn ho hp hl hv b hs
     have h1 : vs 1 = .pointer (some ⟨g3, 0, none⟩) := hv 1 (by decide) (by decide)
     have t18 := (hs.tm 18 1 rfl).trans (congrArg some h1)
     have cm := (Box.cell hp.2.1.b3 0 _ rfl).1
     exact stepVal rfl (by go_simp) ⟨KeepBut.refl _ _ _, ⟨At.less hp.1 (Nat.add_le_add_left (owe_skip _ _ l 2) _), hp.2⟩, rfl⟩
    ·intro _ l vs W ok hz hn ho hp hl hv b hs
     have h0 : vs 0 = .pointer (some ⟨g, 0, none⟩) := hv 0 (by decide) (by decide)
     have t17 := (hs.tm 17 0 rfl).trans (congrArg some h0)
     have h2 : vs 2 = .int .i64 sI := hv 2 (by decide) (by decide)
     have t19 := (hs.tm 19 2 rfl).trans (congrArg some h2)
     have hA : At w0 w g s (N + 4000000 + n' * 500000 + 100000 + owe [3, 8, 12, 14] 100000 (fun j => j == 3 || l j) + 100000) W := At.less hp.1 (by have := owe_take (L := [3, 8, 12, 14]) (c := 100000) (i := 3) rfl hl; omega)
     refine stepCall rfl Tryd.func23 (by kernel_rfl) rfl #[.pointer (some ⟨g, 0, none⟩), .int .i64 sI] rfl (by simp [Act.eval, t17, t19]) (by exact pick_dr (N := N + 4000000 + n' * 500000 + 100000 + owe [3, 8, 12, 14] 100000 (fun j => j == 3 || l j)) (hA.less (by omega)) sI (by omega) (by omega)) ?_
     rintro e W' ⟨r, rfl, r0, r1, hA', hk⟩
     exact ⟨_, rfl, hk, ⟨hA', hp.2.1.keep hk n2 n3 nT9 nA9, Nat.le_trans hp.2.2 hk.1⟩, r, rfl⟩
    ·intro _ l vs W ok hz hn ho hp hl hv b hs
     obtain ⟨n3, h3⟩ : (fun (v : Value) (W : World) (ok : Nat → Prop) => ∃ n : Int, v = .int .i64 n) (vs 3) W ok := hv 3 (by decide) (by decide)
     have t20 := (hs.tm 20 3 rfl).trans (congrArg some h3)
     exact stepInt1 n3 rfl rfl (by go_simp; try rfl) fun A c W' hI hb => ⟨kb_below hb, ⟨At.less (hp.1.below hb) (Nat.add_le_add_left (owe_skip _ _ l 4) _), hp.2.1.below hb, Nat.le_trans hp.2.2 hb.size⟩, n3, A, c, rfl, hI.mono (fun k hk => hn k hk)⟩
    ·intro _ l vs W ok hz hn ho hp hl hv b hs
     have t0 := (hs.oldtm 0 rfl).trans (show _ = some (Value.pointer (some ⟨g, 0, none⟩)) from rfl)
     exact stepVal rfl (by go_simp) ⟨KeepBut.refl _ _ _, ⟨At.less hp.1 (Nat.add_le_add_left (owe_skip _ _ l 5) _), hp.2⟩, rfl⟩
    ·intro _ l vs W ok hz hn ho hp hl hv b hs
     have t3 := (hs.oldtm 3 rfl).trans (show _ = some (Value.pointer (some ⟨g3, 0, none⟩)) from rfl)
     exact stepVal rfl (by go_simp) ⟨KeepBut.refl _ _ _, ⟨At.less hp.1 (Nat.add_le_add_left (owe_skip _ _ l 6) _), hp.2⟩, rfl⟩
    ·intro _ l vs W ok hz hn ho hp hl hv b hs
     have h6 : vs 6 = .pointer (some ⟨g3, 0, none⟩) := hv 6 (by decide) (by decide)
     have t23 := (hs.tm 23 6 rfl).trans (congrArg some h6)
     have cm := (Box.cell hp.2.1.b3 0 _ rfl).1
     exact stepVal rfl (by go_simp) ⟨KeepBut.refl _ _ _, ⟨At.less hp.1 (Nat.add_le_add_left (owe_skip _ _ l 7) _), hp.2⟩, rfl⟩
    ·intro _ l vs W ok hz hn ho hp hl hv b hs
     have h5 : vs 5 = .pointer (some ⟨g, 0, none⟩) := hv 5 (by decide) (by decide)
     have t22 := (hs.tm 22 5 rfl).trans (congrArg some h5)
     have h7 : vs 7 = .int .i64 sI := hv 7 (by decide) (by decide)
     have t24 := (hs.tm 24 7 rfl).trans (congrArg some h7)
     have hA : At w0 w g s (N + 4000000 + n' * 500000 + 100000 + owe [3, 8, 12, 14] 100000 (fun j => j == 8 || l j) + 100000) W := At.less hp.1 (by have := owe_take (L := [3, 8, 12, 14]) (c := 100000) (i := 8) rfl hl; omega)
     refine stepCall rfl Tryd.func23 (by kernel_rfl) rfl #[.pointer (some ⟨g, 0, none⟩), .int .i64 sI] rfl (by simp [Act.eval, t22, t24]) (by exact pick_dr (N := N + 4000000 + n' * 500000 + 100000 + owe [3, 8, 12, 14] 100000 (fun j => j == 8 || l j)) (hA.less (by omega)) sI (by omega) (by omega)) ?_
     rintro e W' ⟨r, rfl, r0, r1, hA', hk⟩
     exact ⟨_, rfl, hk, ⟨hA', hp.2.1.keep hk n2 n3 nT9 nA9, Nat.le_trans hp.2.2 hk.1⟩, r, rfl⟩
    ·intro _ l vs W ok hz hn ho hp hl hv b hs
     obtain ⟨n8, h8⟩ : (fun (v : Value) (W : World) (ok : Nat → Prop) => ∃ n : Int, v = .int .i64 n) (vs 8) W ok := hv 8 (by decide) (by decide)
     have t25 := (hs.tm 25 8 rfl).trans (congrArg some h8)
     exact stepInt1 n8 rfl rfl (by go_simp; try rfl) fun A c W' hI hb => ⟨kb_below hb, ⟨At.less (hp.1.below hb) (Nat.add_le_add_left (owe_skip _ _ l 9) _), hp.2.1.below hb, Nat.le_trans hp.2.2 hb.size⟩, n8, A, c, rfl, hI.mono (fun k hk => hn k hk)⟩
    ·intro _ l vs W ok hz hn ho hp hl hv b hs
     have t0 := (hs.oldtm 0 rfl).trans (show _ = some (Value.pointer (some ⟨g, 0, none⟩)) from rfl)
     exact stepVal rfl (by go_simp) ⟨KeepBut.refl _ _ _, ⟨At.less hp.1 (Nat.add_le_add_left (owe_skip _ _ l 10) _), hp.2⟩, rfl⟩
    ·intro _ l vs W ok hz hn ho hp hl hv b hs
     have t0 := (hs.oldtm 0 rfl).trans (show _ = some (Value.pointer (some ⟨g, 0, none⟩)) from rfl)
     exact stepVal rfl (by go_simp) ⟨KeepBut.refl _ _ _, ⟨At.less hp.1 (Nat.add_le_add_left (owe_skip _ _ l 11) _), hp.2⟩, rfl⟩
    ·intro _ l vs W ok hz hn ho hp hl hv b hs
     have h11 : vs 11 = .pointer (some ⟨g, 0, none⟩) := hv 11 (by decide) (by decide)
     have t28 := (hs.tm 28 11 rfl).trans (congrArg some h11)
     have hA : At w0 w g s (N + 4000000 + n' * 500000 + 100000 + owe [3, 8, 12, 14] 100000 (fun j => j == 12 || l j) + 100000) W := At.less hp.1 (by have := owe_take (L := [3, 8, 12, 14]) (c := 100000) (i := 12) rfl hl; omega)
     refine stepCall rfl Tryd.func23 (by kernel_rfl) rfl #[.pointer (some ⟨g, 0, none⟩), .int .i64 2] rfl (by simp [Act.eval, t28]) (by exact pick_dr (N := N + 4000000 + n' * 500000 + 100000 + owe [3, 8, 12, 14] 100000 (fun j => j == 12 || l j)) (hA.less (by omega)) 2 (by omega) (by omega)) ?_
     rintro e W' ⟨r, rfl, r0, r1, hA', hk⟩
     exact ⟨_, rfl, hk, ⟨hA', hp.2.1.keep hk n2 n3 nT9 nA9, Nat.le_trans hp.2.2 hk.1⟩, r, rfl, r0, r1⟩
    ·intro _ l vs W ok hz hn ho hp hl hv b hs
     obtain ⟨n12, h12, z12, y12⟩ : (fun (v : Value) (W : World) (ok : Nat → Prop) => ∃ n : Int, v = .int .i64 n ∧ 0 ≤ n ∧ n < 2) (vs 12) W ok := hv 12 (by decide) (by decide)
     have t29 := (hs.tm 29 12 rfl).trans (congrArg some h12)
     obtain ⟨d, hd⟩ := Int.eq_ofNat_of_zero_le (show 0 ≤ 1 + n12 by omega)
     have hw : IntKind.i64.wrap (d : Int) = (d : Int) := by rw [IntKind.wrap_i64]; omega
     exact stepVal rfl (by go_simp) ⟨KeepBut.refl _ _ _, ⟨At.less hp.1 (Nat.add_le_add_left (owe_skip _ _ l 13) _), hp.2⟩, d, rfl, by omega⟩
    ·intro _ l vs W ok hz hn ho hp hl hv b hs
     have h10 : vs 10 = .pointer (some ⟨g, 0, none⟩) := hv 10 (by decide) (by decide)
     have t27 := (hs.tm 27 10 rfl).trans (congrArg some h10)
     obtain ⟨n13, h13, z13⟩ : (fun (v : Value) (W : World) (ok : Nat → Prop) => ∃ n : Nat, v = .int .i64 (n : Int) ∧ n ≤ 10) (vs 13) W ok := hv 13 (by decide) (by decide)
     have t30 := (hs.tm 30 13 rfl).trans (congrArg some h13)
     have hA : At w0 w g s (N + 4000000 + n' * 500000 + 100000 + owe [3, 8, 12, 14] 100000 (fun j => j == 14 || l j) + 100000) W := At.less hp.1 (by have := owe_take (L := [3, 8, 12, 14]) (c := 100000) (i := 14) rfl hl; omega)
     refine stepCall rfl Tryd.func25 (by kernel_rfl) rfl #[.pointer (some ⟨g, 0, none⟩), .int .i64 (n13 : Int)] rfl (by simp [Act.eval, t27, t30]) (by exact expr_dr n13 z13 hA) ?_
     rintro e W' ⟨x, A, c, rfl, hx, hT, hA', hk⟩
     exact ⟨_, rfl, hk, ⟨hA', hp.2.1.keep hk n2 n3 nT9 nA9, Nat.le_trans hp.2.2 hk.1⟩, x, A, c, rfl, hx, hT.mono fun k hk => hn k hk⟩
    ·intro _ l vs W ok hz hn ho hp hl hv b hs
     obtain ⟨n4, A4, c4, h4, i4⟩ : (fun (v : Value) (W : World) (ok : Nat → Prop) => ∃ (n : Int) (A : Option Addr) (c : Nat), v = .slice A 1 c ∧ IVo W ok [n] A c) (vs 4) W ok := hv 4 (by decide) (by decide)
     have t21 := (hs.tm 21 4 rfl).trans (congrArg some h4)
     obtain ⟨n9, A9, c9, h9, i9⟩ : (fun (v : Value) (W : World) (ok : Nat → Prop) => ∃ (n : Int) (A : Option Addr) (c : Nat), v = .slice A 1 c ∧ IVo W ok [n] A c) (vs 9) W ok := hv 9 (by decide) (by decide)
     have t26 := (hs.tm 26 9 rfl).trans (congrArg some h9)
     obtain ⟨x14, A14, c14, h14, f14, i14⟩ : (fun (v : Value) (W : World) (ok : Nat → Prop) => ∃ (x : Ex) (A : Option Addr) (c : Nat), v = .agg (eC x A c) ∧ Tiny x ∧ TVo W ok x A c) (vs 14) W ok := hv 14 (by decide) (by decide)
     have t31 := (hs.tm 31 14 rfl).trans (congrArg some h14)
     exact stepVal rfl (by go_simp) ⟨KeepBut.refl _ _ _, ⟨At.less hp.1 (Nat.add_le_add_left (owe_skip _ _ l 15) _), hp.2⟩, [n4], A4, c4, [n9], A9, c9, x14, A14, c14, rfl, ⟨by simp, by simp, f14⟩, i4, i9, i14⟩
    ·intro h
     exact absurd h (by decide)
    ·intro h
     exact absurd h (by decide)
   intro vs g5 lq W5 hlq hp5 hg5 hg5s hv hgn b5
   obtain ⟨l0, A0, c0, l1, A1, c1, x, B, d, h15, f15, i0, i1, hT⟩ : (fun (v : Value) (W : World) (ok : Nat → Prop) => ∃ (l0 : List Int) (A0 : Option Addr) (c0 : Nat) (l1 : List Int) (A1 : Option Addr) (c1 : Nat) (x : Ex) (A : Option Addr) (c : Nat), v = .agg (trC l0.length A0 c0 l1.length A1 c1 x A c) ∧ TrFit ⟨l0, l1, x⟩ ∧ IVo W ok l0 A0 c0 ∧ IVo W ok l1 A1 c1 ∧ TVo W ok x A c) (vs 15) W5 (fun k => wr.heap.size ≤ k ∧ k ≠ g5) := hv 15 (by decide)
   rw [h15] at b5
   simp only [List.map_cons, List.map_nil, putL, hgn]
   simp only [Act.put, List.setIfInBounds_toArray, List.set_cons_zero, List.set_cons_succ]
   have H5 := Aside0.mk (show At w0 w g s (N + 4000000 + n' * 500000 + 100000) W5 ∧ ChAt g2 g3 w.heap.size (fun k => w3.heap.size ≤ k ∧ k < wr.heap.size) (fun _ => False) sI lw A c [] none 0 W5 ∧ Box W5 g5 37 (trC l0.length A0 c0 l1.length A1 c1 x B d) ∧ IVo W5 (fun k => wr.heap.size ≤ k ∧ k ≠ g5) l0 A0 c0 ∧ IVo W5 (fun k => wr.heap.size ≤ k ∧ k ≠ g5) l1 A1 c1 ∧ TVo W5 (fun k => wr.heap.size ≤ k ∧ k ≠ g5) x B d from ⟨At.less hp5.1 (by omega), hp5.2.1, b5, i0, i1, hT⟩)
   have HT := Aside0.mk f15
   have szr5 := hp5.2.2
   clear hv h15 b5 hp5 hlq hgn i0 i1 hT f15 HB
   have n5 : g5 ≠ g := fr g5 (by omega)
   go_wp2_with fail
   refine (pick_dr (N := N + 4000000 + n' * 500000 + 99999) (At.less H5.out.1 (by omega)) 3 (by omega) (by omega)).mono ?_
   rintro e W6 ⟨r6, rfl, r60, r61, hA, hk⟩
   have hk6 := hk.1
   have H21 := Aside0.mk (show At w0 w g s (N + 4000000 + n' * 500000 + 99999) W6 ∧ ChAt g2 g3 w.heap.size (fun k => w3.heap.size ≤ k ∧ k < wr.heap.size) (fun _ => False) sI lw A c [] none 0 W6 ∧ Box W6 g5 37 (trC l0.length A0 c0 l1.length A1 c1 x B d) ∧ IVo W6 (fun k => wr.heap.size ≤ k ∧ k ≠ g5) l0 A0 c0 ∧ IVo W6 (fun k => wr.heap.size ≤ k ∧ k ≠ g5) l1 A1 c1 ∧ TVo W6 (fun k => wr.heap.size ≤ k ∧ k ≠ g5) x B d from ⟨hA, ChAt.keep H5.out.2.1 hk n2 n3 nT9 nA9, Box.keep H5.out.2.2.1 hk n5, IVo.keep H5.out.2.2.2.1 hk (fun k hk => fr k (by have := hk.1; omega)), IVo.keep H5.out.2.2.2.2.1 hk (fun k hk => fr k (by have := hk.1; omega)), TVo.keep H5.out.2.2.2.2.2 hk (fun k hk => fr k (by have := hk.1; omega))⟩)
   clear H5 hA hk
   by_cases h6 : r6 = 0
   rotate_left
   ·have c6 : (r6 == 0) = false := by simp [h6]
    clear h6
    have lb5 := H21.out.2.2.1
    have lch := H21.out.2.1
    have c31 := (Box.cell lch.b3 1 _ rfl).1
    have lat := H21.out.1
    have szw := lat.k.1
    go_wp2_with (first | ((with_reducible refine gate_dst (N := 48) rfl ?_); refine boxGet_ rfl rfl rfl rfl lb5 Tryd.underlying37 rfl (by kernel_rfl) ?_) | ((with_reducible refine gate_builtin (b := .append) (xs := #[.tmp 47, .tmp 49]) rfl ?_); at_builtin; refine Kd.N_append k37 w.heap.size rfl (.tmp 47) (.tmp 49) 23 37 (.agg zTr) 104 rfl Tryd.underlying23 info37 rfl (by decide) (by omega) (.slice A lw.length c) (lw) ((⟨l0, l1, x⟩ : ITr)) ([.slice A0 l0.length c0, .slice A1 l1.length c1, .int .i64 x.f0, .int .i64 x.f1, .int .i64 x.f2.f0, .int .i64 x.f2.f1, .slice B x.f3.length d]) ((fun k => w3.heap.size ≤ k)) ((fun k => wr.heap.size ≤ k ∧ k ≠ g5)) rfl rfl (trLit_F (H21.out.2.2.2.1) (H21.out.2.2.2.2.1) (H21.out.2.2.2.2.2)) (fun k hk => ⟨by have := hk.1; omega, fun e => by have := hlt k e.symm; have := hk.1; omega⟩) (fun k hk => by have := hk; omega) (Kd.N_mono lch.t fun k hk => hk.1) (Below.refl _ _) (by omega) (by have := HF.out.2.2.2; omega) ?_; intro v1 W1 hN hb hg hat; obtain ⟨B9, d9, e9⟩ := Kd.N_slice hN; subst e9; have lh0 := lch.t.1; have lb3 := Box.grown lch.b3 hg (fun e => by have := (lh0 _ e).1; omega); have lb2 := Box.grown lch.b2 hg (fun e => by have := (lh0 _ e).1; omega); have cc := (Box.cell lb3 1 _ rfl).1; have cf := (Box.cell lb3 1 _ rfl).2) | ((with_reducible refine gate_store (t := 23) (p := 51) rfl ?_); refine setF_ (i := 1) (v := .slice B9 (lw ++ [(⟨l0, l1, x⟩ : ITr)]).length d9) rfl rfl rfl lb3 (by go_simp) ?_; intro W9 hb3 hput))
    go_roundw
    case measure => have := HF.out; simp [intOf]; omega
    case rel =>
     rw [hw6]
     have hsw := hput.size
     have hgs := hg.size
     have e2 : (lw ++ [(⟨l0, l1, x⟩ : ITr)]).length = lw.length + 1 := by simp
     exact ⟨_, rfl, ⟨by omega, n', lw ++ [(⟨l0, l1, x⟩ : ITr)], B9, d9, rfl, by have := HF.out; omega, ⟨by have := HF.out; omega, fun y hy => by
      rcases List.mem_append.1 hy with hy | hy
      ·exact HF.out.1.2.1 y hy
      ·simp at hy; rw [hy]; exact HT.out, by simp⟩, by have := HF.out; omega, At.put1 (At.less (At.low lat hb) (by omega)) hput (by omega), ⟨hb3, Box.put1 lb2 hput n23, Kd.N_step hN fun k hk _ => hput.far k (by have : w3.heap.size ≤ k := hk; omega), Kd.N_nil _ _ _ _ _⟩⟩⟩
   have c6 : (r6 == 0) = true := by simp [h6]
   clear h6
   have szW6 : wr.heap.size ≤ W6.heap.size := Nat.le_trans szr5 hk6
   have c30 := (Box.cell (H21.out.2.1).b3 0 _ rfl).1
   go_wp2_with fail
   refine (someP_dr (N := N + 4000000 + n' * 500000 + 99000) sI hS.1 (by omega) (At.less H21.out.1 (by omega))).mono ?_
   rintro e W7 ⟨l7, A7, c7, rfl, fl7, il7, hA, hk⟩
   have hk7 := hk.1
   have szA := (H21.out.1).k.1
   have il7' : IVo W7 (fun k => wr.heap.size ≤ k ∧ k ≠ g5) l7 A7 c7 := il7.mono fun k hk => (show wr.heap.size ≤ k ∧ k ≠ g5 from ⟨Nat.le_trans szW6 hk, by have h1 := blk_lt (H21.out.2.2.1); have : W6.heap.size ≤ k := hk; omega⟩)
   have H22 := Aside0.mk (show At w0 w g s (N + 4000000 + n' * 500000 + 99000) W7 ∧ IVo W7 (fun k => wr.heap.size ≤ k ∧ k ≠ g5) l7 A7 c7 ∧ ChAt g2 g3 w.heap.size (fun k => w3.heap.size ≤ k ∧ k < wr.heap.size) (fun _ => False) sI lw A c [] none 0 W7 ∧ Box W7 g5 37 (trC l0.length A0 c0 l1.length A1 c1 x B d) ∧ IVo W7 (fun k => wr.heap.size ≤ k ∧ k ≠ g5) l0 A0 c0 ∧ IVo W7 (fun k => wr.heap.size ≤ k ∧ k ≠ g5) l1 A1 c1 ∧ TVo W7 (fun k => wr.heap.size ≤ k ∧ k ≠ g5) x B d from ⟨hA, il7', ChAt.keep H21.out.2.1 hk n2 n3 nT9 nA9, Box.keep H21.out.2.2.1 hk n5, IVo.keep H21.out.2.2.2.1 hk (fun k hk => fr k (by have := hk.1; omega)), IVo.keep H21.out.2.2.2.2.1 hk (fun k hk => fr k (by have := hk.1; omega)), TVo.keep H21.out.2.2.2.2.2 hk (fun k hk => fr k (by have := hk.1; omega))⟩)
   clear H21 hA hk il7 il7' c30
   have lb := H22.out.2.2.2.1
   have cc := (Box.cell lb 0 _ rfl).1
   have cf := (Box.cell lb 0 _ rfl).2
   have lch := H22.out.2.2.1
   go_wp2_with ((with_reducible refine gate_store (t := 35) (p := 40) rfl ?_); refine setF_ (i := 0) (v := .slice A7 l7.length c7) rfl rfl rfl lb (by go_simp) ?_; intro W8 hb5 hput; have c30 := (Box.cell (Box.put1 lch.b3 hput (by omega)) 0 _ rfl).1)
   have szW8 : wr.heap.size ≤ W8.heap.size := by have h1 := hput.size; have h2 := hk7; omega
   clear lb cc cf
   have H23 := Aside0.mk (show At w0 w g s (N + 4000000 + n' * 500000 + 99000) W8 ∧ ChAt g2 g3 w.heap.size (fun k => w3.heap.size ≤ k ∧ k < wr.heap.size) (fun _ => False) sI lw A c [] none 0 W8 ∧ Box W8 g5 37 (trC l7.length A7 c7 l1.length A1 c1 x B d) ∧ IVo W8 (fun k => wr.heap.size ≤ k ∧ k ≠ g5) l7 A7 c7 ∧ IVo W8 (fun k => wr.heap.size ≤ k ∧ k ≠ g5) l1 A1 c1 ∧ TVo W8 (fun k => wr.heap.size ≤ k ∧ k ≠ g5) x B d from ⟨At.put1 H22.out.1 hput (by omega), ChAt.put1 lch hput (by omega) (by omega) (fun k hk _ => by have := hk.2; omega) (fun _ h => h.elim), hb5, IVo.far (H22.out.2.1) hput (fun h => h.2 rfl), IVo.far (H22.out.2.2.2.2.2.1) hput (fun h => h.2 rfl), TVo.far (H22.out.2.2.2.2.2.2) hput (fun h => h.2 rfl)⟩)
   clear H22 lch hput hb5 szA
   skip
   have c30 := (Box.cell (H23.out.2.1).b3 0 _ rfl).1
   skip
   refine (someP_dr (N := N + 4000000 + n' * 500000 + 98000) sI hS.1 (by omega) (At.less H23.out.1 (by omega))).mono ?_
   rintro e Wa ⟨l8, A8, c8, rfl, fl8, il8, hA, hk⟩
   have hka := hk.1
   have szA := (H23.out.1).k.1
   have il8' : IVo Wa (fun k => wr.heap.size ≤ k ∧ k ≠ g5) l8 A8 c8 := il8.mono fun k hk => (show wr.heap.size ≤ k ∧ k ≠ g5 from ⟨Nat.le_trans szW8 hk, by have h1 := blk_lt (H23.out.2.2.1); have : W8.heap.size ≤ k := hk; omega⟩)
   have H24 := Aside0.mk (show At w0 w g s (N + 4000000 + n' * 500000 + 98000) Wa ∧ IVo Wa (fun k => wr.heap.size ≤ k ∧ k ≠ g5) l8 A8 c8 ∧ ChAt g2 g3 w.heap.size (fun k => w3.heap.size ≤ k ∧ k < wr.heap.size) (fun _ => False) sI lw A c [] none 0 Wa ∧ Box Wa g5 37 (trC l7.length A7 c7 l1.length A1 c1 x B d) ∧ IVo Wa (fun k => wr.heap.size ≤ k ∧ k ≠ g5) l7 A7 c7 ∧ IVo Wa (fun k => wr.heap.size ≤ k ∧ k ≠ g5) l1 A1 c1 ∧ TVo Wa (fun k => wr.heap.size ≤ k ∧ k ≠ g5) x B d from ⟨hA, il8', ChAt.keep H23.out.2.1 hk n2 n3 nT9 nA9, Box.keep H23.out.2.2.1 hk n5, IVo.keep H23.out.2.2.2.1 hk (fun k hk => fr k (by have := hk.1; omega)), IVo.keep H23.out.2.2.2.2.1 hk (fun k hk => fr k (by have := hk.1; omega)), TVo.keep H23.out.2.2.2.2.2 hk (fun k hk => fr k (by have := hk.1; omega))⟩)
   clear H23 hA hk il8 il8' c30
   have lb := H24.out.2.2.2.1
   have cc := (Box.cell lb 1 _ rfl).1
   have cf := (Box.cell lb 1 _ rfl).2
   have lch := H24.out.2.2.1
   go_upto_region 9 with ((with_reducible refine gate_store (t := 35) (p := 45) rfl ?_); refine setF_ (i := 1) (v := .slice A8 l8.length c8) rfl rfl rfl lb (by go_simp) ?_; intro Wb hb5 hput; have c30 := (Box.cell (Box.put1 lch.b3 hput (by omega)) 0 _ rfl).1)
   have szWb : wr.heap.size ≤ Wb.heap.size := by have h1 := hput.size; have h2 := hka; omega
   clear lb cc cf
   have H25 := Aside0.mk (show At w0 w g s (N + 4000000 + n' * 500000 + 98000) Wb ∧ ChAt g2 g3 w.heap.size (fun k => w3.heap.size ≤ k ∧ k < wr.heap.size) (fun _ => False) sI lw A c [] none 0 Wb ∧ Box Wb g5 37 (trC l7.length A7 c7 l8.length A8 c8 x B d) ∧ IVo Wb (fun k => wr.heap.size ≤ k ∧ k ≠ g5) l8 A8 c8 ∧ IVo Wb (fun k => wr.heap.size ≤ k ∧ k ≠ g5) l7 A7 c7 ∧ TVo Wb (fun k => wr.heap.size ≤ k ∧ k ≠ g5) x B d from ⟨At.put1 H24.out.1 hput (by omega), ChAt.put1 lch hput (by omega) (by omega) (fun k hk _ => by have := hk.2; omega) (fun _ h => h.elim), hb5, IVo.far (H24.out.2.1) hput (fun h => h.2 rfl), IVo.far (H24.out.2.2.2.2.1) hput (fun h => h.2 rfl), TVo.far (H24.out.2.2.2.2.2.2) hput (fun h => h.2 rfl)⟩)
   clear H24 lch hput hb5 szA
   have lb5 := H25.out.2.2.1
   have lch := H25.out.2.1
   have c31 := (Box.cell lch.b3 1 _ rfl).1
   have lat := H25.out.1
   have szw := lat.k.1
   go_wp2_with (first | ((with_reducible refine gate_dst (N := 48) rfl ?_); refine boxGet_ rfl rfl rfl rfl lb5 Tryd.underlying37 rfl (by kernel_rfl) ?_) | ((with_reducible refine gate_builtin (b := .append) (xs := #[.tmp 47, .tmp 49]) rfl ?_); at_builtin; refine Kd.N_append k37 w.heap.size rfl (.tmp 47) (.tmp 49) 23 37 (.agg zTr) 104 rfl Tryd.underlying23 info37 rfl (by decide) (by omega) (.slice A lw.length c) (lw) ((⟨l7, l8, x⟩ : ITr)) ([.slice A7 l7.length c7, .slice A8 l8.length c8, .int .i64 x.f0, .int .i64 x.f1, .int .i64 x.f2.f0, .int .i64 x.f2.f1, .slice B x.f3.length d]) ((fun k => w3.heap.size ≤ k)) ((fun k => wr.heap.size ≤ k ∧ k ≠ g5)) rfl rfl (trLit_F (H25.out.2.2.2.2.1) (H25.out.2.2.2.1) (H25.out.2.2.2.2.2)) (fun k hk => ⟨by have := hk.1; omega, fun e => by have := hlt k e.symm; have := hk.1; omega⟩) (fun k hk => by have := hk; omega) (Kd.N_mono lch.t fun k hk => hk.1) (Below.refl _ _) (by omega) (by have := HF.out.2.2.2; omega) ?_; intro v1 W1 hN hb hg hat; obtain ⟨B9, d9, e9⟩ := Kd.N_slice hN; subst e9; have lh0 := lch.t.1; have lb3 := Box.grown lch.b3 hg (fun e => by have := (lh0 _ e).1; omega); have lb2 := Box.grown lch.b2 hg (fun e => by have := (lh0 _ e).1; omega); have cc := (Box.cell lb3 1 _ rfl).1; have cf := (Box.cell lb3 1 _ rfl).2) | ((with_reducible refine gate_store (t := 23) (p := 51) rfl ?_); refine setF_ (i := 1) (v := .slice B9 (lw ++ [(⟨l7, l8, x⟩ : ITr)]).length d9) rfl rfl rfl lb3 (by go_simp) ?_; intro W9 hb3 hput))
   go_roundw
   case measure => have := HF.out; simp [intOf]; omega
   case rel =>
    rw [hw6]
    have hsw := hput.size
    have hgs := hg.size
    have e2 : (lw ++ [(⟨l7, l8, x⟩ : ITr)]).length = lw.length + 1 := by simp
    exact ⟨_, rfl, ⟨by omega, n', lw ++ [(⟨l7, l8, x⟩ : ITr)], B9, d9, rfl, by have := HF.out; omega, ⟨by have := HF.out; omega, fun y hy => by
     rcases List.mem_append.1 hy with hy | hy
     ·exact HF.out.1.2.1 y hy
     ·simp at hy; rw [hy]; exact ⟨fl7, fl8, HT.out.2.2⟩, by simp⟩, by have := HF.out; omega, At.put1 (At.less (At.low lat hb) (by omega)) hput (by omega), ⟨hb3, Box.put1 lb2 hput n23, Kd.N_step hN fun k hk _ => hput.far k (by have : w3.heap.size ≤ k := hk; omega), Kd.N_nil _ _ _ _ _⟩⟩⟩
  ·have bx : decide (0 < x4) = false := decide_eq_false hx
   have HE := Aside0.mk (show At w0 w g s (N + 3000000 + 1) wr ∧ ChAt g2 g3 w.heap.size (fun k => w3.heap.size ≤ k) (fun _ => False) sI lw A c [] none 0 wr from ⟨At.less hA (by omega), hC⟩)
   have HF := Aside0.mk hF
   clear hA hC hF hx hn hn4 hln
   go_wp2_with fail
   refine (pick_dr HE.out.1 5 (by omega) (by omega)).mono ?_
   rintro e w6 ⟨y0, rfl, y00, y01, hA, hk⟩
   have hk6 := hk.1
   have H61 := Aside0.mk (show At w0 w g s (N + 3000000) w6 ∧ ChAt g2 g3 w.heap.size (fun k => w3.heap.size ≤ k) (fun _ => False) sI lw A c [] none 0 w6 from ⟨hA, ChAt.keep HE.out.2 hk n2 n3 nT nA⟩)
   clear HE hA hk
   have hw36 : w3.heap.size ≤ w6.heap.size := Nat.le_trans hw3 hk6
   have hw06 : w.heap.size ≤ w6.heap.size := Nat.le_trans hwr hk6
   have hg3s : g2 < w6.heap.size ∧ g3 < w6.heap.size ∧ g < w.heap.size := ⟨blk_lt (H61.out.2).b2, blk_lt (H61.out.2).b3, (H61.out.1).lt⟩
   have HM := Aside0.mk (ChAt.mono (KT' := (fun k => w3.heap.size ≤ k ∧ k < w6.heap.size)) (KA' := (fun k => w6.heap.size ≤ k)) (H61.out.2) (fun k h1 h2 => ⟨h1, h2⟩) (fun k h _ => h.elim))
   go_wp2
   go_loopw [6] (fun v wr => ∃ (x6 : Int), v = .int .i64 x6 ∧ Aside0 (w6.heap.size ≤ wr.heap.size ∧ ∃ (n : Nat) (m : List IAc) (B : Option Addr) (e : Nat), x6 = n ∧ n ≤ 4 ∧ m.length + n ≤ 4 ∧ At w0 w g s (N + 1000000 + n * 500000) wr ∧ ChAt g2 g3 w.heap.size (fun k => w3.heap.size ≤ k ∧ k < w6.heap.size) (fun k => w6.heap.size ≤ k) sI lw A c m B e wr)) (fun v _ => (intOf v).toNat)
   case atStart =>
    obtain ⟨n, rfl⟩ := Int.eq_ofNat_of_zero_le y00
    exact ⟨_, rfl, ⟨Nat.le_refl _, n, [], none, 0, rfl, by omega, by simp; omega, At.less H61.out.1 (by omega), HM.out⟩⟩
   case round =>
    clear H61 HM
    obtain ⟨x6, rfl, HR⟩ := hrel
    obtain ⟨hwq, n, m, B, e, hn, hn4, hln, hA, hC⟩ := HR.out
    clear HR
    by_cases hx : 0 < x6
    ·have bx6 : decide (0 < x6) = true := decide_eq_true hx
     obtain ⟨n', rfl⟩ : ∃ n', n = n' + 1 := ⟨n - 1, by omega⟩
     rw [Nat.succ_mul] at hA
     have hw6 : wrap64 (x6 - 1) = (n' : Int) := by unfold wrap64; omega
     have HG := Aside0.mk (show x6 = n' + 1 ∧ n' ≤ 3 ∧ m.length + n' ≤ 3 from ⟨by omega, by omega, by omega⟩)
     have HB := Aside0.mk (show At w0 w g s (N + 1000000 + n' * 500000 + owe [3, 8, 10] 100000 fun _ => false) wr ∧ ChAt g2 g3 w.heap.size (fun k => w3.heap.size ≤ k ∧ k < w6.heap.size) (fun k => w6.heap.size ≤ k) sI lw A c m B e wr from ⟨At.less hA (by rw [owe_start]; simp; omega), hC⟩)
     have hlt := Kd.N_lt hC.a
     clear hA hC hx hn hn4 hln
     have nT9 : ∀ k, w3.heap.size ≤ k ∧ k < w6.heap.size → k ≠ g := fun k h => nT k h.1
     have nA9 : ∀ k, w6.heap.size ≤ k → k ≠ g := fun k h => fr k (by omega)
     go_upto_region 13 with fail
     refine weaveKT_ g 14 16 rfl (by decide) [(15, .pointer (some ⟨g3, 2, none⟩))] rfl rfl (fun l W => At w0 w g s (N + 1000000 + n' * 500000 + owe [3, 8, 10] 100000 l) W ∧ ChAt g2 g3 w.heap.size (fun k => w3.heap.size ≤ k ∧ k < w6.heap.size) (fun k => w6.heap.size ≤ k) sI lw A c m B e W ∧ wr.heap.size ≤ W.heap.size) ⟨HB.out.1.below (drew_below _), HB.out.2.below (drew_below _), Nat.le_refl _⟩ [(58, 0), (59, 1), (60, 2), (61, 3), (62, 4), (63, 5), (64, 6), (65, 7), (66, 8), (67, 9), (68, 10), (69, 11), (70, 12), (71, 13), (72, 14), (73, 15)] [fun v _ => v = .pointer (some ⟨g3, 2, none⟩), fun v _ => v = .slice B m.length e, fun v _ => v = .pointer (some ⟨g, 0, none⟩), fun (v : Value) (W : World) => ∃ n : Int, v = .int .i64 n ∧ 0 ≤ n ∧ n < 4, fun (v : Value) (W : World) => ∃ n : Int, v = .int .i64 n, fun v _ => v = .pointer (some ⟨g, 0, none⟩), fun v _ => v = .pointer (some ⟨g3, 0, none⟩), fun v _ => v = .int .i64 sI, fun (v : Value) (W : World) => ∃ n : Int, v = .int .i64 n, fun v _ => v = .pointer (some ⟨g, 0, none⟩), fun (v : Value) (W : World) => ∃ n : Int, v = .int .i64 n, fun (v : Value) (W : World) => ∃ n : Int, v = .agg #[.int .i64 2, .int .i64 n], fun (v : Value) (W : World) => ∃ a : IAc, v = .agg #[.int .i64 a.f0, .int .i64 a.f1, .int .i64 a.f2.f0, .int .i64 a.f2.f1], fun (v : Value) (W : World) => ∃ (t : IAc) (A : Option Addr) (c : Nat), v = .slice A 1 c ∧ Kd.V k39 39 W 0 (Fr wr) (.slice A 1 c) [t]] mixed (by kernel_rfl) ⟨fun _ => LastK.const _ _, fun _ => LastK.const _ _, fun _ => LastK.const _ _, fun _ => LastK.const _ _, fun _ => LastK.const _ _, fun _ => LastK.const _ _, fun _ => LastK.const _ _, fun _ => LastK.const _ _, fun _ => LastK.const _ _, fun _ => LastK.const _ _, fun _ => LastK.const _ _, fun _ => LastK.const _ _, fun _ => LastK.const _ _, fun _ W W' hk ⟨t, A, c, h1, h2⟩ => ⟨t, A, c, h1, Kd.V_keep h2 hk fun k h => fr k (by have : wr.heap.size ≤ k := h; omega)⟩, trivial⟩ (by kernel_rfl) (by kernel_rfl) (by kernel_rfl) ?_ ?_ (by simp) (fun v W => ∃ (t : IAc) (B' : Option Addr) (d' : Nat), v = .slice B' (m.length + 1) d' ∧ At w0 w g s (N + 1000000 + n' * 500000) W ∧ ChA g2 g3 w.heap.size (fun k => w3.heap.size ≤ k ∧ k < w6.heap.size) (fun k => w6.heap.size ≤ k) sI lw A c t B' d' m B e W ∧ wr.heap.size ≤ W.heap.size) (fun _ W => ∃ (t : IAc) (B' : Option Addr) (d' : Nat), At w0 w g s (N + 1000000 + n' * 500000) W ∧ ChAt g2 g3 w.heap.size (fun k => w3.heap.size ≤ k ∧ k < w6.heap.size) (fun k => w6.heap.size ≤ k) sI lw A c (m ++ [t]) B' d' W ∧ wr.heap.size ≤ W.heap.size) ?_ ?_ ?_
     ·refine ⟨?_, ?_, ?_, ?_, ?_, ?_, ?_, ?_, ?_, ?_, ?_, ?_, ?_, ?_, ?_, ?_, ?_, trivial⟩
      ·intro _ l vs W hp hl hv b hs
       have t3 := (hs.oldtm 3 rfl).trans (show _ = some (Value.pointer (some ⟨g3, 0, none⟩)) from rfl)
       exact stepVal rfl (by go_simp) ⟨KeepBut.refl _ _ _, ⟨At.less hp.1 (Nat.add_le_add_left (owe_skip _ _ l 0) _), hp.2⟩, rfl⟩
      ·intro _ l vs W hp hl hv b hs
       have h0 : vs 0 = .pointer (some ⟨g3, 2, none⟩) := hv 0 (by decide)
       have t58 := (hs.tm 58 0 rfl).trans (congrArg some h0)
       have cm := (Box.cell hp.2.1.b3 2 _ rfl).1
       exact stepVal rfl (by go_simp) ⟨KeepBut.refl _ _ _, ⟨At.less hp.1 (Nat.add_le_add_left (owe_skip _ _ l 1) _), hp.2⟩, rfl⟩
      ·intro _ l vs W hp hl hv b hs
       have t0 := (hs.oldtm 0 rfl).trans (show _ = some (Value.pointer (some ⟨g, 0, none⟩)) from rfl)
       exact stepVal rfl (by go_simp) ⟨KeepBut.refl _ _ _, ⟨At.less hp.1 (Nat.add_le_add_left (owe_skip _ _ l 2) _), hp.2⟩, rfl⟩
      ·intro _ l vs W hp hl hv b hs
       have h2 : vs 2 = .pointer (some ⟨g, 0, none⟩) := hv 2 (by decide)
       have t60 := (hs.tm 60 2 rfl).trans (congrArg some h2)
       have hA : At w0 w g s (N + 1000000 + n' * 500000 + owe [3, 8, 10] 100000 (fun j => j == 3 || l j) + 100000) W := At.less hp.1 (by have := owe_take (L := [3, 8, 10]) (c := 100000) (i := 3) rfl hl; omega)
       refine stepCall rfl Tryd.func23 (by kernel_rfl) rfl #[.pointer (some ⟨g, 0, none⟩), .int .i64 4] rfl (by simp [Act.eval, t60]) (by exact pick_dr (N := N + 1000000 + n' * 500000 + owe [3, 8, 10] 100000 (fun j => j == 3 || l j)) (hA.less (by omega)) 4 (by omega) (by omega)) ?_
       rintro e W' ⟨r, rfl, r0, r1, hA', hk⟩
       exact ⟨_, rfl, hk, ⟨hA', hp.2.1.keep hk n2 n3 nT9 nA9, Nat.le_trans hp.2.2 hk.1⟩, r, rfl, r0, r1⟩
      ·intro _ l vs W hp hl hv b hs
       obtain ⟨n3', h3, z3, y3⟩ : (fun (v : Value) (W : World) => ∃ n : Int, v = .int .i64 n ∧ 0 ≤ n ∧ n < 4) (vs 3) W := hv 3 (by decide)
       have t61 := (hs.tm 61 3 rfl).trans (congrArg some h3)
       have hw : IntKind.i64.wrap (1 + n3') = 1 + n3' := by rw [IntKind.wrap_i64]; omega
       exact stepVal rfl (by go_simp) ⟨KeepBut.refl _ _ _, ⟨At.less hp.1 (Nat.add_le_add_left (owe_skip _ _ l 4) _), hp.2⟩, 1 + n3', rfl⟩
      ·intro _ l vs W hp hl hv b hs
       have t0 := (hs.oldtm 0 rfl).trans (show _ = some (Value.pointer (some ⟨g, 0, none⟩)) from rfl)
       exact stepVal rfl (by go_simp) ⟨KeepBut.refl _ _ _, ⟨At.less hp.1 (Nat.add_le_add_left (owe_skip _ _ l 5) _), hp.2⟩, rfl⟩
      ·intro _ l vs W hp hl hv b hs
       have t3 := (hs.oldtm 3 rfl).trans (show _ = some (Value.pointer (some ⟨g3, 0, none⟩)) from rfl)
       exact stepVal rfl (by go_simp) ⟨KeepBut.refl _ _ _, ⟨At.less hp.1 (Nat.add_le_add_left (owe_skip _ _ l 6) _), hp.2⟩, rfl⟩
      ·intro _ l vs W hp hl hv b hs
       have h6 : vs 6 = .pointer (some ⟨g3, 0, none⟩) := hv 6 (by decide)
       have t64 := (hs.tm 64 6 rfl).trans (congrArg some h6)
       have cm := (Box.cell hp.2.1.b3 0 _ rfl).1
       exact stepVal rfl (by go_simp) ⟨KeepBut.refl _ _ _, ⟨At.less hp.1 (Nat.add_le_add_left (owe_skip _ _ l 7) _), hp.2⟩, rfl⟩
      ·intro _ l vs W hp hl hv b hs
       have h5 : vs 5 = .pointer (some ⟨g, 0, none⟩) := hv 5 (by decide)
       have t63 := (hs.tm 63 5 rfl).trans (congrArg some h5)
       have h7 : vs 7 = .int .i64 sI := hv 7 (by decide)
       have t65 := (hs.tm 65 7 rfl).trans (congrArg some h7)
       have hA : At w0 w g s (N + 1000000 + n' * 500000 + owe [3, 8, 10] 100000 (fun j => j == 8 || l j) + 100000) W := At.less hp.1 (by have := owe_take (L := [3, 8, 10]) (c := 100000) (i := 8) rfl hl; omega)
       refine stepCall rfl Tryd.func23 (by kernel_rfl) rfl #[.pointer (some ⟨g, 0, none⟩), .int .i64 sI] rfl (by simp [Act.eval, t63, t65]) (by exact pick_dr (N := N + 1000000 + n' * 500000 + owe [3, 8, 10] 100000 (fun j => j == 8 || l j)) (hA.less (by omega)) sI (by omega) (by omega)) ?_
       rintro e W' ⟨r, rfl, r0, r1, hA', hk⟩
       exact ⟨_, rfl, hk, ⟨hA', hp.2.1.keep hk n2 n3 nT9 nA9, Nat.le_trans hp.2.2 hk.1⟩, r, rfl⟩
      ·intro _ l vs W hp hl hv b hs
       have t0 := (hs.oldtm 0 rfl).trans (show _ = some (Value.pointer (some ⟨g, 0, none⟩)) from rfl)
       exact stepVal rfl (by go_simp) ⟨KeepBut.refl _ _ _, ⟨At.less hp.1 (Nat.add_le_add_left (owe_skip _ _ l 9) _), hp.2⟩, rfl⟩
      ·intro _ l vs W hp hl hv b hs
       have h9 : vs 9 = .pointer (some ⟨g, 0, none⟩) := hv 9 (by decide)
       have t67 := (hs.tm 67 9 rfl).trans (congrArg some h9)
       have hA : At w0 w g s (N + 1000000 + n' * 500000 + owe [3, 8, 10] 100000 (fun j => j == 10 || l j) + 100000) W := At.less hp.1 (by have := owe_take (L := [3, 8, 10]) (c := 100000) (i := 10) rfl hl; omega)
       refine stepCall rfl Tryd.func23 (by kernel_rfl) rfl #[.pointer (some ⟨g, 0, none⟩), .int .i64 3] rfl (by simp [Act.eval, t67]) (by exact pick_dr (N := N + 1000000 + n' * 500000 + owe [3, 8, 10] 100000 (fun j => j == 10 || l j)) (hA.less (by omega)) 3 (by omega) (by omega)) ?_
       rintro e W' ⟨r, rfl, r0, r1, hA', hk⟩
       exact ⟨_, rfl, hk, ⟨hA', hp.2.1.keep hk n2 n3 nT9 nA9, Nat.le_trans hp.2.2 hk.1⟩, r, rfl⟩
      ·intro _ l vs W hp hl hv b hs
       obtain ⟨n10, h10⟩ : (fun (v : Value) (W : World) => ∃ n : Int, v = .int .i64 n) (vs 10) W := hv 10 (by decide)
       have t68 := (hs.tm 68 10 rfl).trans (congrArg some h10)
       exact stepVal rfl (by go_simp) ⟨KeepBut.refl _ _ _, ⟨At.less hp.1 (Nat.add_le_add_left (owe_skip _ _ l 11) _), hp.2⟩, n10, rfl⟩
      ·intro _ l vs W hp hl hv b hs
       obtain ⟨n4, h4⟩ : (fun (v : Value) (W : World) => ∃ n : Int, v = .int .i64 n) (vs 4) W := hv 4 (by decide)
       have t62 := (hs.tm 62 4 rfl).trans (congrArg some h4)
       obtain ⟨n8, h8⟩ : (fun (v : Value) (W : World) => ∃ n : Int, v = .int .i64 n) (vs 8) W := hv 8 (by decide)
       have t66 := (hs.tm 66 8 rfl).trans (congrArg some h8)
       obtain ⟨n11, h11⟩ : (fun (v : Value) (W : World) => ∃ n : Int, v = .agg #[.int .i64 2, .int .i64 n]) (vs 11) W := hv 11 (by decide)
       have t69 := (hs.tm 69 11 rfl).trans (congrArg some h11)
       exact stepVal rfl (by go_simp) ⟨KeepBut.refl _ _ _, ⟨At.less hp.1 (Nat.add_le_add_left (owe_skip _ _ l 12) _), hp.2⟩, ⟨n4, n8, ⟨2, n11⟩⟩, rfl⟩
      ·intro _ l vs W hp hl hv b hs
       obtain ⟨a12, h12⟩ : (fun (v : Value) (W : World) => ∃ a : IAc, v = .agg #[.int .i64 a.f0, .int .i64 a.f1, .int .i64 a.f2.f0, .int .i64 a.f2.f1]) (vs 12) W := hv 12 (by decide)
       have t70 := (hs.tm 70 12 rfl).trans (congrArg some h12)
       exact stepAc1 a12 (Fr wr) rfl rfl (by go_simp; try rfl) hp.2.2 fun A c W' hV hb => ⟨kb_below hb, ⟨At.less (hp.1.below hb) (Nat.add_le_add_left (owe_skip _ _ l 13) _), hp.2.1.below hb, Nat.le_trans hp.2.2 hb.size⟩, a12, A, c, rfl, hV⟩
      ·intro h
       exact absurd h (by decide)
      ·intro h
       exact absurd h (by decide)
      ·intro h
       exact absurd h (by decide)
     ·intro q hq o ho vs W b hs
      obtain rfl := List.mem_singleton.1 hq
      obtain rfl := Option.some.inj ho
      have t3 := (hs.oldtm 3 rfl).trans (show _ = some (Value.pointer (some ⟨g3, 0, none⟩)) from rfl)
      exact stepVal rfl (by go_simp) ⟨rfl, rfl⟩
     ·intro o ho l vs W hl hp hv b hs
      obtain rfl := Option.some.inj ho
      have h1 : vs 1 = .slice B m.length e := hv 1 (by decide)
      obtain ⟨t, A', c', h2, hV⟩ : (fun (v : Value) (W : World) => ∃ (t : IAc) (A : Option Addr) (c : Nat), v = .slice A 1 c ∧ Kd.V k39 39 W 0 (Fr wr) (.slice A 1 c) [t]) (vs 13) W := hv 13 (by decide)
      exact stepAppA rfl rfl ((hs.ev 59 1 rfl).trans h1) ((hs.ev 71 13 rfl).trans h2) hp.2.1 hV (fun k hk => ⟨(by have : wr.heap.size ≤ k := hk; omega), fun e => by have := hlt k e.symm; have : wr.heap.size ≤ k := hk; omega⟩) (fun k hk => by have := hp.2.2; omega) (by have := hp.2.2; omega) (by have := HG.out; omega) (fun h => by omega) (fun h => by omega) (fun k h1 h2 => by omega) fun B' d' W' hC hb _ hz => ⟨t, B', d', rfl, At.less (At.low hp.1 hb) (by omega), hC, Nat.le_trans hp.2.2 hz⟩
     ·intro o ho vs W ⟨t, B', d', h2, hA, hC, hz⟩ hq b hs
      obtain rfl := Option.some.inj ho
      have h3 : vs 15 = .pointer (some ⟨g3, 2, none⟩) := hq _ (List.mem_singleton.2 rfl)
      have t8 := (hs.tm 72 14 rfl).trans (congrArg some h2)
      have t9 := (hs.tm 73 15 rfl).trans (congrArg some h3)
      have cm1 := (Box.cell hC.b3 2 _ rfl).1
      have cm2 := (Box.cell hC.b3 2 _ rfl).2
      exact stepField (i := 2) (v := .slice B' (m.length + 1) d') rfl rfl hC.b3 (by go_simp) fun W' hb hp => ⟨t, B', d', hA.put1 hp (by omega), hC.put n23 (fun h => by omega) (fun h => by omega) hb hp, by rw [hp.size]; exact hz⟩
     ·rintro vs W7 ⟨t, B', d', hA, hC, hz⟩
      simp only [List.map_cons, List.map_nil, putL]
      simp only [Act.put, List.setIfInBounds_toArray, List.set_cons_zero, List.set_cons_succ]
      have HW := Aside0.mk (And.intro hA (And.intro hC hz))
      clear hA hC hz HB
      go_wp2
      go_roundw
      case measure => have := HG.out; simp [intOf]; omega
      case rel =>
       rw [hw6]
       exact ⟨_, rfl, ⟨Nat.le_trans hwq HW.out.2.2, n', m ++ [t], B', d', rfl, by have := HG.out; omega, by have := HG.out; simp; omega, HW.out.1, HW.out.2.1⟩⟩
    ·have bx6 : decide (0 < x6) = false := decide_eq_false hx
     have lb3 := hC.b3
     have lb2 := hC.b2
     have HE := Aside0.mk (show At w0 w g s N wr ∧ ChAt g2 g3 w.heap.size (fun k => w3.heap.size ≤ k ∧ k < w6.heap.size) (fun k => w6.heap.size ≤ k) sI lw A c m B e wr ∧ m.length ≤ 4 from ⟨At.less hA (by omega), hC, by omega⟩)
     clear hA hC hx hn hn4 hln
     go_wp2_with (first | ((with_reducible refine gate_dst (N := 74) rfl ?_); refine boxGet_ rfl rfl rfl rfl lb3 Tryd.underlying26 rfl (by kernel_rfl) ?_) | ((with_reducible refine gate_store (t := 26) (p := 2) rfl ?_); refine boxPut_ rfl rfl rfl rfl (chC sI lw.length A c m.length B e) (by rfl) lb2 rfl (by kernel_rfl) (by simp [Value.oneCell']) ?_; intro w9 hbx hput))
     refine bodyPost_ret (results_cell_row rfl _ _ g2 26 (chC sI lw.length A c m.length B e) (0, 0) _ rfl hbx Tryd.underlying26 rfl (by kernel_rfl)) rfl ?_
     exact ⟨sI, lw, A, c, m, B, e, (fun k => w3.heap.size ≤ k ∧ k < w6.heap.size), (fun k => w6.heap.size ≤ k), rfl, hS, ⟨HF.out.1, HF.out.2.1, HE.out.2.2⟩, fun k h => by omega, fun k h => by omega, fun k h1 h2 => by omega, Kd.N_step HE.out.2.1.t fun k hk _ => hput.far k (by omega), Kd.N_step HE.out.2.1.a fun k hk _ => hput.far k (by omega), HE.out.1.put1 hput (by omega)⟩
end Go.Proofs.YtfmipdhkiahjoaaDoor.B
