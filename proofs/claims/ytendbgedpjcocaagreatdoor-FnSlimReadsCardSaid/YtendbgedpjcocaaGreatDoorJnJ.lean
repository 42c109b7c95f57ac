import Derived.Test.YtendbgedpjcocaaGreatDoorPkB
import Derived.Test.YtendbgedpjcocaaGreatDoorJnE
import Derived.Test.YtendbgedpjcocaaGreatDoorJnK
/- spec.l3Bent, by its size. -/
namespace Go.Proofs.YtendbgedpjcocaaGreatDoor.B
open Go Go.RowKit Go.Shelf Go.Proofs.YtendbgedpjcocaaGreatDoorW.PrintWords Go.Proofs.YtendbgedpjcocaaGreatDoorW.PrintLast Go.Proofs.YtendbgedpjcocaaGreatDoorW.PrintMore
set_option linter.unusedVariables false
abbrev Fr (w : World) : Nat → Prop := fun k => w.heap.size ≤ k
abbrev zE : Array Value := #[.int .i64 0, .int .i64 0, .int .i64 0, .int .i64 0, .slice none 0 0]
abbrev eC (x : Ex) (A : Option Addr) (c : Nat) : Array Value := #[.int .i64 x.f0, .int .i64 x.f1, .int .i64 x.f2.f0, .int .i64 x.f2.f1, .slice A x.f3.length c]
theorem exLit_F (x : Ex) (A : Option Addr) (c : Nat) (W : World) (ok : Nat → Prop) (h : TVo W ok x A c) : Kd.FK k27 W ok x [.int .i64 x.f0, .int .i64 x.f1, .int .i64 x.f2.f0, .int .i64 x.f2.f1, .slice A x.f3.length c] := k27_mkF W ok x h.reads.1 (Kd.V_F h.v)
theorem reps_ints (W : World) (base : Nat) (ok : Nat → Prop) : ∀ xs : List Int, Reps ((Kd.int .i64).M W base ok) 1 xs (xs.map (Value.int .i64))
 | [] => Reps.none _ _
 | x :: xs => Reps.one (show Kd.M (Kd.int .i64) _ _ _ x [.int .i64 x] from rfl) (reps_ints W base ok xs)
section
variable {P : Program} {ops : Array Oper} {o : Oper} {b : Act} {W : World} {Ψ : Value → World → Prop}
theorem stepInts {N : Tmp} {g : Nat} (hw : Region.wanted o (yielded ops b.tmps) = true) (hd : o.dst = some N) (xs : List Int) (hm : xs.length ≤ 1000) (hrun : (execOp b.eval o).run P W = .ok (.value (.slice (some ⟨W.heap.size, 0, none⟩) xs.length xs.length)) (W.alloc (.cells (xs.map (Value.int .i64)).toArray 3))) (hg : g < W.heap.size)
  (h : ∀ v W', Kd.R (Kd.int .i64) 3 W' W.heap.size (fun k => k ≠ g) v xs → Below W.heap.size W W' → Ψ v W') : StepOK P ops o b W Ψ := fun K Q hK =>
 Kd.R_lit_step (Kd.int .i64) W.heap.size 3 hw hd hrun (reps_ints W _ _ xs) (fun _ hk => hk) (by show W.heap.size ≠ g; omega) (Below.refl _ _) (Nat.le_refl _) (by omega) fun v1 w1 hR hb _ _ => hK _ _ (h v1 w1 hR hb)
theorem stepLit {α : Type} (d : Kd α) (e : Nat) {N : Tmp} (hw : Region.wanted o (yielded ops b.tmps) = true) (hd : o.dst = some N) (xs : List α) (inner : List Value) (okp : Nat → Prop) (hm : xs.length ≤ 1000) (hrun : (execOp b.eval o).run P W = .ok (.value (.slice (some ⟨W.heap.size, 0, none⟩) xs.length xs.length)) (W.alloc (.cells inner.toArray e)))
  (hrep : Reps (Kd.FK d W okp) d.sz xs inner) (h : ∀ v W', Kd.N d e W' W.heap.size (fun k => okp k ∨ k = W.heap.size) v xs → Below W.heap.size W W' → Ψ v W') : StepOK P ops o b W Ψ := fun K Q hK =>
 Kd.N_lit_step d W.heap.size e hw hd hrun hrep (fun _ hk => .inl hk) (.inr rfl) (Below.refl _ _) (Nat.le_refl _) (by omega) fun v1 w1 hR hb _ _ => hK _ _ (h v1 w1 hR hb)
end
theorem someE_dr {w0 wb W : World} {g N : Nat} {s : List Int} (h : At w0 wb g s (N + 300000) W) : Calls Tryz.prog 60 #[.pointer (some ⟨g, 0, none⟩)] W fun e W' => ∃ (x : Ex) (A : Option Addr) (c : Nat), e = .returned (.agg (eC x A c)) ∧ Tiny x ∧ TVo W' (Fr W) x A c ∧ At w0 wb g s N W' ∧ KeepBut W W' g none := by
 obtain ⟨q, q0, q1, hq⟩ := h.q
 obtain ⟨x, p, k, hx, p0, p1, hr⟩ := some_total s h.by_ h.sl q q0 (by omega)
 refine (spec_l3Some.calls k g s q x.f0 x.f1 x.f2.f0 x.f2.f1 x.f3 p w0 W hq h.b hr).mono ?_
 rintro e W' ⟨v, rfl, hR, hi, hb, hk⟩
 have hN := Kd.R_N (Kd.R_bound hR)
 obtain ⟨B, c, rfl⟩ := Kd.N_slice hN
 exact ⟨x, B, c, rfl, hx, TV.ofN hN fun k hk => hk.2.1, h.after q0 q1 (by omega) (by omega) hi hb hk, hk⟩
theorem copy_any {W : World} {ok : Nat → Prop} {x : Ex} {A : Option Addr} {c : Nat} (hx : Tiny x) (h : TVo W ok x A c) : Calls Tryz.prog 62 #[.agg (eC x A c)] W fun e W' => ∃ (A' : Option Addr) (c' : Nat), e = .returned (.agg (eC x A' c')) ∧ TVo W' (Fr W) x A' c' ∧ Below W.heap.size W W' := by
 obtain ⟨k, hk⟩ := copy_total x hx
 refine (spec_l3Copy.calls k x.f0 x.f1 x.f2.f0 x.f2.f1 A c x.f3 _ _ _ _ _ W h.reads.2 h.reads.1 hk).mono ?_
 rintro e W' ⟨v, rfl, hR, hb⟩
 have hN := Kd.R_N (Kd.R_bound hR)
 obtain ⟨B, c', rfl⟩ := Kd.N_slice hN
 exact ⟨B, c', rfl, TV.ofN hN fun k hk => hk.2.1, hb⟩
set_option maxRecDepth 100000 in
set_option maxHeartbeats 4000000 in
theorem exBent_at {w0 w : World} {g N : Nat} {s : List Int} (h : At w0 w g s (N + 1000000) w) : Calls Tryz.prog 33 #[.pointer (some ⟨g, 0, none⟩)] w fun e W' => ∃ (x : Ex) (A : Option Addr) (c : Nat), e = .returned (.agg (eC x A c)) ∧ Tiny x ∧ TVo W' (Fr w) x A c ∧ At w0 w g s N W' := by
 have mixed : Tryz.prog.follows .mixedOrders = true := rfl
 have fr := h.fresh
 have H0 := Aside0.mk h
 clear h
 go_enter Tryz.func33, Tryz.ntmps33
 go_wp2_with ((with_reducible refine gate_dst (N := 2) rfl ?_); refine boxNew_ rfl rfl zE 27 ?hr ?_; (case hr => (go_simp; first | done | rfl)); intro g2 w1 hg2' b2 hb1; have hg2 := Nat.le_of_eq hg2'.symm; clear hg2')
 have n2 : g2 ≠ g := fr g2 hg2
 have H1 := Aside0.mk (show At w0 w g s (N + 600000 + 300000) w1 ∧ Box w1 g2 27 zE from ⟨At.less (At.below H0.out hb1) (by omega), b2⟩)
 clear H0 b2 hb1
 have hg2s := blk_lt H1.out.2
 refine (someE_dr H1.out.1).mono ?_
 rintro e w2 ⟨x, A, c, rfl, hx, hT, hA, hk⟩
 have hk2 := hk.1
 have H2 := Aside0.mk (show At w0 w g s (N + 600000) w2 ∧ TVo w2 (Fr w1) x A c ∧ Box w2 g2 27 zE from ⟨hA, hT, Box.keep H1.out.2 hk n2⟩)
 clear H1 hA hk hT
 have hw2s := (H2.out.1).k.1
 go_wp2_with ((with_reducible refine gate_dst (N := 3) rfl ?_); refine new1_ (N := 3) (x := 7) (T := 27) (eC x A c) (zs := zE) (by simp [Value.oneCell']) ?_ ?_ ?_ ?_ ?_ ?_ ?_ ?_ ?_ ?_ ?_ ?_ ?_)
 all_goals (first | rfl | decide | (intro _ _; go_simp; done) | kernel_rfl | skip)
 intro g3 w3 hg3 b3 hb
 simp only [Act.put, List.setIfInBounds_toArray, List.set_cons_zero, List.set_cons_succ]
 have n3 : g3 ≠ g := fr g3 (by omega)
 obtain ⟨OK, hOK⟩ : ∃ OK : Nat → Prop, OK = fun k => w1.heap.size ≤ k ∧ k ≠ g3 := ⟨_, rfl⟩
 have okI : ∀ k, w1.heap.size ≤ k → k ≠ g3 → OK k := fun k h1 h2 => by rw [hOK]; exact ⟨h1, h2⟩
 have okE : ∀ k, OK k → w1.heap.size ≤ k ∧ k ≠ g3 := fun k h => by rw [hOK] at h; exact h
 clear hOK
 have frk : ∀ k, OK k → k ≠ g := fun k h => fr k (by have := (okE k h).1; omega)
 have H3 := Aside0.mk (show At w0 w g s (N + 599999 + 1) w3 ∧ Box w3 g3 27 (eC x A c) ∧ TVo w3 OK x A c ∧ Box w3 g2 27 zE from ⟨At.less (At.below H2.out.1 hb) (by omega), b3, TVo.keep (ok := OK) ⟨Kd.V_mono (Kd.V_bound (H2.out.2.1).v) fun k hk => okI k hk.1 (by have := hk.2; omega)⟩ (kb_below (g := g) hb) frk, Box.keep H2.out.2.2 (kb_below (g := g) hb) n2⟩)
 clear H2 hb b3
 have fin : ∀ (W : World) (y : Ex) (A : Option Addr) (c : Nat), Tiny y → At w0 w g s N W → TVo W OK y A c → ∀ W', Put1 g2 W W' → ∃ (x : Ex) (A' : Option Addr) (c' : Nat), Ending.returned (Value.agg (eC y A c)) = .returned (.agg (eC x A' c')) ∧ Tiny x ∧ TVo W' (Fr w) x A' c' ∧ At w0 w g s N W' :=
  fun W y A c hy hA hT W' hp => ⟨y, A, c, rfl, hy, TVo.mono (ok := OK) ⟨Kd.V_step hT.v fun k hk _ => hp.far k (by have := (okE k hk).1; omega)⟩ fun k hk => (by have := (okE k hk).1; show w.heap.size ≤ k; omega), hA.put1 hp (by omega)⟩
 have FIN := Aside0.mk fin
 have HX := Aside0.mk hx
 clear fin hx
 go_wp2_with fail
 refine (pick_dr H3.out.1 60 (by omega) (by omega)).mono ?_
 rintro e w4 ⟨r, rfl, r0, r1, hA, hk⟩
 have hk4 := hk.1
 have H4 := Aside0.mk (show At w0 w g s (N + 599999) w4 ∧ Box w4 g3 27 (eC x A c) ∧ TVo w4 OK x A c ∧ Box w4 g2 27 zE from ⟨hA, Box.keep H3.out.2.1 hk n3, TVo.keep H3.out.2.2.1 hk frk, Box.keep H3.out.2.2.2 hk n2⟩)
 clear H3 hA hk
 by_cases h0 : r = 0
 ·have c0 : (r == 0) = true := by simp [h0]
  clear h0
  go_wp2_with ((with_reducible refine gate_dst (N := 13) rfl ?_); refine Kd.R_lit (Kd.int .i64) w4.heap.size 3 rfl (N := 13) rfl (xs := [0, 11, 3, 10]) (inner := [.int .i64 0, .int .i64 11, .int .i64 3, .int .i64 10]) (ok := fun k => k ≠ g) (okp := fun k => k ≠ g) (by go_simp; try rfl) (reps_ints _ _ _ [0, 11, 3, 10]) (fun _ hk => hk) (by have := At.lt' H4.out.1; show w4.heap.size ≠ g; omega) (Below.refl _ _) (Nat.le_refl _) (by simp) ?_; intro v13 w5 hR hb4 hg_ hn_; clear hg_ hn_; obtain ⟨A4, c4, e4⟩ := Kd.R_slice hR; subst e4)
  have H5 := Aside0.mk (show At w0 w g s (N + 599998 + 1) w5 ∧ Box w5 g3 27 (eC x A c) ∧ TVo w5 OK x A c ∧ Box w5 g2 27 zE from ⟨At.less (At.below H4.out.1 hb4) (by omega), Box.keep H4.out.2.1 (kb_below (g := g) hb4) n3, TVo.keep H4.out.2.2.1 (kb_below (g := g) hb4) frk, Box.keep H4.out.2.2.2 (kb_below (g := g) hb4) n2⟩)
  clear H4 hb4
  refine (num_dr H5.out.1 [0, 11, 3, 10] (by decide) (by decide) A4 c4 (Kd.R_reads' hR).2.2 (Kd.R_reads' hR).2.1 (far_slice fun e => hR.1 g e.symm rfl)).mono ?_
  rintro e w6 ⟨n, rfl, _, hA, hk⟩
  have H6 := Aside0.mk (show At w0 w g s (N + 599998) w6 ∧ Box w6 g3 27 (eC x A c) ∧ TVo w6 OK x A c ∧ Box w6 g2 27 zE from ⟨hA, Box.keep H5.out.2.1 hk n3, TVo.keep H5.out.2.2.1 hk frk, Box.keep H5.out.2.2.2 hk n2⟩)
  clear H5 hA hk hR
  have lb := H6.out.2.1
  have cc := (Box.cell lb 0 _ rfl).1
  have cf := (Box.cell lb 0 _ rfl).2
  have lb2 := H6.out.2.2.2
  go_wp2_with (first | ((with_reducible refine gate_store (t := 3) (p := 15) rfl ?_); refine setF_ (i := 0) (v := .int .i64 n) rfl rfl rfl lb (by go_simp) ?_; intro w7 hb7 hput; have lb27 := Box.put1 lb2 hput (by omega)) | ((with_reducible refine gate_dst (N := 47) rfl ?_); refine boxGet_ rfl rfl rfl rfl hb7 Tryz.underlying27 rfl (by kernel_rfl) ?_) | ((with_reducible refine gate_store (t := 27) (p := 2) rfl ?_); refine boxPut_ rfl rfl rfl rfl (eC (⟨n, x.f1, x.f2, x.f3⟩ : Ex) A c) (by rfl) lb27 rfl (by kernel_rfl) (by simp [Value.oneCell']) ?_; intro w9 hbx hput9))
  clear lb cc cf lb2 lb27
  have H7 := Aside0.mk (show At w0 w g s (N) w7 ∧ Box w7 g3 27 (eC (⟨n, x.f1, x.f2, x.f3⟩ : Ex) A c) ∧ TVo w7 OK (⟨n, x.f1, x.f2, x.f3⟩ : Ex) A c ∧ Box w7 g2 27 zE from ⟨At.less (At.put1 H6.out.1 hput (by omega)) (by omega), hb7, (show TVo w7 OK (⟨n, x.f1, x.f2, x.f3⟩ : Ex) A c from ⟨(show Kd.V k27 27 w7 0 OK (.slice A x.f3.length c) x.f3 from Kd.V_step (H6.out.2.2.1).v fun k hk _ => hput.far k (okE k hk).2)⟩), Box.put1 H6.out.2.2.2 hput (by omega)⟩)
  clear H6 hput hb7
  refine bodyPost_ret (results_cell_row rfl _ _ g2 27 (eC (⟨n, x.f1, x.f2, x.f3⟩ : Ex) A c) (0, 0) _ rfl hbx Tryz.underlying27 rfl (by kernel_rfl)) rfl ?_
  exact FIN.out _ (⟨n, x.f1, x.f2, x.f3⟩ : Ex) A c (by have := HX.out; cases this with | mk _ a b => exact .mk _ a b) (At.less H7.out.1 (by omega)) H7.out.2.2.1 w9 hput9
 have c0 : (r == 0) = false := by simp [h0]
 by_cases h1 : r = 1
 ·have c1 : (r == 1) = true := by simp [h1]
  clear h0 h1
  go_wp2_with ((with_reducible refine gate_dst (N := 19) rfl ?_); refine Kd.R_lit (Kd.int .i64) w4.heap.size 3 rfl (N := 19) rfl (xs := [1, 1000001]) (inner := [.int .i64 1, .int .i64 1000001]) (ok := fun k => k ≠ g) (okp := fun k => k ≠ g) (by go_simp; try rfl) (reps_ints _ _ _ [1, 1000001]) (fun _ hk => hk) (by have := At.lt' H4.out.1; show w4.heap.size ≠ g; omega) (Below.refl _ _) (Nat.le_refl _) (by simp) ?_; intro v13 w5 hR hb4 hg_ hn_; clear hg_ hn_; obtain ⟨A4, c4, e4⟩ := Kd.R_slice hR; subst e4)
  have H5 := Aside0.mk (show At w0 w g s (N + 599998 + 1) w5 ∧ Box w5 g3 27 (eC x A c) ∧ TVo w5 OK x A c ∧ Box w5 g2 27 zE from ⟨At.less (At.below H4.out.1 hb4) (by omega), Box.keep H4.out.2.1 (kb_below (g := g) hb4) n3, TVo.keep H4.out.2.2.1 (kb_below (g := g) hb4) frk, Box.keep H4.out.2.2.2 (kb_below (g := g) hb4) n2⟩)
  clear H4 hb4
  refine (num_dr H5.out.1 [1, 1000001] (by decide) (by decide) A4 c4 (Kd.R_reads' hR).2.2 (Kd.R_reads' hR).2.1 (far_slice fun e => hR.1 g e.symm rfl)).mono ?_
  rintro e w6 ⟨n, rfl, _, hA, hk⟩
  have H6 := Aside0.mk (show At w0 w g s (N + 599998) w6 ∧ Box w6 g3 27 (eC x A c) ∧ TVo w6 OK x A c ∧ Box w6 g2 27 zE from ⟨hA, Box.keep H5.out.2.1 hk n3, TVo.keep H5.out.2.2.1 hk frk, Box.keep H5.out.2.2.2 hk n2⟩)
  clear H5 hA hk hR
  have lb := H6.out.2.1
  have cc := (Box.cell lb 1 _ rfl).1
  have cf := (Box.cell lb 1 _ rfl).2
  have lb2 := H6.out.2.2.2
  go_wp2_with (first | ((with_reducible refine gate_store (t := 3) (p := 21) rfl ?_); refine setF_ (i := 1) (v := .int .i64 n) rfl rfl rfl lb (by go_simp) ?_; intro w7 hb7 hput; have lb27 := Box.put1 lb2 hput (by omega)) | ((with_reducible refine gate_dst (N := 47) rfl ?_); refine boxGet_ rfl rfl rfl rfl hb7 Tryz.underlying27 rfl (by kernel_rfl) ?_) | ((with_reducible refine gate_store (t := 27) (p := 2) rfl ?_); refine boxPut_ rfl rfl rfl rfl (eC (⟨x.f0, n, x.f2, x.f3⟩ : Ex) A c) (by rfl) lb27 rfl (by kernel_rfl) (by simp [Value.oneCell']) ?_; intro w9 hbx hput9))
  clear lb cc cf lb2 lb27
  have H7 := Aside0.mk (show At w0 w g s (N) w7 ∧ Box w7 g3 27 (eC (⟨x.f0, n, x.f2, x.f3⟩ : Ex) A c) ∧ TVo w7 OK (⟨x.f0, n, x.f2, x.f3⟩ : Ex) A c ∧ Box w7 g2 27 zE from ⟨At.less (At.put1 H6.out.1 hput (by omega)) (by omega), hb7, (show TVo w7 OK (⟨x.f0, n, x.f2, x.f3⟩ : Ex) A c from ⟨(show Kd.V k27 27 w7 0 OK (.slice A x.f3.length c) x.f3 from Kd.V_step (H6.out.2.2.1).v fun k hk _ => hput.far k (okE k hk).2)⟩), Box.put1 H6.out.2.2.2 hput (by omega)⟩)
  clear H6 hput hb7
  refine bodyPost_ret (results_cell_row rfl _ _ g2 27 (eC (⟨x.f0, n, x.f2, x.f3⟩ : Ex) A c) (0, 0) _ rfl hbx Tryz.underlying27 rfl (by kernel_rfl)) rfl ?_
  exact FIN.out _ (⟨x.f0, n, x.f2, x.f3⟩ : Ex) A c (by have := HX.out; cases this with | mk _ a b => exact .mk _ a b) (At.less H7.out.1 (by omega)) H7.out.2.2.1 w9 hput9
 have c1 : (r == 1) = false := by simp [h1]
 by_cases h2 : r = 2
 ·have c2 : (r == 2) = true := by simp [h2]
  clear h0 h1 h2
  go_wp2_with fail
  refine (addrBent_dr' (At.less (N := N + 599999) (M := N + 100000 + 10) H4.out.1 (by omega))).mono ?_
  rintro e w6 ⟨a, b, rfl, hA, hk⟩
  have hk6 := hk.1
  have H5 := Aside0.mk (show At w0 w g s (N + 100000) w6 ∧ Box w6 g3 27 (eC x A c) ∧ TVo w6 OK x A c ∧ Box w6 g2 27 zE from ⟨hA, Box.keep H4.out.2.1 hk n3, TVo.keep H4.out.2.2.1 hk frk, Box.keep H4.out.2.2.2 hk n2⟩)
  clear H4 hA hk
  have lb := H5.out.2.1
  have cc := (Box.cell lb 2 _ rfl).1
  have cf := (Box.cell lb 2 _ rfl).2
  have cc3 := (Box.cell lb 3 _ rfl).1
  have cf3 := (Box.cell lb 3 _ rfl).2
  have lb2 := H5.out.2.2.2
  go_wp2_with (first | ((with_reducible refine gate_store (t := 24) (p := 26) rfl ?_); refine setF2_ (i := 2) (v := .int .i64 a) (u := .int .i64 b) rfl rfl rfl lb (by go_simp) ?_; intro w7 hb7 hput; have lb27 := Box.put1 lb2 hput (by omega)) | ((with_reducible refine gate_dst (N := 47) rfl ?_); refine boxGet_ rfl rfl rfl rfl hb7 Tryz.underlying27 rfl (by kernel_rfl) ?_) | ((with_reducible refine gate_store (t := 27) (p := 2) rfl ?_); refine boxPut_ rfl rfl rfl rfl (eC (⟨x.f0, x.f1, ⟨a, b⟩, x.f3⟩ : Ex) A c) (by rfl) lb27 rfl (by kernel_rfl) (by simp [Value.oneCell']) ?_; intro w9 hbx hput9))
  clear lb cc cf cc3 cf3 lb2 lb27
  have H6 := Aside0.mk (show At w0 w g s (N) w7 ∧ Box w7 g3 27 (eC (⟨x.f0, x.f1, ⟨a, b⟩, x.f3⟩ : Ex) A c) ∧ TVo w7 OK (⟨x.f0, x.f1, ⟨a, b⟩, x.f3⟩ : Ex) A c ∧ Box w7 g2 27 zE from ⟨At.less (At.put1 H5.out.1 hput (by omega)) (by omega), hb7, (show TVo w7 OK (⟨x.f0, x.f1, ⟨a, b⟩, x.f3⟩ : Ex) A c from ⟨(show Kd.V k27 27 w7 0 OK (.slice A x.f3.length c) x.f3 from Kd.V_step (H5.out.2.2.1).v fun k hk _ => hput.far k (okE k hk).2)⟩), Box.put1 H5.out.2.2.2 hput (by omega)⟩)
  clear H5 hput hb7
  refine bodyPost_ret (results_cell_row rfl _ _ g2 27 (eC (⟨x.f0, x.f1, ⟨a, b⟩, x.f3⟩ : Ex) A c) (0, 0) _ rfl hbx Tryz.underlying27 rfl (by kernel_rfl)) rfl ?_
  exact FIN.out _ (⟨x.f0, x.f1, ⟨a, b⟩, x.f3⟩ : Ex) A c (by have := HX.out; cases this with | mk _ a b => exact .mk _ a b) (At.less H6.out.1 (by omega)) H6.out.2.2.1 w9 hput9
 have c2 : (r == 2) = false := by simp [h2]
 by_cases h3 : r = 3
 ·have c3 : (r == 3) = true := by simp [h3]
  clear h0 h1 h2 h3
  go_wp2
  go_loopw [4] (fun v wr => ∃ (x4 : Int) (y : Ex) (A : Option Addr) (c : Nat), v = .int .i64 x4 ∧ Aside0 (∃ j : Nat, x4 = j ∧ j ≤ 6) ∧ Aside0 (Tiny y ∧ At w0 w g s N wr ∧ Box wr g3 27 (eC y A c) ∧ TVo wr OK y A c ∧ Box wr g2 27 zE)) (fun v _ => 6 - (intOf v).toNat)
  case atStart => exact ⟨0, x, A, c, rfl, ⟨0, rfl, by omega⟩, ⟨HX.out, At.less H4.out.1 (by omega), H4.out.2.1, H4.out.2.2.1, H4.out.2.2.2⟩⟩
  case round =>
   clear H4
   obtain ⟨x4, y, A', c', rfl, HJ, HO⟩ := hrel
   have hg3s := blk_lt HO.out.2.2.1
   have hsz := HO.out.2.1.k.1
   by_cases hx : x4 < 6
   rotate_left
   ·have b5 : decide (x4 < 6) = false := decide_eq_false hx
    clear hx
    have lb3 := HO.out.2.2.1
    have lb2 := HO.out.2.2.2.2
    go_wp2_with (first | ((with_reducible refine gate_dst (N := 47) rfl ?_); refine boxGet_ rfl rfl rfl rfl lb3 Tryz.underlying27 rfl (by kernel_rfl) ?_) | ((with_reducible refine gate_store (t := 27) (p := 2) rfl ?_); refine boxPut_ rfl rfl rfl rfl (eC y A' c') (by rfl) lb2 rfl (by kernel_rfl) (by simp [Value.oneCell']) ?_; intro w9 hbx hput9))
    refine bodyPost_ret (results_cell_row rfl _ _ g2 27 (eC y A' c') (0, 0) _ rfl hbx Tryz.underlying27 rfl (by kernel_rfl)) rfl ?_
    exact FIN.out _ y A' c' HO.out.1 HO.out.2.1 HO.out.2.2.2.1 w9 hput9
   have b5 : decide (x4 < 6) = true := decide_eq_true hx
   obtain ⟨j, hj, hj4⟩ := HJ.out
   have hw5 : wrap64 (x4 + 1) = ((j + 1 : Nat) : Int) := by unfold wrap64; omega
   have HJ2 := Aside0.mk (show x4 = j ∧ j < 6 from ⟨hj, by omega⟩)
   clear hj hj4 hx HJ
   have lb3 := HO.out.2.2.1
   go_wp2_with (first | ((with_reducible refine gate_dst (N := 33) rfl ?_); refine boxGet_ rfl rfl rfl rfl lb3 Tryz.underlying27 rfl (by kernel_rfl) ?_) | ((with_reducible refine gate_dst (N := 34) rfl ?_); refine Kd.N_lit k27 wr.heap.size 27 rfl (N' := 34) rfl (xs := [y]) (inner := [.int .i64 y.f0, .int .i64 y.f1, .int .i64 y.f2.f0, .int .i64 y.f2.f1, .slice A' y.f3.length c']) (ok := OK) (okp := OK) (by go_simp; try rfl) (Reps.c5 (exLit_F y A' c' wr OK HO.out.2.2.2.1) (Reps.none _ _)) (fun _ hk => hk) (okI _ (by omega) (by omega)) (Below.refl _ _) (Nat.le_refl _) (by simp) ?_; intro vL wL ho hbL hgL hnL; clear hgL hnL; obtain ⟨A9, c9, eL⟩ := Kd.N_slice ho; subst eL; have lbL := blk_below lb3 hbL) | (refine boxPut_ rfl rfl rfl rfl (eC (⟨10, 0, ⟨0, 0⟩, [y]⟩ : Ex) A9 c9) (by rfl) lbL rfl (by kernel_rfl) (by simp [Value.oneCell']) ?_; intro w9 hbx hput))
   go_roundw
   case measure => have := HJ2.out; simp [intOf]; omega
   case rel =>
    rw [hw5]
    have hl : Kd.N k27 27 w9 wr.heap.size OK (.slice A9 1 c9) [y] := Kd.N_step ho fun k hk _ => hput.far k (okE k hk).2
    exact ⟨_, (⟨10, 0, ⟨0, 0⟩, [y]⟩ : Ex), A9, c9, rfl, ⟨j + 1, rfl, by have := HJ2.out; omega⟩, ⟨.mk _ (by simp) (by intro x hx; simp at hx; rw [hx]; exact HO.out.1), (HO.out.2.1.below hbL).put1 hput (by omega), hbx, TV.ofN hl fun _ h => h, Box.put1 (blk_below HO.out.2.2.2.2 hbL) hput (by omega)⟩⟩
 have c3 : (r == 3) = false := by simp [h3]
 by_cases h4 : r = 4
 ·have c4 : (r == 4) = true := by simp [h4]
  clear h0 h1 h2 h3 h4
  go_wp2
  go_loopw [5] (fun v wr => ∃ (x4 : Int) (y : Ex) (A : Option Addr) (c : Nat), v = .int .i64 x4 ∧ Aside0 (∃ j : Nat, x4 = j ∧ j ≤ 4) ∧ Aside0 (Tiny y ∧ At w0 w g s N wr ∧ Box wr g3 27 (eC y A c) ∧ TVo wr OK y A c ∧ Box wr g2 27 zE)) (fun v _ => 4 - (intOf v).toNat)
  case atStart => exact ⟨0, x, A, c, rfl, ⟨0, rfl, by omega⟩, ⟨HX.out, At.less H4.out.1 (by omega), H4.out.2.1, H4.out.2.2.1, H4.out.2.2.2⟩⟩
  case round =>
   clear H4
   obtain ⟨x4, y, A', c', rfl, HJ, HO⟩ := hrel
   have hg3s := blk_lt HO.out.2.2.1
   have hsz := HO.out.2.1.k.1
   by_cases hx : x4 < 4
   rotate_left
   ·have b5 : decide (x4 < 4) = false := decide_eq_false hx
    clear hx
    have lb3 := HO.out.2.2.1
    have lb2 := HO.out.2.2.2.2
    go_wp2_with (first | ((with_reducible refine gate_dst (N := 47) rfl ?_); refine boxGet_ rfl rfl rfl rfl lb3 Tryz.underlying27 rfl (by kernel_rfl) ?_) | ((with_reducible refine gate_store (t := 27) (p := 2) rfl ?_); refine boxPut_ rfl rfl rfl rfl (eC y A' c') (by rfl) lb2 rfl (by kernel_rfl) (by simp [Value.oneCell']) ?_; intro w9 hbx hput9))
    refine bodyPost_ret (results_cell_row rfl _ _ g2 27 (eC y A' c') (0, 0) _ rfl hbx Tryz.underlying27 rfl (by kernel_rfl)) rfl ?_
    exact FIN.out _ y A' c' HO.out.1 HO.out.2.1 HO.out.2.2.2.1 w9 hput9
   have b5 : decide (x4 < 4) = true := decide_eq_true hx
   obtain ⟨j, hj, hj4⟩ := HJ.out
   have hw5 : wrap64 (x4 + 1) = ((j + 1 : Nat) : Int) := by unfold wrap64; omega
   have HJ2 := Aside0.mk (show x4 = j ∧ j < 4 from ⟨hj, by omega⟩)
   clear hj hj4 hx HJ
   go_upto_region 18 with fail
   refine weaveLast_ 5 rfl (fun W => At w0 w g s N W ∧ wr.heap.size ≤ W.heap.size ∧ Box W g3 27 (eC y A' c') ∧ Box W g2 27 zE ∧ TVo W OK y A' c') (fun W W' hb h => ⟨h.1.below hb, Nat.le_trans h.2.1 hb.size, blk_below h.2.2.1 hb, blk_below h.2.2.2.1 hb, ⟨Kd.V_below h.2.2.2.2.v hb⟩⟩) ⟨HO.out.2.1, Nat.le_refl _, HO.out.2.2.1, HO.out.2.2.2.2, HO.out.2.2.2.1⟩ [(42, 0), (43, 1), (44, 2), (45, 3), (46, 4)] [fun v _ => v = .agg (eC y A' c'), fun v _ => v = .agg (eC y A' c'), fun v W => ∃ A d, v = .agg (eC y A d) ∧ TVo W OK y A d, fun v W => ∃ A d, v = .slice A 2 d ∧ TVo W OK (⟨3, 0, ⟨0, 0⟩, [y, y]⟩ : Ex) A d, fun v W => ∃ A d, v = .agg #[.int .i64 3, .int .i64 0, .int .i64 0, .int .i64 0, .slice A 2 d] ∧ TVo W OK (⟨3, 0, ⟨0, 0⟩, [y, y]⟩ : Ex) A d] mixed (by kernel_rfl) ⟨fun _ => Lasts.const _, fun _ => Lasts.const _, fun _ W W' hb ⟨A, d, h1, h2⟩ => ⟨A, d, h1, ⟨Kd.V_below h2.v hb⟩⟩, fun _ W W' hb ⟨A, d, h1, h2⟩ => ⟨A, d, h1, ⟨Kd.V_below h2.v hb⟩⟩, fun _ W W' hb ⟨A, d, h1, h2⟩ => ⟨A, d, h1, ⟨Kd.V_below h2.v hb⟩⟩, trivial⟩ (by kernel_rfl) (by kernel_rfl) ?_ (fun _ W => ∃ A d, At w0 w g s N W ∧ Box W g3 27 (eC (⟨3, 0, ⟨0, 0⟩, [y, y]⟩ : Ex) A d) ∧ Box W g2 27 zE ∧ TVo W OK (⟨3, 0, ⟨0, 0⟩, [y, y]⟩ : Ex) A d) ?_ ?_
   ·refine ⟨?_, ?_, ?_, ?_, ?_, ?_, trivial⟩
    ·intro _ vs W hp hv b hs
     exact stepGet rfl rfl ((hs.old 3 rfl).trans rfl) hp.2.2.1 Tryz.underlying27 rfl (by kernel_rfl) ⟨Below.refl _ _, rfl⟩
    ·intro _ vs W hp hv b hs
     exact stepGet rfl rfl ((hs.old 3 rfl).trans rfl) hp.2.2.1 Tryz.underlying27 rfl (by kernel_rfl) ⟨Below.refl _ _, rfl⟩
    ·intro _ vs W hp hv b hs
     have h1 : vs 1 = .agg (eC y A' c') := hv 1 (by decide)
     refine stepCall rfl Tryz.func62 (by kernel_rfl) rfl #[vs 1] rfl (by simp [Act.eval, hs.tm 43 1 rfl]) (by rw [h1]; exact copy_any HO.out.1 hp.2.2.2.2) ?_
     rintro e W' ⟨A, d, rfl, hT, hb⟩
     exact ⟨_, rfl, hb, A, d, rfl, hT.mono fun k hk => okI k (by have := hp.2.1; have : W.heap.size ≤ k := hk; omega) (by have := blk_lt hp.2.2.1; have : W.heap.size ≤ k := hk; omega)⟩
    ·intro _ vs W hp hv b hs
     have h0 : vs 0 = .agg (eC y A' c') := hv 0 (by decide)
     obtain ⟨A, d, h2, hT⟩ : ∃ A d, vs 2 = .agg (eC y A d) ∧ TVo W OK y A d := hv 2 (by decide)
     have t0 := (hs.tm 42 0 rfl).trans (congrArg some h0)
     have t2 := (hs.tm 44 2 rfl).trans (congrArg some h2)
     refine stepLit k27 27 rfl rfl [y, y] [.int .i64 y.f0, .int .i64 y.f1, .int .i64 y.f2.f0, .int .i64 y.f2.f1, .slice A' y.f3.length c', .int .i64 y.f0, .int .i64 y.f1, .int .i64 y.f2.f0, .int .i64 y.f2.f1, .slice A y.f3.length d] OK (show (2 : Nat) ≤ 1000 by omega) (by go_simp; try rfl) (Reps.c5 (exLit_F y A' c' W _ hp.2.2.2.2) (Reps.c5 (exLit_F y A d W _ hT) (Reps.none _ _))) fun v W' hN hb => ?_
     obtain ⟨A9, c9, rfl⟩ := Kd.N_slice hN
     exact ⟨hb, A9, c9, rfl, TV.ofN hN fun k hk => hk.elim id fun e => okI k (by have := hp.2.1; omega) (by have := blk_lt hp.2.2.1; omega)⟩
    ·intro _ vs W hp hv b hs
     obtain ⟨A, d, h3, hT⟩ : ∃ A d, vs 3 = .slice A 2 d ∧ TVo W OK (⟨3, 0, ⟨0, 0⟩, [y, y]⟩ : Ex) A d := hv 3 (by decide)
     have t3 := (hs.tm 45 3 rfl).trans (congrArg some h3)
     exact stepVal rfl (by go_simp) ⟨Below.refl _ _, A, d, rfl, hT⟩
    ·intro h
     exact absurd h (by decide)
   ·intro o ho vs W hp hv b hs
    obtain rfl := Option.some.inj ho
    obtain ⟨A, d, h4, hT⟩ : ∃ A d, vs 4 = .agg #[.int .i64 3, .int .i64 0, .int .i64 0, .int .i64 0, .slice A 2 d] ∧ TVo W OK (⟨3, 0, ⟨0, 0⟩, [y, y]⟩ : Ex) A d := hv 4 (by decide)
    exact stepPutB rfl rfl ((hs.old 3 rfl).trans rfl) (eC (⟨3, 0, ⟨0, 0⟩, [y, y]⟩ : Ex) A d) ((hs.ev 46 4 rfl).trans h4) hp.2.2.1 rfl (by kernel_rfl) (by simp [Value.oneCell']) fun W' hbx' hput => ⟨A, d, hp.1.put1 hput (by omega), hbx', Box.put1 hp.2.2.2.1 hput (by omega), ⟨Kd.V_step hT.v fun k hk _ => hput.far k (okE k hk).2⟩⟩
   ·rintro vs W9 ⟨A, d, hA, hb3, hb2, hT⟩
    simp only [List.map_cons, List.map_nil, putL]
    simp only [Act.put, List.setIfInBounds_toArray, List.set_cons_zero, List.set_cons_succ]
    have HE := Aside0.mk (And.intro hA (And.intro hb3 (And.intro hT hb2)))
    clear hA hb3 hb2 hT
    go_wp2
    go_roundw
    case measure => have := HJ2.out; simp [intOf]; omega
    case rel =>
     rw [hw5]
     exact ⟨_, (⟨3, 0, ⟨0, 0⟩, [y, y]⟩ : Ex), A, d, rfl, ⟨j + 1, rfl, by have := HJ2.out; omega⟩, ⟨.mk _ (by simp) (by intro x hx; simp at hx; rw [hx]; exact HO.out.1), HE.out⟩⟩
 have c4 : (r == 4) = false := by simp [h4]
 clear h0 h1 h2 h3 h4
 have lb3 := H4.out.2.1
 have lb2 := H4.out.2.2.2
 go_wp2_with (first | ((with_reducible refine gate_dst (N := 47) rfl ?_); refine boxGet_ rfl rfl rfl rfl lb3 Tryz.underlying27 rfl (by kernel_rfl) ?_) | ((with_reducible refine gate_store (t := 27) (p := 2) rfl ?_); refine boxPut_ rfl rfl rfl rfl (eC x A c) (by rfl) lb2 rfl (by kernel_rfl) (by simp [Value.oneCell']) ?_; intro w9 hbx hput9))
 refine bodyPost_ret (results_cell_row rfl _ _ g2 27 (eC x A c) (0, 0) _ rfl hbx Tryz.underlying27 rfl (by kernel_rfl)) rfl ?_
 exact FIN.out _ x A c HX.out (At.less H4.out.1 (by omega)) H4.out.2.2.1 w9 hput9
theorem exBent_dr {w0 wb W : World} {g N : Nat} {s : List Int} (h : At w0 wb g s (N + 1000000) W) : Calls Tryz.prog 33 #[.pointer (some ⟨g, 0, none⟩)] W fun e W' => ∃ (x : Ex) (A : Option Addr) (c : Nat), e = .returned (.agg #[.int .i64 x.f0, .int .i64 x.f1, .int .i64 x.f2.f0, .int .i64 x.f2.f1, .slice A x.f3.length c]) ∧ Tiny x ∧ TVo W' (fun k => W.heap.size ≤ k) x A c ∧ At w0 wb g s N W' ∧ KeepBut W W' g none :=
 (exBent_at h.here).mono fun e w' ⟨x, A, c, h1, h2, h3, h7⟩ => ⟨x, A, c, h1, h2, h3, h7.over h, h7.k⟩

end Go.Proofs.YtendbgedpjcocaaGreatDoor.B
/- spec.l2Mem, by its size. -/
namespace Go.Proofs.YtendbgedpjcocaaGreatDoor.B
open Go Go.RowKit Go.Shelf Go.Proofs.YtendbgedpjcocaaGreatDoorW.PrintWords Go.Proofs.YtendbgedpjcocaaGreatDoorW.PrintLast Go.Proofs.YtendbgedpjcocaaGreatDoorW.PrintMore
set_option linter.unusedVariables false
abbrev Row6 (W : World) (base q e : Nat) (l : List Int) : Prop := W.ownsRow base 3 1 (.slice (some ⟨q, 0, none⟩) 6 e) 6 (nums .i64 l)
theorem Row6.keep {W W' : World} {base q e g : Nat} {l : List Int} (h : Row6 W base q e l) (hk : KeepBut W W' g none) (hq : q ≠ g) : Row6 W' base q e l := KeepBut.own hk h (by simp [Value.ownBlock, hq]) (.inr (by simp [Value.ownBlock]))
theorem Row6.set {W : World} {base q e b i : Nat} {l : List Int} {u : Value} (h : Row6 W base q e l) (hq : b ≠ q) : Row6 (W.setCell ⟨b, i, none⟩ u) base q e l := own_setCell h (by simp [Value.ownBlock, hq]) u
theorem Row6.put1 {W W' : World} {base q e b : Nat} {l : List Int} (h : Row6 W base q e l) (hp : Put1 b W W') (hq : b ≠ q) : Row6 W' base q e l := by
 obtain ⟨h1, h2⟩ := h
 refine ⟨h1, ?_⟩
 rcases h2 with h2 | ⟨k, cap, cur, hv, hk, hh, r⟩
 ·exact .inl h2
 ·refine .inr ⟨k, cap, cur, hv, hk, ?_, r⟩
  injection hv with hv
  injection hv with hv
  injection hv with hv
  rw [← hv] at hh ⊢
  exact (hp.far q (Ne.symm hq)).trans hh
theorem Row6.len {W : World} {base q e : Nat} {l : List Int} (h : Row6 W base q e l) : l.length = 6 := by have := h.1; simpa [nums] using this
set_option maxRecDepth 100000 in
set_option maxHeartbeats 4000000 in
theorem mem_at {w0 w : World} {g N : Nat} {s : List Int} (h : At w0 w g s (N + 20) w) : Calls Tryz.prog 63 #[.pointer (some ⟨g, 0, none⟩)] w fun e W' => ∃ (q0 e0 q1 e1 q2 e2 : Nat) (l0 l1 l2 : List Int), e = .returned (.agg #[.slice (some ⟨q0, 0, none⟩) 6 e0, .slice (some ⟨q1, 0, none⟩) 6 e1, .slice (some ⟨q2, 0, none⟩) 6 e2]) ∧ Row6 W' w.heap.size q0 e0 l0 ∧ Row6 W' w.heap.size q1 e1 l1 ∧ Row6 W' w.heap.size q2 e2 l2 ∧ q0 ≠ q1 ∧ q0 ≠ q2 ∧ q1 ≠ q2 ∧ At w0 w g s N W' := by
 have mixed : Tryz.prog.follows .mixedOrders = true := rfl
 have fr := h.fresh
 have H0 := Aside0.mk h
 clear h
 go_enter Tryz.func63, Tryz.ntmps63
 go_wp2_with ((with_reducible refine gate_dst (N := 2) rfl ?_); refine boxNew_ rfl rfl mZ 30 ?hr ?_; (case hr => (go_simp; first | done | rfl)); intro g2 w1 hg2' b2 hb1; have hg2 := Nat.le_of_eq hg2'.symm; clear hg2')
 have n2 : g2 ≠ g := fr g2 hg2
 have s1 := hb1.size
 have H1 := Aside0.mk (show At w0 w g s (N + 20) w1 ∧ Box w1 g2 30 mZ from ⟨At.below H0.out hb1, b2⟩)
 clear H0 b2 hb1
 have hg2s := blk_lt H1.out.2
 refine (open_any w1).mono ?_
 rintro e w2 ⟨v0, v1, v2, rfl, hR, hb⟩
 obtain ⟨q0, e0, rfl, hq0, _⟩ := own_blk hR.r0
 obtain ⟨q1, e1, rfl, hq1, _⟩ := own_blk hR.r1
 obtain ⟨q2, e2, rfl, hq2, _⟩ := own_blk hR.r2
 have a01 : q0 ≠ q1 := fun e => hR.a01 q0 rfl (by rw [e]; rfl)
 have a02 : q0 ≠ q2 := fun e => hR.a02 q0 rfl (by rw [e]; rfl)
 have a12 : q1 ≠ q2 := fun e => hR.a12 q1 rfl (by rw [e]; rfl)
 have t0 := own_lt hR.r0 q0 rfl
 have t1 := own_lt hR.r1 q1 rfl
 have t2 := own_lt hR.r2 q2 rfl
 have nq0 : q0 ≠ g := fr q0 (by omega)
 have nq1 : q1 ≠ g := fr q1 (by omega)
 have nq2 : q2 ≠ g := fr q2 (by omega)
 have H2 := Aside0.mk (show At w0 w g s (N + 20) w2 ∧ Row6 w2 w.heap.size q0 e0 [0, 0, 0, 0, 0, 0] ∧ Row6 w2 w.heap.size q1 e1 [0, 0, 0, 0, 0, 0] ∧ Row6 w2 w.heap.size q2 e2 [0, 0, 0, 0, 0, 0] ∧ Box w2 g2 30 mZ from ⟨At.below H1.out.1 hb, own_weaken hR.r0 (by omega), own_weaken hR.r1 (by omega), own_weaken hR.r2 (by omega), Box.keep H1.out.2 (kb_below (g := g) hb) n2⟩)
 clear H1 hb hR
 go_wp2_with ((with_reducible refine gate_dst (N := 3) rfl ?_); refine new1_ (N := 3) (x := 5) (T := 30) (#[.slice (some ⟨q0, 0, none⟩) 6 e0, .slice (some ⟨q1, 0, none⟩) 6 e1, .slice (some ⟨q2, 0, none⟩) 6 e2]) (zs := #[.slice none 0 0, .slice none 0 0, .slice none 0 0]) (by simp [Value.oneCell']) ?_ ?_ ?_ ?_ ?_ ?_ ?_ ?_ ?_ ?_ ?_ ?_ ?_)
 all_goals (first | rfl | decide | (intro _ _; go_simp; done) | kernel_rfl | skip)
 intro g3 w3 hg3 b3 hb
 simp only [Act.put, List.setIfInBounds_toArray, List.set_cons_zero, List.set_cons_succ]
 have n3 : g3 ≠ g := fr g3 (by omega)
 have H3 := Aside0.mk (show At w0 w g s (N + 20) w3 ∧ Box w3 g3 30 #[.slice (some ⟨q0, 0, none⟩) 6 e0, .slice (some ⟨q1, 0, none⟩) 6 e1, .slice (some ⟨q2, 0, none⟩) 6 e2] ∧ Row6 w3 w.heap.size q0 e0 [0, 0, 0, 0, 0, 0] ∧ Row6 w3 w.heap.size q1 e1 [0, 0, 0, 0, 0, 0] ∧ Row6 w3 w.heap.size q2 e2 [0, 0, 0, 0, 0, 0] ∧ Box w3 g2 30 mZ from ⟨At.below H2.out.1 hb, b3, Row6.keep H2.out.2.1 (kb_below (g := g) hb) nq0, Row6.keep H2.out.2.2.1 (kb_below (g := g) hb) nq1, Row6.keep H2.out.2.2.2.1 (kb_below (g := g) hb) nq2, Box.keep H2.out.2.2.2.2 (kb_below (g := g) hb) n2⟩)
 clear H2 hb b3
 have dis : g3 ≠ q0 ∧ g3 ≠ q1 ∧ g3 ≠ q2 ∧ g2 ≠ q0 ∧ g2 ≠ q1 ∧ g2 ≠ q2 ∧ g2 ≠ g3 ∧ w.heap.size ≤ g3 := ⟨by omega, by omega, by omega, by omega, by omega, by omega, by omega, by omega⟩
 go_wp2
 go_loopw [4] (fun v wr => ∃ (x4 : Int) (l0 l1 l2 : List Int), v = .int .i64 x4 ∧ Aside0 (∃ j : Nat, x4 = j ∧ j ≤ 4 ∧ At w0 w g s (N + (4 - j) * 3) wr) ∧ Aside0 (Row6 wr w.heap.size q0 e0 l0 ∧ Row6 wr w.heap.size q1 e1 l1 ∧ Row6 wr w.heap.size q2 e2 l2 ∧ Box wr g3 30 #[.slice (some ⟨q0, 0, none⟩) 6 e0, .slice (some ⟨q1, 0, none⟩) 6 e1, .slice (some ⟨q2, 0, none⟩) 6 e2] ∧ Box wr g2 30 mZ)) (fun v _ => 4 - (intOf v).toNat)
 case atStart => exact ⟨0, [0, 0, 0, 0, 0, 0], [0, 0, 0, 0, 0, 0], [0, 0, 0, 0, 0, 0], rfl, ⟨0, rfl, by omega, At.less H3.out.1 (by omega)⟩, ⟨H3.out.2.2.1, H3.out.2.2.2.1, H3.out.2.2.2.2.1, H3.out.2.1, H3.out.2.2.2.2.2⟩⟩
 case round =>
  clear H3
  obtain ⟨x4, l0, l1, l2, rfl, HJ, HO⟩ := hrel
  by_cases hx : x4 < 4
  rotate_left
  ·have b5 : decide (x4 < 4) = false := decide_eq_false hx
   clear hx
   have lb3 := HO.out.2.2.2.1
   have lb2 := HO.out.2.2.2.2
   go_wp2_with (first | ((with_reducible refine gate_dst (N := 31) rfl ?_); refine boxGet_ rfl rfl rfl rfl lb3 Tryz.underlying30 rfl (by kernel_rfl) ?_) | ((with_reducible refine gate_store (t := 30) (p := 2) rfl ?_); refine boxPut_ rfl rfl rfl rfl (#[.slice (some ⟨q0, 0, none⟩) 6 e0, .slice (some ⟨q1, 0, none⟩) 6 e1, .slice (some ⟨q2, 0, none⟩) 6 e2]) (by rfl) lb2 rfl (by kernel_rfl) (by simp [Value.oneCell']) ?_; intro w9 hbx hput))
   refine bodyPost_ret (results_cell_row rfl _ _ g2 30 (#[.slice (some ⟨q0, 0, none⟩) 6 e0, .slice (some ⟨q1, 0, none⟩) 6 e1, .slice (some ⟨q2, 0, none⟩) 6 e2]) (0, 0) _ rfl hbx Tryz.underlying30 rfl (by kernel_rfl)) rfl ?_
   obtain ⟨j, _, _, hA⟩ := HJ.out
   exact ⟨q0, e0, q1, e1, q2, e2, l0, l1, l2, rfl, HO.out.1.put1 hput dis.2.2.2.1, HO.out.2.1.put1 hput dis.2.2.2.2.1, HO.out.2.2.1.put1 hput dis.2.2.2.2.2.1, a01, a02, a12, (hA.less (by omega)).put1 hput hg2⟩
  have b5 : decide (x4 < 4) = true := decide_eq_true hx
  obtain ⟨j, hj, hj4, hA⟩ := HJ.out
  have x0 : 0 ≤ x4 := by omega
  have x6 : x4 < 6 := by omega
  have HJ2 := Aside0.mk (show x4 = j ∧ j < 4 from ⟨hj, by omega⟩)
  have H9 := Aside0.mk (show At w0 w g s (N + (4 - (j + 1)) * 3 + 3) wr ∧ Row6 wr w.heap.size q0 e0 l0 ∧ Row6 wr w.heap.size q1 e1 l1 ∧ Row6 wr w.heap.size q2 e2 l2 ∧ Box wr g3 30 #[.slice (some ⟨q0, 0, none⟩) 6 e0, .slice (some ⟨q1, 0, none⟩) 6 e1, .slice (some ⟨q2, 0, none⟩) 6 e2] ∧ Box wr g2 30 mZ from ⟨hA.less (by omega), HO.out⟩)
  clear hj hj4 hA hx HJ HO
  go_upto_region 5 with fail
  refine weaveK_ g 7 rfl (fun l W => At w0 w g s (N + (4 - (j + 1)) * 3 + 2 + (if l 5 = true then 0 else 1)) W ∧ Row6 W w.heap.size q0 e0 l0 ∧ Row6 W w.heap.size q1 e1 l1 ∧ Row6 W w.heap.size q2 e2 l2 ∧ Box W g3 30 #[.slice (some ⟨q0, 0, none⟩) 6 e0, .slice (some ⟨q1, 0, none⟩) 6 e1, .slice (some ⟨q2, 0, none⟩) 6 e2] ∧ Box W g2 30 mZ) ⟨At.less (At.below H9.out.1 (drew_below _)) (by simp), Row6.keep H9.out.2.1 (kb_below (g := g) (drew_below _)) nq0, Row6.keep H9.out.2.2.1 (kb_below (g := g) (drew_below _)) nq1, Row6.keep H9.out.2.2.2.1 (kb_below (g := g) (drew_below _)) nq2, Box.keep H9.out.2.2.2.2.1 (kb_below (g := g) (drew_below _)) n3, Box.keep H9.out.2.2.2.2.2 (kb_below (g := g) (drew_below _)) n2⟩ [(10, 0), (11, 1), (12, 2), (13, 3), (14, 4), (15, 5), (16, 6)] [fun v _ => v = .pointer (some ⟨g3, 0, none⟩), fun v _ => v = .slice (some ⟨q0, 0, none⟩) 6 e0, fun v _ => v = .int .i64 x4, fun v _ => v = .pointer (some ⟨g, 0, none⟩), fun v W => Kd.R (Kd.int .i64) 3 W w.heap.size (fun k => k ≠ g) v [0, 0, 1, 1, 2, 5, -1], fun v _ => ∃ c : Int, v = .int .i64 c, fun v _ => v = .pointer (some ⟨q0, x4.toNat, none⟩)] mixed (by kernel_rfl) ⟨fun _ => LastK.const _ _, fun _ => LastK.const _ _, fun _ => LastK.const _ _, fun _ => LastK.const _ _, fun _ W W' hk h => Kd.R_keep h hk fun _ h => h, fun _ => LastK.const _ _, fun _ => LastK.const _ _, trivial⟩ (by kernel_rfl) (by kernel_rfl) ?_ (fun _ W => ∃ ln : List Int, At w0 w g s (N + (4 - (j + 1)) * 3 + 2) W ∧ Row6 W w.heap.size q0 e0 ln ∧ Row6 W w.heap.size q1 e1 l1 ∧ Row6 W w.heap.size q2 e2 l2 ∧ Box W g3 30 #[.slice (some ⟨q0, 0, none⟩) 6 e0, .slice (some ⟨q1, 0, none⟩) 6 e1, .slice (some ⟨q2, 0, none⟩) 6 e2] ∧ Box W g2 30 mZ) ?_ ?_
  ·refine ⟨?_, ?_, ?_, ?_, ?_, ?_, ?_, ?_, trivial⟩
   ·intro _ l vs W hp hl hv b hs
    have o3 := (hs.oldtm 3 rfl).trans (show _ = some (Value.pointer (some ⟨g3, 0, none⟩)) from rfl)
    exact stepVal rfl (by go_simp) ⟨KeepBut.refl _ _ _, hp, rfl⟩
   ·intro _ l vs W hp hl hv b hs
    have h0 : vs 0 = .pointer (some ⟨g3, 0, none⟩) := hv 0 (by decide)
    have t0 := (hs.tm 10 0 rfl).trans (congrArg some h0)
    have cm := (Box.cell (hp.2.2.2.2.1) 0 _ rfl).1
    exact stepVal rfl (by go_simp) ⟨KeepBut.refl _ _ _, hp, rfl⟩
   ·intro _ l vs W hp hl hv b hs
    have o4 := (hs.oldtm 4 rfl).trans (show _ = some (Value.int .i64 x4) from rfl)
    exact stepVal rfl (by go_simp) ⟨KeepBut.refl _ _ _, hp, rfl⟩
   ·intro _ l vs W hp hl hv b hs
    have o0 := (hs.oldtm 0 rfl).trans (show _ = some (Value.pointer (some ⟨g, 0, none⟩)) from rfl)
    exact stepVal rfl (by go_simp) ⟨KeepBut.refl _ _ _, hp, rfl⟩
   ·intro _ l vs W hp hl hv b hs
    exact stepInts rfl rfl [0, 0, 1, 1, 2, 5, -1] (by decide) (by go_simp; try rfl) hp.1.lt' fun v W' hR hb => ⟨kb_below (g := g) hb, ⟨hp.1.below hb, Row6.keep hp.2.1 (kb_below (g := g) hb) nq0, Row6.keep hp.2.2.1 (kb_below (g := g) hb) nq1, Row6.keep hp.2.2.2.1 (kb_below (g := g) hb) nq2, Box.keep hp.2.2.2.2.1 (kb_below (g := g) hb) n3, Box.keep hp.2.2.2.2.2 (kb_below (g := g) hb) n2⟩, Kd.R_lower hR hp.1.k.1⟩
   ·intro _ l vs W hp hl hv b hs
    have hA : At w0 w g s (N + (4 - (j + 1)) * 3 + 2 + 1) W := At.less hp.1 (by rw [hl]; simp)
    have h3 : vs 3 = .pointer (some ⟨g, 0, none⟩) := hv 3 (by decide)
    have h4 : Kd.R (Kd.int .i64) 3 W w.heap.size (fun k => k ≠ g) (vs 4) [0, 0, 1, 1, 2, 5, -1] := hv 4 (by decide)
    have u3 := hs.ev 13 3 rfl
    have u4 := hs.ev 14 4 rfl
    generalize vs 4 = v4 at *
    obtain ⟨A, d, rfl⟩ := Kd.R_slice h4
    refine stepCall rfl Tryz.func51 (by kernel_rfl) rfl #[vs 3, .slice A 7 d] rfl (by simp [u3, u4]) (by rw [h3]; exact num_dr hA [0, 0, 1, 1, 2, 5, -1] (by decide) (by decide) A d (Kd.R_reads' h4).2.2 (Kd.R_reads' h4).2.1 (far_slice fun e => h4.1 g e.symm rfl)) ?_
    rintro e W' ⟨c, rfl, _, hA', hk⟩
    exact ⟨_, rfl, hk, ⟨At.less hA' (by simp), Row6.keep hp.2.1 hk nq0, Row6.keep hp.2.2.1 hk nq1, Row6.keep hp.2.2.2.1 hk nq2, Box.keep hp.2.2.2.2.1 hk n3, Box.keep hp.2.2.2.2.2 hk n2⟩, c, rfl⟩
   ·intro _ l vs W hp hl hv b hs
    have h1 : vs 1 = .slice (some ⟨q0, 0, none⟩) 6 e0 := hv 1 (by decide)
    have h2 : vs 2 = .int .i64 x4 := hv 2 (by decide)
    have t1 := (hs.tm 11 1 rfl).trans (congrArg some h1)
    have t2 := (hs.tm 12 2 rfl).trans (congrArg some h2)
    exact stepVal (v := .pointer (some ⟨q0, x4.toNat, none⟩)) rfl (by go_simp) ⟨KeepBut.refl _ _ _, hp, rfl⟩
   ·intro h
    exact absurd h (by decide)
  ·intro o ho l vs W hl hp hv b hs
   obtain rfl := Option.some.inj ho
   obtain ⟨c, h5⟩ : ∃ c : Int, vs 5 = .int .i64 c := hv 5 (by decide)
   have h6 : vs 6 = .pointer (some ⟨q0, x4.toNat, none⟩) := hv 6 (by decide)
   have u5 := (hs.tm 15 5 rfl).trans (congrArg some h5)
   have u6 := (hs.tm 16 6 rfl).trans (congrArg some h6)
   have hat := own_at (hp.2.1) x4 x0 x6
   have c1 := hat.1
   have c2 := hat.2
   have hA : At w0 w g s (N + (4 - (j + 1)) * 3 + 2) W := At.less hp.1 (by rw [hl 5 (by decide)]; simp)
   have hput : Put1 q0 W (W.setCell ⟨q0, x4.toNat, none⟩ (.int .i64 c)) := ⟨rfl, rfl, rfl, by simp [World.setCell], fun j hj => Below.heap_setCell _ _ _ _ hj⟩
   exact stepSkipB (W' := W.setCell ⟨q0, x4.toNat, none⟩ (.int .i64 c)) rfl (by go_simp) ⟨_, hA.put1 hput (by omega), (own_store (hp.2.1) x4 c).1, Row6.set (hp.2.2.1) (by omega), Row6.set (hp.2.2.2.1) (by omega), Box.put1 (hp.2.2.2.2.1) hput (by omega), Box.put1 (hp.2.2.2.2.2) hput (by omega)⟩
  ·rintro vs w5 ⟨ln0, hA, k0, k1, k2, k3, k4⟩
   simp only [List.map_cons, List.map_nil, putL]
   simp only [Act.put, List.setIfInBounds_toArray, List.set_cons_zero, List.set_cons_succ]
   have H10 := Aside0.mk (show At w0 w g s (N + (4 - (j + 1)) * 3 + 2) w5 ∧ Row6 w5 w.heap.size q0 e0 ln0 ∧ Row6 w5 w.heap.size q1 e1 l1 ∧ Row6 w5 w.heap.size q2 e2 l2 ∧ Box w5 g3 30 #[.slice (some ⟨q0, 0, none⟩) 6 e0, .slice (some ⟨q1, 0, none⟩) 6 e1, .slice (some ⟨q2, 0, none⟩) 6 e2] ∧ Box w5 g2 30 mZ from ⟨hA, k0, k1, k2, k3, k4⟩)
   clear H9 hA k0 k1 k2 k3 k4
   go_upto_region 6 with fail
   refine weaveK_ g 7 rfl (fun l W => At w0 w g s (N + (4 - (j + 1)) * 3 + 1 + (if l 5 = true then 0 else 1)) W ∧ Row6 W w.heap.size q0 e0 ln0 ∧ Row6 W w.heap.size q1 e1 l1 ∧ Row6 W w.heap.size q2 e2 l2 ∧ Box W g3 30 #[.slice (some ⟨q0, 0, none⟩) 6 e0, .slice (some ⟨q1, 0, none⟩) 6 e1, .slice (some ⟨q2, 0, none⟩) 6 e2] ∧ Box W g2 30 mZ) ⟨At.less (At.below H10.out.1 (drew_below _)) (by simp), Row6.keep H10.out.2.1 (kb_below (g := g) (drew_below _)) nq0, Row6.keep H10.out.2.2.1 (kb_below (g := g) (drew_below _)) nq1, Row6.keep H10.out.2.2.2.1 (kb_below (g := g) (drew_below _)) nq2, Box.keep H10.out.2.2.2.2.1 (kb_below (g := g) (drew_below _)) n3, Box.keep H10.out.2.2.2.2.2 (kb_below (g := g) (drew_below _)) n2⟩ [(17, 0), (18, 1), (19, 2), (20, 3), (21, 4), (22, 5), (23, 6)] [fun v _ => v = .pointer (some ⟨g3, 1, none⟩), fun v _ => v = .slice (some ⟨q1, 0, none⟩) 6 e1, fun v _ => v = .int .i64 x4, fun v _ => v = .pointer (some ⟨g, 0, none⟩), fun v W => Kd.R (Kd.int .i64) 3 W w.heap.size (fun k => k ≠ g) v [0, 0, 1, 3], fun v _ => ∃ c : Int, v = .int .i64 c, fun v _ => v = .pointer (some ⟨q1, x4.toNat, none⟩)] mixed (by kernel_rfl) ⟨fun _ => LastK.const _ _, fun _ => LastK.const _ _, fun _ => LastK.const _ _, fun _ => LastK.const _ _, fun _ W W' hk h => Kd.R_keep h hk fun _ h => h, fun _ => LastK.const _ _, fun _ => LastK.const _ _, trivial⟩ (by kernel_rfl) (by kernel_rfl) ?_ (fun _ W => ∃ ln : List Int, At w0 w g s (N + (4 - (j + 1)) * 3 + 1) W ∧ Row6 W w.heap.size q0 e0 ln0 ∧ Row6 W w.heap.size q1 e1 ln ∧ Row6 W w.heap.size q2 e2 l2 ∧ Box W g3 30 #[.slice (some ⟨q0, 0, none⟩) 6 e0, .slice (some ⟨q1, 0, none⟩) 6 e1, .slice (some ⟨q2, 0, none⟩) 6 e2] ∧ Box W g2 30 mZ) ?_ ?_
   ·refine ⟨?_, ?_, ?_, ?_, ?_, ?_, ?_, ?_, trivial⟩
    ·intro _ l vs W hp hl hv b hs
     have o3 := (hs.oldtm 3 rfl).trans (show _ = some (Value.pointer (some ⟨g3, 0, none⟩)) from rfl)
     exact stepVal rfl (by go_simp) ⟨KeepBut.refl _ _ _, hp, rfl⟩
    ·intro _ l vs W hp hl hv b hs
     have h0 : vs 0 = .pointer (some ⟨g3, 1, none⟩) := hv 0 (by decide)
     have t0 := (hs.tm 17 0 rfl).trans (congrArg some h0)
     have cm := (Box.cell (hp.2.2.2.2.1) 1 _ rfl).1
     exact stepVal rfl (by go_simp) ⟨KeepBut.refl _ _ _, hp, rfl⟩
    ·intro _ l vs W hp hl hv b hs
     have o4 := (hs.oldtm 4 rfl).trans (show _ = some (Value.int .i64 x4) from rfl)
     exact stepVal rfl (by go_simp) ⟨KeepBut.refl _ _ _, hp, rfl⟩
    ·intro _ l vs W hp hl hv b hs
     have o0 := (hs.oldtm 0 rfl).trans (show _ = some (Value.pointer (some ⟨g, 0, none⟩)) from rfl)
     exact stepVal rfl (by go_simp) ⟨KeepBut.refl _ _ _, hp, rfl⟩
    ·intro _ l vs W hp hl hv b hs
     exact stepInts rfl rfl [0, 0, 1, 3] (by decide) (by go_simp; try rfl) hp.1.lt' fun v W' hR hb => ⟨kb_below (g := g) hb, ⟨hp.1.below hb, Row6.keep hp.2.1 (kb_below (g := g) hb) nq0, Row6.keep hp.2.2.1 (kb_below (g := g) hb) nq1, Row6.keep hp.2.2.2.1 (kb_below (g := g) hb) nq2, Box.keep hp.2.2.2.2.1 (kb_below (g := g) hb) n3, Box.keep hp.2.2.2.2.2 (kb_below (g := g) hb) n2⟩, Kd.R_lower hR hp.1.k.1⟩
    ·intro _ l vs W hp hl hv b hs
     have hA : At w0 w g s (N + (4 - (j + 1)) * 3 + 1 + 1) W := At.less hp.1 (by rw [hl]; simp)
     have h3 : vs 3 = .pointer (some ⟨g, 0, none⟩) := hv 3 (by decide)
     have h4 : Kd.R (Kd.int .i64) 3 W w.heap.size (fun k => k ≠ g) (vs 4) [0, 0, 1, 3] := hv 4 (by decide)
     have u3 := hs.ev 20 3 rfl
     have u4 := hs.ev 21 4 rfl
     generalize vs 4 = v4 at *
     obtain ⟨A, d, rfl⟩ := Kd.R_slice h4
     refine stepCall rfl Tryz.func51 (by kernel_rfl) rfl #[vs 3, .slice A 4 d] rfl (by simp [u3, u4]) (by rw [h3]; exact num_dr hA [0, 0, 1, 3] (by decide) (by decide) A d (Kd.R_reads' h4).2.2 (Kd.R_reads' h4).2.1 (far_slice fun e => h4.1 g e.symm rfl)) ?_
     rintro e W' ⟨c, rfl, _, hA', hk⟩
     exact ⟨_, rfl, hk, ⟨At.less hA' (by simp), Row6.keep hp.2.1 hk nq0, Row6.keep hp.2.2.1 hk nq1, Row6.keep hp.2.2.2.1 hk nq2, Box.keep hp.2.2.2.2.1 hk n3, Box.keep hp.2.2.2.2.2 hk n2⟩, c, rfl⟩
    ·intro _ l vs W hp hl hv b hs
     have h1 : vs 1 = .slice (some ⟨q1, 0, none⟩) 6 e1 := hv 1 (by decide)
     have h2 : vs 2 = .int .i64 x4 := hv 2 (by decide)
     have t1 := (hs.tm 18 1 rfl).trans (congrArg some h1)
     have t2 := (hs.tm 19 2 rfl).trans (congrArg some h2)
     exact stepVal (v := .pointer (some ⟨q1, x4.toNat, none⟩)) rfl (by go_simp) ⟨KeepBut.refl _ _ _, hp, rfl⟩
    ·intro h
     exact absurd h (by decide)
   ·intro o ho l vs W hl hp hv b hs
    obtain rfl := Option.some.inj ho
    obtain ⟨c, h5⟩ : ∃ c : Int, vs 5 = .int .i64 c := hv 5 (by decide)
    have h6 : vs 6 = .pointer (some ⟨q1, x4.toNat, none⟩) := hv 6 (by decide)
    have u5 := (hs.tm 22 5 rfl).trans (congrArg some h5)
    have u6 := (hs.tm 23 6 rfl).trans (congrArg some h6)
    have hat := own_at (hp.2.2.1) x4 x0 x6
    have c1 := hat.1
    have c2 := hat.2
    have hA : At w0 w g s (N + (4 - (j + 1)) * 3 + 1) W := At.less hp.1 (by rw [hl 5 (by decide)]; simp)
    have hput : Put1 q1 W (W.setCell ⟨q1, x4.toNat, none⟩ (.int .i64 c)) := ⟨rfl, rfl, rfl, by simp [World.setCell], fun j hj => Below.heap_setCell _ _ _ _ hj⟩
    exact stepSkipB (W' := W.setCell ⟨q1, x4.toNat, none⟩ (.int .i64 c)) rfl (by go_simp) ⟨_, hA.put1 hput (by omega), Row6.set (hp.2.1) (by omega), (own_store (hp.2.2.1) x4 c).1, Row6.set (hp.2.2.2.1) (by omega), Box.put1 (hp.2.2.2.2.1) hput (by omega), Box.put1 (hp.2.2.2.2.2) hput (by omega)⟩
   ·rintro vs w6 ⟨ln1, hA, k0, k1, k2, k3, k4⟩
    simp only [List.map_cons, List.map_nil, putL]
    simp only [Act.put, List.setIfInBounds_toArray, List.set_cons_zero, List.set_cons_succ]
    have H11 := Aside0.mk (show At w0 w g s (N + (4 - (j + 1)) * 3 + 1) w6 ∧ Row6 w6 w.heap.size q0 e0 ln0 ∧ Row6 w6 w.heap.size q1 e1 ln1 ∧ Row6 w6 w.heap.size q2 e2 l2 ∧ Box w6 g3 30 #[.slice (some ⟨q0, 0, none⟩) 6 e0, .slice (some ⟨q1, 0, none⟩) 6 e1, .slice (some ⟨q2, 0, none⟩) 6 e2] ∧ Box w6 g2 30 mZ from ⟨hA, k0, k1, k2, k3, k4⟩)
    clear H10 hA k0 k1 k2 k3 k4
    go_upto_region 7 with fail
    refine weaveK_ g 7 rfl (fun l W => At w0 w g s (N + (4 - (j + 1)) * 3 + (if l 5 = true then 0 else 1)) W ∧ Row6 W w.heap.size q0 e0 ln0 ∧ Row6 W w.heap.size q1 e1 ln1 ∧ Row6 W w.heap.size q2 e2 l2 ∧ Box W g3 30 #[.slice (some ⟨q0, 0, none⟩) 6 e0, .slice (some ⟨q1, 0, none⟩) 6 e1, .slice (some ⟨q2, 0, none⟩) 6 e2] ∧ Box W g2 30 mZ) ⟨At.less (At.below H11.out.1 (drew_below _)) (by simp), Row6.keep H11.out.2.1 (kb_below (g := g) (drew_below _)) nq0, Row6.keep H11.out.2.2.1 (kb_below (g := g) (drew_below _)) nq1, Row6.keep H11.out.2.2.2.1 (kb_below (g := g) (drew_below _)) nq2, Box.keep H11.out.2.2.2.2.1 (kb_below (g := g) (drew_below _)) n3, Box.keep H11.out.2.2.2.2.2 (kb_below (g := g) (drew_below _)) n2⟩ [(24, 0), (25, 1), (26, 2), (27, 3), (28, 4), (29, 5), (30, 6)] [fun v _ => v = .pointer (some ⟨g3, 2, none⟩), fun v _ => v = .slice (some ⟨q2, 0, none⟩) 6 e2, fun v _ => v = .int .i64 x4, fun v _ => v = .pointer (some ⟨g, 0, none⟩), fun v W => Kd.R (Kd.int .i64) 3 W w.heap.size (fun k => k ≠ g) v [0, 0, 1, 2, 7, 1000000], fun v _ => ∃ c : Int, v = .int .i64 c, fun v _ => v = .pointer (some ⟨q2, x4.toNat, none⟩)] mixed (by kernel_rfl) ⟨fun _ => LastK.const _ _, fun _ => LastK.const _ _, fun _ => LastK.const _ _, fun _ => LastK.const _ _, fun _ W W' hk h => Kd.R_keep h hk fun _ h => h, fun _ => LastK.const _ _, fun _ => LastK.const _ _, trivial⟩ (by kernel_rfl) (by kernel_rfl) ?_ (fun _ W => ∃ ln : List Int, At w0 w g s (N + (4 - (j + 1)) * 3) W ∧ Row6 W w.heap.size q0 e0 ln0 ∧ Row6 W w.heap.size q1 e1 ln1 ∧ Row6 W w.heap.size q2 e2 ln ∧ Box W g3 30 #[.slice (some ⟨q0, 0, none⟩) 6 e0, .slice (some ⟨q1, 0, none⟩) 6 e1, .slice (some ⟨q2, 0, none⟩) 6 e2] ∧ Box W g2 30 mZ) ?_ ?_
    ·refine ⟨?_, ?_, ?_, ?_, ?_, ?_, ?_, ?_, trivial⟩
     ·intro _ l vs W hp hl hv b hs
      have o3 := (hs.oldtm 3 rfl).trans (show _ = some (Value.pointer (some ⟨g3, 0, none⟩)) from rfl)
      exact stepVal rfl (by go_simp) ⟨KeepBut.refl _ _ _, hp, rfl⟩
     ·intro _ l vs W hp hl hv b hs
      have h0 : vs 0 = .pointer (some ⟨g3, 2, none⟩) := hv 0 (by decide)
      have t0 := (hs.tm 24 0 rfl).trans (congrArg some h0)
      have cm := (Box.cell (hp.2.2.2.2.1) 2 _ rfl).1
      exact stepVal rfl (by go_simp) ⟨KeepBut.refl _ _ _, hp, rfl⟩
     ·intro _ l vs W hp hl hv b hs
      have o4 := (hs.oldtm 4 rfl).trans (show _ = some (Value.int .i64 x4) from rfl)
      exact stepVal rfl (by go_simp) ⟨KeepBut.refl _ _ _, hp, rfl⟩
     ·intro _ l vs W hp hl hv b hs
      have o0 := (hs.oldtm 0 rfl).trans (show _ = some (Value.pointer (some ⟨g, 0, none⟩)) from rfl)
      exact stepVal rfl (by go_simp) ⟨KeepBut.refl _ _ _, hp, rfl⟩
     ·intro _ l vs W hp hl hv b hs
      exact stepInts rfl rfl [0, 0, 1, 2, 7, 1000000] (by decide) (by go_simp; try rfl) hp.1.lt' fun v W' hR hb => ⟨kb_below (g := g) hb, ⟨hp.1.below hb, Row6.keep hp.2.1 (kb_below (g := g) hb) nq0, Row6.keep hp.2.2.1 (kb_below (g := g) hb) nq1, Row6.keep hp.2.2.2.1 (kb_below (g := g) hb) nq2, Box.keep hp.2.2.2.2.1 (kb_below (g := g) hb) n3, Box.keep hp.2.2.2.2.2 (kb_below (g := g) hb) n2⟩, Kd.R_lower hR hp.1.k.1⟩
     ·intro _ l vs W hp hl hv b hs
      have hA : At w0 w g s (N + (4 - (j + 1)) * 3 + 1) W := At.less hp.1 (by rw [hl]; simp)
      have h3 : vs 3 = .pointer (some ⟨g, 0, none⟩) := hv 3 (by decide)
      have h4 : Kd.R (Kd.int .i64) 3 W w.heap.size (fun k => k ≠ g) (vs 4) [0, 0, 1, 2, 7, 1000000] := hv 4 (by decide)
      have u3 := hs.ev 27 3 rfl
      have u4 := hs.ev 28 4 rfl
      generalize vs 4 = v4 at *
      obtain ⟨A, d, rfl⟩ := Kd.R_slice h4
      refine stepCall rfl Tryz.func51 (by kernel_rfl) rfl #[vs 3, .slice A 6 d] rfl (by simp [u3, u4]) (by rw [h3]; exact num_dr hA [0, 0, 1, 2, 7, 1000000] (by decide) (by decide) A d (Kd.R_reads' h4).2.2 (Kd.R_reads' h4).2.1 (far_slice fun e => h4.1 g e.symm rfl)) ?_
      rintro e W' ⟨c, rfl, _, hA', hk⟩
      exact ⟨_, rfl, hk, ⟨At.less hA' (by simp), Row6.keep hp.2.1 hk nq0, Row6.keep hp.2.2.1 hk nq1, Row6.keep hp.2.2.2.1 hk nq2, Box.keep hp.2.2.2.2.1 hk n3, Box.keep hp.2.2.2.2.2 hk n2⟩, c, rfl⟩
     ·intro _ l vs W hp hl hv b hs
      have h1 : vs 1 = .slice (some ⟨q2, 0, none⟩) 6 e2 := hv 1 (by decide)
      have h2 : vs 2 = .int .i64 x4 := hv 2 (by decide)
      have t1 := (hs.tm 25 1 rfl).trans (congrArg some h1)
      have t2 := (hs.tm 26 2 rfl).trans (congrArg some h2)
      exact stepVal (v := .pointer (some ⟨q2, x4.toNat, none⟩)) rfl (by go_simp) ⟨KeepBut.refl _ _ _, hp, rfl⟩
     ·intro h
      exact absurd h (by decide)
    ·intro o ho l vs W hl hp hv b hs
     obtain rfl := Option.some.inj ho
     obtain ⟨c, h5⟩ : ∃ c : Int, vs 5 = .int .i64 c := hv 5 (by decide)
     have h6 : vs 6 = .pointer (some ⟨q2, x4.toNat, none⟩) := hv 6 (by decide)
     have u5 := (hs.tm 29 5 rfl).trans (congrArg some h5)
     have u6 := (hs.tm 30 6 rfl).trans (congrArg some h6)
     have hat := own_at (hp.2.2.2.1) x4 x0 x6
     have c1 := hat.1
     have c2 := hat.2
     have hA : At w0 w g s (N + (4 - (j + 1)) * 3) W := At.less hp.1 (by rw [hl 5 (by decide)]; simp)
     have hput : Put1 q2 W (W.setCell ⟨q2, x4.toNat, none⟩ (.int .i64 c)) := ⟨rfl, rfl, rfl, by simp [World.setCell], fun j hj => Below.heap_setCell _ _ _ _ hj⟩
     exact stepSkipB (W' := W.setCell ⟨q2, x4.toNat, none⟩ (.int .i64 c)) rfl (by go_simp) ⟨_, hA.put1 hput (by omega), Row6.set (hp.2.1) (by omega), Row6.set (hp.2.2.1) (by omega), (own_store (hp.2.2.2.1) x4 c).1, Box.put1 (hp.2.2.2.2.1) hput (by omega), Box.put1 (hp.2.2.2.2.2) hput (by omega)⟩
    ·rintro vs w7 ⟨ln2, hA, k0, k1, k2, k3, k4⟩
     simp only [List.map_cons, List.map_nil, putL]
     simp only [Act.put, List.setIfInBounds_toArray, List.set_cons_zero, List.set_cons_succ]
     have H12 := Aside0.mk (show At w0 w g s (N + (4 - (j + 1)) * 3) w7 ∧ Row6 w7 w.heap.size q0 e0 ln0 ∧ Row6 w7 w.heap.size q1 e1 ln1 ∧ Row6 w7 w.heap.size q2 e2 ln2 ∧ Box w7 g3 30 #[.slice (some ⟨q0, 0, none⟩) 6 e0, .slice (some ⟨q1, 0, none⟩) 6 e1, .slice (some ⟨q2, 0, none⟩) 6 e2] ∧ Box w7 g2 30 mZ from ⟨hA, k0, k1, k2, k3, k4⟩)
     clear H11 hA k0 k1 k2 k3 k4
     go_wp2
     go_roundw
     case measure => have := HJ2.out; simp [intOf]; omega
     case rel =>
      exact ⟨_, ln0, ln1, ln2, rfl, ⟨j + 1, by have := HJ2.out; omega, by have := HJ2.out; omega, H12.out.1⟩, ⟨H12.out.2⟩⟩
end Go.Proofs.YtendbgedpjcocaaGreatDoor.B
