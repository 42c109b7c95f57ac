import Derived.Test.YtfmipdhkiahjoaaDoorPkA
import Derived.Test.YtfmipdhkiahjoaaDoorJnC
import Derived.Test.YtfmipdhkiahjoaaDoorJnE
/- spec.l3Bent, by its size. -/
namespace Go.Proofs.YtfmipdhkiahjoaaDoor.B
open Go Go.RowKit Go.Shelf Go.Proofs.YtfmipdhkiahjoaaDoorW.PrintWords Go.Proofs.YtfmipdhkiahjoaaDoorW.PrintLast Go.Proofs.YtfmipdhkiahjoaaDoorW.PrintMore
set_option linter.unusedVariables false
abbrev Fr (w : World) : Nat → Prop := fun k => w.heap.size ≤ k
abbrev zE : Array Value := #[.int .i64 0, .int .i64 0, .int .i64 0, .int .i64 0, .slice none 0 0]
abbrev eC (x : Ex) (A : Option Addr) (c : Nat) : Array Value := #[.int .i64 x.f0, .int .i64 x.f1, .int .i64 x.f2.f0, .int .i64 x.f2.f1, .slice A x.f3.length c]
theorem exLit_F (x : Ex) (A : Option Addr) (c : Nat) (W : World) (ok : Nat → Prop) (h : TVo W ok x A c) : Kd.FK k34 W ok x [.int .i64 x.f0, .int .i64 x.f1, .int .i64 x.f2.f0, .int .i64 x.f2.f1, .slice A x.f3.length c] := k34_mkF W ok x h.reads.1 (Kd.V_F h.v)
theorem reps_ints (W : World) (base : Nat) (ok : Nat → Prop) : ∀ xs : List Int, Reps ((Kd.int .i64).M W base ok) 1 xs (xs.map (Value.int .i64))
 | [] => Reps.none _ _
 | x :: xs => Reps.one (show Kd.M (Kd.int .i64) _ _ _ x [.int .i64 x] from rfl) (reps_ints W base ok xs)
section
variable {P : Program} {ops : Array Oper} {o : Oper} {b : Act} {W : World} {Ψ : Value → World → Prop}
theorem stepLit {α : Type} (d : Kd α) (e : Nat) {N : Tmp} (hw : Region.wanted o (yielded ops b.tmps) = true) (hd : o.dst = some N) (xs : List α) (inner : List Value) (okp : Nat → Prop) (hm : xs.length ≤ 1000) (hrun : (execOp b.eval o).run P W = .ok (.value (.slice (some ⟨W.heap.size, 0, none⟩) xs.length xs.length)) (W.alloc (.cells inner.toArray e)))
  (hrep : Reps (Kd.FK d W okp) d.sz xs inner) (h : ∀ v W', Kd.N d e W' W.heap.size (fun k => okp k ∨ k = W.heap.size) v xs → Below W.heap.size W W' → Ψ v W') : StepOK P ops o b W Ψ := fun K Q hK =>
 Kd.N_lit_step d W.heap.size e hw hd hrun hrep (fun _ hk => .inl hk) (.inr rfl) (Below.refl _ _) (Nat.le_refl _) (by omega) fun v1 w1 hR hb _ _ => hK _ _ (h v1 w1 hR hb)
end
theorem someE_dr {w0 wb W : World} {g N : Nat} {s : List Int} (h : At w0 wb g s (N + 300000) W) : Calls Tryd.prog 44 #[.pointer (some ⟨g, 0, none⟩)] W fun e W' => ∃ (x : Ex) (A : Option Addr) (c : Nat), e = .returned (.agg (eC x A c)) ∧ Tiny x ∧ TVo W' (Fr W) x A c ∧ At w0 wb g s N W' ∧ KeepBut W W' g none := by
 obtain ⟨q, q0, q1, hq⟩ := h.q
 obtain ⟨x, p, k, hx, p0, p1, hr⟩ := some_total s h.by_ h.sl q q0 (by omega)
 refine (spec_l3Some.calls k g s q x.f0 x.f1 x.f2.f0 x.f2.f1 x.f3 p w0 W hq h.b hr).mono ?_
 rintro e W' ⟨v, rfl, hR, hi, hb, hk⟩
 have hN := Kd.R_N (Kd.R_bound hR)
 obtain ⟨B, c, rfl⟩ := Kd.N_slice hN
 exact ⟨x, B, c, rfl, hx, TV.ofN hN fun k hk => hk.2.1, h.after q0 q1 (by omega) (by omega) hi hb hk, hk⟩
theorem copy_any {W : World} {ok : Nat → Prop} {x : Ex} {A : Option Addr} {c : Nat} (hx : Tiny x) (h : TVo W ok x A c) : Calls Tryd.prog 45 #[.agg (eC x A c)] W fun e W' => ∃ (A' : Option Addr) (c' : Nat), e = .returned (.agg (eC x A' c')) ∧ TVo W' (Fr W) x A' c' ∧ Below W.heap.size W W' := by
 obtain ⟨k, hk⟩ := copy_total x hx
 refine (spec_l3Copy.calls k x.f0 x.f1 x.f2.f0 x.f2.f1 A c x.f3 _ _ _ _ _ W h.reads.2 h.reads.1 hk).mono ?_
 rintro e W' ⟨v, rfl, hR, hb⟩
 have hN := Kd.R_N (Kd.R_bound hR)
 obtain ⟨B, c', rfl⟩ := Kd.N_slice hN
 exact ⟨B, c', rfl, TV.ofN hN fun k hk => hk.2.1, hb⟩
set_option maxRecDepth 100000 in
set_option maxHeartbeats 4000000 in
theorem exBent_at {w0 w : World} {g N : Nat} {s : List Int} (h : At w0 w g s (N + 1000000) w) : Calls Tryd.prog 27 #[.pointer (some ⟨g, 0, none⟩)] w fun e W' => ∃ (x : Ex) (A : Option Addr) (c : Nat), e = .returned (.agg (eC x A c)) ∧ Tiny x ∧ TVo W' (Fr w) x A c ∧ At w0 w g s N W' := by
 have mixed : Tryd.prog.follows .mixedOrders = true := rfl
 have fr := h.fresh
 have H0 := Aside0.mk h
 clear h
 go_enter Tryd.func27, Tryd.ntmps27
 go_wp2_with ((with_reducible refine gate_dst (N := 2) rfl ?_); refine boxNew_ rfl rfl zE 34 ?hr ?_; (case hr => (go_simp; first | done | rfl)); intro g2 w1 hg2' b2 hb1; have hg2 := Nat.le_of_eq hg2'.symm; clear hg2')
 have n2 : g2 ≠ g := fr g2 hg2
 have H1 := Aside0.mk (show At w0 w g s (N + 600000 + 300000) w1 ∧ Box w1 g2 34 zE from ⟨At.less (At.below H0.out hb1) (by omega), b2⟩)
 clear H0 b2 hb1
 have hg2s := blk_lt H1.out.2
 refine (someE_dr H1.out.1).mono ?_
 rintro e w2 ⟨x, A, c, rfl, hx, hT, hA, hk⟩
 have hk2 := hk.1
 have H2 := Aside0.mk (show At w0 w g s (N + 600000) w2 ∧ TVo w2 (Fr w1) x A c ∧ Box w2 g2 34 zE from ⟨hA, hT, Box.keep H1.out.2 hk n2⟩)
 clear H1 hA hk hT
 have hw2s := (H2.out.1).k.1
 go_wp2_with ((with_reducible refine gate_dst (N := 3) rfl ?_); refine new1_ (N := 3) (x := 7) (T := 34) (eC x A c) (zs := zE) (by simp [Value.oneCell']) ?_ ?_ ?_ ?_ ?_ ?_ ?_ ?_ ?_ ?_ ?_ ?_ ?_)
 all_goals (first | rfl | decide | (intro _ _; go_simp; done) | kernel_rfl | skip)
 intro g3 w3 hg3 b3 hb
 simp only [Act.put, List.setIfInBounds_toArray, List.set_cons_zero, List.set_cons_succ]
 have n3 : g3 ≠ g := fr g3 (by omega)
 obtain ⟨OK, hOK⟩ : ∃ OK : Nat → Prop, OK = fun k => w1.heap.size ≤ k ∧ k ≠ g3 := ⟨_, rfl⟩
 have okI : ∀ k, w1.heap.size ≤ k → k ≠ g3 → OK k := fun k h1 h2 => by rw [hOK]; exact ⟨h1, h2⟩
 have okE : ∀ k, OK k → w1.heap.size ≤ k ∧ k ≠ g3 := fun k h => by rw [hOK] at h; exact h
 clear hOK
 have frk : ∀ k, OK k → k ≠ g := fun k h => fr k (by have := (okE k h).1; omega)
 have H3 := Aside0.mk (show At w0 w g s (N + 599999 + 1) w3 ∧ Box w3 g3 34 (eC x A c) ∧ TVo w3 OK x A c ∧ Box w3 g2 34 zE from ⟨At.less (At.below H2.out.1 hb) (by omega), b3, TVo.keep (ok := OK) ⟨Kd.V_mono (Kd.V_bound (H2.out.2.1).v) fun k hk => okI k hk.1 (by have := hk.2; omega)⟩ (kb_below (g := g) hb) frk, Box.keep H2.out.2.2 (kb_below (g := g) hb) n2⟩)
 clear H2 hb b3
 have fin : ∀ (W : World) (y : Ex) (A : Option Addr) (c : Nat), Tiny y → At w0 w g s N W → TVo W OK y A c → ∀ W', Put1 g2 W W' → ∃ (x : Ex) (A' : Option Addr) (c' : Nat), Ending.returned (Value.agg (eC y A c)) = .returned (.agg (eC x A' c')) ∧ Tiny x ∧ TVo W' (Fr w) x A' c' ∧ At w0 w g s N W' :=
  fun W y A c hy hA hT W' hp => ⟨y, A, c, rfl, hy, TVo.mono (ok := OK) ⟨Kd.V_step hT.v fun k hk _ => hp.far k (by have := (okE k hk).1; omega)⟩ fun k hk => (by have := (okE k hk).1; show w.heap.size ≤ k; omega), hA.put1 hp (by omega)⟩
 have FIN := Aside0.mk fin
 have HX := Aside0.mk hx
 clear fin hx
 go_wp2_with fail
 refine (pick_dr H3.out.1 60 (by omega) (by omega)).mono ?_
 rintro e w4 ⟨r, rfl, r0, r1, hA, hk⟩
 have hk4 := hk.1
 have H4 := Aside0.mk (show At w0 w g s (N + 599999) w4 ∧ Box w4 g3 34 (eC x A c) ∧ TVo w4 OK x A c ∧ Box w4 g2 34 zE from ⟨hA, Box.keep H3.out.2.1 hk n3, TVo.keep H3.out.2.2.1 hk frk, Box.keep H3.out.2.2.2 hk n2⟩)
 clear H3 hA hk
 by_cases h0 : r = 0
 ·have c0 : (r == 0) = true := by simp [h0]
  clear h0
  go_wp2_with ((with_reducible refine gate_dst (N := 13) rfl ?_); refine Kd.R_lit (Kd.int .i64) w4.heap.size 3 rfl (N := 13) rfl (xs := [0, 11, 3, 10]) (inner := [.int .i64 0, .int .i64 11, .int .i64 3, .int .i64 10]) (ok := fun k => k ≠ g) (okp := fun k => k ≠ g) (by go_simp; try rfl) (reps_ints _ _ _ [0, 11, 3, 10]) (fun _ hk => hk) (by have := At.lt' H4.out.1; show w4.heap.size ≠ g; omega) (Below.refl _ _) (Nat.le_refl _) (by simp) ?_; intro v13 w5 hR hb4 hg_ hn_; clear hg_ hn_; obtain ⟨A4, c4, e4⟩ := Kd.R_slice hR; subst e4)
  have H5 := Aside0.mk (show At w0 w g s (N + 599998 + 1) w5 ∧ Box w5 g3 34 (eC x A c) ∧ TVo w5 OK x A c ∧ Box w5 g2 34 zE from ⟨At.less (At.below H4.out.1 hb4) (by omega), Box.keep H4.out.2.1 (kb_below (g := g) hb4) n3, TVo.keep H4.out.2.2.1 (kb_below (g := g) hb4) frk, Box.keep H4.out.2.2.2 (kb_below (g := g) hb4) n2⟩)
  clear H4 hb4
  refine (num_dr H5.out.1 [0, 11, 3, 10] (by decide) (by decide) A4 c4 (Kd.R_reads' hR).2.2 (Kd.R_reads' hR).2.1 (far_slice fun e => hR.1 g e.symm rfl)).mono ?_
  rintro e w6 ⟨n, rfl, _, hA, hk⟩
  have H6 := Aside0.mk (show At w0 w g s (N + 599998) w6 ∧ Box w6 g3 34 (eC x A c) ∧ TVo w6 OK x A c ∧ Box w6 g2 34 zE from ⟨hA, Box.keep H5.out.2.1 hk n3, TVo.keep H5.out.2.2.1 hk frk, Box.keep H5.out.2.2.2 hk n2⟩)
  clear H5 hA hk hR
  have lb := H6.out.2.1
  have cc := (Box.cell lb 0 _ rfl).1
  have cf := (Box.cell lb 0 _ rfl).2
  have lb2 := H6.out.2.2.2
  go_wp2_with (first | ((with_reducible refine gate_store (t := 3) (p := 15) rfl ?_); refine setF_ (i := 0) (v := .int .i64 n) rfl rfl rfl lb (by go_simp) ?_; intro w7 hb7 hput; have lb27 := Box.put1 lb2 hput (by omega)) | ((with_reducible refine gate_dst (N := 47) rfl ?_); refine boxGet_ rfl rfl rfl rfl hb7 Tryd.underlying34 rfl (by kernel_rfl) ?_) | ((with_reducible refine gate_store (t := 34) (p := 2) rfl ?_); refine boxPut_ rfl rfl rfl rfl (eC (⟨n, x.f1, x.f2, x.f3⟩ : Ex) A c) (by rfl) lb27 rfl (by kernel_rfl) (by simp [Value.oneCell']) ?_; intro w9 hbx hput9))
  clear lb cc cf lb2 lb27
  have H7 := Aside0.mk (show At w0 w g s (N) w7 ∧ Box w7 g3 34 (eC (⟨n, x.f1, x.f2, x.f3⟩ : Ex) A c) ∧ TVo w7 OK (⟨n, x.f1, x.f2, x.f3⟩ : Ex) A c ∧ Box w7 g2 34 zE from ⟨At.less (At.put1 H6.out.1 hput (by omega)) (by omega), hb7, (show TVo w7 OK (⟨n, x.f1, x.f2, x.f3⟩ : Ex) A c from ⟨(show Kd.V k34 34 w7 0 OK (.slice A x.f3.length c) x.f3 from Kd.V_step (H6.out.2.2.1).v fun k hk _ => hput.far k (okE k hk).2)⟩), Box.put1 H6.out.2.2.2 hput (by omega)⟩)
  clear H6 hput hb7
  refine bodyPost_ret (results_cell_row rfl _ _ g2 34 (eC (⟨n, x.f1, x.f2, x.f3⟩ : Ex) A c) (0, 0) _ rfl hbx Tryd.underlying34 rfl (by kernel_rfl)) rfl ?_
  exact FIN.out _ (⟨n, x.f1, x.f2, x.f3⟩ : Ex) A c (by have := HX.out; cases this with | mk _ a b => exact .mk _ a b) (At.less H7.out.1 (by omega)) H7.out.2.2.1 w9 hput9
 have c0 : (r == 0) = false := by simp [h0]
 by_cases h1 : r = 1
 ·have c1 : (r == 1) = true := by simp [h1]
  clear h0 h1
  go_wp2_with ((with_reducible refine gate_dst (N := 19) rfl ?_); refine Kd.R_lit (Kd.int .i64) w4.heap.size 3 rfl (N := 19) rfl (xs := [1, 1000001]) (inner := [.int .i64 1, .int .i64 1000001]) (ok := fun k => k ≠ g) (okp := fun k => k ≠ g) (by go_simp; try rfl) (reps_ints _ _ _ [1, 1000001]) (fun _ hk => hk) (by have := At.lt' H4.out.1; show w4.heap.size ≠ g; omega) (Below.refl _ _) (Nat.le_refl _) (by simp) ?_; intro v13 w5 hR hb4 hg_ hn_; clear hg_ hn_; obtain ⟨A4, c4, e4⟩ := Kd.R_slice hR; subst e4)
  have H5 := Aside0.mk (show At w0 w g s (N + 599998 + 1) w5 ∧ Box w5 g3 34 (eC x A c) ∧ TVo w5 OK x A c ∧ Box w5 g2 34 zE from ⟨At.less (At.below H4.out.1 hb4) (by omega), Box.keep H4.out.2.1 (kb_below (g := g) hb4) n3, TVo.keep H4.out.2.2.1 (kb_below (g := g) hb4) frk, Box.keep H4.out.2.2.2 (kb_below (g := g) hb4) n2⟩)
  clear H4 hb4
  refine (num_dr H5.out.1 [1, 1000001] (by decide) (by decide) A4 c4 (Kd.R_reads' hR).2.2 (Kd.R_reads' hR).2.1 (far_slice fun e => hR.1 g e.symm rfl)).mono ?_
  rintro e w6 ⟨n, rfl, _, hA, hk⟩
  have H6 := Aside0.mk (show At w0 w g s (N + 599998) w6 ∧ Box w6 g3 34 (eC x A c) ∧ TVo w6 OK x A c ∧ Box w6 g2 34 zE from ⟨hA, Box.keep H5.out.2.1 hk n3, TVo.keep H5.out.2.2.1 hk frk, Box.keep H5.out.2.2.2 hk n2⟩)
  clear H5 hA hk hR
  have lb := H6.out.2.1
  have cc := (Box.cell lb 1 _ rfl).1
  have cf := (Box.cell lb 1 _ rfl).2
  have lb2 := H6.out.2.2.2
  go_wp2_with (first | ((with_reducible refine gate_store (t := 3) (p := 21) rfl ?_); refine setF_ (i := 1) (v := .int .i64 n) rfl rfl rfl lb (by go_simp) ?_; intro w7 hb7 hput; have lb27 := Box.put1 lb2 hput (by omega)) | ((with_reducible refine gate_dst (N := 47) rfl ?_); refine boxGet_ rfl rfl rfl rfl hb7 Tryd.underlying34 rfl (by kernel_rfl) ?_) | ((with_reducible refine gate_store (t := 34) (p := 2) rfl ?_); refine boxPut_ rfl rfl rfl rfl (eC (⟨x.f0, n, x.f2, x.f3⟩ : Ex) A c) (by rfl) lb27 rfl (by kernel_rfl) (by simp [Value.oneCell']) ?_; intro w9 hbx hput9))
  clear lb cc cf lb2 lb27
  have H7 := Aside0.mk (show At w0 w g s (N) w7 ∧ Box w7 g3 34 (eC (⟨x.f0, n, x.f2, x.f3⟩ : Ex) A c) ∧ TVo w7 OK (⟨x.f0, n, x.f2, x.f3⟩ : Ex) A c ∧ Box w7 g2 34 zE from ⟨At.less (At.put1 H6.out.1 hput (by omega)) (by omega), hb7, (show TVo w7 OK (⟨x.f0, n, x.f2, x.f3⟩ : Ex) A c from ⟨(show Kd.V k34 34 w7 0 OK (.slice A x.f3.length c) x.f3 from Kd.V_step (H6.out.2.2.1).v fun k hk _ => hput.far k (okE k hk).2)⟩), Box.put1 H6.out.2.2.2 hput (by omega)⟩)
  clear H6 hput hb7
  refine bodyPost_ret (results_cell_row rfl _ _ g2 34 (eC (⟨x.f0, n, x.f2, x.f3⟩ : Ex) A c) (0, 0) _ rfl hbx Tryd.underlying34 rfl (by kernel_rfl)) rfl ?_
  exact FIN.out _ (⟨x.f0, n, x.f2, x.f3⟩ : Ex) A c (by have := HX.out; cases this with | mk _ a b => exact .mk _ a b) (At.less H7.out.1 (by omega)) H7.out.2.2.1 w9 hput9
 have c1 : (r == 1) = false := by simp [h1]
 by_cases h2 : r = 2
 ·have c2 : (r == 2) = true := by simp [h2]
  clear h0 h1 h2
  go_wp2_with fail
  refine (addrBent_dr' (At.less (N := N + 599999) (M := N + 100000 + 10) H4.out.1 (by omega))).mono ?_
  rintro e w6 ⟨a, b, rfl, hA, hk⟩
  have hk6 := hk.1
  have H5 := Aside0.mk (show At w0 w g s (N + 100000) w6 ∧ Box w6 g3 34 (eC x A c) ∧ TVo w6 OK x A c ∧ Box w6 g2 34 zE from ⟨hA, Box.keep H4.out.2.1 hk n3, TVo.keep H4.out.2.2.1 hk frk, Box.keep H4.out.2.2.2 hk n2⟩)
  clear H4 hA hk
  have lb := H5.out.2.1
  have cc := (Box.cell lb 2 _ rfl).1
  have cf := (Box.cell lb 2 _ rfl).2
  have cc3 := (Box.cell lb 3 _ rfl).1
  have cf3 := (Box.cell lb 3 _ rfl).2
  have lb2 := H5.out.2.2.2
  go_wp2_with (first | ((with_reducible refine gate_store (t := 31) (p := 26) rfl ?_); refine setF2_ (i := 2) (v := .int .i64 a) (u := .int .i64 b) rfl rfl rfl lb (by go_simp) ?_; intro w7 hb7 hput; have lb27 := Box.put1 lb2 hput (by omega)) | ((with_reducible refine gate_dst (N := 47) rfl ?_); refine boxGet_ rfl rfl rfl rfl hb7 Tryd.underlying34 rfl (by kernel_rfl) ?_) | ((with_reducible refine gate_store (t := 34) (p := 2) rfl ?_); refine boxPut_ rfl rfl rfl rfl (eC (⟨x.f0, x.f1, ⟨a, b⟩, x.f3⟩ : Ex) A c) (by rfl) lb27 rfl (by kernel_rfl) (by simp [Value.oneCell']) ?_; intro w9 hbx hput9))
  clear lb cc cf cc3 cf3 lb2 lb27
  have H6 := Aside0.mk (show At w0 w g s (N) w7 ∧ Box w7 g3 34 (eC (⟨x.f0, x.f1, ⟨a, b⟩, x.f3⟩ : Ex) A c) ∧ TVo w7 OK (⟨x.f0, x.f1, ⟨a, b⟩, x.f3⟩ : Ex) A c ∧ Box w7 g2 34 zE from ⟨At.less (At.put1 H5.out.1 hput (by omega)) (by omega), hb7, (show TVo w7 OK (⟨x.f0, x.f1, ⟨a, b⟩, x.f3⟩ : Ex) A c from ⟨(show Kd.V k34 34 w7 0 OK (.slice A x.f3.length c) x.f3 from Kd.V_step (H5.out.2.2.1).v fun k hk _ => hput.far k (okE k hk).2)⟩), Box.put1 H5.out.2.2.2 hput (by omega)⟩)
  clear H5 hput hb7
  refine bodyPost_ret (results_cell_row rfl _ _ g2 34 (eC (⟨x.f0, x.f1, ⟨a, b⟩, x.f3⟩ : Ex) A c) (0, 0) _ rfl hbx Tryd.underlying34 rfl (by kernel_rfl)) rfl ?_
  exact FIN.out _ (⟨x.f0, x.f1, ⟨a, b⟩, x.f3⟩ : Ex) A c (by have := HX.out; cases this with | mk _ a b => exact .mk _ a b) (At.less H6.out.1 (by omega)) H6.out.2.2.1 w9 hput9
 have c2 : (r == 2) = false := by simp [h2]
 by_cases h3 : r = 3
 ·have c3 : (r == 3) = true := by simp [h3]
  clear h0 h1 h2 h3
  go_wp2
  go_loopw [4] (fun v wr => ∃ (x4 : Int) (y : Ex) (A : Option Addr) (c : Nat), v = .int .i64 x4 ∧ Aside0 (∃ j : Nat, x4 = j ∧ j ≤ 6) ∧ Aside0 (Tiny y ∧ At w0 w g s N wr ∧ Box wr g3 34 (eC y A c) ∧ TVo wr OK y A c ∧ Box wr g2 34 zE)) (fun v _ => 6 - (intOf v).toNat)
  case atStart => exact ⟨0, x, A, c, rfl, ⟨0, rfl, by omega⟩, ⟨HX.out, At.less H4.out.1 (by omega), H4.out.2.1, H4.out.2.2.1, H4.out.2.2.2⟩⟩
  case round =>
   clear H4
   obtain ⟨x4, y, A', c', rfl, HJ, HO⟩ := hrel
   have hg3s := blk_lt HO.out.2.2.1
   have hsz := HO.out.2.1.k.1
   by_cases hx : x4 < 6
   rotate_left
   ·have b5 : decide (x4 < 6) = false := decide_eq_false hx
    clear hx
    have lb3 := HO.out.2.2.1
    have lb2 := HO.out.2.2.2.2
    go_wp2_with (first | ((with_reducible refine gate_dst (N := 47) rfl ?_); refine boxGet_ rfl rfl rfl rfl lb3 Tryd.underlying34 rfl (by kernel_rfl) ?_) | ((with_reducible refine gate_store (t := 34) (p := 2) rfl ?_); refine boxPut_ rfl rfl rfl rfl (eC y A' c') (by rfl) lb2 rfl (by kernel_rfl) (by simp [Value.oneCell']) ?_; intro w9 hbx hput9))
    refine bodyPost_ret (results_cell_row rfl _ _ g2 34 (eC y A' c') (0, 0) _ rfl hbx Tryd.underlying34 rfl (by kernel_rfl)) rfl ?_
    exact FIN.out _ y A' c' HO.out.1 HO.out.2.1 HO.out.2.2.2.1 w9 hput9
   have b5 : decide (x4 < 6) = true := decide_eq_true hx
   obtain ⟨j, hj, hj4⟩ := HJ.out
   have hw5 : wrap64 (x4 + 1) = ((j + 1 : Nat) : Int) := by unfold wrap64; omega
   have HJ2 := Aside0.mk (show x4 = j ∧ j < 6 from ⟨hj, by omega⟩)
   clear hj hj4 hx HJ
   have lb3 := HO.out.2.2.1
   go_wp2_with (first | ((with_reducible refine gate_dst (N := 33) rfl ?_); refine boxGet_ rfl rfl rfl rfl lb3 Tryd.underlying34 rfl (by kernel_rfl) ?_) | ((with_reducible refine gate_dst (N := 34) rfl ?_); refine Kd.N_lit k34 wr.heap.size 34 rfl (N' := 34) rfl (xs := [y]) (inner := [.int .i64 y.f0, .int .i64 y.f1, .int .i64 y.f2.f0, .int .i64 y.f2.f1, .slice A' y.f3.length c']) (ok := OK) (okp := OK) (by go_simp; try rfl) (Reps.c5 (exLit_F y A' c' wr OK HO.out.2.2.2.1) (Reps.none _ _)) (fun _ hk => hk) (okI _ (by omega) (by omega)) (Below.refl _ _) (Nat.le_refl _) (by simp) ?_; intro vL wL ho hbL hgL hnL; clear hgL hnL; obtain ⟨A9, c9, eL⟩ := Kd.N_slice ho; subst eL; have lbL := blk_below lb3 hbL) | (refine boxPut_ rfl rfl rfl rfl (eC (⟨10, 0, ⟨0, 0⟩, [y]⟩ : Ex) A9 c9) (by rfl) lbL rfl (by kernel_rfl) (by simp [Value.oneCell']) ?_; intro w9 hbx hput))
   go_roundw
   case measure => have := HJ2.out; simp [intOf]; omega
   case rel =>
    rw [hw5]
    have hl : Kd.N k34 34 w9 wr.heap.size OK (.slice A9 1 c9) [y] := Kd.N_step ho fun k hk _ => hput.far k (okE k hk).2
    exact ⟨_, (⟨10, 0, ⟨0, 0⟩, [y]⟩ : Ex), A9, c9, rfl, ⟨j + 1, rfl, by have := HJ2.out; omega⟩, ⟨.mk _ (by simp) (by intro x hx; simp at hx; rw [hx]; exact HO.out.1), (HO.out.2.1.below hbL).put1 hput (by omega), hbx, TV.ofN hl fun _ h => h, Box.put1 (blk_below HO.out.2.2.2.2 hbL) hput (by omega)⟩⟩
 have c3 : (r == 3) = false := by simp [h3]
 by_cases h4 : r = 4
 ·have c4 : (r == 4) = true := by simp [h4]
  clear h0 h1 h2 h3 h4
  go_wp2
  go_loopw [5] (fun v wr => ∃ (x4 : Int) (y : Ex) (A : Option Addr) (c : Nat), v = .int .i64 x4 ∧ Aside0 (∃ j : Nat, x4 = j ∧ j ≤ 4) ∧ Aside0 (Tiny y ∧ At w0 w g s N wr ∧ Box wr g3 34 (eC y A c) ∧ TVo wr OK y A c ∧ Box wr g2 34 zE)) (fun v _ => 4 - (intOf v).toNat)
  case atStart => exact ⟨0, x, A, c, rfl, ⟨0, rfl, by omega⟩, ⟨HX.out, At.less H4.out.1 (by omega), H4.out.2.1, H4.out.2.2.1, H4.out.2.2.2⟩⟩
  case round =>
   clear H4
   obtain ⟨x4, y, A', c', rfl, HJ, HO⟩ := hrel
   have hg3s := blk_lt HO.out.2.2.1
   have hsz := HO.out.2.1.k.1
   by_cases hx : x4 < 4
   rotate_left
   ·have b5 : decide (x4 < 4) = false := decide_eq_false hx
    clear hx
    have lb3 := HO.out.2.2.1
    have lb2 := HO.out.2.2.2.2
    go_wp2_with (first | ((with_reducible refine gate_dst (N := 47) rfl ?_); refine boxGet_ rfl rfl rfl rfl lb3 Tryd.underlying34 rfl (by kernel_rfl) ?_) | ((with_reducible refine gate_store (t := 34) (p := 2) rfl ?_); refine boxPut_ rfl rfl rfl rfl (eC y A' c') (by rfl) lb2 rfl (by kernel_rfl) (by simp [Value.oneCell']) ?_; intro w9 hbx hput9))
    refine bodyPost_ret (results_cell_row rfl _ _ g2 34 (eC y A' c') (0, 0) _ rfl hbx Tryd.underlying34 rfl (by kernel_rfl)) rfl ?_
    exact FIN.out _ y A' c' HO.out.1 HO.out.2.1 HO.out.2.2.2.1 w9 hput9
   have b5 : decide (x4 < 4) = true := decide_eq_true hx
   obtain ⟨j, hj, hj4⟩ := HJ.out
   have hw5 : wrap64 (x4 + 1) = ((j + 1 : Nat) : Int) := by unfold wrap64; omega
   have HJ2 := Aside0.mk (show x4 = j ∧ j < 4 from ⟨hj, by omega⟩)
   clear hj hj4 hx HJ
   go_upto_region 18 with fail
   refine weaveLast_ 5 rfl (fun W => At w0 w g s N W ∧ wr.heap.size ≤ W.heap.size ∧ Box W g3 34 (eC y A' c') ∧ Box W g2 34 zE ∧ TVo W OK y A' c') (fun W W' hb h => ⟨h.1.below hb, Nat.le_trans h.2.1 hb.size, blk_below h.2.2.1 hb, blk_below h.2.2.2.1 hb, ⟨Kd.V_below h.2.2.2.2.v hb⟩⟩) ⟨HO.out.2.1, Nat.le_refl _, HO.out.2.2.1, HO.out.2.2.2.2, HO.out.2.2.2.1⟩ [(42, 0), (43, 1), (44, 2), (45, 3), (46, 4)] [fun v _ => v = .agg (eC y A' c'), fun v _ => v = .agg (eC y A' c'), fun v W => ∃ A d, v = .agg (eC y A d) ∧ TVo W OK y A d, fun v W => ∃ A d, v = .slice A 2 d ∧ TVo W OK (⟨3, 0, ⟨0, 0⟩, [y, y]⟩ : Ex) A d, fun v W => ∃ A d, v = .agg #[.int .i64 3, .int .i64 0, .int .i64 0, .int .i64 0, .slice A 2 d] ∧ TVo W OK (⟨3, 0, ⟨0, 0⟩, [y, y]⟩ : Ex) A d] mixed (by kernel_rfl) ⟨fun _ => Lasts.const _, fun _ => Lasts.const _, fun _ W W' hb ⟨A, d, h1, h2⟩ => ⟨A, d, h1, ⟨Kd.V_below h2.v hb⟩⟩, fun _ W W' hb ⟨A, d, h1, h2⟩ => ⟨A, d, h1, ⟨Kd.V_below h2.v hb⟩⟩, fun _ W W' hb ⟨A, d, h1, h2⟩ => ⟨A, d, h1, ⟨Kd.V_below h2.v hb⟩⟩, trivial⟩ (by kernel_rfl) (by kernel_rfl) ?_ (fun _ W => ∃ A d, At w0 w g s N W ∧ Box W g3 34 (eC (⟨3, 0, ⟨0, 0⟩, [y, y]⟩ : Ex) A d) ∧ Box W g2 34 zE ∧ TVo W OK (⟨3, 0, ⟨0, 0⟩, [y, y]⟩ : Ex) A d) ?_ ?_
   ·refine ⟨?_, ?_, ?_, ?_, ?_, ?_, trivial⟩
    ·intro _ vs W hp hv b hs
     exact stepGet rfl rfl ((hs.old 3 rfl).trans rfl) hp.2.2.1 Tryd.underlying34 rfl (by kernel_rfl) ⟨Below.refl _ _, rfl⟩
    ·intro _ vs W hp hv b hs
     exact stepGet rfl rfl ((hs.old 3 rfl).trans rfl) hp.2.2.1 Tryd.underlying34 rfl (by kernel_rfl) ⟨Below.refl _ _, rfl⟩
    ·intro _ vs W hp hv b hs
     have h1 : vs 1 = .agg (eC y A' c') := hv 1 (by decide)
     refine stepCall rfl Tryd.func45 (by kernel_rfl) rfl #[vs 1] rfl (by simp [Act.eval, hs.tm 43 1 rfl]) (by rw [h1]; exact copy_any HO.out.1 hp.2.2.2.2) ?_
     rintro e W' ⟨A, d, rfl, hT, hb⟩
     exact ⟨_, rfl, hb, A, d, rfl, hT.mono fun k hk => okI k (by have := hp.2.1; have : W.heap.size ≤ k := hk; omega) (by have := blk_lt hp.2.2.1; have : W.heap.size ≤ k := hk; omega)⟩
    ·intro _ vs W hp hv b hs
     have h0 : vs 0 = .agg (eC y A' c') := hv 0 (by decide)
     obtain ⟨A, d, h2, hT⟩ : ∃ A d, vs 2 = .agg (eC y A d) ∧ TVo W OK y A d := hv 2 (by decide)
     have t0 := (hs.tm 42 0 rfl).trans (congrArg some h0)
     have t2 := (hs.tm 44 2 rfl).trans (congrArg some h2)
     refine stepLit k34 34 rfl rfl [y, y] [.int .i64 y.f0, .int .i64 y.f1, .int .i64 y.f2.f0, .int .i64 y.f2.f1, .slice A' y.f3.length c', .int .i64 y.f0, .int .i64 y.f1, .int .i64 y.f2.f0, .int .i64 y.f2.f1, .slice A y.f3.length d] OK (show (2 : Nat) ≤ 1000 by omega) (by go_simp; try rfl) (Reps.c5 (exLit_F y A' c' W _ hp.2.2.2.2) (Reps.c5 (exLit_F y A d W _ hT) (Reps.none _ _))) fun v W' hN hb => ?_
     obtain ⟨A9, c9, rfl⟩ := Kd.N_slice hN
     exact ⟨hb, A9, c9, rfl, TV.ofN hN fun k hk => hk.elim id fun e => okI k (by have := hp.2.1; omega) (by have := blk_lt hp.2.2.1; omega)⟩
    ·intro _ vs W hp hv b hs
     obtain ⟨A, d, h3, hT⟩ : ∃ A d, vs 3 = .slice A 2 d ∧ TVo W OK (⟨3, 0, ⟨0, 0⟩, [y, y]⟩ : Ex) A d := hv 3 (by decide)
     have t3 := (hs.tm 45 3 rfl).trans (congrArg some h3)
     exact stepVal rfl (by go_simp) ⟨Below.refl _ _, A, d, rfl, hT⟩
    ·intro h
     exact absurd h (by decide)
   ·intro o ho vs W hp hv b hs
    obtain rfl := Option.some.inj ho
    obtain ⟨A, d, h4, hT⟩ : ∃ A d, vs 4 = .agg #[.int .i64 3, .int .i64 0, .int .i64 0, .int .i64 0, .slice A 2 d] ∧ TVo W OK (⟨3, 0, ⟨0, 0⟩, [y, y]⟩ : Ex) A d := hv 4 (by decide)
    exact stepPutB rfl rfl ((hs.old 3 rfl).trans rfl) (eC (⟨3, 0, ⟨0, 0⟩, [y, y]⟩ : Ex) A d) ((hs.ev 46 4 rfl).trans h4) hp.2.2.1 rfl (by kernel_rfl) (by simp [Value.oneCell']) fun W' hbx' hput => ⟨A, d, hp.1.put1 hput (by omega), hbx', Box.put1 hp.2.2.2.1 hput (by omega), ⟨Kd.V_step hT.v fun k hk _ => hput.far k (okE k hk).2⟩⟩
   ·rintro vs W9 ⟨A, d, hA, hb3, hb2, hT⟩
    simp only [List.map_cons, List.map_nil, putL]
    simp only [Act.put, List.setIfInBounds_toArray, List.set_cons_zero, List.set_cons_succ]
    have HE := Aside0.mk (And.intro hA (And.intro hb3 (And.intro hT hb2)))
    clear hA hb3 hb2 hT
    go_wp2
    go_roundw
    case measure => have := HJ2.out; simp [intOf]; omega
    case rel =>
     rw [hw5]
     exact ⟨_, (⟨3, 0, ⟨0, 0⟩, [y, y]⟩ : Ex), A, d, rfl, ⟨j + 1, rfl, by have := HJ2.out; omega⟩, ⟨.mk _ (by simp) (by intro x hx; simp at hx; rw [hx]; exact HO.out.1), HE.out⟩⟩
 have c4 : (r == 4) = false := by simp [h4]
 clear h0 h1 h2 h3 h4
 have lb3 := H4.out.2.1
 have lb2 := H4.out.2.2.2
 go_wp2_with (first | ((with_reducible refine gate_dst (N := 47) rfl ?_); refine boxGet_ rfl rfl rfl rfl lb3 Tryd.underlying34 rfl (by kernel_rfl) ?_) | ((with_reducible refine gate_store (t := 34) (p := 2) rfl ?_); refine boxPut_ rfl rfl rfl rfl (eC x A c) (by rfl) lb2 rfl (by kernel_rfl) (by simp [Value.oneCell']) ?_; intro w9 hbx hput9))
 refine bodyPost_ret (results_cell_row rfl _ _ g2 34 (eC x A c) (0, 0) _ rfl hbx Tryd.underlying34 rfl (by kernel_rfl)) rfl ?_
 exact FIN.out _ x A c HX.out (At.less H4.out.1 (by omega)) H4.out.2.2.1 w9 hput9
theorem exBent_dr {w0 wb W : World} {g N : Nat} {s : List Int} (h : At w0 wb g s (N + 1000000) W) : Calls Tryd.prog 27 #[.pointer (some ⟨g, 0, none⟩)] W fun e W' => ∃ (x : Ex) (A : Option Addr) (c : Nat), e = .returned (.agg #[.int .i64 x.f0, .int .i64 x.f1, .int .i64 x.f2.f0, .int .i64 x.f2.f1, .slice A x.f3.length c]) ∧ Tiny x ∧ TVo W' (fun k => W.heap.size ≤ k) x A c ∧ At w0 wb g s N W' ∧ KeepBut W W' g none :=
 (exBent_at h.here).mono fun e w' ⟨x, A, c, h1, h2, h3, h7⟩ => ⟨x, A, c, h1, h2, h3, h7.over h, h7.k⟩

end Go.Proofs.YtfmipdhkiahjoaaDoor.B
/- Charts that are drawn: what is known of them as they are made. -/
namespace Go.Proofs.YtfmipdhkiahjoaaDoor.B
open Go Go.RowKit Go.Shelf Go.Proofs.YtfmipdhkiahjoaaDoorW.PrintWords Go.Proofs.YtfmipdhkiahjoaaDoorW.PrintLast Go.Proofs.YtfmipdhkiahjoaaDoorW.PrintMore
set_option linter.unusedVariables false
/-- What a region of operations still owes: c for each of L that has not come up. -/
def owe (L : List Nat) (c : Nat) (l : Nat → Bool) : Nat := (L.filter fun j => !l j).length * c
theorem filter_le {p q : Nat → Bool} (h : ∀ j, q j = true → p j = true) : ∀ L : List Nat, (L.filter q).length ≤ (L.filter p).length
 | [] => Nat.le_refl _
 | a :: L => by
  have := filter_le h L
  simp only [List.filter_cons]
  cases hb : q a with
  | true => rw [h a hb]; simp; exact this
  | false => cases p a <;> simp <;> omega
theorem owe_skip (L : List Nat) (c : Nat) (l : Nat → Bool) (i : Nat) : owe L c (fun j => j == i || l j) ≤ owe L c l :=
 Nat.mul_le_mul_right c (filter_le (fun j h => by simp at h ⊢; exact h.2) L)
theorem owe_take {L : List Nat} {c : Nat} {l : Nat → Bool} {i : Nat} (hi : L.contains i = true) (hl : l i = false) : owe L c (fun j => j == i || l j) + c ≤ owe L c l := by
 have := filter_lt (p := fun j => !l j) (q := fun j => !(j == i || l j)) (i := i) (fun j h => by simp at h ⊢; exact h.2) (by simp [hl]) (by simp) L (by simpa using hi)
 unfold owe
 have h2 := Nat.mul_le_mul_right c (show (L.filter fun j => !(j == i || l j)).length + 1 ≤ (L.filter fun j => !l j).length by omega)
 rw [Nat.add_mul, Nat.one_mul] at h2
 exact h2
theorem owe_start (L : List Nat) (c : Nat) : owe L c (fun _ => false) = L.length * c := by
 have h : L.filter (fun j => !(fun _ : Nat => false) j) = L := List.filter_eq_self.2 (fun _ _ => rfl)
 unfold owe
 rw [h]
/-- A row of numbers, read alone. -/
structure IVo (W : World) (ok : Nat → Prop) (l : List Int) (A : Option Addr) (c : Nat) : Prop where
 v : Kd.V (Kd.int .i64) 3 W 0 ok (.slice A l.length c) l
theorem IVo.keep {W W' : World} {g : Nat} {ok : Nat → Prop} {l : List Int} {A : Option Addr} {c : Nat} (h : IVo W ok l A c) (hk : KeepBut W W' g none) (hok : ∀ k, ok k → k ≠ g) : IVo W' ok l A c := ⟨Kd.V_keep h.v hk hok⟩
theorem IVo.mono {W : World} {ok ok' : Nat → Prop} {l : List Int} {A : Option Addr} {c : Nat} (h : IVo W ok l A c) (hok : ∀ k, ok k → ok' k) : IVo W ok' l A c := ⟨Kd.V_mono h.v hok⟩
theorem IVo.bound {W : World} {ok : Nat → Prop} {l : List Int} {A : Option Addr} {c : Nat} (h : IVo W ok l A c) : IVo W (fun k => ok k ∧ k < W.heap.size) l A c := ⟨Kd.V_bound h.v⟩
theorem IVo.far {W W' : World} {ok : Nat → Prop} {l : List Int} {A : Option Addr} {c g : Nat} (h : IVo W ok l A c) (hp : Put1 g W W') (hg : ¬ ok g) : IVo W' ok l A c := ⟨Kd.V_step h.v fun k hk _ => hp.far k fun e => hg (e ▸ hk)⟩
theorem IVo.reads {W : World} {ok : Nat → Prop} {l : List Int} {A : Option Addr} {c : Nat} (h : IVo W ok l A c) : l.length ≤ c ∧ Kd.C (Kd.int .i64) W A l.length l := (Kd.V_reads' h.v).2
theorem TVo.bound {W : World} {ok : Nat → Prop} {x : Ex} {A : Option Addr} {c : Nat} (h : TVo W ok x A c) : TVo W (fun k => ok k ∧ k < W.heap.size) x A c := ⟨Kd.V_bound h.v⟩
theorem TVo.far {W W' : World} {ok : Nat → Prop} {x : Ex} {A : Option Addr} {c g : Nat} (h : TVo W ok x A c) (hp : Put1 g W W') (hg : ¬ ok g) : TVo W' ok x A c := ⟨Kd.V_step h.v fun k hk _ => hp.far k fun e => hg (e ▸ hk)⟩
theorem some_loop (s : List Int) (hs : Bytes s) (hl : s.length ≤ 2000) (n : Int) (h1 : 1 ≤ n) (h2 : n ≤ 100) : ∀ (d : Nat) (i : Int) (l : List Int) (p : Int), i + d = n → 0 ≤ i → (l.length : Int) ≤ i → 0 ≤ p → p + d + 10 < 1099300000000 →
  ∃ (l' : List Int) (p' : Int), l'.length ≤ 101 ∧ p ≤ p' ∧ p' ≤ p + d + 1 ∧ ∀ k, d + 10 ≤ k → spec_l8Some.l0 k n l i s p = some (l', p') := by
 intro d
 induction d with
 | zero =>
  intro i l p hi i0 hl0 hp hp1
  by_cases hz : (l.length : Int) = 0
  ·obtain ⟨r, r0, r1, hr⟩ := pick_total s hs hl p n hp (by omega) h1 (by omega)
   refine ⟨[r], p + 1, by simp, by omega, by omega, fun k hk => ?_⟩
   obtain ⟨k', rfl⟩ : ∃ k', k = k' + 1 + 1 := ⟨k - 2, by omega⟩
   rw [spec_l8Some.l0, if_neg (by omega), if_pos hz, hr k', Option.bind_some]
  ·refine ⟨l, p, by omega, by omega, by omega, fun k hk => ?_⟩
   obtain ⟨k', rfl⟩ : ∃ k', k = k' + 1 := ⟨k - 1, by omega⟩
   rw [spec_l8Some.l0, if_neg (by omega), if_neg hz]
 | succ d ih =>
  intro i l p hi i0 hl0 hp hp1
  obtain ⟨r, r0, r1, hr⟩ := pick_total s hs hl p 3 hp (by omega) (by omega) (by omega)
  have hw : wrap64 (i + 1) = i + 1 := by unfold wrap64; omega
  by_cases hz : r = 0
  ·obtain ⟨l', p', q1, q2, q3, hk'⟩ := ih (i + 1) (l ++ [i]) (p + 1) (by omega) (by omega) (by simp; omega) (by omega) (by omega)
   refine ⟨l', p', q1, by omega, by omega, fun k hk => ?_⟩
   obtain ⟨k', rfl⟩ : ∃ k', k = k' + 1 + 1 := ⟨k - 2, by omega⟩
   rw [spec_l8Some.l0, if_pos (by omega), hr k', Option.bind_some]
   simp only [hz]
   rw [if_pos trivial, if_pos (by omega), hw]
   exact hk' _ (by omega)
  ·obtain ⟨l', p', q1, q2, q3, hk'⟩ := ih (i + 1) l (p + 1) (by omega) (by omega) (by omega) (by omega) (by omega)
   refine ⟨l', p', q1, by omega, by omega, fun k hk => ?_⟩
   obtain ⟨k', rfl⟩ : ∃ k', k = k' + 1 + 1 := ⟨k - 2, by omega⟩
   rw [spec_l8Some.l0, if_pos (by omega), hr k', Option.bind_some]
   simp only [hz, if_false]
   rw [hw]
   exact hk' _ (by omega)
theorem someP_dr {w0 wb W : World} {g N : Nat} {s : List Int} (n : Int) (h1 : 1 ≤ n) (h2 : n ≤ 100) (h : At w0 wb g s (N + 102) W) : Calls Tryd.prog 41 #[.pointer (some ⟨g, 0, none⟩), .int .i64 n] W fun e W' => ∃ (l : List Int) (A : Option Addr) (c : Nat), e = .returned (.slice A l.length c) ∧ l.length ≤ 101 ∧ IVo W' (Fr W) l A c ∧ At w0 wb g s N W' ∧ KeepBut W W' g none := by
 obtain ⟨q, q0, q1, hq⟩ := h.q
 obtain ⟨d, rfl⟩ := Int.eq_ofNat_of_zero_le (show 0 ≤ n by omega)
 obtain ⟨l, p, l0, p0, p1, hr⟩ := some_loop s h.by_ h.sl d h1 h2 d 0 [] q (by omega) (by omega) (by simp) q0 (by omega)
 refine (spec_l8Some.calls (d + 10) g s q d l p w0 W hq h.b (hr _ (Nat.le_refl _))).mono ?_
 rintro e W' ⟨v, rfl, hR, hi, hb, hk⟩
 obtain ⟨B, c, rfl⟩ := Kd.R_slice hR
 exact ⟨l, B, c, rfl, l0, ⟨Kd.V_mono (Kd.R_V (Kd.R_bound hR)) fun k hk => hk.2.1⟩, h.after q0 q1 (by omega) (by omega) hi hb hk, hk⟩
abbrev chC (s : Int) (n1 : Nat) (A1 : Option Addr) (c1 : Nat) (n2 : Nat) (A2 : Option Addr) (c2 : Nat) : Array Value := #[.int .i64 s, .slice A1 n1 c1, .slice A2 n2 c2]
abbrev zCh : Array Value := #[.int .i64 0, .slice none 0 0, .slice none 0 0]
abbrev trC (n0 : Nat) (A0 : Option Addr) (c0 : Nat) (n1 : Nat) (A1 : Option Addr) (c1 : Nat) (x : Ex) (A : Option Addr) (c : Nat) : Array Value := #[.slice A0 n0 c0, .slice A1 n1 c1, .int .i64 x.f0, .int .i64 x.f1, .int .i64 x.f2.f0, .int .i64 x.f2.f1, .slice A x.f3.length c]
abbrev zTr : Array Value := #[.slice none 0 0, .slice none 0 0, .int .i64 0, .int .i64 0, .int .i64 0, .int .i64 0, .slice none 0 0]
theorem IVo.nil (W : World) (ok : Nat → Prop) : IVo W ok [] none 0 := ⟨Kd.V_nil _ _ _ _ _⟩
theorem trLit_F {W : World} {ok : Nat → Prop} {l0 l1 : List Int} {x : Ex} {A0 A1 A : Option Addr} {c0 c1 c : Nat} (h0 : IVo W ok l0 A0 c0) (h1 : IVo W ok l1 A1 c1) (h2 : TVo W ok x A c) : Kd.FK k37 W ok (⟨l0, l1, x⟩ : ITr) (trC l0.length A0 c0 l1.length A1 c1 x A c).toList :=
 k37_mkF W ok (⟨l0, l1, x⟩ : ITr) h0.reads.1 (Kd.V_F h0.v) h1.reads.1 (Kd.V_F h1.v) h2.reads.1 (Kd.V_F h2.v)
def TrFit (t : ITr) : Prop := t.f0.length ≤ 101 ∧ t.f1.length ≤ 101 ∧ Tiny t.f2
def ChFit (n : Nat) (l : List ITr) (m : List IAc) : Prop := l.length ≤ n ∧ (∀ t ∈ l, TrFit t) ∧ m.length ≤ n
theorem ChFit.mono {n n' : Nat} {l : List ITr} {m : List IAc} (h : ChFit n l m) (hn : n ≤ n') : ChFit n' l m := ⟨by have := h.1; omega, h.2.1, by have := h.2.2; omega⟩
theorem ChFit.snocT {n : Nat} {l : List ITr} {m : List IAc} {t : ITr} (h : ChFit n l m) (ht : TrFit t) : ChFit (n + 1) (l ++ [t]) m := ⟨by have := h.1; simp; omega, fun x hx => by
 rcases List.mem_append.1 hx with hx | hx
 ·exact h.2.1 x hx
 ·simp at hx; rw [hx]; exact ht, by have := h.2.2; omega⟩
theorem ChFit.snocA {n : Nat} {l : List ITr} {m : List IAc} {a : IAc} (h : ChFit n l m) : ChFit (n + 1) l (m ++ [a]) := ⟨by have := h.1; omega, h.2.1, by have := h.2.2; simp; omega⟩
/-- A chart as it is made: variable g3, result g2, its two lists on memory of their own. -/
structure ChAt (g2 g3 base : Nat) (KT KA : Nat → Prop) (s : Int) (l : List ITr) (A1 : Option Addr) (c1 : Nat) (m : List IAc) (A2 : Option Addr) (c2 : Nat) (W : World) : Prop where
 b3 : Box W g3 26 (chC s l.length A1 c1 m.length A2 c2)
 b2 : Box W g2 26 zCh
 t : Kd.N k37 37 W base KT (.slice A1 l.length c1) l
 a : Kd.N k39 39 W base KA (.slice A2 m.length c2) m
section
variable {g2 g3 base g : Nat} {KT KA KT' KA' : Nat → Prop} {s : Int} {l : List ITr} {A1 A2 : Option Addr} {c1 c2 : Nat} {m : List IAc} {W W' : World}
theorem ChAt.keep (h : ChAt g2 g3 base KT KA s l A1 c1 m A2 c2 W) (hk : KeepBut W W' g none) (h2 : g2 ≠ g) (h3 : g3 ≠ g) (hT : ∀ k, KT k → k ≠ g) (hA : ∀ k, KA k → k ≠ g) : ChAt g2 g3 base KT KA s l A1 c1 m A2 c2 W' := ⟨Box.keepK h.b3 hk h3, Box.keepK h.b2 hk h2, Kd.N_keep h.t hk hT, Kd.N_keep h.a hk hA⟩
theorem ChAt.put1 (h : ChAt g2 g3 base KT KA s l A1 c1 m A2 c2 W) {b : Nat} (hp : Put1 b W W') (h2 : g2 ≠ b) (h3 : g3 ≠ b) (hT : ∀ k, KT k → k < W.heap.size → k ≠ b) (hA : ∀ k, KA k → k < W.heap.size → k ≠ b) : ChAt g2 g3 base KT KA s l A1 c1 m A2 c2 W' := ⟨Box.put1 h.b3 hp h3, Box.put1 h.b2 hp h2, Kd.N_step h.t fun k hk hl => hp.far k (hT k hk hl), Kd.N_step h.a fun k hk hl => hp.far k (hA k hk hl)⟩
theorem ChAt.below (h : ChAt g2 g3 base KT KA s l A1 c1 m A2 c2 W) (hb : Below W.heap.size W W') : ChAt g2 g3 base KT KA s l A1 c1 m A2 c2 W' := ⟨blk_below h.b3 hb, blk_below h.b2 hb, Kd.N_below h.t hb, Kd.N_below h.a hb⟩
theorem ChAt.mono (h : ChAt g2 g3 base KT KA s l A1 c1 m A2 c2 W) (hT : ∀ k, KT k → k < W.heap.size → KT' k) (hA : ∀ k, KA k → k < W.heap.size → KA' k) : ChAt g2 g3 base KT' KA' s l A1 c1 m A2 c2 W := ⟨h.b3, h.b2, Kd.N_mono (Kd.N_bound h.t) fun k hk => hT k hk.1 hk.2, Kd.N_mono (Kd.N_bound h.a) fun k hk => hA k hk.1 hk.2⟩
theorem Box.grown {b : Nat} {T : TypeId} {cs : Array Value} {row : Option Nat} (h : Box W b T cs) (hg : W.grownBy W' row) (hr : row ≠ some b) : Box W' b T cs := (hg.block b (blk_lt h) (fun e => hr e.symm)).trans h
end
section
variable {ops : Array Oper} {o : Oper} {b : Act} {W : World} {Ψ : Value → World → Prop}
/-- A row of one number. -/
theorem stepInt1 {P : Program} {N : Tmp} (x : Int) (hw : Region.wanted o (yielded ops b.tmps) = true) (hd : o.dst = some N) (hrun : (execOp b.eval o).run P W = .ok (.value (.slice (some ⟨W.heap.size, 0, none⟩) 1 1)) (W.alloc (.cells #[.int .i64 x] 3)))
  (h : ∀ A c W', IVo W' (Fr W) [x] A c → Below W.heap.size W W' → Ψ (.slice A 1 c) W') : StepOK P ops o b W Ψ := fun K Q hK =>
 Kd.R_lit_step (Kd.int .i64) W.heap.size 3 (ok := Fr W) (okp := Fr W) (xs := [x]) (inner := [.int .i64 x]) hw hd hrun (reps_ints W _ _ [x]) (fun _ hk => hk) (Nat.le_refl _) (Below.refl _ _) (Nat.le_refl _) (by simp) fun v1 w1 hR hb _ _ => by
  obtain ⟨A, c, rfl⟩ := Kd.R_slice hR
  exact hK _ _ (h A c w1 ⟨Kd.R_V hR⟩ hb)
/-- A list of one way. -/
theorem stepTr1 {P : Program} {N : Tmp} (t : ITr) (cs : List Value) (okp : Nat → Prop) (hw : Region.wanted o (yielded ops b.tmps) = true) (hd : o.dst = some N) (hrun : (execOp b.eval o).run P W = .ok (.value (.slice (some ⟨W.heap.size, 0, none⟩) 1 1)) (W.alloc (.cells cs.toArray 37)))
  (hn : okp W.heap.size) (hF : Kd.FK k37 W okp t cs) (hc : cs.length = 7) (h : ∀ A c W', Kd.V k37 37 W' 0 okp (.slice A 1 c) [t] → Below W.heap.size W W' → Ψ (.slice A 1 c) W') : StepOK P ops o b W Ψ := fun K Q hK =>
 Kd.N_lit_step k37 W.heap.size 37 (ok := okp) (okp := okp) (xs := [t]) (inner := cs) hw hd hrun (Reps.front hF hc (Reps.none _ _) (by simp)) (fun _ hk => hk) hn (Below.refl _ _) (Nat.le_refl _) (by simp) fun v1 w1 hR hb _ _ => by
  obtain ⟨A, c, rfl⟩ := Kd.N_slice hR
  exact hK _ _ (h A c w1 (Kd.N_V hR) hb)
theorem stepAc1 {P : Program} {N : Tmp} (t : IAc) (okp : Nat → Prop) (hw : Region.wanted o (yielded ops b.tmps) = true) (hd : o.dst = some N) (hrun : (execOp b.eval o).run P W = .ok (.value (.slice (some ⟨W.heap.size, 0, none⟩) 1 1)) (W.alloc (.cells #[.int .i64 t.f0, .int .i64 t.f1, .int .i64 t.f2.f0, .int .i64 t.f2.f1] 39)))
  (hn : okp W.heap.size) (h : ∀ A c W', Kd.V k39 39 W' 0 okp (.slice A 1 c) [t] → Below W.heap.size W W' → Ψ (.slice A 1 c) W') : StepOK P ops o b W Ψ := fun K Q hK =>
 Kd.N_lit_step k39 W.heap.size 39 (ok := okp) (okp := okp) (xs := [t]) (inner := [.int .i64 t.f0, .int .i64 t.f1, .int .i64 t.f2.f0, .int .i64 t.f2.f1]) hw hd hrun (Reps.c4 (k39_mkF _ _ t) (Reps.none _ _)) (fun _ hk => hk) hn (Below.refl _ _) (Nat.le_refl _) (by simp) fun v1 w1 hR hb _ _ => by
  obtain ⟨A, c, rfl⟩ := Kd.N_slice hR
  exact hK _ _ (h A c w1 (Kd.N_V hR) hb)
variable {g2 g3 base g : Nat} {KT KA : Nat → Prop} {s : Int} {l : List ITr} {A1 A2 : Option Addr} {c1 c2 : Nat} {m : List IAc}
/-- What stands behind an append to the ways, ahead of the store. -/
structure ChT (g2 g3 base : Nat) (KT KA : Nat → Prop) (s : Int) (l : List ITr) (A1 : Option Addr) (c1 : Nat) (t : ITr) (B : Option Addr) (d : Nat) (m : List IAc) (A2 : Option Addr) (c2 : Nat) (W : World) : Prop where
 b3 : Box W g3 26 (chC s l.length A1 c1 m.length A2 c2)
 b2 : Box W g2 26 zCh
 t : Kd.N k37 37 W base KT (.slice B (l.length + 1) d) (l ++ [t])
 a : Kd.N k39 39 W base KA (.slice A2 m.length c2) m
structure ChA (g2 g3 base : Nat) (KT KA : Nat → Prop) (s : Int) (l : List ITr) (A1 : Option Addr) (c1 : Nat) (a : IAc) (B : Option Addr) (d : Nat) (m : List IAc) (A2 : Option Addr) (c2 : Nat) (W : World) : Prop where
 b3 : Box W g3 26 (chC s l.length A1 c1 m.length A2 c2)
 b2 : Box W g2 26 zCh
 t : Kd.N k37 37 W base KT (.slice A1 l.length c1) l
 a : Kd.N k39 39 W base KA (.slice B (m.length + 1) d) (m ++ [a])
theorem stepAppT {ss x : Operand} (hw : Region.wanted o (yielded ops b.tmps) = true) (ho : o.op = .call { callee := .builtin .append, args := #[ss, x], argTypes := #[23, 23] }) (hs : b.eval ss = .slice A1 l.length c1) {A : Option Addr} {c : Nat} (hx : b.eval x = .slice A 1 c) {t : ITr} {okp : Nat → Prop}
  (h : ChAt g2 g3 base KT KA s l A1 c1 m A2 c2 W) (hV : Kd.V k37 37 W 0 okp (.slice A 1 c) [t]) (hokp : ∀ k, okp k → KT k ∧ some k ≠ (Value.slice A1 l.length c1).ownBlock) (hfresh : ∀ k, W.heap.size ≤ k → KT k) (hbase : base ≤ W.heap.size) (hl : l.length ≤ 1000)
  (h2 : ¬ KT g2) (h3 : ¬ KT g3) (hd : ∀ k, KT k → ¬ KA k) (hΨ : ∀ B d W', ChT g2 g3 base KT KA s l A1 c1 t B d m A2 c2 W' → Below base W W' → (∀ k, k < W.heap.size → some k ≠ (Value.slice A1 l.length c1).ownBlock → W'.heap[k]? = W.heap[k]?) → W.heap.size ≤ W'.heap.size → Ψ (.slice B (l.length + 1) d) W') : StepOK Tryd.prog ops o b W Ψ := fun K Q hK =>
 Kd.N_append_rows_step k37 base hw ss x 23 37 (.agg zTr) 104 ho Tryd.underlying23 info37 rfl (by decide) (by omega) (.slice A1 l.length c1) l [t] A 1 c KT okp hs hx h.t (Kd.V_F hV) hokp hfresh (Below.refl base W) hbase (by omega) fun v1 w1 hN hb hg hat => by
  have h0 := h.t.1
  obtain ⟨B, d, rfl⟩ := Kd.N_slice hN
  have e2 : (l ++ [t]).length = l.length + 1 := by simp
  rw [e2] at hN ⊢
  exact hK _ _ (hΨ B d w1 ⟨Box.grown h.b3 hg fun e => h3 (h0 _ e), Box.grown h.b2 hg fun e => h2 (h0 _ e), hN, Kd.N_grown h.a hg fun k hk e => hd k (h0 _ e.symm) hk⟩ hb (fun k hk hr => hg.block k hk hr) hg.size)
theorem stepAppA {ss x : Operand} (hw : Region.wanted o (yielded ops b.tmps) = true) (ho : o.op = .call { callee := .builtin .append, args := #[ss, x], argTypes := #[24, 24] }) (hs : b.eval ss = .slice A2 m.length c2) {A : Option Addr} {c : Nat} (hx : b.eval x = .slice A 1 c) {t : IAc} {okp : Nat → Prop}
  (h : ChAt g2 g3 base KT KA s l A1 c1 m A2 c2 W) (hV : Kd.V k39 39 W 0 okp (.slice A 1 c) [t]) (hokp : ∀ k, okp k → KA k ∧ some k ≠ (Value.slice A2 m.length c2).ownBlock) (hfresh : ∀ k, W.heap.size ≤ k → KA k) (hbase : base ≤ W.heap.size) (hl : m.length ≤ 1000)
  (h2 : ¬ KA g2) (h3 : ¬ KA g3) (hd : ∀ k, KT k → ¬ KA k) (hΨ : ∀ B d W', ChA g2 g3 base KT KA s l A1 c1 t B d m A2 c2 W' → Below base W W' → (∀ k, k < W.heap.size → some k ≠ (Value.slice A2 m.length c2).ownBlock → W'.heap[k]? = W.heap[k]?) → W.heap.size ≤ W'.heap.size → Ψ (.slice B (m.length + 1) d) W') : StepOK Tryd.prog ops o b W Ψ := fun K Q hK =>
 Kd.N_append_rows_step k39 base hw ss x 24 39 (.agg #[.int .i64 0, .int .i64 0, .int .i64 0, .int .i64 0]) 32 ho Tryd.underlying24 info39 rfl (by decide) (by omega) (.slice A2 m.length c2) m [t] A 1 c KA okp hs hx h.a (Kd.V_F hV) hokp hfresh (Below.refl base W) hbase (by omega) fun v1 w1 hN hb hg hat => by
  have h0 := h.a.1
  obtain ⟨B, d, rfl⟩ := Kd.N_slice hN
  have e2 : (m ++ [t]).length = m.length + 1 := by simp
  rw [e2] at hN ⊢
  exact hK _ _ (hΨ B d w1 ⟨Box.grown h.b3 hg fun e => h3 (h0 _ e), Box.grown h.b2 hg fun e => h2 (h0 _ e), Kd.N_grown h.t hg fun k hk e => hd k hk (h0 _ e.symm), hN⟩ hb (fun k hk hr => hg.block k hk hr) hg.size)
/-- A field of the chart's variable is stored. -/
theorem stepField {P : Program} {T : TypeId} {q : Tmp} {x : Operand} {i : Nat} {cs : Array Value} {v : Value} {U : TypeId} (hw : Region.wanted o (yielded ops b.tmps) = true) (ho : o.op = .store T (.tmp q) x) (hb : Box W g U cs)
  (hrun : (execOp b.eval o).run P W = .ok .skip (W.setCell ⟨g, i, none⟩ v)) (h : ∀ W', Box W' g U (cs.setIfInBounds i v) → Put1 g W W' → Ψ undef W') : StepOK P ops o b W Ψ := fun K Q hK => by
 rw [if_pos hw]
 unfold Oper.wp
 rw [hrun]
 exact hK _ _ (h _ (blk_set hb i v) ⟨rfl, rfl, rfl, by simp [World.setCell], fun j hj => Below.heap_setCell _ _ _ _ hj⟩)
theorem ChT.put {t : ITr} {B : Option Addr} {d : Nat} {W W' : World} (h : ChT g2 g3 base KT KA s l A1 c1 t B d m A2 c2 W) (h23 : g2 ≠ g3) (hT : ¬ KT g3) (hA : ¬ KA g3) (hb : Box W' g3 26 ((chC s l.length A1 c1 m.length A2 c2).setIfInBounds 1 (.slice B (l.length + 1) d))) (hp : Put1 g3 W W') : ChAt g2 g3 base KT KA s (l ++ [t]) B d m A2 c2 W' := by
 have e2 : (l ++ [t]).length = l.length + 1 := by simp
 refine ⟨?_, Box.put1 h.b2 hp h23, ?_, Kd.N_step h.a fun k hk _ => hp.far k fun e => hA (e ▸ hk)⟩
 ·rw [e2]; exact hb
 ·rw [e2]; exact Kd.N_step h.t fun k hk _ => hp.far k fun e => hT (e ▸ hk)
theorem ChA.put {t : IAc} {B : Option Addr} {d : Nat} {W W' : World} (h : ChA g2 g3 base KT KA s l A1 c1 t B d m A2 c2 W) (h23 : g2 ≠ g3) (hT : ¬ KT g3) (hA : ¬ KA g3) (hb : Box W' g3 26 ((chC s l.length A1 c1 m.length A2 c2).setIfInBounds 2 (.slice B (m.length + 1) d))) (hp : Put1 g3 W W') : ChAt g2 g3 base KT KA s l A1 c1 (m ++ [t]) B d W' := by
 have e2 : (m ++ [t]).length = m.length + 1 := by simp
 refine ⟨?_, Box.put1 h.b2 hp h23, Kd.N_step h.t fun k hk _ => hp.far k fun e => hT (e ▸ hk), ?_⟩
 ·rw [e2]; exact hb
 ·rw [e2]; exact Kd.N_step h.a fun k hk _ => hp.far k fun e => hA (e ▸ hk)
end
end Go.Proofs.YtfmipdhkiahjoaaDoor.B
