import Derived.Test.YtendbgedpjcocaaGreatDoorJnK
import Derived.Test.YtendbgedpjcocaaGreatDoorJnD
import Derived.Test.YtendbgedpjcocaaGreatDoorPkB
import Derived.Test.YtendbgedpjcocaaGreatDoorJnL
import Derived.Test.YtendbgedpjcocaaGreatDoorJnA
import Derived.Test.YtendbgedpjcocaaGreatDoorJnI
/- spec.l2MemBent, spec.l12Open, by their size. -/
namespace Go.Proofs.YtendbgedpjcocaaGreatDoor.B
open Go Go.RowKit Go.Shelf Go.Proofs.YtendbgedpjcocaaGreatDoorW.PrintWords Go.Proofs.YtendbgedpjcocaaGreatDoorW.PrintLast Go.Proofs.YtendbgedpjcocaaGreatDoorW.PrintMore
set_option linter.unusedVariables false
/-- A row of numbers of one's own. -/
abbrev RI (W : World) (base : Nat) (v : Value) (l : List Int) : Prop := Kd.R (Kd.int .i64) 3 W base (fun k => base ≤ k) v l
theorem open_dr {w0 w : World} (l : List Int) (hw : ∀ x ∈ l, (Lit.int .u8 x).wf = true) (A : Option Addr) (c : Nat) (hC : Kd.C (Kd.int .u8) w0 A l.length l) (hc : l.length ≤ c) (hb : Below w0.heap.size w0 w) : Calls Tryz.prog 32 #[.slice A l.length c] w fun e W => ∃ g s, e = .returned (.pointer (some ⟨g, 0, none⟩)) ∧ At w0 W g s 1099000000000 W ∧ Below w.heap.size w W ∧ ∀ b T cs, Box W b T cs → T ≠ 93 → b ≠ g := by
 obtain ⟨s, hs, hl, ho⟩ := open_total l hw
 refine (spec_l12Open.calls A c l s 0 w0 w hb hC hc ho).mono ?_
 rintro e W ⟨g, rfl, hi, hb0, hb1⟩
 exact ⟨g, s, rfl, ⟨⟨0, by omega, by omega, hi⟩, hb0, KeepBut.refl _ _ _, hi.lt, hs, hl⟩, hb1, fun b T cs hbx hT => (hi.ne_blk hbx hT).symm⟩
theorem RI.mv {W : World} {base : Nat} {m : List Int × List Int × List Int} {p : (Option Addr × Nat) × (Option Addr × Nat) × (Option Addr × Nat)} (h0 : RI W base (.slice p.1.1 m.1.length p.1.2) m.1) (h1 : RI W base (.slice p.2.1.1 m.2.1.length p.2.1.2) m.2.1) (h2 : RI W base (.slice p.2.2.1 m.2.2.length p.2.2.2) m.2.2) : MV W m p :=
 ⟨(Kd.R_reads' h0).2.1, (Kd.R_reads' h0).2.2, (Kd.R_reads' h1).2.1, (Kd.R_reads' h1).2.2, (Kd.R_reads' h2).2.1, (Kd.R_reads' h2).2.2⟩
/- MBENT -/
theorem Row6.ri {W : World} {base q e : Nat} {l : List Int} (h : Row6 W base q e l) : RI W base (.slice (some ⟨q, 0, none⟩) 6 e) l :=
 own_R h h.len.symm _ fun k hk => by
  rcases h.2 with ⟨_, h0⟩ | ⟨g, cap, cur, hv, hg, _⟩
  ·omega
  ·injection hv with hv
   injection hv with hv
   injection hv with hv
   rw [← hv] at hg
   have : q = k := by simpa [Value.ownBlock] using hk
   omega
section
variable {P : Program} {ops : Array Oper} {o : Oper} {a : Act} {Q : Exit → Act → World → Prop} {W : World}
theorem setR_ {rest : List Oper} {T : TypeId} {q : Tmp} {x : Operand} {g i : Nat} {v : Value} (ho : o.op = .store T (.tmp q) x) (hd : o.dst = none) (hg : o.guard = none)
  (hrun : (execOp a.eval o).run P W = .ok .skip (W.setCell ⟨g, i, none⟩ v)) (h : ∀ W', W' = W.setCell ⟨g, i, none⟩ v → Put1 g W W' → wpList P ops Q rest a W') : wpList P ops Q (o :: rest) a W := by
 refine store_event hg ho hd hrun fun w' hw => ?_
 exact h w' hw (by subst hw; exact ⟨rfl, rfl, rfl, by simp [World.setCell], fun j hj => Below.heap_setCell _ _ _ _ hj⟩)
end
theorem RI.put1 {W W' : World} {base b : Nat} {v : Value} {l : List Int} (h : RI W base v l) (hp : Put1 b W W') (hb : ∀ k, v.ownBlock = some k → k ≠ b) : RI W' base v l := by
 obtain ⟨h0, inner, ⟨h1, h2⟩, hr⟩ := h
 refine ⟨h0, inner, ⟨h1, ?_⟩, hr⟩
 rcases h2 with h2 | ⟨k, cap, cur, rfl, hk, hh, r⟩
 ·exact .inl h2
 ·exact .inr ⟨k, cap, cur, rfl, hk, (hp.far k (hb k rfl)).trans hh, r⟩
set_option maxRecDepth 100000 in
set_option maxHeartbeats 4000000 in
theorem memBent_at {w0 w : World} {g N : Nat} {s : List Int} (h : At w0 w g s (N + 100) w) : Calls Tryz.prog 34 #[.pointer (some ⟨g, 0, none⟩)] w fun e W' => ∃ (m : List Int × List Int × List Int) (p : (Option Addr × Nat) × (Option Addr × Nat) × (Option Addr × Nat)), e = .returned (.agg #[.slice p.1.1 m.1.length p.1.2, .slice p.2.1.1 m.2.1.length p.2.1.2, .slice p.2.2.1 m.2.2.length p.2.2.2]) ∧ Mini m.1 m.2.1 m.2.2 ∧ RI W' w.heap.size (.slice p.1.1 m.1.length p.1.2) m.1 ∧ RI W' w.heap.size (.slice p.2.1.1 m.2.1.length p.2.1.2) m.2.1 ∧ RI W' w.heap.size (.slice p.2.2.1 m.2.2.length p.2.2.2) m.2.2 ∧ At w0 w g s N W' := by
 have fr := h.fresh
 have H0 := Aside0.mk h
 clear h
 go_enter Tryz.func34, Tryz.ntmps34
 go_wp2_with ((with_reducible refine gate_dst (N := 2) rfl ?_); refine boxNew_ rfl rfl mZ 30 ?hr ?_; (case hr => (go_simp; first | done | rfl)); intro g2 w1 hg2' b2 hb1; have hg2 := Nat.le_of_eq hg2'.symm; clear hg2')
 have n2 : g2 ≠ g := fr g2 hg2
 have s1 := hb1.size
 have H1 := Aside0.mk (show At w0 w g s (N + 50 + 20) w1 ∧ Box w1 g2 30 mZ from ⟨At.less (At.below H0.out hb1) (by omega), b2⟩)
 clear H0 b2 hb1
 have hg2s := blk_lt H1.out.2
 refine (mem_at (At.here H1.out.1)).mono ?_
 rintro e w2 ⟨q0, e0, q1, e1, q2, e2, l0, l1, l2, rfl, hR0, hR1, hR2, a01, a02, a12, hA⟩
 have t0 := own_lt hR0 q0 rfl
 have t1 := own_lt hR1 q1 rfl
 have t2 := own_lt hR2 q2 rfl
 have u0 := (own_blk hR0)
 have hq : w1.heap.size ≤ q0 ∧ w1.heap.size ≤ q1 ∧ w1.heap.size ≤ q2 := ⟨hR0.ri.1 q0 rfl, hR1.ri.1 q1 rfl, hR2.ri.1 q2 rfl⟩
 have ll := And.intro hR0.len (And.intro hR1.len hR2.len)
 have ec := And.intro (own_le hR0) (And.intro (own_le hR1) (own_le hR2))
 have nq0 : q0 ≠ g := fr q0 (by omega)
 have nq1 : q1 ≠ g := fr q1 (by omega)
 have nq2 : q2 ≠ g := fr q2 (by omega)
 clear u0
 have hk := hA.k
 have H2 := Aside0.mk (show At w0 w g s (N + 50) w2 ∧ Row6 w2 w1.heap.size q0 e0 l0 ∧ Row6 w2 w1.heap.size q1 e1 l1 ∧ Row6 w2 w1.heap.size q2 e2 l2 ∧ Box w2 g2 30 mZ from ⟨At.over hA H1.out.1, hR0, hR1, hR2, Box.keep H1.out.2 hk n2⟩)
 clear H1 hA hk hR0 hR1 hR2
 go_wp2_with ((with_reducible refine gate_dst (N := 3) rfl ?_); refine new1_ (N := 3) (x := 5) (T := 30) (#[.slice (some ⟨q0, 0, none⟩) 6 e0, .slice (some ⟨q1, 0, none⟩) 6 e1, .slice (some ⟨q2, 0, none⟩) 6 e2]) (zs := #[.slice none 0 0, .slice none 0 0, .slice none 0 0]) (by simp [Value.oneCell']) ?_ ?_ ?_ ?_ ?_ ?_ ?_ ?_ ?_ ?_ ?_ ?_ ?_)
 all_goals (first | rfl | decide | (intro _ _; go_simp; done) | kernel_rfl | skip)
 intro g3 w3 hg3 b3 hb
 simp only [Act.put, List.setIfInBounds_toArray, List.set_cons_zero, List.set_cons_succ]
 have n3 : g3 ≠ g := fr g3 (by omega)
 have H3 := Aside0.mk (show At w0 w g s (N + 49 + 1) w3 ∧ Box w3 g3 30 #[.slice (some ⟨q0, 0, none⟩) 6 e0, .slice (some ⟨q1, 0, none⟩) 6 e1, .slice (some ⟨q2, 0, none⟩) 6 e2] ∧ Row6 w3 w1.heap.size q0 e0 l0 ∧ Row6 w3 w1.heap.size q1 e1 l1 ∧ Row6 w3 w1.heap.size q2 e2 l2 ∧ Box w3 g2 30 mZ from ⟨At.less (At.below H2.out.1 hb) (by omega), b3, Row6.keep H2.out.2.1 (kb_below (g := g) hb) nq0, Row6.keep H2.out.2.2.1 (kb_below (g := g) hb) nq1, Row6.keep H2.out.2.2.2.1 (kb_below (g := g) hb) nq2, Box.keep H2.out.2.2.2.2 (kb_below (g := g) hb) n2⟩)
 clear H2 hb b3
 go_wp2_with fail
 refine (pick_dr H3.out.1 30 (by omega) (by omega)).mono ?_
 rintro e w4 ⟨r, rfl, r0, r1, hA, hk⟩
 have hk4 := hk.1
 have H4 := Aside0.mk (show At w0 w g s (N + 49) w4 ∧ Box w4 g3 30 #[.slice (some ⟨q0, 0, none⟩) 6 e0, .slice (some ⟨q1, 0, none⟩) 6 e1, .slice (some ⟨q2, 0, none⟩) 6 e2] ∧ Row6 w4 w1.heap.size q0 e0 l0 ∧ Row6 w4 w1.heap.size q1 e1 l1 ∧ Row6 w4 w1.heap.size q2 e2 l2 ∧ Box w4 g2 30 mZ from ⟨hA, Box.keep H3.out.2.1 hk n3, Row6.keep H3.out.2.2.1 hk nq0, Row6.keep H3.out.2.2.2.1 hk nq1, Row6.keep H3.out.2.2.2.2.1 hk nq2, Box.keep H3.out.2.2.2.2.2 hk n2⟩)
 clear H3 hA hk
 have dis : g3 ≠ q0 ∧ g3 ≠ q1 ∧ g3 ≠ q2 ∧ g2 ≠ q0 ∧ g2 ≠ q1 ∧ g2 ≠ q2 ∧ g2 ≠ g3 ∧ w.heap.size ≤ g3 := ⟨by omega, by omega, by omega, by omega, by omega, by omega, by omega, by omega⟩
 have low : ∀ (W W' : World) (v : Value) (l : List Int), RI W w1.heap.size v l → Put1 g2 W W' → RI W' w.heap.size v l := fun W W' v l h hp => Kd.R_lower (Kd.R_mono (RI.put1 h hp fun k hk => by have := h.1 k hk; omega) fun k hk => by have : w1.heap.size ≤ k := hk; omega) (by omega)
 have LOW := Aside0.mk low
 clear low
 have fin : ∀ (W W' : World) (A0 A1 A2 : Option Addr) (n0 n1 n2 c0 c1 c2 : Nat) (m0 m1 m2 : List Int), n0 = m0.length → n1 = m1.length → n2 = m2.length → n0 ≤ 7 ∧ n1 ≤ 7 ∧ n2 ≤ 7 → RI W w1.heap.size (.slice A0 n0 c0) m0 → RI W w1.heap.size (.slice A1 n1 c1) m1 → RI W w1.heap.size (.slice A2 n2 c2) m2 → At w0 w g s N W → Put1 g2 W W' → ∃ (m : List Int × List Int × List Int) (p : (Option Addr × Nat) × (Option Addr × Nat) × (Option Addr × Nat)), Ending.returned (Value.agg #[.slice A0 n0 c0, .slice A1 n1 c1, .slice A2 n2 c2]) = .returned (.agg #[.slice p.1.1 m.1.length p.1.2, .slice p.2.1.1 m.2.1.length p.2.1.2, .slice p.2.2.1 m.2.2.length p.2.2.2]) ∧ Mini m.1 m.2.1 m.2.2 ∧ RI W' w.heap.size (.slice p.1.1 m.1.length p.1.2) m.1 ∧ RI W' w.heap.size (.slice p.2.1.1 m.2.1.length p.2.1.2) m.2.1 ∧ RI W' w.heap.size (.slice p.2.2.1 m.2.2.length p.2.2.2) m.2.2 ∧ At w0 w g s N W' := by
  intro W W' A0 A1 A2 n0 n1 n2 c0 c1 c2 m0 m1 m2 h0 h1 h2 hm r0 r1 r2 hA hp
  subst h0 h1 h2
  exact ⟨(m0, m1, m2), ((A0, c0), (A1, c1), (A2, c2)), rfl, hm, LOW.out _ _ _ _ r0 hp, LOW.out _ _ _ _ r1 hp, LOW.out _ _ _ _ r2 hp, hA.put1 hp hg2⟩
 have FIN := Aside0.mk fin
 clear fin
 by_cases h0 : r = 0
 ·have c0 : (r == 0) = true := by simp [h0]
  clear h0
  have lb := H4.out.2.1
  have lb2 := H4.out.2.2.2.2.2
  have cc := (Box.cell lb 0 _ rfl).1
  have cf := (Box.cell lb 0 _ rfl).2
  have ec2 : 2 ≤ e0 := by omega
  go_wp2_with (first | ((with_reducible refine gate_store (t := 28) (p := 13) rfl ?_); refine setF_ (i := 0) (v := .slice (some ⟨q0, 0, none⟩) 2 e0) rfl rfl rfl lb (by go_simp) ?_; intro w7 hb7 hput; have lb27 := Box.put1 lb2 hput (by omega)) | ((with_reducible refine gate_dst (N := 26) rfl ?_); refine boxGet_ rfl rfl rfl rfl hb7 Tryz.underlying30 rfl (by kernel_rfl) ?_) | ((with_reducible refine gate_store (t := 30) (p := 2) rfl ?_); refine boxPut_ rfl rfl rfl rfl (#[.slice (some ⟨q0, 0, none⟩) 2 e0, .slice (some ⟨q1, 0, none⟩) 6 e1, .slice (some ⟨q2, 0, none⟩) 6 e2]) (by rfl) lb27 rfl (by kernel_rfl) (by simp [Value.oneCell']) ?_; intro w9 hbx hput9))
  refine bodyPost_ret (results_cell_row rfl _ _ g2 30 (#[.slice (some ⟨q0, 0, none⟩) 2 e0, .slice (some ⟨q1, 0, none⟩) 6 e1, .slice (some ⟨q2, 0, none⟩) 6 e2]) (0, 0) _ rfl hbx Tryz.underlying30 rfl (by kernel_rfl)) rfl ?_
  exact FIN.out _ w9 _ _ _ _ _ _ _ _ _ (l0.take 2) l1 l2 (by rw [List.length_take, ll.1]; rfl) ll.2.1.symm ll.2.2.symm (by omega) (Kd.R_take (Row6.ri (Row6.put1 (H4.out.2.2.1) hput (by omega))) (by omega)) (Row6.ri (Row6.put1 (H4.out.2.2.2.1) hput (by omega))) (Row6.ri (Row6.put1 (H4.out.2.2.2.2.1) hput (by omega))) (At.less (At.put1 H4.out.1 hput (by omega)) (by omega)) hput9
 have c0 : (r == 0) = false := by simp [h0]
 by_cases h1 : r = 1
 ·have c1 : (r == 1) = true := by simp [h1]
  clear h0 h1
  have lb := H4.out.2.1
  have lb2 := H4.out.2.2.2.2.2
  have cc := (Box.cell lb 2 _ rfl).1
  have hat := own_at (H4.out.2.2.2.2.1) 0 (by omega) (by omega)
  have ca := hat.1
  have cb := hat.2
  simp only [Int.toNat_zero] at ca cb
  go_wp2_with (first | ((with_reducible refine gate_store (t := 3) (p := 18) rfl ?_); refine setR_ (g := q2) (i := 0) (v := .int .i64 1000001) rfl rfl rfl (by go_simp) ?_; intro w7 hw7 hput; have lb7 := Box.put1 lb hput (by omega); have lb27 := Box.put1 lb2 hput (by omega)) | ((with_reducible refine gate_dst (N := 26) rfl ?_); refine boxGet_ rfl rfl rfl rfl lb7 Tryz.underlying30 rfl (by kernel_rfl) ?_) | ((with_reducible refine gate_store (t := 30) (p := 2) rfl ?_); refine boxPut_ rfl rfl rfl rfl (#[.slice (some ⟨q0, 0, none⟩) 6 e0, .slice (some ⟨q1, 0, none⟩) 6 e1, .slice (some ⟨q2, 0, none⟩) 6 e2]) (by rfl) lb27 rfl (by kernel_rfl) (by simp [Value.oneCell']) ?_; intro w9 hbx hput9))
  have hr2 : Row6 w7 w1.heap.size q2 e2 (l2.set 0 1000001) := by rw [hw7]; exact (own_store (H4.out.2.2.2.2.1) 0 1000001).1
  refine bodyPost_ret (results_cell_row rfl _ _ g2 30 (#[.slice (some ⟨q0, 0, none⟩) 6 e0, .slice (some ⟨q1, 0, none⟩) 6 e1, .slice (some ⟨q2, 0, none⟩) 6 e2]) (0, 0) _ rfl hbx Tryz.underlying30 rfl (by kernel_rfl)) rfl ?_
  exact FIN.out _ w9 _ _ _ _ _ _ _ _ _ l0 l1 (l2.set 0 1000001) ll.1.symm ll.2.1.symm (by rw [List.length_set]; exact ll.2.2.symm) (by omega) (Row6.ri (Row6.put1 (H4.out.2.2.1) hput (by omega))) (Row6.ri (Row6.put1 (H4.out.2.2.2.1) hput (by omega))) hr2.ri (At.less (At.put1 H4.out.1 hput (by omega)) (by omega)) hput9
 have c1 : (r == 1) = false := by simp [h1]
 by_cases h2 : r = 2
 rotate_left
 ·have c2 : (r == 2) = false := by simp [h2]
  clear h0 h1 h2
  have lb3 := H4.out.2.1
  have lb2 := H4.out.2.2.2.2.2
  go_wp2_with (first | ((with_reducible refine gate_dst (N := 26) rfl ?_); refine boxGet_ rfl rfl rfl rfl lb3 Tryz.underlying30 rfl (by kernel_rfl) ?_) | ((with_reducible refine gate_store (t := 30) (p := 2) rfl ?_); refine boxPut_ rfl rfl rfl rfl (#[.slice (some ⟨q0, 0, none⟩) 6 e0, .slice (some ⟨q1, 0, none⟩) 6 e1, .slice (some ⟨q2, 0, none⟩) 6 e2]) (by rfl) lb2 rfl (by kernel_rfl) (by simp [Value.oneCell']) ?_; intro w9 hbx hput9))
  refine bodyPost_ret (results_cell_row rfl _ _ g2 30 (#[.slice (some ⟨q0, 0, none⟩) 6 e0, .slice (some ⟨q1, 0, none⟩) 6 e1, .slice (some ⟨q2, 0, none⟩) 6 e2]) (0, 0) _ rfl hbx Tryz.underlying30 rfl (by kernel_rfl)) rfl ?_
  exact FIN.out _ w9 _ _ _ _ _ _ _ _ _ l0 l1 l2 ll.1.symm ll.2.1.symm ll.2.2.symm (by omega) (Row6.ri H4.out.2.2.1) (Row6.ri H4.out.2.2.2.1) (Row6.ri H4.out.2.2.2.2.1) (At.less H4.out.1 (by omega)) hput9
 have c2 : (r == 2) = true := by simp [h2]
 clear h0 h1 h2
 have lb := H4.out.2.1
 have lb2 := H4.out.2.2.2.2.2
 have cc := (Box.cell lb 1 _ rfl).1
 go_wp2_with (first | ((with_reducible refine gate_builtin (b := .append) (xs := #[.tmp 22, .tmp 23]) rfl ?_); at_builtin; refine Kd.R_append (Kd.int .i64) w1.heap.size rfl (.tmp 22) (.tmp 23) 28 3 (.int .i64 0) 8 rfl Tryz.underlying28 info3 rfl (by decide) (by omega) (.slice (some ⟨q1, 0, none⟩) 6 e1) l1 0 [.int .i64 0] (fun k => w1.heap.size ≤ k ∧ k ≠ g3 ∧ k ≠ q0 ∧ k ≠ q2) (fun _ => False) rfl rfl rfl (fun _ hk => hk.elim) (fun k hk => by have := blk_lt lb; have := own_lt (H4.out.2.2.1) q0 rfl; have := own_lt (H4.out.2.2.2.2.1) q2 rfl; exact ⟨by omega, by omega, by omega, by omega⟩) (own_R (H4.out.2.2.2.1) ll.2.1.symm _ (fun k hk => by have e : q1 = k := (by simpa [Value.ownBlock] using hk); subst e; exact ⟨hq.2.1, by omega, by omega, by omega⟩)) (Below.refl _ _) (by have := own_lt (H4.out.2.2.1) q0 rfl; omega) (by omega) ?_; intro v1 w6 hN hb hg hat; obtain ⟨A1, c1, eN⟩ := Kd.R_slice hN; subst eN; have lb6 := (hg.block g3 (blk_lt lb) (by simp [Value.ownBlock]; omega)).trans lb; have lb26 := (hb.block g2 hg2s).trans lb2; have cc6 := (Box.cell lb6 1 _ rfl).1; have cf6 := (Box.cell lb6 1 _ rfl).2) | ((with_reducible refine gate_store (t := 28) (p := 25) rfl ?_); refine setF_ (i := 1) (v := .slice A1 (l1 ++ [0]).length c1) rfl rfl rfl lb6 (by go_simp) ?_; intro w7 hb7 hput; have lb27 := Box.put1 lb26 hput (by omega)) | ((with_reducible refine gate_dst (N := 26) rfl ?_); refine boxGet_ rfl rfl rfl rfl hb7 Tryz.underlying30 rfl (by kernel_rfl) ?_) | ((with_reducible refine gate_store (t := 30) (p := 2) rfl ?_); refine boxPut_ rfl rfl rfl rfl (#[.slice (some ⟨q0, 0, none⟩) 6 e0, .slice A1 (l1 ++ [0]).length c1, .slice (some ⟨q2, 0, none⟩) 6 e2]) (by rfl) lb27 rfl (by kernel_rfl) (by simp [Value.oneCell']) ?_; intro w9 hbx hput9))
 have o0 := own_other (H4.out.2.2.1) hg (.inr (by simp [Value.ownBlock]; omega))
 have o2 := own_other (H4.out.2.2.2.2.1) hg (.inr (by simp [Value.ownBlock]; omega))
 have hr1 : RI w7 w1.heap.size (.slice A1 (l1 ++ [0]).length c1) (l1 ++ [0]) := RI.put1 (Kd.R_mono hN fun k hk => hk.1) hput fun k hk => (hN.1 k hk).2.1
 refine bodyPost_ret (results_cell_row rfl _ _ g2 30 (#[.slice (some ⟨q0, 0, none⟩) 6 e0, .slice A1 (l1 ++ [0]).length c1, .slice (some ⟨q2, 0, none⟩) 6 e2]) (0, 0) _ rfl hbx Tryz.underlying30 rfl (by kernel_rfl)) rfl ?_
 exact FIN.out _ w9 _ _ _ _ _ _ _ _ _ l0 (l1 ++ [0]) l2 ll.1.symm rfl ll.2.2.symm (by have := ll.2.1; simp; omega) (Row6.ri (Row6.put1 o0 hput (by omega))) hr1 (Row6.ri (Row6.put1 o2 hput (by omega))) (At.less (At.put1 (At.low H4.out.1 (hb.mono (by omega))) hput (by omega)) (by omega)) hput9
theorem memBent_dr {w0 wb W : World} {g N : Nat} {s : List Int} (h : At w0 wb g s (N + 100) W) : Calls Tryz.prog 34 #[.pointer (some ⟨g, 0, none⟩)] W fun e W' => ∃ (m : List Int × List Int × List Int) (p : (Option Addr × Nat) × (Option Addr × Nat) × (Option Addr × Nat)), e = .returned (.agg #[.slice p.1.1 m.1.length p.1.2, .slice p.2.1.1 m.2.1.length p.2.1.2, .slice p.2.2.1 m.2.2.length p.2.2.2]) ∧ Mini m.1 m.2.1 m.2.2 ∧ RI W' W.heap.size (.slice p.1.1 m.1.length p.1.2) m.1 ∧ RI W' W.heap.size (.slice p.2.1.1 m.2.1.length p.2.1.2) m.2.1 ∧ RI W' W.heap.size (.slice p.2.2.1 m.2.2.length p.2.2.2) m.2.2 ∧ At w0 wb g s N W' ∧ KeepBut W W' g none :=
 (memBent_at h.here).mono fun e w' ⟨m, p, h1, h2, h3, h4, h5, h7⟩ => ⟨m, p, h1, h2, h3, h4, h5, h7.over h, h7.k⟩

end Go.Proofs.YtendbgedpjcocaaGreatDoor.B
/- The draw of a run. -/
namespace Go.Proofs.YtendbgedpjcocaaGreatDoor.B
open Go Go.RowKit Go.Shelf Go.Proofs.YtendbgedpjcocaaGreatDoorW.PrintWords Go.Proofs.YtendbgedpjcocaaGreatDoorW.PrintLast Go.Proofs.YtendbgedpjcocaaGreatDoorW.PrintMore
set_option linter.unusedVariables false
set_option maxRecDepth 100000 in
set_option maxHeartbeats 4000000 in
theorem drawRun_any (l : List Int) (hw : ∀ x ∈ l, (Lit.int .u8 x).wf = true) (A : Option Addr) (c : Nat) (w0 : World) (hC : Kd.C (Kd.int .u8) w0 A l.length l) (hc : l.length ≤ c) :
  Calls Tryz.prog 20 #[.slice A l.length c] w0 fun e W' => ∃ (m : Mem3) (s : List St) (f : Int), ∃ p B d, e = .returned (.tuple #[.agg (mA m p), .slice B s.length d, .int .i64 f]) ∧ Mini m.1 m.2.1 m.2.2 ∧ Fit 500 s ∧ f ∈ [100, 100, 5, 0, 1, 101, -1] ∧ MV W' m p ∧ LV W' s B d ∧ Below w0.heap.size w0 W' := by
 have H0 := Aside0.mk (And.intro hC hc)
 clear hC hc
 go_enter Tryz.func20, Tryz.ntmps20
 go_wp2_with ((with_reducible refine gate_dst (N := 2) rfl ?_); refine boxNew_ rfl rfl mZ 30 ?hr ?_; (case hr => (go_simp; first | done | rfl)); intro g2 w1 hg2' b2 hb1; have hg2w := Nat.le_of_eq hg2'.symm; clear hg2')
 refine (open_dr l hw A c H0.out.1 H0.out.2 hb1).mono ?_
 rintro e w2 ⟨g, s, rfl, hA, hb, hne⟩
 have n2 : g2 ≠ g := hne g2 _ _ (blk_below b2 hb) (by decide)
 have fr := hA.fresh
 have hg2 := blk_lt (blk_below b2 hb)
 have H1 := Aside0.mk (show At w0 w2 g s (1000000000 + 300000000) w2 ∧ Box w2 g2 30 mZ from ⟨At.less hA (by omega), blk_below b2 hb⟩)
 clear  hA b2 hb hne hb1 H0
 go_wp2_with fail
 refine (bentS_dr H1.out.1).mono ?_
 rintro e w3 ⟨l1, A1, c1, rfl, hF, hN, hA⟩
 have hk := hA.k
 have H2 := Aside0.mk (show At w0 w2 g s (1000000000) w3 ∧ LVo w3 (Fr w2) l1 A1 c1 ∧ Box w3 g2 30 mZ from ⟨hA, ⟨Kd.N_V hN⟩, Box.keep H1.out.2 hk n2⟩)
 clear H1 hA hN hk
 have HF := Aside0.mk hF
 clear hF
 have hs3 := (H2.out.1).k.1
 go_wp2_with fail
 refine (memBent_dr (At.less (N := 1000000000) (M := 900000000 + 100) H2.out.1 (by omega))).mono ?_
 rintro e w4 ⟨m, p, rfl, hm, h0, h1, h2, hA, hk⟩
 have hk4 := hk.1
 have H3 := Aside0.mk (show At w0 w2 g s (900000000) w4 ∧ RI w4 w3.heap.size (.slice p.1.1 m.1.length p.1.2) m.1 ∧ RI w4 w3.heap.size (.slice p.2.1.1 m.2.1.length p.2.1.2) m.2.1 ∧ RI w4 w3.heap.size (.slice p.2.2.1 m.2.2.length p.2.2.2) m.2.2 ∧ LVo w4 (Fr w2) l1 A1 c1 ∧ Box w4 g2 30 mZ from ⟨hA, h0, h1, h2, LVo.keep H2.out.2.1 hk fr, Box.keep H2.out.2.2 hk n2⟩)
 clear H2 hA hk
 have HM := Aside0.mk hm
 clear hm h0 h1 h2
 go_wp2_with ((with_reducible refine gate_dst (N := 15) rfl ?_); refine Kd.R_lit (Kd.int .i64) w4.heap.size 3 rfl (N := 15) rfl (xs := [100, 100, 5, 0, 1, 101, -1]) (inner := [.int .i64 100, .int .i64 100, .int .i64 5, .int .i64 0, .int .i64 1, .int .i64 101, .int .i64 (-1)]) (ok := fun k => k ≠ g) (okp := fun k => k ≠ g) (by go_simp; try rfl) (reps_ints _ _ _ [100, 100, 5, 0, 1, 101, -1]) (fun _ hk => hk) (by have := At.lt' H3.out.1; show w4.heap.size ≠ g; omega) (Below.refl _ _) (Nat.le_refl _) (by simp) ?_; intro v15 w5 hR hb4 hg_ hn_; clear hg_ hn_; obtain ⟨A4, c4, e4⟩ := Kd.R_slice hR; subst e4)
 have H4 := Aside0.mk (show At w0 w2 g s (899999999 + 1) w5 ∧ RI w5 w3.heap.size (.slice p.1.1 m.1.length p.1.2) m.1 ∧ RI w5 w3.heap.size (.slice p.2.1.1 m.2.1.length p.2.1.2) m.2.1 ∧ RI w5 w3.heap.size (.slice p.2.2.1 m.2.2.length p.2.2.2) m.2.2 ∧ LVo w5 (Fr w2) l1 A1 c1 ∧ Box w5 g2 30 mZ from ⟨At.less (At.below H3.out.1 hb4) (by omega), Kd.R_keep H3.out.2.1 (kb_below (g := g) hb4) (fun k hk => fr k (Nat.le_trans hs3 hk)), Kd.R_keep H3.out.2.2.1 (kb_below (g := g) hb4) (fun k hk => fr k (Nat.le_trans hs3 hk)), Kd.R_keep H3.out.2.2.2.1 (kb_below (g := g) hb4) (fun k hk => fr k (Nat.le_trans hs3 hk)), LVo.keep H3.out.2.2.2.2.1 (kb_below (g := g) hb4) fr, Box.keep H3.out.2.2.2.2.2 (kb_below (g := g) hb4) n2⟩)
 clear H3 hb4
 refine (num_dr H4.out.1 [100, 100, 5, 0, 1, 101, -1] (by decide) (by decide) A4 c4 (Kd.R_reads' hR).2.2 (Kd.R_reads' hR).2.1 (far_slice fun e => hR.1 g e.symm rfl)).mono ?_
 rintro e w6 ⟨f, rfl, hf, hA, hk⟩
 have H5 := Aside0.mk (show At w0 w2 g s (899999999) w6 ∧ RI w6 w3.heap.size (.slice p.1.1 m.1.length p.1.2) m.1 ∧ RI w6 w3.heap.size (.slice p.2.1.1 m.2.1.length p.2.1.2) m.2.1 ∧ RI w6 w3.heap.size (.slice p.2.2.1 m.2.2.length p.2.2.2) m.2.2 ∧ LVo w6 (Fr w2) l1 A1 c1 ∧ Box w6 g2 30 mZ from ⟨hA, Kd.R_keep H4.out.2.1 hk (fun k hk => fr k (Nat.le_trans hs3 hk)), Kd.R_keep H4.out.2.2.1 hk (fun k hk => fr k (Nat.le_trans hs3 hk)), Kd.R_keep H4.out.2.2.2.1 hk (fun k hk => fr k (Nat.le_trans hs3 hk)), LVo.keep H4.out.2.2.2.2.1 hk fr, Box.keep H4.out.2.2.2.2.2 hk n2⟩)
 clear H4 hA hk hR
 have lb2 := H5.out.2.2.2.2.2
 go_wp2_with (refine boxPut_ rfl rfl rfl rfl (mA m p) rfl lb2 rfl (by kernel_rfl) (by simp [Value.oneCell', mA]) ?_; intro w7 hbx hput)
 refine bodyPost_ret (results_ctt rfl _ _ g2 30 (mA m p) (0, 0) _ rfl hbx Tryz.underlying30 rfl (by kernel_rfl)) rfl ?_
 exact ⟨m, l1, f, p, A1, c1, rfl, HM.out, HF.out, hf, RI.mv (Kd.R_step H5.out.2.1 (fun k hk _ => hput.far k (by have : w3.heap.size ≤ k := hk; omega))) (Kd.R_step H5.out.2.2.1 (fun k hk _ => hput.far k (by have : w3.heap.size ≤ k := hk; omega))) (Kd.R_step H5.out.2.2.2.1 (fun k hk _ => hput.far k (by have : w3.heap.size ≤ k := hk; omega))), ⟨Kd.V_mono (Kd.V_step (H5.out.2.2.2.2.1).v fun k hk _ => hput.far k (by have : w2.heap.size ≤ k := hk; omega)) fun _ _ => trivial⟩, hput.below (H5.out.1).b hg2w⟩
end Go.Proofs.YtendbgedpjcocaaGreatDoor.B
/- Plain laws of runs: one list behind the other; if; while; more fuel. -/
namespace Go.Proofs.YtendbgedpjcocaaGreatDoor.B
open Go Go.RowKit Go.Shelf Go.Proofs.YtendbgedpjcocaaGreatDoorW.PrintWords Go.Proofs.YtendbgedpjcocaaGreatDoorW.PrintLast Go.Proofs.YtendbgedpjcocaaGreatDoorW.PrintMore
set_option linter.unusedVariables false
theorem cut3_join {bs : List Int} (h : bs.length = 18) : (cut3 bs).1 ++ (cut3 bs).2.1 ++ (cut3 bs).2.2 = bs := by
 have h3 : (bs.drop 12).take 6 = bs.drop 12 := List.take_of_length_le (by simp; omega)
 have h2 : (bs.drop 6).take 6 ++ bs.drop 12 = bs.drop 6 := by
  have := List.take_append_drop 6 (bs.drop 6)
  rwa [List.drop_drop] at this
 unfold cut3
 dsimp only
 rw [h3, List.append_assoc, h2, List.take_append_drop]
theorem mOk_parts {m : Mem3} (h : mOk m = true) : listOk m.1 = true ∧ listOk m.2.1 = true ∧ listOk m.2.2 = true := by
 unfold mOk memOkL at h
 simpa [Bool.and_eq_true] using h
theorem mOk_18 {m : Mem3} (h : mOk m = true) : (m.1 ++ m.2.1 ++ m.2.2).length = 18 := by
 obtain ⟨h0, h1, h2⟩ := mOk_parts h
 have := listOk_len h0
 have := listOk_len h1
 have := listOk_len h2
 simp only [List.length_append]; omega
/-- Numbers that a memory may hold. -/
def Fine (bs : List Int) : Prop := bs.length = 18 ∧ ∀ x ∈ bs, -1000000 ≤ x ∧ x ≤ 1000000
theorem mOk_fine {m : Mem3} (h : mOk m = true) : Fine (m.1 ++ m.2.1 ++ m.2.2) := ⟨mOk_18 h, memOk_in (show memOkL m.1 m.2.1 m.2.2 = true from h)⟩
theorem listOk_mk {l : List Int} (h6 : l.length = 6) (h : ∀ x ∈ l, -1000000 ≤ x ∧ x ≤ 1000000) : listOk l = true := by
 unfold listOk
 rw [h6, Bool.and_eq_true]
 refine ⟨rfl, ?_⟩
 rw [Bool.not_eq_true', List.any_eq_false]
 intro x hx
 have := h x hx
 simp [isNumL, this.1, this.2]
theorem fine_ok {bs : List Int} (h : Fine bs) : mOk (cut3 bs) = true := by
 have hl := h.1
 unfold mOk memOkL cut3
 rw [listOk_mk (l := bs.take 6) (by simp; omega) (fun x hx => h.2 x (List.mem_of_mem_take hx)), listOk_mk (l := (bs.drop 6).take 6) (by simp; omega) (fun x hx => h.2 x (List.mem_of_mem_drop (List.mem_of_mem_take hx))),
  listOk_mk (l := (bs.drop 12).take 6) (by simp; omega) (fun x hx => h.2 x (List.mem_of_mem_drop (List.mem_of_mem_take hx)))]
 rfl
theorem putB_fine {bs : List Int} (h : Fine bs) (k a n : Int) : Fine (putB bs k a n) := by
 refine ⟨(putB_len bs k a n).trans h.1, fun x hx => ?_⟩
 unfold putB at hx
 split at hx
 ·rcases List.mem_or_eq_of_mem_set hx with hx | rfl
  ·exact h.2 x hx
  ·exact cutL_in n
 ·exact h.2 x hx
theorem run_fine {bs : List Int} {l : List St} {f : Int} {r : Res} (h : Fine bs) (hr : Run bs l f r) : Fine r.1 := by
 obtain ⟨k, hk⟩ := hr
 exact run_keeps Fine k l (fun _ => True) (fun _ _ _ _ => trivial) (fun _ _ _ _ => trivial) (fun s _ _ b hb => putB_fine hb _ _ _) (fun _ _ => trivial) bs f r h hk
theorem manyT_append (d : Nat) (a b : List St) : manyT d (a ++ b) = manyT d a + manyT d b := by
 cases d with
 | zero => rw [manyT, manyT, manyT]; simp
 | succ d => rw [manyT, manyT, manyT]; simp; try omega
theorem stOk_append {a b : List St} (h : stOkL (a ++ b) = true) : stOkL a = true ∧ stOkL b = true := by
 unfold stOkL at h ⊢
 rw [stOk_is, Bool.and_eq_true, decide_eq_true_eq, manyT_append] at h
 obtain ⟨h1, h2⟩ := h
 rw [formT, List.all_append, Bool.and_eq_true] at h1
 rw [stOk_is, stOk_is, formT, formT, h1.1, h1.2, decide_eq_true (by omega), decide_eq_true (by omega)]
 exact ⟨rfl, rfl⟩
/-- A run's own value, where it may be run. -/
theorem runV_is {m : Mem3} {l : List St} {f : Int} {bs : List Int} {v r : Int} (hok : runOk m l f = true) (h : Run (m.1 ++ m.2.1 ++ m.2.2) l f (bs, v, r)) : stRunV m l f = (cut3 bs, v, r) := by
 rw [stRunV, if_pos hok, runR_is h]
theorem two_facts {m : Mem3} {l : List St} {f : Int} {X : Mem3} {v r : Int} (k : Nat) (hV : stRunV m l f = (X, v, r)) (hv : v ≠ 2) {Y : Mem3} {d s : Int} (hY : stRunV m (l.take k) f = (Y, d, s)) :
  (d ≠ 0 → v = d ∧ X = Y ∧ r = s) ∧ (d = 0 → stRunV Y (l.drop k) s = (X, v, r)) := by
 rcases runV_cases hV with ⟨h, bs, rfl, hr, hF⟩ | ⟨_, _, h2, _⟩
 rotate_left
 ·exact absurd h2 hv
 obtain ⟨h1, h2, h3, h4⟩ := runOk_of h
 have hsp := stOk_append (a := l.take k) (b := l.drop k) (by rw [List.take_append_drop]; exact h2)
 rcases runV_cases hY with ⟨_, bs1, rfl, hr1, hF1⟩ | ⟨h', _⟩
 rotate_left
 ·rw [runOk_mk h1 hsp.1 h3 h4] at h'; cases h'
 refine ⟨fun hd => ?_, fun hd => ?_⟩
 ·have := run_append (b := l.drop k) hr1 (r := (bs1, d, s)) (by rw [if_neg hd])
  rw [List.take_append_drop] at this
  have := hr.one this
  simp only [Prod.mk.injEq] at this
  obtain ⟨rfl, rfl, rfl⟩ := this
  exact ⟨rfl, rfl, rfl⟩
 ·have hf := run_fine (mOk_fine h1) hr1
  obtain ⟨r2, hr2, hF2⟩ := run_total 4 (l.drop k) (stOk_form hsp.2) s bs1 hF1.lo
  have := run_append (b := l.drop k) hr1 (r := r2) (by rw [if_pos hd]; exact hr2)
  rw [List.take_append_drop] at this
  have := hr.one this
  subst this
  have hlo := hF1.lo
  have hhi := hF1.hi
  dsimp only at hlo hhi
  refine runV_is (runOk_mk (fine_ok hf) hsp.2 hlo (by omega)) ?_
  rw [cut3_join hf.1]
  exact hr2
end Go.Proofs.YtendbgedpjcocaaGreatDoor.B
/- Plain laws of runs: if, while, all of it. -/
namespace Go.Proofs.YtendbgedpjcocaaGreatDoor.B
open Go Go.RowKit Go.Shelf Go.Proofs.YtendbgedpjcocaaGreatDoorW.PrintWords Go.Proofs.YtendbgedpjcocaaGreatDoorW.PrintLast Go.Proofs.YtendbgedpjcocaaGreatDoorW.PrintMore
set_option linter.unusedVariables false
end Go.Proofs.YtendbgedpjcocaaGreatDoor.B
/- Statements with lists, as they lie in a literal; fits. -/
namespace Go.Proofs.YtendbgedpjcocaaGreatDoor.B
open Go Go.RowKit Go.Shelf Go.Proofs.YtendbgedpjcocaaGreatDoorW.PrintWords Go.Proofs.YtendbgedpjcocaaGreatDoorW.PrintLast Go.Proofs.YtendbgedpjcocaaGreatDoorW.PrintMore
set_option linter.unusedVariables false
end Go.Proofs.YtendbgedpjcocaaGreatDoor.B
/- The law FnRunTwo, walked by hand. -/
namespace Go.Proofs.YtendbgedpjcocaaGreatDoor.B
open Go Go.RowKit Go.Proofs.YtendbgedpjcocaaGreatDoorW.PrintWords Go.Proofs.YtendbgedpjcocaaGreatDoorW.PrintLast Go.Proofs.YtendbgedpjcocaaGreatDoorW.PrintMore
set_option linter.unusedVariables false
theorem LV.take {W : World} {l : List St} {A : Option Addr} {c : Nat} (h : LV W l A c) (n : Nat) (hn : n ≤ l.length) : LV W (l.take n) A c := ⟨(show Kd.V stK 35 W 0 (fun _ => True) (.slice A (l.take n).length c) (l.take n) from Kd.V_mk (by have := h.reads.1; rw [List.length_take]; omega) (Kd.F_take (Kd.V_F h.v) hn))⟩
theorem LV.drop {W : World} {l : List St} {A : Option Addr} {c : Nat} (h : LV W l A c) (n : Nat) (hn : n ≤ l.length) : LV W (l.drop n) (if c = n then A else A.map (·.add (n * 10))) (c - n) := ⟨(show Kd.V stK 35 W 0 (fun _ => True) (.slice (if c = n then A else A.map (·.add (n * 10))) (l.drop n).length (c - n)) (l.drop n) from Kd.V_mk (by have := h.reads.1; rw [List.length_drop]; omega) (Kd.F_cut (Kd.V_F h.v) hn h.reads.1))⟩
theorem cell_ne {W : World} {b : Nat} {a : Addr} {k : IntKind} {n : Int} (hb : Box W b 30 mZ) (h : W.cell? a = some (.int k n)) : a.block ≠ b := by
 intro e
 have hz : ∀ (i : Nat) (v : Value), (mZ : Array Value)[i]? = some v → v = .slice none 0 0 := by
  intro i v hv
  match i with
  | 0 => exact (Option.some.inj hv).symm
  | 1 => exact (Option.some.inj hv).symm
  | 2 => exact (Option.some.inj hv).symm
  | i + 3 => simp [mZ] at hv
 unfold World.cell? at h
 rw [e, hb] at h
 dsimp only at h
 split at h
 ·cases h
 ·have := hz _ _ h
  cases this
theorem C_putZ {W W' : World} {b n : Nat} {A : Option Addr} {xs : List Int} (h : Kd.C (Kd.int .i64) W A n xs) (hb : Box W b 30 mZ) (hp : Put1 b W W') : Kd.C (Kd.int .i64) W' A n xs := by
 refine Kd.C_keep (0 : Int) (g := b) h ⟨by rw [hp.size]; exact Nat.le_refl _, fun i _ hi _ => hp.far i hi⟩ fun ad hA hn => ?_
 obtain ⟨ad', c, e0, _, hK, hc⟩ := Kd.C_get h (0 : Int) 0 (by omega) (by omega)
 rw [hA] at e0
 injection e0 with e0
 subst e0
 have hc' : c = [.int .i64 (rd xs 0)] := hK
 have := hc 0 (.int .i64 (rd xs 0)) (by rw [hc']; rfl)
 have hne := cell_ne hb this
 simpa [Addr.add] using hne
theorem MV.putZ {W W' : World} {b : Nat} {m : Mem3} {p : Caps3} (h : MV W m p) (hb : Box W b 30 mZ) (hp : Put1 b W W') : MV W' m p := ⟨h.l0, C_putZ h.c0 hb hp, h.l1, C_putZ h.c1 hb hp, h.l2, C_putZ h.c2 hb hp⟩
/-- What is known while the region `x, c, left := impl.StmtsRun(..)` comes up. -/
structure R3 (We : World) (v0 v1 v2 v3 v4 : Value) (Y : Mem3) (dd ss : Int) (l : Nat → Bool) (vs : Nat → Value) (W : World) : Prop where
 dc : l 11 = true → l 10 = true
 b : Below We.heap.size We W
 f0 : l 0 = true → vs 0 = v0
 f1 : l 1 = true → vs 1 = v1
 f2 : l 2 = true → vs 2 = v2
 f3 : l 3 = true → vs 3 = v3
 f4 : l 4 = true → vs 4 = v4
 f5 : l 5 = true → ∃ q, vs 5 = .tuple #[.agg (mA Y q), .int .i64 dd, .int .i64 ss] ∧ MV W Y q
 f6 : l 6 = true → ∃ q, vs 6 = .tuple #[.agg (mA Y q), .int .i64 dd, .int .i64 ss] ∧ MV W Y q
 f7 : l 7 = true → ∃ q, vs 7 = .agg (mA Y q) ∧ MV W Y q
 f8 : l 8 = true → vs 8 = .int .i64 dd
 f9 : l 9 = true → vs 9 = .int .i64 ss
 f10 : l 10 = true → ∃ b, vs 10 = .pointer (some ⟨b, 0, none⟩) ∧ We.heap.size ≤ b ∧ (l 11 = false → Box W b 30 mZ) ∧ (l 11 = true → ∃ q, Box W b 30 (mA Y q) ∧ MV W Y q)
 f12 : l 12 = true → vs 12 = .int .i64 dd
 f13 : l 13 = true → vs 13 = .int .i64 ss
theorem R3.move {We : World} {v0 v1 v2 v3 v4 : Value} {Y : Mem3} {dd ss : Int} {l : Nat → Bool} {vs : Nat → Value} {W W' : World} (h : R3 We v0 v1 v2 v3 v4 Y dd ss l vs W) (hb : Below W.heap.size W W') : R3 We v0 v1 v2 v3 v4 Y dd ss l vs W' :=
 { h with b := h.b.trans (hb.mono h.b.size), f5 := fun k => (h.f5 k).imp fun _ z => ⟨z.1, MV.last _ _ _ _ hb z.2⟩, f6 := fun k => (h.f6 k).imp fun _ z => ⟨z.1, MV.last _ _ _ _ hb z.2⟩, f7 := fun k => (h.f7 k).imp fun _ z => ⟨z.1, MV.last _ _ _ _ hb z.2⟩, f10 := fun k => (h.f10 k).imp fun _ z => ⟨z.1, z.2.1, fun n => blk_below (z.2.2.1 n) hb, fun n => (z.2.2.2 n).imp fun _ y => ⟨blk_below y.1 hb, MV.last _ _ _ _ hb y.2⟩⟩ }
section
variable {P : Program} {ops : Array Oper} {o : Oper} {b : Act} {W : World} {Ψ : Value → World → Prop}
theorem stepBox3 {cs : Array Value} {T : TypeId} (hw : Region.wanted o (yielded ops b.tmps) = true) (hrun : (execOp b.eval o).run P W = .ok (.value (.pointer (some ⟨W.heap.size, 0, none⟩))) (W.alloc (.cells cs T (0, 0))))
  (h : ∀ W' q, W.heap.size ≤ q → Box W' q T cs → Below W.heap.size W W' → Ψ (.pointer (some ⟨q, 0, none⟩)) W') : StepOK P ops o b W Ψ := fun K Q hK =>
 event_step hw hrun (hK _ _ (h _ _ (Nat.le_refl _) (blk_new W _) (below_alloc (Below.refl _ _) _)))
end
set_option maxRecDepth 100000 in
set_option maxHeartbeats 8000000 in
theorem law_RunTwo (l0 l1 : List Int) (hw0 : ∀ x ∈ l0, (Lit.int .u8 x).wf = true) (hw1 : ∀ x ∈ l1, (Lit.int .u8 x).wf = true) (A0 : Option Addr) (c0 : Nat) (A1 : Option Addr) (c1 : Nat) (w : World) (r0 : Kd.C (Kd.int .u8) w A0 l0.length l0) (h0 : l0.length ≤ c0) (r1 : Kd.C (Kd.int .u8) w A1 l1.length l1) (h1 : l1.length ≤ c1) (a : Addr) (HT : ErrAt w a) :
  Calls Tryz.prog 5 #[.slice A0 l0.length c0, .slice A1 l1.length c1] w fun e w' => e = .returned (.bool true) ∧ Below w.heap.size w w' := by
 have mixed : Tryz.prog.follows .mixedOrders = true := rfl
 have D0 := Aside0.mk (drawRun_any l0 hw0 A0 c0 w r0 h0)
 have HTT := Aside0.mk HT
 clear r0 h0 r1 h1 hw0 hw1 HT
 by_cases hlenl0 : (1048576 : Int) < (l0.length : Int)
 ·go_enter Tryz.func5, Tryz.ntmps5
  go_wp2
  go_ret
  exact ⟨rfl, Below.refl _ _⟩
 by_cases hlenl1 : (1048576 : Int) < (l1.length : Int)
 ·go_enter Tryz.func5, Tryz.ntmps5
  go_wp2
  go_ret
  exact ⟨rfl, Below.refl _ _⟩
 go_enter Tryz.func5, Tryz.ntmps5
 go_wp2_with fail
 refine D0.out.mono ?_
 clear D0
 rintro e w1 ⟨m, s, f, p, A3, c3, rfl, hm, hfs, hf, hM, hLV, hb⟩
 have hs500 := hfs.len
 have HX := Aside0.mk (And.intro hm hfs)
 clear hm hfs hf
 have H1 := Aside0.mk (show MV w1 m p ∧ LV w1 s A3 c3 ∧ Below w.heap.size w w1 ∧ ErrAt w1 a from ⟨hM, hLV, hb, HTT.out.below hb⟩)
 clear hM hLV hb HTT
 go_wp2_with ((with_reducible refine gate_dst (N := 5) rfl ?_); refine new1_ (N := 5) (x := 32) (T := 30) (mA m p) (zs := #[.slice none 0 0, .slice none 0 0, .slice none 0 0]) (mA_one _ _) ?_ ?_ ?_ ?_ ?_ ?_ ?_ ?_ ?_ ?_ ?_ ?_ ?_)
 all_goals (first | rfl | decide | (intro _ _; go_simp; done) | kernel_rfl | skip)
 intro g5 W1 hg5 bg5 hb
 simp only [Act.put, List.setIfInBounds_toArray, List.set_cons_zero, List.set_cons_succ]
 clear hg5
 have H2 := Aside0.mk (show Box W1 g5 30 (mA m p) ∧ MV W1 m p ∧ LV W1 s A3 c3 ∧ Below w.heap.size w W1 ∧ ErrAt W1 a from ⟨bg5, MV.last _ _ _ _ hb H1.out.1, (LV.last _ _ _) _ _ hb H1.out.2.1, Below.trans H1.out.2.2.1 (hb.mono H1.out.2.2.1.size), (ErrAt.lasts _) _ _ hb H1.out.2.2.2⟩)
 clear H1 bg5 hb
 obtain ⟨X, cc, lf, hV⟩ : ∃ X cc lf, stRunV m s f = (X, cc, lf) := ⟨_, _, _, rfl⟩
 have HV := Aside0.mk hV
 have HFI := Aside0.mk (show StFit s from Fit.ok (n := 500) HX.out.2 (by omega))
 have HSH := Aside0.mk (runV_short hV)
 clear hV
 have lb0 := H2.out.1
 go_wp2_with (first | ((with_reducible refine gate_dst (N := 36) rfl ?_); refine getM_ rfl rfl rfl rfl lb0 ?_))
 clear lb0
 refine (runI_any HV.out p A3 c3 a W1 H2.out.2.2.2.2 H2.out.2.1 H2.out.2.2.1).mono ?_
 rintro e wqa ⟨qa, rfl, hM, hb⟩
 have H3 := Aside0.mk (show MV wqa X qa ∧ Box wqa g5 30 (mA m p) ∧ MV wqa m p ∧ LV wqa s A3 c3 ∧ Below w.heap.size w wqa ∧ ErrAt wqa a from ⟨hM, blk_below H2.out.1 hb, MV.last _ _ _ _ hb H2.out.2.1, (LV.last _ _ _) _ _ hb H2.out.2.2.1, Below.trans H2.out.2.2.2.1 (hb.mono H2.out.2.2.2.1.size), (ErrAt.lasts _) _ _ hb H2.out.2.2.2.2⟩)
 clear H2 hM hb
 go_wp2_with ((with_reducible refine gate_dst (N := 8) rfl ?_); refine new1_ (N := 8) (x := 40) (T := 30) (mA X qa) (zs := #[.slice none 0 0, .slice none 0 0, .slice none 0 0]) (mA_one _ _) ?_ ?_ ?_ ?_ ?_ ?_ ?_ ?_ ?_ ?_ ?_ ?_ ?_)
 all_goals (first | rfl | decide | (intro _ _; go_simp; done) | kernel_rfl | skip)
 intro g8 Wqa hg8 bg8 hb
 simp only [Act.put, List.setIfInBounds_toArray, List.set_cons_zero, List.set_cons_succ]
 clear hg8
 have H4 := Aside0.mk (show Box Wqa g8 30 (mA X qa) ∧ MV Wqa X qa ∧ Box Wqa g5 30 (mA m p) ∧ MV Wqa m p ∧ LV Wqa s A3 c3 ∧ Below w.heap.size w Wqa ∧ ErrAt Wqa a from ⟨bg8, MV.last _ _ _ _ hb H3.out.1, blk_below H3.out.2.1 hb, MV.last _ _ _ _ hb H3.out.2.2.1, (LV.last _ _ _) _ _ hb H3.out.2.2.2.1, Below.trans H3.out.2.2.2.2.1 (hb.mono H3.out.2.2.2.2.1.size), (ErrAt.lasts _) _ _ hb H3.out.2.2.2.2.2⟩)
 clear H3 bg8 hb
 have lb0 := H4.out.2.2.1
 go_wp2_with (first | ((with_reducible refine gate_dst (N := 44) rfl ?_); refine getM_ rfl rfl rfl rfl lb0 ?_))
 clear lb0
 refine (runS_any HV.out HX.out.1 HFI.out p A3 c3 Wqa H4.out.2.2.2.1 H4.out.2.2.2.2.1).mono ?_
 rintro e wqb ⟨qb, rfl, hM, hb⟩
 have H5 := Aside0.mk (show MV wqb X qb ∧ Box wqb g8 30 (mA X qa) ∧ MV wqb X qa ∧ Box wqb g5 30 (mA m p) ∧ MV wqb m p ∧ LV wqb s A3 c3 ∧ Below w.heap.size w wqb ∧ ErrAt wqb a from ⟨hM, blk_below H4.out.1 hb, MV.last _ _ _ _ hb H4.out.2.1, blk_below H4.out.2.2.1 hb, MV.last _ _ _ _ hb H4.out.2.2.2.1, (LV.last _ _ _) _ _ hb H4.out.2.2.2.2.1, Below.trans H4.out.2.2.2.2.2.1 (hb.mono H4.out.2.2.2.2.2.1.size), (ErrAt.lasts _) _ _ hb H4.out.2.2.2.2.2.2⟩)
 clear H4 hM hb
 go_wp2_with ((with_reducible refine gate_dst (N := 11) rfl ?_); refine new1_ (N := 11) (x := 48) (T := 30) (mA X qb) (zs := #[.slice none 0 0, .slice none 0 0, .slice none 0 0]) (mA_one _ _) ?_ ?_ ?_ ?_ ?_ ?_ ?_ ?_ ?_ ?_ ?_ ?_ ?_)
 all_goals (first | rfl | decide | (intro _ _; go_simp; done) | kernel_rfl | skip)
 intro g11 Wqb hg11 bg11 hb
 simp only [Act.put, List.setIfInBounds_toArray, List.set_cons_zero, List.set_cons_succ]
 clear hg11
 have H6 := Aside0.mk (show Box Wqb g11 30 (mA X qb) ∧ MV Wqb X qb ∧ Box Wqb g8 30 (mA X qa) ∧ MV Wqb X qa ∧ Box Wqb g5 30 (mA m p) ∧ MV Wqb m p ∧ LV Wqb s A3 c3 ∧ Below w.heap.size w Wqb ∧ ErrAt Wqb a from ⟨bg11, MV.last _ _ _ _ hb H5.out.1, blk_below H5.out.2.1 hb, MV.last _ _ _ _ hb H5.out.2.2.1, blk_below H5.out.2.2.2.1 hb, MV.last _ _ _ _ hb H5.out.2.2.2.2.1, (LV.last _ _ _) _ _ hb H5.out.2.2.2.2.2.1, Below.trans H5.out.2.2.2.2.2.2.1 (hb.mono H5.out.2.2.2.2.2.2.1.size), (ErrAt.lasts _) _ _ hb H5.out.2.2.2.2.2.2.2⟩)
 clear H5 bg11 hb
 have hn1 : (cc != cc) = false := by simp
 have hn2 : (lf != lf) = false := by simp
 have he1 : (cc == cc) = true := by simp
 have he2 : (lf == lf) = true := by simp
 by_cases h2 : cc = 2
 ·have hq : (cc == 2) = true := by simp [h2]
  clear h2
  go_wp2
  go_ret
  exact ⟨rfl, H6.out.2.2.2.2.2.2.2.1⟩
 have hq : (cc == 2) = false := by simp [h2]
 obtain ⟨kk, hkk⟩ : ∃ kk, kk = (l1.length : Int) % ((s.length : Int) + 1) := ⟨_, rfl⟩
 have k0 : 0 ≤ kk := by rw [hkk]; exact Int.emod_nonneg _ (by omega)
 have k1 : kk ≤ s.length := by
  have := Int.emod_lt_of_pos (l1.length : Int) (show (0 : Int) < (s.length : Int) + 1 by omega)
  omega
 obtain ⟨Y, dd, ss, hY⟩ : ∃ Y dd ss, stRunV m (s.take kk.toNat) f = (Y, dd, ss) := ⟨_, _, _, rfl⟩
 have HY := Aside0.mk hY
 have HYS := Aside0.mk (runV_short hY)
 have HW := Aside0.mk (two_facts kk.toNat HV.out h2 hY)
 have htk : (s.take kk.toNat).length = kk.toNat := by rw [List.length_take]; omega
 have hdr : (s.drop kk.toNat).length = s.length - kk.toNat := by rw [List.length_drop]
 have hw8 : wrap64 ((s.length : Int) + 1) = (s.length : Int) + 1 := by unfold wrap64; omega
 clear hY h2
 go_upto_region 9 with fail
 rw [← hkk]
 clear hkk hw8
 refine weave (R3 Wqb (.agg (mA m p)) (.slice A3 s.length c3) (.int .i64 kk) (.slice A3 (s.take kk.toNat).length c3) (.int .i64 f) Y dd ss) [(68, 0), (69, 1), (70, 2), (71, 3), (72, 4), (73, 5), (67, 6), (74, 7), (75, 8), (76, 9), (15, 10), (16, 12), (17, 13)] mixed (by kernel_rfl) ?_ ?_ ?_
 ·exact ⟨fun h => absurd h (by simp), drew_below _, fun h => absurd h (by simp), fun h => absurd h (by simp), fun h => absurd h (by simp), fun h => absurd h (by simp), fun h => absurd h (by simp), fun h => absurd h (by simp), fun h => absurd h (by simp), fun h => absurd h (by simp), fun h => absurd h (by simp), fun h => absurd h (by simp), fun h => absurd h (by simp), fun h => absurd h (by simp), fun h => absurd h (by simp)⟩
 ·intro i o ho l vs W h hli hw b hs
  have hi : i = 0 ∨ i = 1 ∨ i = 2 ∨ i = 3 ∨ i = 4 ∨ i = 5 ∨ i = 6 ∨ i = 7 ∨ i = 8 ∨ i = 9 ∨ i = 10 ∨ i = 11 ∨ i = 12 ∨ i = 13 := by
   have := (Array.getElem?_eq_some_iff.1 ho).1
   simp at this
   omega
  rcases hi with rfl | rfl | rfl | rfl | rfl | rfl | rfl | rfl | rfl | rfl | rfl | rfl | rfl | rfl
  ·obtain rfl := Option.some.inj ho
   exact stepGet rfl rfl ((hs.old 5 rfl).trans rfl) (blk_below H6.out.2.2.2.2.1 h.b) Tryz.underlying30 rfl (by kernel_rfl) { h with f0 := fun _ => rfl }
  ·obtain rfl := Option.some.inj ho
   have o6 := (hs.oldtm 6 rfl).trans (show _ = some (Value.slice A3 s.length c3) from rfl)
   exact stepVal rfl (by go_simp) { h with f1 := fun _ => rfl }
  ·obtain rfl := Option.some.inj ho
   have o14 := (hs.oldtm 14 rfl).trans (show _ = some (Value.int .i64 kk) from rfl)
   exact stepVal rfl (by go_simp) { h with f2 := fun _ => rfl }
  ·obtain rfl := Option.some.inj ho
   have q1 := h.f1 (hw 1 (by decide))
   have q2 := h.f2 (hw 2 (by decide))
   have t1 := (hs.tm 69 1 rfl).trans (congrArg some q1)
   have t2 := (hs.tm 70 2 rfl).trans (congrArg some q2)
   have hcut := cut_to (P := Tryz.prog) 33 35 .i64 Tryz.underlying33 (show Tryz.prog.info? 35 = some _ from rfl) A3 s.length c3 kk k0 k1 H6.out.2.2.2.2.2.2.1.reads.1
   exact stepVal (v := .slice A3 kk.toNat c3) rfl (by first | (go_simp; done) | (go_simp; exact hcut W)) { h with f3 := fun _ => congrArg (fun n => Value.slice A3 n c3) htk.symm }
  ·obtain rfl := Option.some.inj ho
   have o7 := (hs.oldtm 7 rfl).trans (show _ = some (Value.int .i64 f) from rfl)
   exact stepVal rfl (by go_simp) { h with f4 := fun _ => rfl }
  ·obtain rfl := Option.some.inj ho
   have q0 := h.f0 (hw 0 (by decide))
   have q3 := h.f3 (hw 3 (by decide))
   have q4 := h.f4 (hw 4 (by decide))
   refine stepCall rfl Tryz.func11 (by kernel_rfl) rfl #[vs 0, vs 3, vs 4] rfl (by simp [Act.eval, hs.tm 68 0 rfl, hs.tm 71 3 rfl, hs.tm 72 4 rfl]) (by rw [q0, q3, q4]; exact runI_any HY.out p A3 c3 a W (ErrAt.lasts _ _ _ h.b H6.out.2.2.2.2.2.2.2.2) (MV.last _ _ _ _ h.b H6.out.2.2.2.2.2.1) (LV.take (LV.last _ _ _ _ _ h.b H6.out.2.2.2.2.2.2.1) kk.toNat (by omega))) ?_
   rintro e' W' ⟨q, rfl, hM, hb⟩
   exact ⟨_, rfl, { h.move hb with f5 := fun _ => ⟨q, rfl, hM⟩ }⟩
  ·obtain rfl := Option.some.inj ho
   obtain ⟨q, q5, hM⟩ := h.f5 (hw 5 (by decide))
   have t5 := (hs.tm 73 5 rfl).trans (congrArg some q5)
   exact stepVal rfl (by go_simp) { h with f6 := fun _ => ⟨q, rfl, hM⟩ }
  ·obtain rfl := Option.some.inj ho
   obtain ⟨q, q6, hM⟩ := h.f6 (hw 6 (by decide))
   have t6 := (hs.tm 67 6 rfl).trans (congrArg some q6)
   exact stepVal rfl (by go_simp) { h with f7 := fun _ => ⟨q, rfl, hM⟩ }
  ·obtain rfl := Option.some.inj ho
   obtain ⟨q, q6, hM⟩ := h.f6 (hw 6 (by decide))
   have t6 := (hs.tm 67 6 rfl).trans (congrArg some q6)
   exact stepVal rfl (by go_simp) { h with f8 := fun _ => rfl }
  ·obtain rfl := Option.some.inj ho
   obtain ⟨q, q6, hM⟩ := h.f6 (hw 6 (by decide))
   have t6 := (hs.tm 67 6 rfl).trans (congrArg some q6)
   exact stepVal rfl (by go_simp) { h with f9 := fun _ => rfl }
  ·obtain rfl := Option.some.inj ho
   exact stepBox3 (cs := mZ) (T := 30) rfl (by go_simp; try rfl) fun W' q hq hbx hb => { h.move hb with dc := fun _ => rfl, f10 := fun _ => ⟨q, rfl, Nat.le_trans h.b.size hq, fun _ => hbx, fun h11 => absurd (h.dc h11) (by rw [hli]; decide)⟩ }
  ·obtain rfl := Option.some.inj ho
   obtain ⟨b', q10, hle, hz, _⟩ := h.f10 (hw 10 (by decide))
   obtain ⟨q, q7, hM⟩ := h.f7 (hw 7 (by decide))
   have hbz := hz hli
   exact stepPutB rfl rfl ((hs.ev 15 10 rfl).trans q10) (mA Y q) ((hs.ev 74 7 rfl).trans q7) hbz rfl (by kernel_rfl) (mA_one _ _) fun W' hbx hput => { h with dc := fun _ => hw 10 (by decide), b := hput.below h.b hle, f5 := fun h5 => (h.f5 h5).imp fun _ k => ⟨k.1, k.2.putZ hbz hput⟩, f6 := fun h5 => (h.f6 h5).imp fun _ k => ⟨k.1, k.2.putZ hbz hput⟩, f7 := fun h5 => (h.f7 h5).imp fun _ k => ⟨k.1, k.2.putZ hbz hput⟩, f10 := fun _ => ⟨b', q10, hle, fun h => absurd h (by simp), fun _ => ⟨q, hbx, hM.putZ hbz hput⟩⟩ }
  ·obtain rfl := Option.some.inj ho
   have q8 := h.f8 (hw 8 (by decide))
   have t8 := (hs.tm 75 8 rfl).trans (congrArg some q8)
   exact stepVal rfl (by go_simp) { h with f12 := fun _ => rfl }
  ·obtain rfl := Option.some.inj ho
   have q9 := h.f9 (hw 9 (by decide))
   have t9 := (hs.tm 76 9 rfl).trans (congrArg some q9)
   exact stepVal rfl (by go_simp) { h with f13 := fun _ => rfl }
 ·intro l vs W9 hl h
  obtain ⟨g15, q10, hle, _, hbx⟩ := h.f10 (hl 10 (by decide))
  obtain ⟨qc, bg15, hM⟩ := hbx (hl 11 (by decide))
  have q12 := h.f12 (hl 12 (by decide))
  have q13 := h.f13 (hl 13 (by decide))
  have hb := h.b
  simp only [List.map_cons, List.map_nil, putL, Act.put, List.setIfInBounds_toArray, List.set_cons_zero, List.set_cons_succ, q10, q12, q13]
  clear q10 q12 q13 hle hbx h hl
  have H7 := Aside0.mk (show Box W9 g15 30 (mA Y qc) ∧ MV W9 Y qc ∧ Box W9 g11 30 (mA X qb) ∧ MV W9 X qb ∧ Box W9 g8 30 (mA X qa) ∧ MV W9 X qa ∧ Box W9 g5 30 (mA m p) ∧ MV W9 m p ∧ LV W9 s A3 c3 ∧ Below w.heap.size w W9 ∧ ErrAt W9 a from ⟨bg15, hM, blk_below H6.out.1 hb, MV.last _ _ _ _ hb H6.out.2.1, blk_below H6.out.2.2.1 hb, MV.last _ _ _ _ hb H6.out.2.2.2.1, blk_below H6.out.2.2.2.2.1 hb, MV.last _ _ _ _ hb H6.out.2.2.2.2.2.1, (LV.last _ _ _) _ _ hb H6.out.2.2.2.2.2.2.1, Below.trans H6.out.2.2.2.2.2.2.2.1 (hb.mono H6.out.2.2.2.2.2.2.2.1.size), (ErrAt.lasts _) _ _ hb H6.out.2.2.2.2.2.2.2.2⟩)
  clear H6 bg15 hM hb
  by_cases hd : dd = 0
  rotate_left
  ·have hn3 : (dd != 0) = true := by simp [hd]
   obtain ⟨e1, e2, e3⟩ := HW.out.1 hd
   have hc1 : (cc == dd) = true := by simp [e1]
   have hl1 : (lf == ss) = true := by simp [e3]
   have E2 := Aside0.mk e2
   clear hd e1 e2 e3 htk hdr k0 k1
   have lb0 := H7.out.2.2.2.2.1
   have lb1 := H7.out.1
   go_wp2_with (first | ((with_reducible refine gate_dst (N := 83) rfl ?_); refine gate_guard rfl ?_; refine getM_ rfl rfl rfl rfl lb0 ?_) | ((with_reducible refine gate_dst (N := 84) rfl ?_); refine gate_guard rfl ?_; refine getM_ rfl rfl rfl rfl lb1 ?_))
   clear lb0 lb1
   refine (same_any X Y HSH.out qa qc W9 H7.out.2.2.2.2.2.1 H7.out.2.1).mono ?_
   rw [show sameV X Y = true from by rw [E2.out]; exact sameV_refl _]
   rintro e w10 ⟨rfl, hb⟩
   have H8 := Aside0.mk (show Box w10 g15 30 (mA Y qc) ∧ MV w10 Y qc ∧ Box w10 g11 30 (mA X qb) ∧ MV w10 X qb ∧ Box w10 g8 30 (mA X qa) ∧ MV w10 X qa ∧ Box w10 g5 30 (mA m p) ∧ MV w10 m p ∧ LV w10 s A3 c3 ∧ Below w.heap.size w w10 ∧ ErrAt w10 a from ⟨blk_below H7.out.1 hb, MV.last _ _ _ _ hb H7.out.2.1, blk_below H7.out.2.2.1 hb, MV.last _ _ _ _ hb H7.out.2.2.2.1, blk_below H7.out.2.2.2.2.1 hb, MV.last _ _ _ _ hb H7.out.2.2.2.2.2.1, blk_below H7.out.2.2.2.2.2.2.1 hb, MV.last _ _ _ _ hb H7.out.2.2.2.2.2.2.2.1, (LV.last _ _ _) _ _ hb H7.out.2.2.2.2.2.2.2.2.1, Below.trans H7.out.2.2.2.2.2.2.2.2.2.1 (hb.mono H7.out.2.2.2.2.2.2.2.2.2.1.size), (ErrAt.lasts _) _ _ hb H7.out.2.2.2.2.2.2.2.2.2.2⟩)
   clear H7 hb
   go_wp2
   go_ret
   exact ⟨rfl, H8.out.2.2.2.2.2.2.2.2.2.1⟩
  have hn3 : (dd != 0) = false := by simp [hd]
  have HZ := Aside0.mk (HW.out.2 hd)
  clear hd
  go_upto_region 12 with fail
  refine weave (R3 W9 (.agg (mA Y qc)) (.slice A3 s.length c3) (.int .i64 kk) (.slice (if c3 = kk.toNat then A3 else A3.map (·.add (kk.toNat * 10))) (s.drop kk.toNat).length (c3 - kk.toNat)) (.int .i64 ss) X cc lf) [(93, 0), (94, 1), (95, 2), (96, 3), (97, 4), (98, 5), (92, 6), (99, 7), (100, 8), (101, 9), (18, 10), (19, 12), (20, 13)] mixed (by kernel_rfl) ?_ ?_ ?_
  ·exact ⟨fun h => absurd h (by simp), drew_below _, fun h => absurd h (by simp), fun h => absurd h (by simp), fun h => absurd h (by simp), fun h => absurd h (by simp), fun h => absurd h (by simp), fun h => absurd h (by simp), fun h => absurd h (by simp), fun h => absurd h (by simp), fun h => absurd h (by simp), fun h => absurd h (by simp), fun h => absurd h (by simp), fun h => absurd h (by simp), fun h => absurd h (by simp)⟩
  ·intro i o ho l vs W h hli hw b hs
   have hi : i = 0 ∨ i = 1 ∨ i = 2 ∨ i = 3 ∨ i = 4 ∨ i = 5 ∨ i = 6 ∨ i = 7 ∨ i = 8 ∨ i = 9 ∨ i = 10 ∨ i = 11 ∨ i = 12 ∨ i = 13 := by
    have := (Array.getElem?_eq_some_iff.1 ho).1
    simp at this
    omega
   rcases hi with rfl | rfl | rfl | rfl | rfl | rfl | rfl | rfl | rfl | rfl | rfl | rfl | rfl | rfl
   ·obtain rfl := Option.some.inj ho
    exact stepGet rfl rfl ((hs.old 15 rfl).trans rfl) (blk_below H7.out.1 h.b) Tryz.underlying30 rfl (by kernel_rfl) { h with f0 := fun _ => rfl }
   ·obtain rfl := Option.some.inj ho
    have o6 := (hs.oldtm 6 rfl).trans (show _ = some (Value.slice A3 s.length c3) from rfl)
    exact stepVal rfl (by go_simp) { h with f1 := fun _ => rfl }
   ·obtain rfl := Option.some.inj ho
    have o14 := (hs.oldtm 14 rfl).trans (show _ = some (Value.int .i64 kk) from rfl)
    exact stepVal rfl (by go_simp) { h with f2 := fun _ => rfl }
   ·obtain rfl := Option.some.inj ho
    have q1 := h.f1 (hw 1 (by decide))
    have q2 := h.f2 (hw 2 (by decide))
    have t1 := (hs.tm 94 1 rfl).trans (congrArg some q1)
    have t2 := (hs.tm 95 2 rfl).trans (congrArg some q2)
    have hcut := cut_from (P := Tryz.prog) 33 35 .i64 Tryz.underlying33 (show Tryz.prog.info? 35 = some _ from rfl) 10 rfl A3 s.length c3 kk k0 k1
    exact stepVal (v := .slice (if c3 = kk.toNat then A3 else A3.map (·.add (kk.toNat * 10))) (s.length - kk.toNat) (c3 - kk.toNat)) rfl (by first | (go_simp; done) | (go_simp; exact hcut W)) { h with f3 := fun _ => congrArg (fun n => Value.slice (if c3 = kk.toNat then A3 else A3.map (·.add (kk.toNat * 10))) n (c3 - kk.toNat)) hdr.symm }
   ·obtain rfl := Option.some.inj ho
    have o17 := (hs.oldtm 17 rfl).trans (show _ = some (Value.int .i64 ss) from rfl)
    exact stepVal rfl (by go_simp) { h with f4 := fun _ => rfl }
   ·obtain rfl := Option.some.inj ho
    have q0 := h.f0 (hw 0 (by decide))
    have q3 := h.f3 (hw 3 (by decide))
    have q4 := h.f4 (hw 4 (by decide))
    refine stepCall rfl Tryz.func11 (by kernel_rfl) rfl #[vs 0, vs 3, vs 4] rfl (by simp [Act.eval, hs.tm 93 0 rfl, hs.tm 96 3 rfl, hs.tm 97 4 rfl]) (by rw [q0, q3, q4]; exact runI_any HZ.out qc (if c3 = kk.toNat then A3 else A3.map (·.add (kk.toNat * 10))) (c3 - kk.toNat) a W (ErrAt.lasts _ _ _ h.b H7.out.2.2.2.2.2.2.2.2.2.2) (MV.last _ _ _ _ h.b H7.out.2.1) (LV.drop (LV.last _ _ _ _ _ h.b H7.out.2.2.2.2.2.2.2.2.1) kk.toNat (by omega))) ?_
    rintro e' W' ⟨q, rfl, hM, hb⟩
    exact ⟨_, rfl, { h.move hb with f5 := fun _ => ⟨q, rfl, hM⟩ }⟩
   ·obtain rfl := Option.some.inj ho
    obtain ⟨q, q5, hM⟩ := h.f5 (hw 5 (by decide))
    have t5 := (hs.tm 98 5 rfl).trans (congrArg some q5)
    exact stepVal rfl (by go_simp) { h with f6 := fun _ => ⟨q, rfl, hM⟩ }
   ·obtain rfl := Option.some.inj ho
    obtain ⟨q, q6, hM⟩ := h.f6 (hw 6 (by decide))
    have t6 := (hs.tm 92 6 rfl).trans (congrArg some q6)
    exact stepVal rfl (by go_simp) { h with f7 := fun _ => ⟨q, rfl, hM⟩ }
   ·obtain rfl := Option.some.inj ho
    obtain ⟨q, q6, hM⟩ := h.f6 (hw 6 (by decide))
    have t6 := (hs.tm 92 6 rfl).trans (congrArg some q6)
    exact stepVal rfl (by go_simp) { h with f8 := fun _ => rfl }
   ·obtain rfl := Option.some.inj ho
    obtain ⟨q, q6, hM⟩ := h.f6 (hw 6 (by decide))
    have t6 := (hs.tm 92 6 rfl).trans (congrArg some q6)
    exact stepVal rfl (by go_simp) { h with f9 := fun _ => rfl }
   ·obtain rfl := Option.some.inj ho
    exact stepBox3 (cs := mZ) (T := 30) rfl (by go_simp; try rfl) fun W' q hq hbx hb => { h.move hb with dc := fun _ => rfl, f10 := fun _ => ⟨q, rfl, Nat.le_trans h.b.size hq, fun _ => hbx, fun h11 => absurd (h.dc h11) (by rw [hli]; decide)⟩ }
   ·obtain rfl := Option.some.inj ho
    obtain ⟨b', q10, hle, hz, _⟩ := h.f10 (hw 10 (by decide))
    obtain ⟨q, q7, hM⟩ := h.f7 (hw 7 (by decide))
    have hbz := hz hli
    exact stepPutB rfl rfl ((hs.ev 18 10 rfl).trans q10) (mA X q) ((hs.ev 99 7 rfl).trans q7) hbz rfl (by kernel_rfl) (mA_one _ _) fun W' hbx hput => { h with dc := fun _ => hw 10 (by decide), b := hput.below h.b hle, f5 := fun h5 => (h.f5 h5).imp fun _ k => ⟨k.1, k.2.putZ hbz hput⟩, f6 := fun h5 => (h.f6 h5).imp fun _ k => ⟨k.1, k.2.putZ hbz hput⟩, f7 := fun h5 => (h.f7 h5).imp fun _ k => ⟨k.1, k.2.putZ hbz hput⟩, f10 := fun _ => ⟨b', q10, hle, fun h => absurd h (by simp), fun _ => ⟨q, hbx, hM.putZ hbz hput⟩⟩ }
   ·obtain rfl := Option.some.inj ho
    have q8 := h.f8 (hw 8 (by decide))
    have t8 := (hs.tm 100 8 rfl).trans (congrArg some q8)
    exact stepVal rfl (by go_simp) { h with f12 := fun _ => rfl }
   ·obtain rfl := Option.some.inj ho
    have q9 := h.f9 (hw 9 (by decide))
    have t9 := (hs.tm 101 9 rfl).trans (congrArg some q9)
    exact stepVal rfl (by go_simp) { h with f13 := fun _ => rfl }
  ·intro l vs W12 hl h
   obtain ⟨g18, q10, hle, _, hbx⟩ := h.f10 (hl 10 (by decide))
   obtain ⟨qd, bg18, hM⟩ := hbx (hl 11 (by decide))
   have q12 := h.f12 (hl 12 (by decide))
   have q13 := h.f13 (hl 13 (by decide))
   have hb := h.b
   simp only [List.map_cons, List.map_nil, putL, Act.put, List.setIfInBounds_toArray, List.set_cons_zero, List.set_cons_succ, q10, q12, q13]
   clear q10 q12 q13 hle hbx h hl
   have H8 := Aside0.mk (show Box W12 g18 30 (mA X qd) ∧ MV W12 X qd ∧ Box W12 g15 30 (mA Y qc) ∧ MV W12 Y qc ∧ Box W12 g11 30 (mA X qb) ∧ MV W12 X qb ∧ Box W12 g8 30 (mA X qa) ∧ MV W12 X qa ∧ Box W12 g5 30 (mA m p) ∧ MV W12 m p ∧ LV W12 s A3 c3 ∧ Below w.heap.size w W12 ∧ ErrAt W12 a from ⟨bg18, hM, blk_below H7.out.1 hb, MV.last _ _ _ _ hb H7.out.2.1, blk_below H7.out.2.2.1 hb, MV.last _ _ _ _ hb H7.out.2.2.2.1, blk_below H7.out.2.2.2.2.1 hb, MV.last _ _ _ _ hb H7.out.2.2.2.2.2.1, blk_below H7.out.2.2.2.2.2.2.1 hb, MV.last _ _ _ _ hb H7.out.2.2.2.2.2.2.2.1, (LV.last _ _ _) _ _ hb H7.out.2.2.2.2.2.2.2.2.1, Below.trans H7.out.2.2.2.2.2.2.2.2.2.1 (hb.mono H7.out.2.2.2.2.2.2.2.2.2.1.size), (ErrAt.lasts _) _ _ hb H7.out.2.2.2.2.2.2.2.2.2.2⟩)
   clear H7 bg18 hM hb
   have lb0 := H8.out.1
   have lb1 := H8.out.2.2.2.2.2.2.1
   go_wp2_with (first | ((with_reducible refine gate_dst (N := 111) rfl ?_); refine gate_guard rfl ?_; refine getM_ rfl rfl rfl rfl lb0 ?_) | ((with_reducible refine gate_dst (N := 112) rfl ?_); refine gate_guard rfl ?_; refine getM_ rfl rfl rfl rfl lb1 ?_))
   clear lb0 lb1
   refine (same_any X X HSH.out qd qa W12 H8.out.2.1 H8.out.2.2.2.2.2.2.2.1).mono ?_
   rw [sameV_refl]
   rintro e w13 ⟨rfl, hb⟩
   have H9 := Aside0.mk (show Box w13 g18 30 (mA X qd) ∧ MV w13 X qd ∧ Box w13 g15 30 (mA Y qc) ∧ MV w13 Y qc ∧ Box w13 g11 30 (mA X qb) ∧ MV w13 X qb ∧ Box w13 g8 30 (mA X qa) ∧ MV w13 X qa ∧ Box w13 g5 30 (mA m p) ∧ MV w13 m p ∧ LV w13 s A3 c3 ∧ Below w.heap.size w w13 ∧ ErrAt w13 a from ⟨blk_below H8.out.1 hb, MV.last _ _ _ _ hb H8.out.2.1, blk_below H8.out.2.2.1 hb, MV.last _ _ _ _ hb H8.out.2.2.2.1, blk_below H8.out.2.2.2.2.1 hb, MV.last _ _ _ _ hb H8.out.2.2.2.2.2.1, blk_below H8.out.2.2.2.2.2.2.1 hb, MV.last _ _ _ _ hb H8.out.2.2.2.2.2.2.2.1, blk_below H8.out.2.2.2.2.2.2.2.2.1 hb, MV.last _ _ _ _ hb H8.out.2.2.2.2.2.2.2.2.2.1, (LV.last _ _ _) _ _ hb H8.out.2.2.2.2.2.2.2.2.2.2.1, Below.trans H8.out.2.2.2.2.2.2.2.2.2.2.2.1 (hb.mono H8.out.2.2.2.2.2.2.2.2.2.2.2.1.size), (ErrAt.lasts _) _ _ hb H8.out.2.2.2.2.2.2.2.2.2.2.2.2⟩)
   clear H8 hb
   go_wp2
   go_ret
   exact ⟨rfl, H9.out.2.2.2.2.2.2.2.2.2.2.2.1⟩
end Go.Proofs.YtendbgedpjcocaaGreatDoor.B
