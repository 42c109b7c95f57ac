import Derived.Test.YtendbgedpjcocaaGreatDoorJnD
import Derived.Test.YtendbgedpjcocaaGreatDoorJnK
import Derived.Test.YtendbgedpjcocaaGreatDoorPkB
import Derived.Test.YtendbgedpjcocaaGreatDoorDrwCount
/- spec.l2MemBent, spec.l12Open, by their size. -/
namespace Go.Proofs.YtendbgedpjcocaaGreatDoor.B
open Go Go.RowKit Go.Shelf Go.Proofs.YtendbgedpjcocaaGreatDoorW.PrintWords Go.Proofs.YtendbgedpjcocaaGreatDoorW.PrintLast Go.Proofs.YtendbgedpjcocaaGreatDoorW.PrintMore
set_option linter.unusedVariables false
/-- A row of numbers of one's own. -/
abbrev RI (W : World) (base : Nat) (v : Value) (l : List Int) : Prop := Kd.R (Kd.int .i64) 3 W base (fun k => base ≤ k) v l
theorem open_dr {w0 w : World} (l : List Int) (hw : ∀ x ∈ l, (Lit.int .u8 x).wf = true) (A : Option Addr) (c : Nat) (hC : Kd.C (Kd.int .u8) w0 A l.length l) (hc : l.length ≤ c) (hb : Below w0.heap.size w0 w) : Calls Tryz.prog 32 #[.slice A l.length c] w fun e W => ∃ g s, e = .returned (.pointer (some ⟨g, 0, none⟩)) ∧ At w0 W g s 1099000000000 W ∧ Below w.heap.size w W ∧ ∀ b T cs, Box W b T cs → T ≠ 93 → b ≠ g := by
 obtain ⟨s, hs, hl, ho⟩ := open_total l hw
 refine (spec_l12Open.calls A c l s 0 w0 w hb hC hc ho).mono ?_
 rintro e W ⟨g, rfl, hi, hb0, hb1⟩
 exact ⟨g, s, rfl, ⟨⟨0, by omega, by omega, hi⟩, hb0, KeepBut.refl _ _ _, hi.lt, hs, hl⟩, hb1, fun b T cs hbx hT => (hi.ne_blk hbx hT).symm⟩
theorem RI.mv {W : World} {base : Nat} {m : List Int × List Int × List Int} {p : (Option Addr × Nat) × (Option Addr × Nat) × (Option Addr × Nat)} (h0 : RI W base (.slice p.1.1 m.1.length p.1.2) m.1) (h1 : RI W base (.slice p.2.1.1 m.2.1.length p.2.1.2) m.2.1) (h2 : RI W base (.slice p.2.2.1 m.2.2.length p.2.2.2) m.2.2) : MV W m p :=
 ⟨(Kd.R_reads' h0).2.1, (Kd.R_reads' h0).2.2, (Kd.R_reads' h1).2.1, (Kd.R_reads' h1).2.2, (Kd.R_reads' h2).2.1, (Kd.R_reads' h2).2.2⟩
/- MBENT -/
theorem Row6.ri {W : World} {base q e : Nat} {l : List Int} (h : Row6 W base q e l) : RI W base (.slice (some ⟨q, 0, none⟩) 6 e) l :=
 own_R h h.len.symm _ fun k hk => by
  rcases h.2 with ⟨_, h0⟩ | ⟨g, cap, cur, hv, hg, _⟩
  ·omega
  ·injection hv with hv
   injection hv with hv
   injection hv with hv
   rw [← hv] at hg
   have : q = k := by simpa [Value.ownBlock] using hk
   omega
section
variable {P : Program} {ops : Array Oper} {o : Oper} {a : Act} {Q : Exit → Act → World → Prop} {W : World}
theorem setR_ {rest : List Oper} {T : TypeId} {q : Tmp} {x : Operand} {g i : Nat} {v : Value} (ho : o.op = .store T (.tmp q) x) (hd : o.dst = none) (hg : o.guard = none)
  (hrun : (execOp a.eval o).run P W = .ok .skip (W.setCell ⟨g, i, none⟩ v)) (h : ∀ W', W' = W.setCell ⟨g, i, none⟩ v → Put1 g W W' → wpList P ops Q rest a W') : wpList P ops Q (o :: rest) a W := by
 refine store_event hg ho hd hrun fun w' hw => ?_
 exact h w' hw (by subst hw; exact ⟨rfl, rfl, rfl, by simp [World.setCell], fun j hj => Below.heap_setCell _ _ _ _ hj⟩)
end
theorem RI.put1 {W W' : World} {base b : Nat} {v : Value} {l : List Int} (h : RI W base v l) (hp : Put1 b W W') (hb : ∀ k, v.ownBlock = some k → k ≠ b) : RI W' base v l := by
 obtain ⟨h0, inner, ⟨h1, h2⟩, hr⟩ := h
 refine ⟨h0, inner, ⟨h1, ?_⟩, hr⟩
 rcases h2 with h2 | ⟨k, cap, cur, rfl, hk, hh, r⟩
 ·exact .inl h2
 ·exact .inr ⟨k, cap, cur, rfl, hk, (hp.far k (hb k rfl)).trans hh, r⟩
set_option maxRecDepth 100000 in
set_option maxHeartbeats 4000000 in
theorem memBent_at {w0 w : World} {g N : Nat} {s : List Int} (h : At w0 w g s (N + 100) w) : Calls Tryz.prog 34 #[.pointer (some ⟨g, 0, none⟩)] w fun e W' => ∃ (m : List Int × List Int × List Int) (p : (Option Addr × Nat) × (Option Addr × Nat) × (Option Addr × Nat)), e = .returned (.agg #[.slice p.1.1 m.1.length p.1.2, .slice p.2.1.1 m.2.1.length p.2.1.2, .slice p.2.2.1 m.2.2.length p.2.2.2]) ∧ Mini m.1 m.2.1 m.2.2 ∧ RI W' w.heap.size (.slice p.1.1 m.1.length p.1.2) m.1 ∧ RI W' w.heap.size (.slice p.2.1.1 m.2.1.length p.2.1.2) m.2.1 ∧ RI W' w.heap.size (.slice p.2.2.1 m.2.2.length p.2.2.2) m.2.2 ∧ At w0 w g s N W' := by
 have fr := h.fresh
 have H0 := Aside0.mk h
 clear h
 go_enter Tryz.func34, Tryz.ntmps34
 go_wp2_with ((with_reducible refine gate_dst (N := 2) rfl ?_); refine boxNew_ rfl rfl mZ 30 ?hr ?_; (case hr => (go_simp; first | done | rfl)); intro g2 w1 hg2' b2 hb1; have hg2 := Nat.le_of_eq hg2'.symm; clear hg2')
 have n2 : g2 ≠ g := fr g2 hg2
 have s1 := hb1.size
 have H1 := Aside0.mk (show At w0 w g s (N + 50 + 20) w1 ∧ Box w1 g2 30 mZ from ⟨At.less (At.below H0.out hb1) (by omega), b2⟩)
 clear H0 b2 hb1
 have hg2s := blk_lt H1.out.2
 refine (mem_at (At.here H1.out.1)).mono ?_
 rintro e w2 ⟨q0, e0, q1, e1, q2, e2, l0, l1, l2, rfl, hR0, hR1, hR2, a01, a02, a12, hA⟩
 have t0 := own_lt hR0 q0 rfl
 have t1 := own_lt hR1 q1 rfl
 have t2 := own_lt hR2 q2 rfl
 have u0 := (own_blk hR0)
 have hq : w1.heap.size ≤ q0 ∧ w1.heap.size ≤ q1 ∧ w1.heap.size ≤ q2 := ⟨hR0.ri.1 q0 rfl, hR1.ri.1 q1 rfl, hR2.ri.1 q2 rfl⟩
 have ll := And.intro hR0.len (And.intro hR1.len hR2.len)
 have ec := And.intro (own_le hR0) (And.intro (own_le hR1) (own_le hR2))
 have nq0 : q0 ≠ g := fr q0 (by omega)
 have nq1 : q1 ≠ g := fr q1 (by omega)
 have nq2 : q2 ≠ g := fr q2 (by omega)
 clear u0
 have hk := hA.k
 have H2 := Aside0.mk (show At w0 w g s (N + 50) w2 ∧ Row6 w2 w1.heap.size q0 e0 l0 ∧ Row6 w2 w1.heap.size q1 e1 l1 ∧ Row6 w2 w1.heap.size q2 e2 l2 ∧ Box w2 g2 30 mZ from ⟨At.over hA H1.out.1, hR0, hR1, hR2, Box.keep H1.out.2 hk n2⟩)
 clear H1 hA hk hR0 hR1 hR2
 go_wp2_with ((with_reducible refine gate_dst (N := 3) rfl ?_); refine new1_ (N := 3) (x := 5) (T := 30) (#[.slice (some ⟨q0, 0, none⟩) 6 e0, .slice (some ⟨q1, 0, none⟩) 6 e1, .slice (some ⟨q2, 0, none⟩) 6 e2]) (zs := #[.slice none 0 0, .slice none 0 0, .slice none 0 0]) (by simp [Value.oneCell']) ?_ ?_ ?_ ?_ ?_ ?_ ?_ ?_ ?_ ?_ ?_ ?_ ?_)
 all_goals (first | rfl | decide | (intro _ _; go_simp; done) | kernel_rfl | skip)
 intro g3 w3 hg3 b3 hb
 simp only [Act.put, List.setIfInBounds_toArray, List.set_cons_zero, List.set_cons_succ]
 have n3 : g3 ≠ g := fr g3 (by omega)
 have H3 := Aside0.mk (show At w0 w g s (N + 49 + 1) w3 ∧ Box w3 g3 30 #[.slice (some ⟨q0, 0, none⟩) 6 e0, .slice (some ⟨q1, 0, none⟩) 6 e1, .slice (some ⟨q2, 0, none⟩) 6 e2] ∧ Row6 w3 w1.heap.size q0 e0 l0 ∧ Row6 w3 w1.heap.size q1 e1 l1 ∧ Row6 w3 w1.heap.size q2 e2 l2 ∧ Box w3 g2 30 mZ from ⟨At.less (At.below H2.out.1 hb) (by omega), b3, Row6.keep H2.out.2.1 (kb_below (g := g) hb) nq0, Row6.keep H2.out.2.2.1 (kb_below (g := g) hb) nq1, Row6.keep H2.out.2.2.2.1 (kb_below (g := g) hb) nq2, Box.keep H2.out.2.2.2.2 (kb_below (g := g) hb) n2⟩)
 clear H2 hb b3
 go_wp2_with fail
 refine (pick_dr H3.out.1 30 (by omega) (by omega)).mono ?_
 rintro e w4 ⟨r, rfl, r0, r1, hA, hk⟩
 have hk4 := hk.1
 have H4 := Aside0.mk (show At w0 w g s (N + 49) w4 ∧ Box w4 g3 30 #[.slice (some ⟨q0, 0, none⟩) 6 e0, .slice (some ⟨q1, 0, none⟩) 6 e1, .slice (some ⟨q2, 0, none⟩) 6 e2] ∧ Row6 w4 w1.heap.size q0 e0 l0 ∧ Row6 w4 w1.heap.size q1 e1 l1 ∧ Row6 w4 w1.heap.size q2 e2 l2 ∧ Box w4 g2 30 mZ from ⟨hA, Box.keep H3.out.2.1 hk n3, Row6.keep H3.out.2.2.1 hk nq0, Row6.keep H3.out.2.2.2.1 hk nq1, Row6.keep H3.out.2.2.2.2.1 hk nq2, Box.keep H3.out.2.2.2.2.2 hk n2⟩)
 clear H3 hA hk
 have dis : g3 ≠ q0 ∧ g3 ≠ q1 ∧ g3 ≠ q2 ∧ g2 ≠ q0 ∧ g2 ≠ q1 ∧ g2 ≠ q2 ∧ g2 ≠ g3 ∧ w.heap.size ≤ g3 := ⟨by omega, by omega, by omega, by omega, by omega, by omega, by omega, by omega⟩
 have low : ∀ (W W' : World) (v : Value) (l : List Int), RI W w1.heap.size v l → Put1 g2 W W' → RI W' w.heap.size v l := fun W W' v l h hp => Kd.R_lower (Kd.R_mono (RI.put1 h hp fun k hk => by have := h.1 k hk; omega) fun k hk => by have : w1.heap.size ≤ k := hk; omega) (by omega)
 have LOW := Aside0.mk low
 clear low
 have fin : ∀ (W W' : World) (A0 A1 A2 : Option Addr) (n0 n1 n2 c0 c1 c2 : Nat) (m0 m1 m2 : List Int), n0 = m0.length → n1 = m1.length → n2 = m2.length → n0 ≤ 7 ∧ n1 ≤ 7 ∧ n2 ≤ 7 → RI W w1.heap.size (.slice A0 n0 c0) m0 → RI W w1.heap.size (.slice A1 n1 c1) m1 → RI W w1.heap.size (.slice A2 n2 c2) m2 → At w0 w g s N W → Put1 g2 W W' → ∃ (m : List Int × List Int × List Int) (p : (Option Addr × Nat) × (Option Addr × Nat) × (Option Addr × Nat)), Ending.returned (Value.agg #[.slice A0 n0 c0, .slice A1 n1 c1, .slice A2 n2 c2]) = .returned (.agg #[.slice p.1.1 m.1.length p.1.2, .slice p.2.1.1 m.2.1.length p.2.1.2, .slice p.2.2.1 m.2.2.length p.2.2.2]) ∧ Mini m.1 m.2.1 m.2.2 ∧ RI W' w.heap.size (.slice p.1.1 m.1.length p.1.2) m.1 ∧ RI W' w.heap.size (.slice p.2.1.1 m.2.1.length p.2.1.2) m.2.1 ∧ RI W' w.heap.size (.slice p.2.2.1 m.2.2.length p.2.2.2) m.2.2 ∧ At w0 w g s N W' := by
  intro W W' A0 A1 A2 n0 n1 n2 c0 c1 c2 m0 m1 m2 h0 h1 h2 hm r0 r1 r2 hA hp
  subst h0 h1 h2
  exact ⟨(m0, m1, m2), ((A0, c0), (A1, c1), (A2, c2)), rfl, hm, LOW.out _ _ _ _ r0 hp, LOW.out _ _ _ _ r1 hp, LOW.out _ _ _ _ r2 hp, hA.put1 hp hg2⟩
 have FIN := Aside0.mk fin
 clear fin
 by_cases h0 : r = 0
 ·have c0 : (r == 0) = true := by simp [h0]
  clear h0
  have lb := H4.out.2.1
  have lb2 := H4.out.2.2.2.2.2
  have cc := (Box.cell lb 0 _ rfl).1
  have cf := (Box.cell lb 0 _ rfl).2
  have ec2 : 2 ≤ e0 := by omega
  go_wp2_with (first | ((with_reducible refine gate_store (t := 28) (p := 13) rfl ?_); refine setF_ (i := 0) (v := .slice (some ⟨q0, 0, none⟩) 2 e0) rfl rfl rfl lb (by go_simp) ?_; intro w7 hb7 hput; have lb27 := Box.put1 lb2 hput (by omega)) | ((with_reducible refine gate_dst (N := 26) rfl ?_); refine boxGet_ rfl rfl rfl rfl hb7 Tryz.underlying30 rfl (by kernel_rfl) ?_) | ((with_reducible refine gate_store (t := 30) (p := 2) rfl ?_); refine boxPut_ rfl rfl rfl rfl (#[.slice (some ⟨q0, 0, none⟩) 2 e0, .slice (some ⟨q1, 0, none⟩) 6 e1, .slice (some ⟨q2, 0, none⟩) 6 e2]) (by rfl) lb27 rfl (by kernel_rfl) (by simp [Value.oneCell']) ?_; intro w9 hbx hput9))
  refine bodyPost_ret (results_cell_row rfl _ _ g2 30 (#[.slice (some ⟨q0, 0, none⟩) 2 e0, .slice (some ⟨q1, 0, none⟩) 6 e1, .slice (some ⟨q2, 0, none⟩) 6 e2]) (0, 0) _ rfl hbx Tryz.underlying30 rfl (by kernel_rfl)) rfl ?_
  exact FIN.out _ w9 _ _ _ _ _ _ _ _ _ (l0.take 2) l1 l2 (by rw [List.length_take, ll.1]; rfl) ll.2.1.symm ll.2.2.symm (by omega) (Kd.R_take (Row6.ri (Row6.put1 (H4.out.2.2.1) hput (by omega))) (by omega)) (Row6.ri (Row6.put1 (H4.out.2.2.2.1) hput (by omega))) (Row6.ri (Row6.put1 (H4.out.2.2.2.2.1) hput (by omega))) (At.less (At.put1 H4.out.1 hput (by omega)) (by omega)) hput9
 have c0 : (r == 0) = false := by simp [h0]
 by_cases h1 : r = 1
 ·have c1 : (r == 1) = true := by simp [h1]
  clear h0 h1
  have lb := H4.out.2.1
  have lb2 := H4.out.2.2.2.2.2
  have cc := (Box.cell lb 2 _ rfl).1
  have hat := own_at (H4.out.2.2.2.2.1) 0 (by omega) (by omega)
  have ca := hat.1
  have cb := hat.2
  simp only [Int.toNat_zero] at ca cb
  go_wp2_with (first | ((with_reducible refine gate_store (t := 3) (p := 18) rfl ?_); refine setR_ (g := q2) (i := 0) (v := .int .i64 1000001) rfl rfl rfl (by go_simp) ?_; intro w7 hw7 hput; have lb7 := Box.put1 lb hput (by omega); have lb27 := Box.put1 lb2 hput (by omega)) | ((with_reducible refine gate_dst (N := 26) rfl ?_); refine boxGet_ rfl rfl rfl rfl lb7 Tryz.underlying30 rfl (by kernel_rfl) ?_) | ((with_reducible refine gate_store (t := 30) (p := 2) rfl ?_); refine boxPut_ rfl rfl rfl rfl (#[.slice (some ⟨q0, 0, none⟩) 6 e0, .slice (some ⟨q1, 0, none⟩) 6 e1, .slice (some ⟨q2, 0, none⟩) 6 e2]) (by rfl) lb27 rfl (by kernel_rfl) (by simp [Value.oneCell']) ?_; intro w9 hbx hput9))
  have hr2 : Row6 w7 w1.heap.size q2 e2 (l2.set 0 1000001) := by rw [hw7]; exact (own_store (H4.out.2.2.2.2.1) 0 1000001).1
  refine bodyPost_ret (results_cell_row rfl _ _ g2 30 (#[.slice (some ⟨q0, 0, none⟩) 6 e0, .slice (some ⟨q1, 0, none⟩) 6 e1, .slice (some ⟨q2, 0, none⟩) 6 e2]) (0, 0) _ rfl hbx Tryz.underlying30 rfl (by kernel_rfl)) rfl ?_
  exact FIN.out _ w9 _ _ _ _ _ _ _ _ _ l0 l1 (l2.set 0 1000001) ll.1.symm ll.2.1.symm (by rw [List.length_set]; exact ll.2.2.symm) (by omega) (Row6.ri (Row6.put1 (H4.out.2.2.1) hput (by omega))) (Row6.ri (Row6.put1 (H4.out.2.2.2.1) hput (by omega))) hr2.ri (At.less (At.put1 H4.out.1 hput (by omega)) (by omega)) hput9
 have c1 : (r == 1) = false := by simp [h1]
 by_cases h2 : r = 2
 rotate_left
 ·have c2 : (r == 2) = false := by simp [h2]
  clear h0 h1 h2
  have lb3 := H4.out.2.1
  have lb2 := H4.out.2.2.2.2.2
  go_wp2_with (first | ((with_reducible refine gate_dst (N := 26) rfl ?_); refine boxGet_ rfl rfl rfl rfl lb3 Tryz.underlying30 rfl (by kernel_rfl) ?_) | ((with_reducible refine gate_store (t := 30) (p := 2) rfl ?_); refine boxPut_ rfl rfl rfl rfl (#[.slice (some ⟨q0, 0, none⟩) 6 e0, .slice (some ⟨q1, 0, none⟩) 6 e1, .slice (some ⟨q2, 0, none⟩) 6 e2]) (by rfl) lb2 rfl (by kernel_rfl) (by simp [Value.oneCell']) ?_; intro w9 hbx hput9))
  refine bodyPost_ret (results_cell_row rfl _ _ g2 30 (#[.slice (some ⟨q0, 0, none⟩) 6 e0, .slice (some ⟨q1, 0, none⟩) 6 e1, .slice (some ⟨q2, 0, none⟩) 6 e2]) (0, 0) _ rfl hbx Tryz.underlying30 rfl (by kernel_rfl)) rfl ?_
  exact FIN.out _ w9 _ _ _ _ _ _ _ _ _ l0 l1 l2 ll.1.symm ll.2.1.symm ll.2.2.symm (by omega) (Row6.ri H4.out.2.2.1) (Row6.ri H4.out.2.2.2.1) (Row6.ri H4.out.2.2.2.2.1) (At.less H4.out.1 (by omega)) hput9
 have c2 : (r == 2) = true := by simp [h2]
 clear h0 h1 h2
 have lb := H4.out.2.1
 have lb2 := H4.out.2.2.2.2.2
 have cc := (Box.cell lb 1 _ rfl).1
 go_wp2_with (first | ((with_reducible refine gate_builtin (b := .append) (xs := #[.tmp 22, .tmp 23]) rfl ?_); at_builtin; refine Kd.R_append (Kd.int .i64) w1.heap.size rfl (.tmp 22) (.tmp 23) 28 3 (.int .i64 0) 8 rfl Tryz.underlying28 info3 rfl (by decide) (by omega) (.slice (some ⟨q1, 0, none⟩) 6 e1) l1 0 [.int .i64 0] (fun k => w1.heap.size ≤ k ∧ k ≠ g3 ∧ k ≠ q0 ∧ k ≠ q2) (fun _ => False) rfl rfl rfl (fun _ hk => hk.elim) (fun k hk => by have := blk_lt lb; have := own_lt (H4.out.2.2.1) q0 rfl; have := own_lt (H4.out.2.2.2.2.1) q2 rfl; exact ⟨by omega, by omega, by omega, by omega⟩) (own_R (H4.out.2.2.2.1) ll.2.1.symm _ (fun k hk => by have e : q1 = k := (by simpa [Value.ownBlock] using hk); subst e; exact ⟨hq.2.1, by omega, by omega, by omega⟩)) (Below.refl _ _) (by have := own_lt (H4.out.2.2.1) q0 rfl; omega) (by omega) ?_; intro v1 w6 hN hb hg hat; obtain ⟨A1, c1, eN⟩ := Kd.R_slice hN; subst eN; have lb6 := (hg.block g3 (blk_lt lb) (by simp [Value.ownBlock]; omega)).trans lb; have lb26 := (hb.block g2 hg2s).trans lb2; have cc6 := (Box.cell lb6 1 _ rfl).1; have cf6 := (Box.cell lb6 1 _ rfl).2) | ((with_reducible refine gate_store (t := 28) (p := 25) rfl ?_); refine setF_ (i := 1) (v := .slice A1 (l1 ++ [0]).length c1) rfl rfl rfl lb6 (by go_simp) ?_; intro w7 hb7 hput; have lb27 := Box.put1 lb26 hput (by omega)) | ((with_reducible refine gate_dst (N := 26) rfl ?_); refine boxGet_ rfl rfl rfl rfl hb7 Tryz.underlying30 rfl (by kernel_rfl) ?_) | ((with_reducible refine gate_store (t := 30) (p := 2) rfl ?_); refine boxPut_ rfl rfl rfl rfl (#[.slice (some ⟨q0, 0, none⟩) 6 e0, .slice A1 (l1 ++ [0]).length c1, .slice (some ⟨q2, 0, none⟩) 6 e2]) (by rfl) lb27 rfl (by kernel_rfl) (by simp [Value.oneCell']) ?_; intro w9 hbx hput9))
 have o0 := own_other (H4.out.2.2.1) hg (.inr (by simp [Value.ownBlock]; omega))
 have o2 := own_other (H4.out.2.2.2.2.1) hg (.inr (by simp [Value.ownBlock]; omega))
 have hr1 : RI w7 w1.heap.size (.slice A1 (l1 ++ [0]).length c1) (l1 ++ [0]) := RI.put1 (Kd.R_mono hN fun k hk => hk.1) hput fun k hk => (hN.1 k hk).2.1
 refine bodyPost_ret (results_cell_row rfl _ _ g2 30 (#[.slice (some ⟨q0, 0, none⟩) 6 e0, .slice A1 (l1 ++ [0]).length c1, .slice (some ⟨q2, 0, none⟩) 6 e2]) (0, 0) _ rfl hbx Tryz.underlying30 rfl (by kernel_rfl)) rfl ?_
 exact FIN.out _ w9 _ _ _ _ _ _ _ _ _ l0 (l1 ++ [0]) l2 ll.1.symm rfl ll.2.2.symm (by have := ll.2.1; simp; omega) (Row6.ri (Row6.put1 o0 hput (by omega))) hr1 (Row6.ri (Row6.put1 o2 hput (by omega))) (At.less (At.put1 (At.low H4.out.1 (hb.mono (by omega))) hput (by omega)) (by omega)) hput9
theorem memBent_dr {w0 wb W : World} {g N : Nat} {s : List Int} (h : At w0 wb g s (N + 100) W) : Calls Tryz.prog 34 #[.pointer (some ⟨g, 0, none⟩)] W fun e W' => ∃ (m : List Int × List Int × List Int) (p : (Option Addr × Nat) × (Option Addr × Nat) × (Option Addr × Nat)), e = .returned (.agg #[.slice p.1.1 m.1.length p.1.2, .slice p.2.1.1 m.2.1.length p.2.1.2, .slice p.2.2.1 m.2.2.length p.2.2.2]) ∧ Mini m.1 m.2.1 m.2.2 ∧ RI W' W.heap.size (.slice p.1.1 m.1.length p.1.2) m.1 ∧ RI W' W.heap.size (.slice p.2.1.1 m.2.1.length p.2.1.2) m.2.1 ∧ RI W' W.heap.size (.slice p.2.2.1 m.2.2.length p.2.2.2) m.2.2 ∧ At w0 wb g s N W' ∧ KeepBut W W' g none :=
 (memBent_at h.here).mono fun e w' ⟨m, p, h1, h2, h3, h4, h5, h7⟩ => ⟨m, p, h1, h2, h3, h4, h5, h7.over h, h7.k⟩

end Go.Proofs.YtendbgedpjcocaaGreatDoor.B
/- spec.l4List, by its size. -/
namespace Go.Proofs.YtendbgedpjcocaaGreatDoor.B
open Go Go.RowKit Go.Shelf Go.Proofs.YtendbgedpjcocaaGreatDoorW.PrintWords Go.Proofs.YtendbgedpjcocaaGreatDoorW.PrintLast Go.Proofs.YtendbgedpjcocaaGreatDoorW.PrintMore
set_option linter.unusedVariables false
def cnN : Nat → Nat
 | 0 => 0
 | d + 1 => 3 * (3 + 2 * cnN d)
def lbN : Nat → Nat
 | 0 => 10
 | d + 1 => 10 + 3 * (1000000 + 2 * lbN d)
theorem cnN_le (d : Nat) (h : d ≤ 3) : cnN d ≤ 400 := by
 have : d = 0 ∨ d = 1 ∨ d = 2 ∨ d = 3 := by omega
 rcases this with rfl | rfl | rfl | rfl <;> decide
/-- A drawn list: its value, its size. -/
abbrev LD (w w' : World) (n : Nat) (e : Ending) (P : Prop) : Prop := ∃ (l : List St) (A : Option Addr) (c : Nat), e = .returned (.slice A l.length c) ∧ Fit n l ∧ Kd.N stK 35 w' w.heap.size (Fr w) (.slice A l.length c) l ∧ P
def ListDr (d : Nat) : Prop := ∀ (a : Int), a ≤ d → -10 ≤ a → ∀ (w0 w : World) (g : Nat) (s : List Int) (N : Nat), At w0 w g s (N + lbN d) w → Calls Tryz.prog 101 #[.pointer (some ⟨g, 0, none⟩), .int .i64 a] w fun e w' => LD w w' (cnN d) e (At w0 w g s N w')
theorem count_fr {w0 wb W : World} {g N : Nat} {s : List Int} (h : At w0 wb g s (N + 200000) W) : Calls Tryz.prog 102 #[.pointer (some ⟨g, 0, none⟩)] W fun e w' => ∃ (x : St) (B : Option Addr) (d : Nat) (A3 : Option Addr) (c3 : Nat), e = .returned (.agg (stC x.f0 x.f1.f0 x.f1.f1 x.f2 B d x.f3.length A3 c3 0 none 0)) ∧ x.f4 = [] ∧ TinyS x ∧ cntS x ≤ 3 ∧ TVo w' (Fr W) x.f2 B d ∧ LVo w' (Fr W) x.f3 A3 c3 ∧ At w0 wb g s N w' ∧ KeepBut W w' g none :=
 (count_dr h.here).mono fun e w' ⟨x, B, d, A3, c3, h1, h2, h3, h4, h5, h6, h7⟩ => ⟨x, B, d, A3, c3, h1, h2, h3, h4, h5, h6, h7.over h, h7.k⟩
theorem ListDr.fr {d : Nat} (hd : ListDr d) {a : Int} (h1 : a ≤ d) (h2 : -10 ≤ a) {w0 wb W : World} {g N : Nat} {s : List Int} (h : At w0 wb g s (N + lbN d) W) : Calls Tryz.prog 101 #[.pointer (some ⟨g, 0, none⟩), .int .i64 a] W fun e w' => ∃ (l : List St) (A : Option Addr) (c : Nat), e = .returned (.slice A l.length c) ∧ Fit (cnN d) l ∧ LVo w' (Fr W) l A c ∧ At w0 wb g s N w' ∧ KeepBut W w' g none :=
 (hd a h1 h2 w0 W g s N h.here).mono fun e w' ⟨l, A, c, h1, h2, h3, h7⟩ => ⟨l, A, c, h1, h2, ⟨Kd.N_V h3⟩, h7.over h, h7.k⟩
set_option maxRecDepth 100000 in
set_option maxHeartbeats 4000000 in
theorem list_core (a : Int) (ha0 : -10 ≤ a) (ha3 : a ≤ 3) (K C L : Nat) (hC : C ≤ 803) (ih : 0 < a → ∃ d : Nat, a ≤ d + 1 ∧ ListDr d ∧ L = lbN d ∧ 1000000 + 2 * lbN d ≤ K ∧ 3 + 2 * cnN d ≤ C ∧ cnN d ≤ 400) (w0 w : World) (g : Nat) (s : List Int) (N : Nat) (h : At w0 w g s (N + 10 + 3 * K) w) :
  Calls Tryz.prog 101 #[.pointer (some ⟨g, 0, none⟩), .int .i64 a] w fun e w' => LD w w' (3 * C) e (At w0 w g s N w') := by
 have fr := h.fresh
 have H0 := Aside0.mk h
 have HI := Aside0.mk ih
 clear h ih
 go_enter Tryz.func101, Tryz.ntmps101
 go_wp2_with ((with_reducible refine gate_dst (N := 7) rfl ?_); refine Kd.N_lit stK w.heap.size 35 rfl (N' := 7) rfl (xs := []) (inner := []) (ok := Fr w) (okp := Fr w) (by go_simp; try rfl) (Reps.none _ _) (fun _ hk => hk) (Nat.le_refl _) (Below.refl _ _) (Nat.le_refl _) (by simp) ?_; intro v7 w1 ho hb1 hg_ hn_; clear hg_ hn_; obtain ⟨A0, c0, e0⟩ := Kd.N_slice ho; subst e0)
 have H1 := Aside0.mk (show At w0 w g s (N + 3 * K + 1) w1 ∧ Kd.N stK 35 w1 w.heap.size (Fr w) (.slice A0 0 c0) [] from ⟨At.less (At.below H0.out hb1) (by omega), ho⟩)
 clear H0 ho hb1
 refine (pick_dr H1.out.1 4 (by omega) (by omega)).mono ?_
 rintro e w2 ⟨r, rfl, r0, r1, hA, hk⟩
 have H2 := Aside0.mk (show At w0 w g s (N + 3 * K) w2 ∧ Kd.N stK 35 w2 w.heap.size (Fr w) (.slice A0 0 c0) [] from ⟨hA, Kd.N_keep H1.out.2 hk fr⟩)
 clear H1 hA hk
 go_wp2
 go_loopw [5, 6] (fun v5 v6 wr => ∃ (x6 : Int) (l : List St) (A : Option Addr) (c : Nat), v5 = .slice A l.length c ∧ v6 = .int .i64 x6 ∧ Aside0 (∃ n m : Nat, x6 = n ∧ n ≤ 3 ∧ Fit m l ∧ m + n * C ≤ 3 * C ∧ At w0 w g s (N + n * K) wr) ∧ Aside0 (Kd.N stK 35 wr w.heap.size (Fr w) (.slice A l.length c) l)) (fun _ v6 _ => (intOf v6).toNat)
 case atStart =>
  obtain ⟨n, rfl⟩ := Int.eq_ofNat_of_zero_le r0
  exact ⟨_, [], A0, c0, rfl, rfl, ⟨n, 0, rfl, by omega, Fit.nil 0, by have := Nat.mul_le_mul_right C (show n ≤ 3 by omega); omega, At.less H2.out.1 (by have := Nat.mul_le_mul_right K (show n ≤ 3 by omega); omega)⟩, ⟨H2.out.2⟩⟩
 case round =>
  clear H2
  obtain ⟨x6, l, A, c, rfl, rfl, HR, HO⟩ := hrel
  by_cases hb : 0 < x6 ∧ 0 < a
  rotate_left
  ·have hend : LD w wr (3 * C) (.returned (.slice A l.length c)) (At w0 w g s N wr) := by
    obtain ⟨n, m, hn, hn3, hF, hm, hA⟩ := HR.out
    exact ⟨l, A, c, rfl, hF.mono (by omega), HO.out, hA.less (by omega)⟩
   have HEND := Aside0.mk hend
   clear hend HR HO
   by_cases hx : 0 < x6
   ·have bn : decide (0 < x6) = true := decide_eq_true hx
    have ba : decide (0 < a) = false := decide_eq_false fun h => hb ⟨hx, h⟩
    clear hb hx
    go_wp2
    go_ret
    exact HEND.out
   ·have bn : decide (0 < x6) = false := decide_eq_false hx
    clear hb hx
    go_wp2
    go_ret
    exact HEND.out
  have bn : decide (0 < x6) = true := decide_eq_true hb.1
  have ba : decide (0 < a) = true := decide_eq_true hb.2
  obtain ⟨dd, hd1, hLD, rfl, hK, hC', hcn⟩ := HI.out hb.2
  obtain ⟨n', m, hn, hn3, hF, hm, hA⟩ := HR.out
  obtain ⟨n, rfl⟩ : ∃ n, n' = n + 1 := ⟨n' - 1, by omega⟩
  rw [Nat.succ_mul] at hm hA
  have hlt := Kd.N_lt HO.out
  have hlen := hF.len
  have hws := hA.k.1
  have ha1 : 1 ≤ a := hb.2
  have hw1 : wrap64 (a - 1) = a - 1 := by unfold wrap64; omega
  have hw2 : wrap64 (a - 2) = a - 2 := by unfold wrap64; omega
  have hw6 : wrap64 (x6 - 1) = (n : Int) := by unfold wrap64; omega
  have HF := Aside0.mk (show Fit m l ∧ m + C + n * C ≤ 3 * C ∧ x6 = n + 1 ∧ n ≤ 2 ∧ l.length ≤ 2500 from ⟨hF, by omega, by omega, by omega, by omega⟩)
  have HLD := Aside0.mk hLD
  have rel : ∀ (x : St) (W : World) (A1 : Option Addr) (c1 : Nat), TinyS x → cntS x ≤ C → Kd.N stK 35 W w.heap.size (Fr w) (.slice A1 (l.length + 1) c1) (l ++ [x]) → At w0 w g s (N + n * K) W → ∃ (x6 : Int) (l' : List St) (A : Option Addr) (c : Nat), Value.slice A1 (l.length + 1) c1 = .slice A l'.length c ∧ Value.int .i64 (n : Int) = .int .i64 x6 ∧ Aside0 (∃ n m : Nat, x6 = n ∧ n ≤ 3 ∧ Fit m l' ∧ m + n * C ≤ 3 * C ∧ At w0 w g s (N + n * K) W) ∧ Aside0 (Kd.N stK 35 W w.heap.size (Fr w) (.slice A l'.length c) l') := by
   intro x W A1 c1 hx hc hN hA
   exact ⟨n, l ++ [x], A1, c1, congrArg (fun k => Value.slice A1 k c1) (by simp), rfl, ⟨n, m + C, rfl, by omega, hF.snoc hx hc, by omega, hA⟩, ⟨by simpa using hN⟩⟩
  have REL := Aside0.mk rel
  have rel0 : ∀ W : World, Kd.N stK 35 W w.heap.size (Fr w) (.slice A l.length c) l → At w0 w g s (N + n * K) W → ∃ (x6 : Int) (l' : List St) (A' : Option Addr) (c' : Nat), Value.slice A l.length c = .slice A' l'.length c' ∧ Value.int .i64 (n : Int) = .int .i64 x6 ∧ Aside0 (∃ n m : Nat, x6 = n ∧ n ≤ 3 ∧ Fit m l' ∧ m + n * C ≤ 3 * C ∧ At w0 w g s (N + n * K) W) ∧ Aside0 (Kd.N stK 35 W w.heap.size (Fr w) (.slice A' l'.length c') l') := fun W hN hA => ⟨n, l, A, c, rfl, rfl, ⟨n, m, rfl, by omega, hF, by omega, hA⟩, ⟨hN⟩⟩
  have REL0 := Aside0.mk rel0
  have H9 := Aside0.mk (show At w0 w g s (N + n * K + 900000 + 2 * lbN dd + 1) wr ∧ Kd.N stK 35 wr w.heap.size (Fr w) (.slice A l.length c) l from ⟨hA.less (by omega), HO.out⟩)
  clear hF hm hA hb HR HO hlen hLD hn hn3 hK rel rel0
  go_wp2_with fail
  refine (pick_dr H9.out.1 7 (by omega) (by omega)).mono ?_
  rintro e w3 ⟨r, rfl, r0, r1, hA, hk⟩
  have hk3 := hk.1
  have H10 := Aside0.mk (show At w0 w g s (N + n * K + 900000 + 2 * lbN dd) w3 ∧ Kd.N stK 35 w3 w.heap.size (Fr w) (.slice A l.length c) l from ⟨hA, Kd.N_keep H9.out.2 hk fr⟩)
  clear H9 hA hk
  have hk33 : wr.heap.size ≤ w3.heap.size := hk3
  by_cases h01 : r = 0 ∨ r = 1
  ·have h02 : (r == 0) = true ∨ ((r == 0) = false ∧ (r == 1) = true) := by rcases h01 with h | h <;> simp [h]
   clear h01
   rcases h02 with c0 | ⟨c0, c1⟩
   all_goals
    go_wp2_with fail
    refine (expr_dr 3 (by omega) (At.less (N := N + n * K + 900000 + 2 * lbN dd) (M := N + n * K + 800000 + 2 * lbN dd + 100000) H10.out.1 (by omega))).mono ?_
    rintro e w4 ⟨x, B, e, rfl, hx, hT, hA, hk⟩
    have hk4 := hk.1
    have H11 := Aside0.mk (show At w0 w g s (N + n * K + 800000 + 2 * lbN dd) w4 ∧ TVo w4 (Fr wr) x B e ∧ Kd.N stK 35 w4 w.heap.size (Fr w) (.slice A l.length c) l from ⟨hA, hT.mono fun k hk => Nat.le_trans hk33 hk, Kd.N_keep H10.out.2 hk fr⟩)
    clear H10 hA hk
    have HX := Aside0.mk hx
    clear hx
    go_wp2_with fail
    refine (HLD.out.fr (a := a - 1) (by omega) (by omega) (At.less (M := N + n * K + 800000 + lbN dd + lbN dd) H11.out.1 (by omega))).mono ?_
    rintro e w5 ⟨l1, A1, c1, rfl, hF1, hL1, hA, hk⟩
    have hk5 := hk.1
    have H12 := Aside0.mk (show At w0 w g s (N + n * K + 800000 + lbN dd) w5 ∧ LVo w5 (Fr wr) l1 A1 c1 ∧ TVo w5 (Fr wr) x B e ∧ Kd.N stK 35 w5 w.heap.size (Fr w) (.slice A l.length c) l from ⟨hA, hL1.mono fun k hk => Nat.le_trans hk33 (Nat.le_trans hk4 hk), TVo.keep H11.out.2.1 hk fun k hk => fr k (Nat.le_trans hws hk), Kd.N_keep H11.out.2.2 hk fr⟩)
    clear H11 hA hk
    go_wp2_with fail
    refine (HLD.out.fr (a := a - 2) (by omega) (by omega) (At.less (M := N + n * K + 800000 + lbN dd) H12.out.1 (by omega))).mono ?_
    rintro e w6 ⟨l2, A2, c2, rfl, hF2, hL2, hA, hk⟩
    have hk6 := hk.1
    have H13 := Aside0.mk (show At w0 w g s (N + n * K + 800000) w6 ∧ LVo w6 (Fr wr) l2 A2 c2 ∧ LVo w6 (Fr wr) l1 A1 c1 ∧ TVo w6 (Fr wr) x B e ∧ Kd.N stK 35 w6 w.heap.size (Fr w) (.slice A l.length c) l from ⟨hA, hL2.mono fun k hk => Nat.le_trans hk33 (Nat.le_trans hk4 (Nat.le_trans hk5 hk)), LVo.keep H12.out.2.1 hk fun k hk => fr k (Nat.le_trans hws hk), TVo.keep H12.out.2.2.1 hk fun k hk => fr k (Nat.le_trans hws hk), Kd.N_keep H12.out.2.2.2 hk fr⟩)
    clear H12 hA hk
    have HFF := Aside0.mk (And.intro hF1 hF2)
    clear hF1 hF2
    go_wp2_with ((with_reducible refine gate_builtin (b := .append) (xs := #[.tmp 31, .tmp 43]) rfl ?_); at_builtin; refine Kd.N_append k35 w.heap.size rfl (.tmp 31) (.tmp 43) 33 35 (.agg zS) 128 rfl Tryz.underlying33 info35 rfl (by decide) (by omega) (.slice A l.length c) (l) ((⟨2, ⟨0, 0⟩, x, l1, l2⟩ : St)) ([.int .i64 2, .int .i64 0, .int .i64 0, .int .i64 x.f0, .int .i64 x.f1, .int .i64 x.f2.f0, .int .i64 x.f2.f1, .slice B x.f3.length e, .slice A1 l1.length c1, .slice A2 l2.length c2]) (Fr w) (Fr wr) rfl rfl (stLitO_F 2 0 0 x B e l1 A1 c1 l2 A2 c2 _ _ (H13.out.2.2.2.1) (H13.out.2.2.1) (H13.out.2.1)) (fun k hk => ⟨Nat.le_trans hws hk, fun e => by have := hlt k e.symm; have : wr.heap.size ≤ k := hk; omega⟩) (fun k hk => by have := (H13.out.1).k.1; show w.heap.size ≤ k; omega) (H13.out.2.2.2.2) (Below.refl _ _) (by have := (H13.out.1).k.1; omega) (by have := HF.out.2.2.2.2; omega) ?_; intro v1 W1 hN hb hg hat)
    go_roundw
    case measure => have := HF.out; simp [intOf]; omega
    case rel =>
     obtain ⟨A1, c1, rfl⟩ := Kd.N_slice hN
     rw [hw6]
     have e2 : (l ++ [(⟨2, ⟨0, 0⟩, x, l1, l2⟩ : St)]).length = l.length + 1 := by simp
     rw [e2] at hN ⊢
     exact REL.out ((⟨2, ⟨0, 0⟩, x, l1, l2⟩ : St)) _ A1 c1 (Fit.mk1 (k := 2) (a := ⟨0, 0⟩) HX.out HFF.out.1 HFF.out.2 (by omega) (by omega)).1 (by have := (Fit.mk1 (k := 2) (a := ⟨0, 0⟩) HX.out HFF.out.1 HFF.out.2 (by omega) (by omega)).2; omega) hN (At.less (At.low H13.out.1 hb) (by omega))
  have c0 : (r == 0) = false := by simp; omega
  have c1 : (r == 1) = false := by simp; omega
  by_cases h2 : r = 2
  ·have c2 : (r == 2) = true := by simp [h2]
   clear h01 h2
   by_cases h1 : 1 < a
   rotate_left
   ·have b1 : decide (1 < a) = false := decide_eq_false h1
    go_wp2
    go_roundw
    case measure => have := HF.out; simp [intOf]; omega
    case rel => rw [hw6]; exact REL0.out _ (H10.out.2) (At.less H10.out.1 (by omega))
   have b1 : decide (1 < a) = true := decide_eq_true h1
   go_wp2_with fail
   refine (count_fr (At.less (N := N + n * K + 900000 + 2 * lbN dd) (M := N + n * K + 200000 + 200000) H10.out.1 (by omega))).mono ?_
   rintro e w4 ⟨x, B, e, A1, c1, rfl, hx4, hxt, hxc, hT, hL1, hA, hk⟩
   have hk4 := hk.1
   have H11 := Aside0.mk (show At w0 w g s (N + n * K + 200000) w4 ∧ TVo w4 (Fr wr) x.f2 B e ∧ LVo w4 (Fr wr) x.f3 A1 c1 ∧ Kd.N stK 35 w4 w.heap.size (Fr w) (.slice A l.length c) l from ⟨hA, hT.mono fun k hk => Nat.le_trans hk33 hk, hL1.mono fun k hk => Nat.le_trans hk33 hk, Kd.N_keep H10.out.2 hk fr⟩)
   clear H10 hA hk
   obtain ⟨k0, ⟨k1, k2⟩, k3, k4, k5⟩ := x
   dsimp only at hx4
   subst hx4
   have HX := Aside0.mk (And.intro hxt hxc)
   clear hxt hxc
   go_wp2_with ((with_reducible refine gate_builtin (b := .append) (xs := #[.tmp 49, .tmp 52]) rfl ?_); at_builtin; refine Kd.N_append k35 w.heap.size rfl (.tmp 49) (.tmp 52) 33 35 (.agg zS) 128 rfl Tryz.underlying33 info35 rfl (by decide) (by omega) (.slice A l.length c) (l) ((⟨k0, ⟨k1, k2⟩, k3, k4, []⟩ : St)) ([.int .i64 k0, .int .i64 k1, .int .i64 k2, .int .i64 k3.f0, .int .i64 k3.f1, .int .i64 k3.f2.f0, .int .i64 k3.f2.f1, .slice B k3.f3.length e, .slice A1 k4.length c1, .slice none 0 0]) (Fr w) (Fr wr) rfl rfl (stLitO_F k0 k1 k2 k3 B e k4 A1 c1 [] none 0 _ _ (H11.out.2.1) (H11.out.2.2.1) (LVo.nil _ _)) (fun k hk => ⟨Nat.le_trans hws hk, fun e => by have := hlt k e.symm; have : wr.heap.size ≤ k := hk; omega⟩) (fun k hk => by have := (H11.out.1).k.1; show w.heap.size ≤ k; omega) (H11.out.2.2.2) (Below.refl _ _) (by have := (H11.out.1).k.1; omega) (by have := HF.out.2.2.2.2; omega) ?_; intro v1 W1 hN hb hg hat)
   go_roundw
   case measure => have := HF.out; simp [intOf]; omega
   case rel =>
    obtain ⟨A1, c1, rfl⟩ := Kd.N_slice hN
    rw [hw6]
    have e2 : (l ++ [(⟨k0, ⟨k1, k2⟩, k3, k4, []⟩ : St)]).length = l.length + 1 := by simp
    rw [e2] at hN ⊢
    exact REL.out ((⟨k0, ⟨k1, k2⟩, k3, k4, []⟩ : St)) _ A1 c1 HX.out.1 (by have := HX.out.2; omega) hN (At.less (At.low H11.out.1 hb) (by omega))
  have c2 : (r == 2) = false := by simp [h2]
  by_cases h3 : r = 3
  ·have c3 : (r == 3) = true := by simp [h3]
   clear h01 h2 h3
   go_wp2_with fail
   refine (pick_dr (At.less (N := N + n * K + 900000 + 2 * lbN dd) (M := N + n * K + 800000 + 2 * lbN dd + 1) H10.out.1 (by omega)) 3 (by omega) (by omega)).mono ?_
   rintro e w4 ⟨t, rfl, t0, t1, hA, hk⟩
   have hk4 := hk.1
   have H11 := Aside0.mk (show At w0 w g s (N + n * K + 800000 + 2 * lbN dd) w4 ∧ Kd.N stK 35 w4 w.heap.size (Fr w) (.slice A l.length c) l from ⟨hA, Kd.N_keep H10.out.2 hk fr⟩)
   clear H10 hA hk
   by_cases ht : t = 0
   rotate_left
   ·have ct : (t == 0) = false := by simp [ht]
    go_wp2
    go_roundw
    case measure => have := HF.out; simp [intOf]; omega
    case rel => rw [hw6]; exact REL0.out _ (H11.out.2) (At.less H11.out.1 (by omega))
   have ct : (t == 0) = true := by simp [ht]
   clear ht
   go_wp2_with fail
   refine (expr_dr 2 (by omega) (At.less (N := N + n * K + 800000 + 2 * lbN dd) (M := N + n * K + 600000 + 2 * lbN dd + 100000) H11.out.1 (by omega))).mono ?_
   rintro e w5 ⟨x, B, e, rfl, hx, hT, hA, hk⟩
   have hk5 := hk.1
   have H12 := Aside0.mk (show At w0 w g s (N + n * K + 600000 + 2 * lbN dd) w5 ∧ TVo w5 (Fr wr) x B e ∧ Kd.N stK 35 w5 w.heap.size (Fr w) (.slice A l.length c) l from ⟨hA, hT.mono fun k hk => Nat.le_trans hk33 (Nat.le_trans hk4 hk), Kd.N_keep H11.out.2 hk fr⟩)
   clear H11 hA hk
   have HX := Aside0.mk hx
   clear hx
   go_wp2_with fail
   refine (HLD.out.fr (a := a - 1) (by omega) (by omega) (At.less (M := N + n * K + 600000 + lbN dd + lbN dd) H12.out.1 (by omega))).mono ?_
   rintro e w6 ⟨l1, A1, c1, rfl, hF1, hL1, hA, hk⟩
   have hk6 := hk.1
   have H13 := Aside0.mk (show At w0 w g s (N + n * K + 600000 + lbN dd) w6 ∧ LVo w6 (Fr wr) l1 A1 c1 ∧ TVo w6 (Fr wr) x B e ∧ Kd.N stK 35 w6 w.heap.size (Fr w) (.slice A l.length c) l from ⟨hA, hL1.mono fun k hk => Nat.le_trans hk33 (Nat.le_trans hk4 (Nat.le_trans hk5 hk)), TVo.keep H12.out.2.1 hk fun k hk => fr k (Nat.le_trans hws hk), Kd.N_keep H12.out.2.2 hk fr⟩)
   clear H12 hA hk
   have HFF := Aside0.mk hF1
   clear hF1
   go_wp2_with ((with_reducible refine gate_builtin (b := .append) (xs := #[.tmp 59, .tmp 67]) rfl ?_); at_builtin; refine Kd.N_append k35 w.heap.size rfl (.tmp 59) (.tmp 67) 33 35 (.agg zS) 128 rfl Tryz.underlying33 info35 rfl (by decide) (by omega) (.slice A l.length c) (l) ((⟨3, ⟨0, 0⟩, x, l1, []⟩ : St)) ([.int .i64 3, .int .i64 0, .int .i64 0, .int .i64 x.f0, .int .i64 x.f1, .int .i64 x.f2.f0, .int .i64 x.f2.f1, .slice B x.f3.length e, .slice A1 l1.length c1, .slice none 0 0]) (Fr w) (Fr wr) rfl rfl (stLitO_F 3 0 0 x B e l1 A1 c1 [] none 0 _ _ (H13.out.2.2.1) (H13.out.2.1) (LVo.nil _ _)) (fun k hk => ⟨Nat.le_trans hws hk, fun e => by have := hlt k e.symm; have : wr.heap.size ≤ k := hk; omega⟩) (fun k hk => by have := (H13.out.1).k.1; show w.heap.size ≤ k; omega) (H13.out.2.2.2) (Below.refl _ _) (by have := (H13.out.1).k.1; omega) (by have := HF.out.2.2.2.2; omega) ?_; intro v1 W1 hN hb hg hat)
   go_roundw
   case measure => have := HF.out; simp [intOf]; omega
   case rel =>
    obtain ⟨A1, c1, rfl⟩ := Kd.N_slice hN
    rw [hw6]
    have e2 : (l ++ [(⟨3, ⟨0, 0⟩, x, l1, []⟩ : St)]).length = l.length + 1 := by simp
    rw [e2] at hN ⊢
    exact REL.out ((⟨3, ⟨0, 0⟩, x, l1, []⟩ : St)) _ A1 c1 (Fit.mk1 (k := 3) (a := ⟨0, 0⟩) HX.out HFF.out (Fit.nil 0) (by omega) (by omega)).1 (by have := (Fit.mk1 (k := 3) (a := ⟨0, 0⟩) HX.out HFF.out (Fit.nil 0) (by omega) (by omega)).2; omega) hN (At.less (At.low H13.out.1 hb) (by omega))
  have c3 : (r == 3) = false := by simp [h3]
  clear h01 h2 h3
  go_wp2_with fail
  refine (to_dr (At.less (N := N + n * K + 900000 + 2 * lbN dd) (M := N + n * K + 800000 + 2) H10.out.1 (by omega))).mono ?_
  rintro e w4 ⟨y, z, rfl, hA, hk⟩
  have hk4 := hk.1
  have H11 := Aside0.mk (show At w0 w g s (N + n * K + 800000) w4 ∧ Kd.N stK 35 w4 w.heap.size (Fr w) (.slice A l.length c) l from ⟨hA, Kd.N_keep H10.out.2 hk fr⟩)
  clear H10 hA hk
  go_wp2_with fail
  refine (expr_dr 3 (by omega) (At.less (N := N + n * K + 800000) (M := N + n * K + 100000) H11.out.1 (by omega))).mono ?_
  rintro e w5 ⟨x, B, e, rfl, hx, hT, hA, hk⟩
  have hk5 := hk.1
  have H12 := Aside0.mk (show At w0 w g s (N + n * K) w5 ∧ TVo w5 (Fr wr) x B e ∧ Kd.N stK 35 w5 w.heap.size (Fr w) (.slice A l.length c) l from ⟨hA, hT.mono fun k hk => Nat.le_trans hk33 (Nat.le_trans hk4 hk), Kd.N_keep H11.out.2 hk fr⟩)
  clear H11 hA hk
  have HX := Aside0.mk hx
  clear hx
  go_wp2_with ((with_reducible refine gate_builtin (b := .append) (xs := #[.tmp 20, .tmp 26]) rfl ?_); at_builtin; refine Kd.N_append k35 w.heap.size rfl (.tmp 20) (.tmp 26) 33 35 (.agg zS) 128 rfl Tryz.underlying33 info35 rfl (by decide) (by omega) (.slice A l.length c) (l) ((⟨1, ⟨y, z⟩, x, [], []⟩ : St)) ([.int .i64 1, .int .i64 y, .int .i64 z, .int .i64 x.f0, .int .i64 x.f1, .int .i64 x.f2.f0, .int .i64 x.f2.f1, .slice B x.f3.length e, .slice none 0 0, .slice none 0 0]) (Fr w) (Fr wr) rfl rfl (stLitO_F 1 y z x B e [] none 0 [] none 0 _ _ (H12.out.2.1) (LVo.nil _ _) (LVo.nil _ _)) (fun k hk => ⟨Nat.le_trans hws hk, fun e => by have := hlt k e.symm; have : wr.heap.size ≤ k := hk; omega⟩) (fun k hk => by have := (H12.out.1).k.1; show w.heap.size ≤ k; omega) (H12.out.2.2) (Below.refl _ _) (by have := (H12.out.1).k.1; omega) (by have := HF.out.2.2.2.2; omega) ?_; intro v1 W1 hN hb hg hat)
  go_roundw
  case measure => have := HF.out; simp [intOf]; omega
  case rel =>
   obtain ⟨A1, c1, rfl⟩ := Kd.N_slice hN
   rw [hw6]
   have e2 : (l ++ [(⟨1, ⟨y, z⟩, x, [], []⟩ : St)]).length = l.length + 1 := by simp
   rw [e2] at hN ⊢
   exact REL.out ((⟨1, ⟨y, z⟩, x, [], []⟩ : St)) _ A1 c1 (Fit.mk1 (k := 1) (a := ⟨y, z⟩) HX.out (Fit.nil 0) (Fit.nil 0) (by omega) (by omega)).1 (by have := (Fit.mk1 (k := 1) (a := ⟨y, z⟩) HX.out (Fit.nil 0) (Fit.nil 0) (by omega) (by omega)).2; omega) hN (At.less (At.low H12.out.1 hb) (by omega))
theorem list_dr (d : Nat) : d ≤ 3 → ListDr d := by
 induction d with
 | zero =>
  intro _ a h1 h2 w0 w g s N h
  exact list_core a h2 (by omega) 0 0 0 (by omega) (fun h => by omega) w0 w g s N h
 | succ d ih =>
  intro h3 a h1 h2 w0 w g s N h
  have hc := cnN_le d (by omega)
  exact list_core a h2 (by omega) (1000000 + 2 * lbN d) (3 + 2 * cnN d) (lbN d) (by omega) (fun _ => ⟨d, by omega, ih (by omega), rfl, by omega, by omega, hc⟩) w0 w g s N (h.less (by rw [lbN]; omega))

end Go.Proofs.YtendbgedpjcocaaGreatDoor.B
