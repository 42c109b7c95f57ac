import Derived.Test.YtendbgedpjcocaaGreatDoorJnK
import Derived.Test.YtendbgedpjcocaaGreatDoorJnJ
import Derived.Test.YtendbgedpjcocaaGreatDoorPkB
import Derived.Test.YtendbgedpjcocaaGreatDoorJnL
import Derived.Test.YtendbgedpjcocaaGreatDoorJnE
import Derived.Test.YtendbgedpjcocaaGreatDoorJnB
/- spec.l2MemBent, spec.l12Open, by their size. -/
namespace Go.Proofs.YtendbgedpjcocaaGreatDoor.B
open Go Go.RowKit Go.Shelf Go.Proofs.YtendbgedpjcocaaGreatDoorW.PrintWords Go.Proofs.YtendbgedpjcocaaGreatDoorW.PrintLast Go.Proofs.YtendbgedpjcocaaGreatDoorW.PrintMore
set_option linter.unusedVariables false
/-- A row of numbers of one's own. -/
abbrev RI (W : World) (base : Nat) (v : Value) (l : List Int) : Prop := Kd.R (Kd.int .i64) 3 W base (fun k => base ≤ k) v l
theorem open_dr {w0 w : World} (l : List Int) (hw : ∀ x ∈ l, (Lit.int .u8 x).wf = true) (A : Option Addr) (c : Nat) (hC : Kd.C (Kd.int .u8) w0 A l.length l) (hc : l.length ≤ c) (hb : Below w0.heap.size w0 w) : Calls Tryz.prog 32 #[.slice A l.length c] w fun e W => ∃ g s, e = .returned (.pointer (some ⟨g, 0, none⟩)) ∧ At w0 W g s 1099000000000 W ∧ Below w.heap.size w W ∧ ∀ b T cs, Box W b T cs → T ≠ 93 → b ≠ g := by
 obtain ⟨s, hs, hl, ho⟩ := open_total l hw
 refine (spec_l12Open.calls A c l s 0 w0 w hb hC hc ho).mono ?_
 rintro e W ⟨g, rfl, hi, hb0, hb1⟩
 exact ⟨g, s, rfl, ⟨⟨0, by omega, by omega, hi⟩, hb0, KeepBut.refl _ _ _, hi.lt, hs, hl⟩, hb1, fun b T cs hbx hT => (hi.ne_blk hbx hT).symm⟩
theorem RI.mv {W : World} {base : Nat} {m : List Int × List Int × List Int} {p : (Option Addr × Nat) × (Option Addr × Nat) × (Option Addr × Nat)} (h0 : RI W base (.slice p.1.1 m.1.length p.1.2) m.1) (h1 : RI W base (.slice p.2.1.1 m.2.1.length p.2.1.2) m.2.1) (h2 : RI W base (.slice p.2.2.1 m.2.2.length p.2.2.2) m.2.2) : MV W m p :=
 ⟨(Kd.R_reads' h0).2.1, (Kd.R_reads' h0).2.2, (Kd.R_reads' h1).2.1, (Kd.R_reads' h1).2.2, (Kd.R_reads' h2).2.1, (Kd.R_reads' h2).2.2⟩
/- MBENT -/
theorem Row6.ri {W : World} {base q e : Nat} {l : List Int} (h : Row6 W base q e l) : RI W base (.slice (some ⟨q, 0, none⟩) 6 e) l :=
 own_R h h.len.symm _ fun k hk => by
  rcases h.2 with ⟨_, h0⟩ | ⟨g, cap, cur, hv, hg, _⟩
  ·omega
  ·injection hv with hv
   injection hv with hv
   injection hv with hv
   rw [← hv] at hg
   have : q = k := by simpa [Value.ownBlock] using hk
   omega
section
variable {P : Program} {ops : Array Oper} {o : Oper} {a : Act} {Q : Exit → Act → World → Prop} {W : World}
theorem setR_ {rest : List Oper} {T : TypeId} {q : Tmp} {x : Operand} {g i : Nat} {v : Value} (ho : o.op = .store T (.tmp q) x) (hd : o.dst = none) (hg : o.guard = none)
  (hrun : (execOp a.eval o).run P W = .ok .skip (W.setCell ⟨g, i, none⟩ v)) (h : ∀ W', W' = W.setCell ⟨g, i, none⟩ v → Put1 g W W' → wpList P ops Q rest a W') : wpList P ops Q (o :: rest) a W := by
 refine store_event hg ho hd hrun fun w' hw => ?_
 exact h w' hw (by subst hw; exact ⟨rfl, rfl, rfl, by simp [World.setCell], fun j hj => Below.heap_setCell _ _ _ _ hj⟩)
end
theorem RI.put1 {W W' : World} {base b : Nat} {v : Value} {l : List Int} (h : RI W base v l) (hp : Put1 b W W') (hb : ∀ k, v.ownBlock = some k → k ≠ b) : RI W' base v l := by
 obtain ⟨h0, inner, ⟨h1, h2⟩, hr⟩ := h
 refine ⟨h0, inner, ⟨h1, ?_⟩, hr⟩
 rcases h2 with h2 | ⟨k, cap, cur, rfl, hk, hh, r⟩
 ·exact .inl h2
 ·exact .inr ⟨k, cap, cur, rfl, hk, (hp.far k (hb k rfl)).trans hh, r⟩
set_option maxRecDepth 100000 in
set_option maxHeartbeats 4000000 in
theorem memBent_at {w0 w : World} {g N : Nat} {s : List Int} (h : At w0 w g s (N + 100) w) : Calls Tryz.prog 34 #[.pointer (some ⟨g, 0, none⟩)] w fun e W' => ∃ (m : List Int × List Int × List Int) (p : (Option Addr × Nat) × (Option Addr × Nat) × (Option Addr × Nat)), e = .returned (.agg #[.slice p.1.1 m.1.length p.1.2, .slice p.2.1.1 m.2.1.length p.2.1.2, .slice p.2.2.1 m.2.2.length p.2.2.2]) ∧ Mini m.1 m.2.1 m.2.2 ∧ RI W' w.heap.size (.slice p.1.1 m.1.length p.1.2) m.1 ∧ RI W' w.heap.size (.slice p.2.1.1 m.2.1.length p.2.1.2) m.2.1 ∧ RI W' w.heap.size (.slice p.2.2.1 m.2.2.length p.2.2.2) m.2.2 ∧ At w0 w g s N W' := by
 have fr := h.fresh
 have H0 := Aside0.mk h
 clear h
 go_enter Tryz.func34, Tryz.ntmps34
 go_wp2_with ((with_reducible refine gate_dst (N := 2) rfl ?_); refine boxNew_ rfl rfl mZ 30 ?hr ?_; (case hr => (go_simp; first | done | rfl)); intro g2 w1 hg2' b2 hb1; have hg2 := Nat.le_of_eq hg2'.symm; clear hg2')
 have n2 : g2 ≠ g := fr g2 hg2
 have s1 := hb1.size
 have H1 := Aside0.mk (show At w0 w g s (N + 50 + 20) w1 ∧ Box w1 g2 30 mZ from ⟨At.less (At.below H0.out hb1) (by omega), b2⟩)
 clear H0 b2 hb1
 have hg2s := blk_lt H1.out.2
 refine (mem_at (At.here H1.out.1)).mono ?_
 rintro e w2 ⟨q0, e0, q1, e1, q2, e2, l0, l1, l2, rfl, hR0, hR1, hR2, a01, a02, a12, hA⟩
 have t0 := own_lt hR0 q0 rfl
 have t1 := own_lt hR1 q1 rfl
 have t2 := own_lt hR2 q2 rfl
 have u0 := (own_blk hR0)
 have hq : w1.heap.size ≤ q0 ∧ w1.heap.size ≤ q1 ∧ w1.heap.size ≤ q2 := ⟨hR0.ri.1 q0 rfl, hR1.ri.1 q1 rfl, hR2.ri.1 q2 rfl⟩
 have ll := And.intro hR0.len (And.intro hR1.len hR2.len)
 have ec := And.intro (own_le hR0) (And.intro (own_le hR1) (own_le hR2))
 have nq0 : q0 ≠ g := fr q0 (by omega)
 have nq1 : q1 ≠ g := fr q1 (by omega)
 have nq2 : q2 ≠ g := fr q2 (by omega)
 clear u0
 have hk := hA.k
 have H2 := Aside0.mk (show At w0 w g s (N + 50) w2 ∧ Row6 w2 w1.heap.size q0 e0 l0 ∧ Row6 w2 w1.heap.size q1 e1 l1 ∧ Row6 w2 w1.heap.size q2 e2 l2 ∧ Box w2 g2 30 mZ from ⟨At.over hA H1.out.1, hR0, hR1, hR2, Box.keep H1.out.2 hk n2⟩)
 clear H1 hA hk hR0 hR1 hR2
 go_wp2_with ((with_reducible refine gate_dst (N := 3) rfl ?_); refine new1_ (N := 3) (x := 5) (T := 30) (#[.slice (some ⟨q0, 0, none⟩) 6 e0, .slice (some ⟨q1, 0, none⟩) 6 e1, .slice (some ⟨q2, 0, none⟩) 6 e2]) (zs := #[.slice none 0 0, .slice none 0 0, .slice none 0 0]) (by simp [Value.oneCell']) ?_ ?_ ?_ ?_ ?_ ?_ ?_ ?_ ?_ ?_ ?_ ?_ ?_)
 all_goals (first | rfl | decide | (intro _ _; go_simp; done) | kernel_rfl | skip)
 intro g3 w3 hg3 b3 hb
 simp only [Act.put, List.setIfInBounds_toArray, List.set_cons_zero, List.set_cons_succ]
 have n3 : g3 ≠ g := fr g3 (by omega)
 have H3 := Aside0.mk (show At w0 w g s (N + 49 + 1) w3 ∧ Box w3 g3 30 #[.slice (some ⟨q0, 0, none⟩) 6 e0, .slice (some ⟨q1, 0, none⟩) 6 e1, .slice (some ⟨q2, 0, none⟩) 6 e2] ∧ Row6 w3 w1.heap.size q0 e0 l0 ∧ Row6 w3 w1.heap.size q1 e1 l1 ∧ Row6 w3 w1.heap.size q2 e2 l2 ∧ Box w3 g2 30 mZ from ⟨At.less (At.below H2.out.1 hb) (by omega), b3, Row6.keep H2.out.2.1 (kb_below (g := g) hb) nq0, Row6.keep H2.out.2.2.1 (kb_below (g := g) hb) nq1, Row6.keep H2.out.2.2.2.1 (kb_below (g := g) hb) nq2, Box.keep H2.out.2.2.2.2 (kb_below (g := g) hb) n2⟩)
 clear H2 hb b3
 go_wp2_with fail
 refine (pick_dr H3.out.1 30 (by omega) (by omega)).mono ?_
 rintro e w4 ⟨r, rfl, r0, r1, hA, hk⟩
 have hk4 := hk.1
 have H4 := Aside0.mk (show At w0 w g s (N + 49) w4 ∧ Box w4 g3 30 #[.slice (some ⟨q0, 0, none⟩) 6 e0, .slice (some ⟨q1, 0, none⟩) 6 e1, .slice (some ⟨q2, 0, none⟩) 6 e2] ∧ Row6 w4 w1.heap.size q0 e0 l0 ∧ Row6 w4 w1.heap.size q1 e1 l1 ∧ Row6 w4 w1.heap.size q2 e2 l2 ∧ Box w4 g2 30 mZ from ⟨hA, Box.keep H3.out.2.1 hk n3, Row6.keep H3.out.2.2.1 hk nq0, Row6.keep H3.out.2.2.2.1 hk nq1, Row6.keep H3.out.2.2.2.2.1 hk nq2, Box.keep H3.out.2.2.2.2.2 hk n2⟩)
 clear H3 hA hk
 have dis : g3 ≠ q0 ∧ g3 ≠ q1 ∧ g3 ≠ q2 ∧ g2 ≠ q0 ∧ g2 ≠ q1 ∧ g2 ≠ q2 ∧ g2 ≠ g3 ∧ w.heap.size ≤ g3 := ⟨by omega, by omega, by omega, by omega, by omega, by omega, by omega, by omega⟩
 have low : ∀ (W W' : World) (v : Value) (l : List Int), RI W w1.heap.size v l → Put1 g2 W W' → RI W' w.heap.size v l := fun W W' v l h hp => Kd.R_lower (Kd.R_mono (RI.put1 h hp fun k hk => by have := h.1 k hk; omega) fun k hk => by have : w1.heap.size ≤ k := hk; omega) (by omega)
 have LOW := Aside0.mk low
 clear low
 have fin : ∀ (W W' : World) (A0 A1 A2 : Option Addr) (n0 n1 n2 c0 c1 c2 : Nat) (m0 m1 m2 : List Int), n0 = m0.length → n1 = m1.length → n2 = m2.length → n0 ≤ 7 ∧ n1 ≤ 7 ∧ n2 ≤ 7 → RI W w1.heap.size (.slice A0 n0 c0) m0 → RI W w1.heap.size (.slice A1 n1 c1) m1 → RI W w1.heap.size (.slice A2 n2 c2) m2 → At w0 w g s N W → Put1 g2 W W' → ∃ (m : List Int × List Int × List Int) (p : (Option Addr × Nat) × (Option Addr × Nat) × (Option Addr × Nat)), Ending.returned (Value.agg #[.slice A0 n0 c0, .slice A1 n1 c1, .slice A2 n2 c2]) = .returned (.agg #[.slice p.1.1 m.1.length p.1.2, .slice p.2.1.1 m.2.1.length p.2.1.2, .slice p.2.2.1 m.2.2.length p.2.2.2]) ∧ Mini m.1 m.2.1 m.2.2 ∧ RI W' w.heap.size (.slice p.1.1 m.1.length p.1.2) m.1 ∧ RI W' w.heap.size (.slice p.2.1.1 m.2.1.length p.2.1.2) m.2.1 ∧ RI W' w.heap.size (.slice p.2.2.1 m.2.2.length p.2.2.2) m.2.2 ∧ At w0 w g s N W' := by
  intro W W' A0 A1 A2 n0 n1 n2 c0 c1 c2 m0 m1 m2 h0 h1 h2 hm r0 r1 r2 hA hp
  subst h0 h1 h2
  exact ⟨(m0, m1, m2), ((A0, c0), (A1, c1), (A2, c2)), rfl, hm, LOW.out _ _ _ _ r0 hp, LOW.out _ _ _ _ r1 hp, LOW.out _ _ _ _ r2 hp, hA.put1 hp hg2⟩
 have FIN := Aside0.mk fin
 clear fin
 by_cases h0 : r = 0
 ·have c0 : (r == 0) = true := by simp [h0]
  clear h0
  have lb := H4.out.2.1
  have lb2 := H4.out.2.2.2.2.2
  have cc := (Box.cell lb 0 _ rfl).1
  have cf := (Box.cell lb 0 _ rfl).2
  have ec2 : 2 ≤ e0 := by omega
  go_wp2_with (first | ((with_reducible refine gate_store (t := 28) (p := 13) rfl ?_); refine setF_ (i := 0) (v := .slice (some ⟨q0, 0, none⟩) 2 e0) rfl rfl rfl lb (by go_simp) ?_; intro w7 hb7 hput; have lb27 := Box.put1 lb2 hput (by omega)) | ((with_reducible refine gate_dst (N := 26) rfl ?_); refine boxGet_ rfl rfl rfl rfl hb7 Tryz.underlying30 rfl (by kernel_rfl) ?_) | ((with_reducible refine gate_store (t := 30) (p := 2) rfl ?_); refine boxPut_ rfl rfl rfl rfl (#[.slice (some ⟨q0, 0, none⟩) 2 e0, .slice (some ⟨q1, 0, none⟩) 6 e1, .slice (some ⟨q2, 0, none⟩) 6 e2]) (by rfl) lb27 rfl (by kernel_rfl) (by simp [Value.oneCell']) ?_; intro w9 hbx hput9))
  refine bodyPost_ret (results_cell_row rfl _ _ g2 30 (#[.slice (some ⟨q0, 0, none⟩) 2 e0, .slice (some ⟨q1, 0, none⟩) 6 e1, .slice (some ⟨q2, 0, none⟩) 6 e2]) (0, 0) _ rfl hbx Tryz.underlying30 rfl (by kernel_rfl)) rfl ?_
  exact FIN.out _ w9 _ _ _ _ _ _ _ _ _ (l0.take 2) l1 l2 (by rw [List.length_take, ll.1]; rfl) ll.2.1.symm ll.2.2.symm (by omega) (Kd.R_take (Row6.ri (Row6.put1 (H4.out.2.2.1) hput (by omega))) (by omega)) (Row6.ri (Row6.put1 (H4.out.2.2.2.1) hput (by omega))) (Row6.ri (Row6.put1 (H4.out.2.2.2.2.1) hput (by omega))) (At.less (At.put1 H4.out.1 hput (by omega)) (by omega)) hput9
 have c0 : (r == 0) = false := by simp [h0]
 by_cases h1 : r = 1
 ·have c1 : (r == 1) = true := by simp [h1]
  clear h0 h1
  have lb := H4.out.2.1
  have lb2 := H4.out.2.2.2.2.2
  have cc := (Box.cell lb 2 _ rfl).1
  have hat := own_at (H4.out.2.2.2.2.1) 0 (by omega) (by omega)
  have ca := hat.1
  have cb := hat.2
  simp only [Int.toNat_zero] at ca cb
  go_wp2_with (first | ((with_reducible refine gate_store (t := 3) (p := 18) rfl ?_); refine setR_ (g := q2) (i := 0) (v := .int .i64 1000001) rfl rfl rfl (by go_simp) ?_; intro w7 hw7 hput; have lb7 := Box.put1 lb hput (by omega); have lb27 := Box.put1 lb2 hput (by omega)) | ((with_reducible refine gate_dst (N := 26) rfl ?_); refine boxGet_ rfl rfl rfl rfl lb7 Tryz.underlying30 rfl (by kernel_rfl) ?_) | ((with_reducible refine gate_store (t := 30) (p := 2) rfl ?_); refine boxPut_ rfl rfl rfl rfl (#[.slice (some ⟨q0, 0, none⟩) 6 e0, .slice (some ⟨q1, 0, none⟩) 6 e1, .slice (some ⟨q2, 0, none⟩) 6 e2]) (by rfl) lb27 rfl (by kernel_rfl) (by simp [Value.oneCell']) ?_; intro w9 hbx hput9))
  have hr2 : Row6 w7 w1.heap.size q2 e2 (l2.set 0 1000001) := by rw [hw7]; exact (own_store (H4.out.2.2.2.2.1) 0 1000001).1
  refine bodyPost_ret (results_cell_row rfl _ _ g2 30 (#[.slice (some ⟨q0, 0, none⟩) 6 e0, .slice (some ⟨q1, 0, none⟩) 6 e1, .slice (some ⟨q2, 0, none⟩) 6 e2]) (0, 0) _ rfl hbx Tryz.underlying30 rfl (by kernel_rfl)) rfl ?_
  exact FIN.out _ w9 _ _ _ _ _ _ _ _ _ l0 l1 (l2.set 0 1000001) ll.1.symm ll.2.1.symm (by rw [List.length_set]; exact ll.2.2.symm) (by omega) (Row6.ri (Row6.put1 (H4.out.2.2.1) hput (by omega))) (Row6.ri (Row6.put1 (H4.out.2.2.2.1) hput (by omega))) hr2.ri (At.less (At.put1 H4.out.1 hput (by omega)) (by omega)) hput9
 have c1 : (r == 1) = false := by simp [h1]
 by_cases h2 : r = 2
 rotate_left
 ·have c2 : (r == 2) = false := by simp [h2]
  clear h0 h1 h2
  have lb3 := H4.out.2.1
  have lb2 := H4.out.2.2.2.2.2
  go_wp2_with (first | ((with_reducible refine gate_dst (N := 26) rfl ?_); refine boxGet_ rfl rfl rfl rfl lb3 Tryz.underlying30 rfl (by kernel_rfl) ?_) | ((with_reducible refine gate_store (t := 30) (p := 2) rfl ?_); refine boxPut_ rfl rfl rfl rfl (#[.slice (some ⟨q0, 0, none⟩) 6 e0, .slice (some ⟨q1, 0, none⟩) 6 e1, .slice (some ⟨q2, 0, none⟩) 6 e2]) (by rfl) lb2 rfl (by kernel_rfl) (by simp [Value.oneCell']) ?_; intro w9 hbx hput9))
  refine bodyPost_ret (results_cell_row rfl _ _ g2 30 (#[.slice (some ⟨q0, 0, none⟩) 6 e0, .slice (some ⟨q1, 0, none⟩) 6 e1, .slice (some ⟨q2, 0, none⟩) 6 e2]) (0, 0) _ rfl hbx Tryz.underlying30 rfl (by kernel_rfl)) rfl ?_
  exact FIN.out _ w9 _ _ _ _ _ _ _ _ _ l0 l1 l2 ll.1.symm ll.2.1.symm ll.2.2.symm (by omega) (Row6.ri H4.out.2.2.1) (Row6.ri H4.out.2.2.2.1) (Row6.ri H4.out.2.2.2.2.1) (At.less H4.out.1 (by omega)) hput9
 have c2 : (r == 2) = true := by simp [h2]
 clear h0 h1 h2
 have lb := H4.out.2.1
 have lb2 := H4.out.2.2.2.2.2
 have cc := (Box.cell lb 1 _ rfl).1
 go_wp2_with (first | ((with_reducible refine gate_builtin (b := .append) (xs := #[.tmp 22, .tmp 23]) rfl ?_); at_builtin; refine Kd.R_append (Kd.int .i64) w1.heap.size rfl (.tmp 22) (.tmp 23) 28 3 (.int .i64 0) 8 rfl Tryz.underlying28 info3 rfl (by decide) (by omega) (.slice (some ⟨q1, 0, none⟩) 6 e1) l1 0 [.int .i64 0] (fun k => w1.heap.size ≤ k ∧ k ≠ g3 ∧ k ≠ q0 ∧ k ≠ q2) (fun _ => False) rfl rfl rfl (fun _ hk => hk.elim) (fun k hk => by have := blk_lt lb; have := own_lt (H4.out.2.2.1) q0 rfl; have := own_lt (H4.out.2.2.2.2.1) q2 rfl; exact ⟨by omega, by omega, by omega, by omega⟩) (own_R (H4.out.2.2.2.1) ll.2.1.symm _ (fun k hk => by have e : q1 = k := (by simpa [Value.ownBlock] using hk); subst e; exact ⟨hq.2.1, by omega, by omega, by omega⟩)) (Below.refl _ _) (by have := own_lt (H4.out.2.2.1) q0 rfl; omega) (by omega) ?_; intro v1 w6 hN hb hg hat; obtain ⟨A1, c1, eN⟩ := Kd.R_slice hN; subst eN; have lb6 := (hg.block g3 (blk_lt lb) (by simp [Value.ownBlock]; omega)).trans lb; have lb26 := (hb.block g2 hg2s).trans lb2; have cc6 := (Box.cell lb6 1 _ rfl).1; have cf6 := (Box.cell lb6 1 _ rfl).2) | ((with_reducible refine gate_store (t := 28) (p := 25) rfl ?_); refine setF_ (i := 1) (v := .slice A1 (l1 ++ [0]).length c1) rfl rfl rfl lb6 (by go_simp) ?_; intro w7 hb7 hput; have lb27 := Box.put1 lb26 hput (by omega)) | ((with_reducible refine gate_dst (N := 26) rfl ?_); refine boxGet_ rfl rfl rfl rfl hb7 Tryz.underlying30 rfl (by kernel_rfl) ?_) | ((with_reducible refine gate_store (t := 30) (p := 2) rfl ?_); refine boxPut_ rfl rfl rfl rfl (#[.slice (some ⟨q0, 0, none⟩) 6 e0, .slice A1 (l1 ++ [0]).length c1, .slice (some ⟨q2, 0, none⟩) 6 e2]) (by rfl) lb27 rfl (by kernel_rfl) (by simp [Value.oneCell']) ?_; intro w9 hbx hput9))
 have o0 := own_other (H4.out.2.2.1) hg (.inr (by simp [Value.ownBlock]; omega))
 have o2 := own_other (H4.out.2.2.2.2.1) hg (.inr (by simp [Value.ownBlock]; omega))
 have hr1 : RI w7 w1.heap.size (.slice A1 (l1 ++ [0]).length c1) (l1 ++ [0]) := RI.put1 (Kd.R_mono hN fun k hk => hk.1) hput fun k hk => (hN.1 k hk).2.1
 refine bodyPost_ret (results_cell_row rfl _ _ g2 30 (#[.slice (some ⟨q0, 0, none⟩) 6 e0, .slice A1 (l1 ++ [0]).length c1, .slice (some ⟨q2, 0, none⟩) 6 e2]) (0, 0) _ rfl hbx Tryz.underlying30 rfl (by kernel_rfl)) rfl ?_
 exact FIN.out _ w9 _ _ _ _ _ _ _ _ _ l0 (l1 ++ [0]) l2 ll.1.symm rfl ll.2.2.symm (by have := ll.2.1; simp; omega) (Row6.ri (Row6.put1 o0 hput (by omega))) hr1 (Row6.ri (Row6.put1 o2 hput (by omega))) (At.less (At.put1 (At.low H4.out.1 (hb.mono (by omega))) hput (by omega)) (by omega)) hput9
theorem memBent_dr {w0 wb W : World} {g N : Nat} {s : List Int} (h : At w0 wb g s (N + 100) W) : Calls Tryz.prog 34 #[.pointer (some ⟨g, 0, none⟩)] W fun e W' => ∃ (m : List Int × List Int × List Int) (p : (Option Addr × Nat) × (Option Addr × Nat) × (Option Addr × Nat)), e = .returned (.agg #[.slice p.1.1 m.1.length p.1.2, .slice p.2.1.1 m.2.1.length p.2.1.2, .slice p.2.2.1 m.2.2.length p.2.2.2]) ∧ Mini m.1 m.2.1 m.2.2 ∧ RI W' W.heap.size (.slice p.1.1 m.1.length p.1.2) m.1 ∧ RI W' W.heap.size (.slice p.2.1.1 m.2.1.length p.2.1.2) m.2.1 ∧ RI W' W.heap.size (.slice p.2.2.1 m.2.2.length p.2.2.2) m.2.2 ∧ At w0 wb g s N W' ∧ KeepBut W W' g none :=
 (memBent_at h.here).mono fun e w' ⟨m, p, h1, h2, h3, h4, h5, h7⟩ => ⟨m, p, h1, h2, h3, h4, h5, h7.over h, h7.k⟩

end Go.Proofs.YtendbgedpjcocaaGreatDoor.B
/- The draw of a run. -/
namespace Go.Proofs.YtendbgedpjcocaaGreatDoor.B
open Go Go.RowKit Go.Shelf Go.Proofs.YtendbgedpjcocaaGreatDoorW.PrintWords Go.Proofs.YtendbgedpjcocaaGreatDoorW.PrintLast Go.Proofs.YtendbgedpjcocaaGreatDoorW.PrintMore
set_option linter.unusedVariables false
set_option maxRecDepth 100000 in
set_option maxHeartbeats 4000000 in
theorem drawRun_any (l : List Int) (hw : ∀ x ∈ l, (Lit.int .u8 x).wf = true) (A : Option Addr) (c : Nat) (w0 : World) (hC : Kd.C (Kd.int .u8) w0 A l.length l) (hc : l.length ≤ c) :
  Calls Tryz.prog 20 #[.slice A l.length c] w0 fun e W' => ∃ (m : Mem3) (s : List St) (f : Int), ∃ p B d, e = .returned (.tuple #[.agg (mA m p), .slice B s.length d, .int .i64 f]) ∧ Mini m.1 m.2.1 m.2.2 ∧ Fit 500 s ∧ f ∈ [100, 100, 5, 0, 1, 101, -1] ∧ MV W' m p ∧ LV W' s B d ∧ Below w0.heap.size w0 W' := by
 have H0 := Aside0.mk (And.intro hC hc)
 clear hC hc
 go_enter Tryz.func20, Tryz.ntmps20
 go_wp2_with ((with_reducible refine gate_dst (N := 2) rfl ?_); refine boxNew_ rfl rfl mZ 30 ?hr ?_; (case hr => (go_simp; first | done | rfl)); intro g2 w1 hg2' b2 hb1; have hg2w := Nat.le_of_eq hg2'.symm; clear hg2')
 refine (open_dr l hw A c H0.out.1 H0.out.2 hb1).mono ?_
 rintro e w2 ⟨g, s, rfl, hA, hb, hne⟩
 have n2 : g2 ≠ g := hne g2 _ _ (blk_below b2 hb) (by decide)
 have fr := hA.fresh
 have hg2 := blk_lt (blk_below b2 hb)
 have H1 := Aside0.mk (show At w0 w2 g s (1000000000 + 300000000) w2 ∧ Box w2 g2 30 mZ from ⟨At.less hA (by omega), blk_below b2 hb⟩)
 clear  hA b2 hb hne hb1 H0
 go_wp2_with fail
 refine (bentS_dr H1.out.1).mono ?_
 rintro e w3 ⟨l1, A1, c1, rfl, hF, hN, hA⟩
 have hk := hA.k
 have H2 := Aside0.mk (show At w0 w2 g s (1000000000) w3 ∧ LVo w3 (Fr w2) l1 A1 c1 ∧ Box w3 g2 30 mZ from ⟨hA, ⟨Kd.N_V hN⟩, Box.keep H1.out.2 hk n2⟩)
 clear H1 hA hN hk
 have HF := Aside0.mk hF
 clear hF
 have hs3 := (H2.out.1).k.1
 go_wp2_with fail
 refine (memBent_dr (At.less (N := 1000000000) (M := 900000000 + 100) H2.out.1 (by omega))).mono ?_
 rintro e w4 ⟨m, p, rfl, hm, h0, h1, h2, hA, hk⟩
 have hk4 := hk.1
 have H3 := Aside0.mk (show At w0 w2 g s (900000000) w4 ∧ RI w4 w3.heap.size (.slice p.1.1 m.1.length p.1.2) m.1 ∧ RI w4 w3.heap.size (.slice p.2.1.1 m.2.1.length p.2.1.2) m.2.1 ∧ RI w4 w3.heap.size (.slice p.2.2.1 m.2.2.length p.2.2.2) m.2.2 ∧ LVo w4 (Fr w2) l1 A1 c1 ∧ Box w4 g2 30 mZ from ⟨hA, h0, h1, h2, LVo.keep H2.out.2.1 hk fr, Box.keep H2.out.2.2 hk n2⟩)
 clear H2 hA hk
 have HM := Aside0.mk hm
 clear hm h0 h1 h2
 go_wp2_with ((with_reducible refine gate_dst (N := 15) rfl ?_); refine Kd.R_lit (Kd.int .i64) w4.heap.size 3 rfl (N := 15) rfl (xs := [100, 100, 5, 0, 1, 101, -1]) (inner := [.int .i64 100, .int .i64 100, .int .i64 5, .int .i64 0, .int .i64 1, .int .i64 101, .int .i64 (-1)]) (ok := fun k => k ≠ g) (okp := fun k => k ≠ g) (by go_simp; try rfl) (reps_ints _ _ _ [100, 100, 5, 0, 1, 101, -1]) (fun _ hk => hk) (by have := At.lt' H3.out.1; show w4.heap.size ≠ g; omega) (Below.refl _ _) (Nat.le_refl _) (by simp) ?_; intro v15 w5 hR hb4 hg_ hn_; clear hg_ hn_; obtain ⟨A4, c4, e4⟩ := Kd.R_slice hR; subst e4)
 have H4 := Aside0.mk (show At w0 w2 g s (899999999 + 1) w5 ∧ RI w5 w3.heap.size (.slice p.1.1 m.1.length p.1.2) m.1 ∧ RI w5 w3.heap.size (.slice p.2.1.1 m.2.1.length p.2.1.2) m.2.1 ∧ RI w5 w3.heap.size (.slice p.2.2.1 m.2.2.length p.2.2.2) m.2.2 ∧ LVo w5 (Fr w2) l1 A1 c1 ∧ Box w5 g2 30 mZ from ⟨At.less (At.below H3.out.1 hb4) (by omega), Kd.R_keep H3.out.2.1 (kb_below (g := g) hb4) (fun k hk => fr k (Nat.le_trans hs3 hk)), Kd.R_keep H3.out.2.2.1 (kb_below (g := g) hb4) (fun k hk => fr k (Nat.le_trans hs3 hk)), Kd.R_keep H3.out.2.2.2.1 (kb_below (g := g) hb4) (fun k hk => fr k (Nat.le_trans hs3 hk)), LVo.keep H3.out.2.2.2.2.1 (kb_below (g := g) hb4) fr, Box.keep H3.out.2.2.2.2.2 (kb_below (g := g) hb4) n2⟩)
 clear H3 hb4
 refine (num_dr H4.out.1 [100, 100, 5, 0, 1, 101, -1] (by decide) (by decide) A4 c4 (Kd.R_reads' hR).2.2 (Kd.R_reads' hR).2.1 (far_slice fun e => hR.1 g e.symm rfl)).mono ?_
 rintro e w6 ⟨f, rfl, hf, hA, hk⟩
 have H5 := Aside0.mk (show At w0 w2 g s (899999999) w6 ∧ RI w6 w3.heap.size (.slice p.1.1 m.1.length p.1.2) m.1 ∧ RI w6 w3.heap.size (.slice p.2.1.1 m.2.1.length p.2.1.2) m.2.1 ∧ RI w6 w3.heap.size (.slice p.2.2.1 m.2.2.length p.2.2.2) m.2.2 ∧ LVo w6 (Fr w2) l1 A1 c1 ∧ Box w6 g2 30 mZ from ⟨hA, Kd.R_keep H4.out.2.1 hk (fun k hk => fr k (Nat.le_trans hs3 hk)), Kd.R_keep H4.out.2.2.1 hk (fun k hk => fr k (Nat.le_trans hs3 hk)), Kd.R_keep H4.out.2.2.2.1 hk (fun k hk => fr k (Nat.le_trans hs3 hk)), LVo.keep H4.out.2.2.2.2.1 hk fr, Box.keep H4.out.2.2.2.2.2 hk n2⟩)
 clear H4 hA hk hR
 have lb2 := H5.out.2.2.2.2.2
 go_wp2_with (refine boxPut_ rfl rfl rfl rfl (mA m p) rfl lb2 rfl (by kernel_rfl) (by simp [Value.oneCell', mA]) ?_; intro w7 hbx hput)
 refine bodyPost_ret (results_ctt rfl _ _ g2 30 (mA m p) (0, 0) _ rfl hbx Tryz.underlying30 rfl (by kernel_rfl)) rfl ?_
 exact ⟨m, l1, f, p, A1, c1, rfl, HM.out, HF.out, hf, RI.mv (Kd.R_step H5.out.2.1 (fun k hk _ => hput.far k (by have : w3.heap.size ≤ k := hk; omega))) (Kd.R_step H5.out.2.2.1 (fun k hk _ => hput.far k (by have : w3.heap.size ≤ k := hk; omega))) (Kd.R_step H5.out.2.2.2.1 (fun k hk _ => hput.far k (by have : w3.heap.size ≤ k := hk; omega))), ⟨Kd.V_mono (Kd.V_step (H5.out.2.2.2.2.1).v fun k hk _ => hput.far k (by have : w2.heap.size ≤ k := hk; omega)) fun _ _ => trivial⟩, hput.below (H5.out.1).b hg2w⟩
end Go.Proofs.YtendbgedpjcocaaGreatDoor.B
/- Plain laws of runs: one list behind the other; if; while; more fuel. -/
namespace Go.Proofs.YtendbgedpjcocaaGreatDoor.B
open Go Go.RowKit Go.Shelf Go.Proofs.YtendbgedpjcocaaGreatDoorW.PrintWords Go.Proofs.YtendbgedpjcocaaGreatDoorW.PrintLast Go.Proofs.YtendbgedpjcocaaGreatDoorW.PrintMore
set_option linter.unusedVariables false
theorem mOk_parts {m : Mem3} (h : mOk m = true) : listOk m.1 = true ∧ listOk m.2.1 = true ∧ listOk m.2.2 = true := by
 unfold mOk memOkL at h
 simpa [Bool.and_eq_true] using h
theorem mOk_18 {m : Mem3} (h : mOk m = true) : (m.1 ++ m.2.1 ++ m.2.2).length = 18 := by
 obtain ⟨h0, h1, h2⟩ := mOk_parts h
 have := listOk_len h0
 have := listOk_len h1
 have := listOk_len h2
 simp only [List.length_append]; omega
/-- Numbers that a memory may hold. -/
def Fine (bs : List Int) : Prop := bs.length = 18 ∧ ∀ x ∈ bs, -1000000 ≤ x ∧ x ≤ 1000000
theorem mOk_fine {m : Mem3} (h : mOk m = true) : Fine (m.1 ++ m.2.1 ++ m.2.2) := ⟨mOk_18 h, memOk_in (show memOkL m.1 m.2.1 m.2.2 = true from h)⟩
theorem listOk_mk {l : List Int} (h6 : l.length = 6) (h : ∀ x ∈ l, -1000000 ≤ x ∧ x ≤ 1000000) : listOk l = true := by
 unfold listOk
 rw [h6, Bool.and_eq_true]
 refine ⟨rfl, ?_⟩
 rw [Bool.not_eq_true', List.any_eq_false]
 intro x hx
 have := h x hx
 simp [isNumL, this.1, this.2]
theorem fine_ok {bs : List Int} (h : Fine bs) : mOk (cut3 bs) = true := by
 have hl := h.1
 unfold mOk memOkL cut3
 rw [listOk_mk (l := bs.take 6) (by simp; omega) (fun x hx => h.2 x (List.mem_of_mem_take hx)), listOk_mk (l := (bs.drop 6).take 6) (by simp; omega) (fun x hx => h.2 x (List.mem_of_mem_drop (List.mem_of_mem_take hx))),
  listOk_mk (l := (bs.drop 12).take 6) (by simp; omega) (fun x hx => h.2 x (List.mem_of_mem_drop (List.mem_of_mem_take hx)))]
 rfl
theorem putB_fine {bs : List Int} (h : Fine bs) (k a n : Int) : Fine (putB bs k a n) := by
 refine ⟨(putB_len bs k a n).trans h.1, fun x hx => ?_⟩
 unfold putB at hx
 split at hx
 ·rcases List.mem_or_eq_of_mem_set hx with hx | rfl
  ·exact h.2 x hx
  ·exact cutL_in n
 ·exact h.2 x hx
theorem run_fine {bs : List Int} {l : List St} {f : Int} {r : Res} (h : Fine bs) (hr : Run bs l f r) : Fine r.1 := by
 obtain ⟨k, hk⟩ := hr
 exact run_keeps Fine k l (fun _ => True) (fun _ _ _ _ => trivial) (fun _ _ _ _ => trivial) (fun s _ _ b hb => putB_fine hb _ _ _) (fun _ _ => trivial) bs f r h hk
/-- A run's own value, where it may be run. -/
theorem runV_is {m : Mem3} {l : List St} {f : Int} {bs : List Int} {v r : Int} (hok : runOk m l f = true) (h : Run (m.1 ++ m.2.1 ++ m.2.2) l f (bs, v, r)) : stRunV m l f = (cut3 bs, v, r) := by
 rw [stRunV, if_pos hok, runR_is h]
end Go.Proofs.YtendbgedpjcocaaGreatDoor.B
/- Plain laws of runs: if, while, all of it. -/
namespace Go.Proofs.YtendbgedpjcocaaGreatDoor.B
open Go Go.RowKit Go.Shelf Go.Proofs.YtendbgedpjcocaaGreatDoorW.PrintWords Go.Proofs.YtendbgedpjcocaaGreatDoorW.PrintLast Go.Proofs.YtendbgedpjcocaaGreatDoorW.PrintMore
set_option linter.unusedVariables false
theorem cut3_same {m : Mem3} (h : mOk m = true) : cut3 (m.1 ++ m.2.1 ++ m.2.2) = m := by
 obtain ⟨h0, h1, h2⟩ := mOk_parts h
 have l0 := listOk_len h0
 have l1 := listOk_len h1
 have l2 := listOk_len h2
 obtain ⟨a, b, c⟩ := m
 dsimp only at l0 l1 l2
 unfold cut3
 have e1 : (a ++ b ++ c).drop 6 = b ++ c := by rw [List.append_assoc, List.drop_append_of_le_length (by omega), List.drop_of_length_le (by omega), List.nil_append]
 have e2 : (a ++ b ++ c).drop 12 = c := by
  have hl : (a ++ b).length = 12 := by simp; omega
  rw [List.drop_append_of_le_length (by omega), List.drop_of_length_le (by omega), List.nil_append]
 dsimp only
 rw [e1, e2, List.append_assoc, List.take_append_of_le_length (by omega), List.take_of_length_le (by omega), List.take_append_of_le_length (by omega), List.take_of_length_le (by omega), List.take_of_length_le (by omega)]
theorem run_facts {m : Mem3} {l : List St} {f : Int} {X : Mem3} {v r : Int} (hV : stRunV m l f = (X, v, r)) :
  (v = 2 → X.1.length = 0 ∧ r = 0) ∧ (v ≠ 2 → mOk X = true ∧ mOk m = true ∧ 0 ≤ r ∧ r ≤ f ∧ (v = 1 → r = 0) ∧ X.1 = m.1 ∧ (v = 0 → f < 100 → stRunV m l (f + 1) = (X, 0, r + 1))) := by
 rcases runV_cases hV with ⟨h, bs, rfl, hr, hF⟩ | ⟨_, rfl, rfl, rfl⟩
 ·obtain ⟨h1, h2, h3, h4⟩ := runOk_of h
  have hlo := hF.lo
  have hhi := hF.hi
  have hhow := hF.how
  dsimp only at hlo hhi hhow
  have hfine := run_fine (mOk_fine h1) hr
  refine ⟨fun hv => by omega, fun _ => ⟨fine_ok hfine, h1, hlo, hhi, fun hv => by omega, ?_, fun hv hf => ?_⟩⟩
  ·obtain ⟨k, hk⟩ := hr
   have hin : (m.1 ++ m.2.1 ++ m.2.2).take 6 = m.1 := by
    have := congrArg (fun x : Mem3 => x.1) (cut3_same h1)
    exact this
   exact run_keeps (fun b => b.take 6 = m.1) k l (fun _ => True) (fun _ _ _ _ => trivial) (fun _ _ _ _ => trivial) (fun s _ _ b hb => by
    unfold putB
    split
    ·rename_i hp
     unfold putsL addrOkL at hp
     simp only [Bool.and_eq_true, decide_eq_true_eq, bne_iff_ne, ne_eq] at hp
     rw [List.take_set_of_le (by omega)]
     exact hb
    ·exact hb) (fun _ _ => trivial) _ f _ hin hk
  ·obtain ⟨k, hk⟩ := hr
   exact runV_is (runOk_mk h1 h2 (by omega) (by omega)) ⟨k, run_more k _ l f _ hk hv⟩
 ·exact ⟨fun _ => ⟨rfl, rfl⟩, fun hv => absurd rfl hv⟩
end Go.Proofs.YtendbgedpjcocaaGreatDoor.B
/- Statements with lists, as they lie in a literal; fits. -/
namespace Go.Proofs.YtendbgedpjcocaaGreatDoor.B
open Go Go.RowKit Go.Shelf Go.Proofs.YtendbgedpjcocaaGreatDoorW.PrintWords Go.Proofs.YtendbgedpjcocaaGreatDoorW.PrintLast Go.Proofs.YtendbgedpjcocaaGreatDoorW.PrintMore
set_option linter.unusedVariables false
end Go.Proofs.YtendbgedpjcocaaGreatDoor.B
/- The law FnRun, walked by hand. -/
namespace Go.Proofs.YtendbgedpjcocaaGreatDoor.B
open Go Go.RowKit Go.Proofs.YtendbgedpjcocaaGreatDoorW.PrintWords Go.Proofs.YtendbgedpjcocaaGreatDoorW.PrintLast Go.Proofs.YtendbgedpjcocaaGreatDoorW.PrintMore
set_option linter.unusedVariables false
theorem memOkI_any (m : Mem3) (p : Caps3) (w : World) (h : MV w m p) : Calls Tryz.prog 21 #[.agg (mA m p)] w fun e w' => e = .returned (.bool (mOk m)) ∧ Below w.heap.size w w' := by
 have hB0 : Below w.heap.size w (w.alloc (.cells (mA m p) 30 (0, 0))) := (Below.refl _ _).alloc (Nat.le_refl _) _
 have HM := Aside0.mk (readMem_any m.1 m.2.1 m.2.2 p.1.1 p.2.1.1 p.2.2.1 p.1.2 p.2.1.2 p.2.2.2 _ (Kd.C_below h.c0 hB0) (Kd.C_below h.c1 hB0) (Kd.C_below h.c2 hB0) h.l0 h.l1 h.l2)
 have hbx := heap_alloc_new w (.cells (mA m p) 30 (0, 0))
 have HB := Aside0.mk hB0
 clear hB0
 go_enter Tryz.func21, Tryz.ntmps21
 go_upto_region 1 with fail
 have lb : Box (w.alloc (.cells (mA m p) 30 (0, 0))) w.heap.size 30 (mA m p) := hbx
 go_wp2_with ((with_reducible refine gate_dst (N := 6) rfl ?_); refine boxGet_ rfl rfl rfl rfl lb Tryz.underlying30 rfl (by kernel_rfl) ?_)
 refine HM.out.mono ?_
 clear lb hbx
 rintro e w1 ⟨⟨hv, g, rfl, _⟩ | ⟨hv, rfl⟩, hb⟩
 all_goals
  have HB1 := Aside0.mk (HB.out.trans (hb.mono HB.out.size))
  have HV := Aside0.mk (show mOk m = _ from hv)
  clear hv hb
  go_wp2
  go_ret
  exact ⟨by rw [HV.out]; rfl, HB1.out⟩
set_option maxRecDepth 100000 in
set_option maxHeartbeats 8000000 in
theorem law_Run (l0 : List Int) (hw0 : ∀ x ∈ l0, (Lit.int .u8 x).wf = true) (A0 : Option Addr) (c0 : Nat) (w : World) (r0 : Kd.C (Kd.int .u8) w A0 l0.length l0) (h0 : l0.length ≤ c0) (a : Addr) (HT : ErrAt w a) :
  Calls Tryz.prog 6 #[.slice A0 l0.length c0] w fun e w' => e = .returned (.bool true) ∧ Below w.heap.size w w' := by
 have D0 := Aside0.mk (drawRun_any l0 hw0 A0 c0 w r0 h0)
 have mixed : Tryz.prog.follows .mixedOrders = true := rfl
 have HTT := Aside0.mk HT
 clear r0 h0 hw0 HT
 by_cases hlenl0 : (1048576 : Int) < (l0.length : Int)
 ·go_enter Tryz.func6, Tryz.ntmps6
  go_wp2
  go_ret
  exact ⟨rfl, Below.refl _ _⟩
 go_enter Tryz.func6, Tryz.ntmps6
 go_wp2_with fail
 refine D0.out.mono ?_
 clear D0
 rintro e w1 ⟨m, s, f, p, A3, c3, rfl, hm, hfs, hf, hM, hLV, hb⟩
 have hf100 : f = 100 ∨ f = 5 ∨ f = 0 ∨ f = 1 ∨ f = 101 ∨ f = -1 := by simpa using hf
 have HX := Aside0.mk (And.intro hm (And.intro hfs hf100))
 clear hm hfs hf hf100
 have H1 := Aside0.mk (show MV w1 m p ∧ LV w1 s A3 c3 ∧ Below w.heap.size w w1 ∧ ErrAt w1 a from ⟨hM, hLV, hb, HTT.out.below hb⟩)
 clear hM hLV hb HTT
 go_wp2_with ((with_reducible refine gate_dst (N := 3) rfl ?_); refine new1_ (N := 3) (x := 22) (T := 30) (mA m p) (zs := #[.slice none 0 0, .slice none 0 0, .slice none 0 0]) (mA_one _ _) ?_ ?_ ?_ ?_ ?_ ?_ ?_ ?_ ?_ ?_ ?_ ?_ ?_)
 all_goals (first | rfl | decide | (intro _ _; go_simp; done) | kernel_rfl | skip)
 intro g3 W1 hg3 bg3 hb
 simp only [Act.put, List.setIfInBounds_toArray, List.set_cons_zero, List.set_cons_succ]
 clear hg3
 have H2 := Aside0.mk (show Box W1 g3 30 (mA m p) ∧ MV W1 m p ∧ LV W1 s A3 c3 ∧ Below w.heap.size w W1 ∧ ErrAt W1 a from ⟨bg3, MV.last _ _ _ _ hb H1.out.1, (LV.last _ _ _) _ _ hb H1.out.2.1, Below.trans H1.out.2.2.1 (hb.mono H1.out.2.2.1.size), (ErrAt.lasts _) _ _ hb H1.out.2.2.2⟩)
 clear H1 bg3 hb
 obtain ⟨X, cc, lf, hV⟩ : ∃ X cc lf, stRunV m s f = (X, cc, lf) := ⟨_, _, _, rfl⟩
 have HV := Aside0.mk hV
 have HFI := Aside0.mk (show StFit s from Fit.ok (n := 500) HX.out.2.1 (by omega))
 have HSH := Aside0.mk (runV_short hV)
 have HW := Aside0.mk (run_facts hV)
 clear hV
 have lb0 := H2.out.1
 go_wp2_with (first | ((with_reducible refine gate_dst (N := 26) rfl ?_); refine getM_ rfl rfl rfl rfl lb0 ?_))
 clear lb0
 refine (runI_any HV.out p A3 c3 a W1 H2.out.2.2.2.2 H2.out.2.1 H2.out.2.2.1).mono ?_
 rintro e wqa ⟨qa, rfl, hM, hb⟩
 have H3 := Aside0.mk (show MV wqa X qa ∧ Box wqa g3 30 (mA m p) ∧ MV wqa m p ∧ LV wqa s A3 c3 ∧ Below w.heap.size w wqa ∧ ErrAt wqa a from ⟨hM, blk_below H2.out.1 hb, MV.last _ _ _ _ hb H2.out.2.1, (LV.last _ _ _) _ _ hb H2.out.2.2.1, Below.trans H2.out.2.2.2.1 (hb.mono H2.out.2.2.2.1.size), (ErrAt.lasts _) _ _ hb H2.out.2.2.2.2⟩)
 clear H2 hM hb
 go_wp2_with ((with_reducible refine gate_dst (N := 6) rfl ?_); refine new1_ (N := 6) (x := 30) (T := 30) (mA X qa) (zs := #[.slice none 0 0, .slice none 0 0, .slice none 0 0]) (mA_one _ _) ?_ ?_ ?_ ?_ ?_ ?_ ?_ ?_ ?_ ?_ ?_ ?_ ?_)
 all_goals (first | rfl | decide | (intro _ _; go_simp; done) | kernel_rfl | skip)
 intro g6 Wqa hg6 bg6 hb
 simp only [Act.put, List.setIfInBounds_toArray, List.set_cons_zero, List.set_cons_succ]
 clear hg6
 have H4 := Aside0.mk (show Box Wqa g6 30 (mA X qa) ∧ MV Wqa X qa ∧ Box Wqa g3 30 (mA m p) ∧ MV Wqa m p ∧ LV Wqa s A3 c3 ∧ Below w.heap.size w Wqa ∧ ErrAt Wqa a from ⟨bg6, MV.last _ _ _ _ hb H3.out.1, blk_below H3.out.2.1 hb, MV.last _ _ _ _ hb H3.out.2.2.1, (LV.last _ _ _) _ _ hb H3.out.2.2.2.1, Below.trans H3.out.2.2.2.2.1 (hb.mono H3.out.2.2.2.2.1.size), (ErrAt.lasts _) _ _ hb H3.out.2.2.2.2.2⟩)
 clear H3 bg6 hb
 have lb0 := H4.out.2.2.1
 go_wp2_with (first | ((with_reducible refine gate_dst (N := 34) rfl ?_); refine getM_ rfl rfl rfl rfl lb0 ?_))
 clear lb0
 refine (runS_any HV.out HX.out.1 HFI.out p A3 c3 Wqa H4.out.2.2.2.1 H4.out.2.2.2.2.1).mono ?_
 rintro e wqb ⟨qb, rfl, hM, hb⟩
 have H5 := Aside0.mk (show MV wqb X qb ∧ Box wqb g6 30 (mA X qa) ∧ MV wqb X qa ∧ Box wqb g3 30 (mA m p) ∧ MV wqb m p ∧ LV wqb s A3 c3 ∧ Below w.heap.size w wqb ∧ ErrAt wqb a from ⟨hM, blk_below H4.out.1 hb, MV.last _ _ _ _ hb H4.out.2.1, blk_below H4.out.2.2.1 hb, MV.last _ _ _ _ hb H4.out.2.2.2.1, (LV.last _ _ _) _ _ hb H4.out.2.2.2.2.1, Below.trans H4.out.2.2.2.2.2.1 (hb.mono H4.out.2.2.2.2.2.1.size), (ErrAt.lasts _) _ _ hb H4.out.2.2.2.2.2.2⟩)
 clear H4 hM hb
 go_wp2_with ((with_reducible refine gate_dst (N := 9) rfl ?_); refine new1_ (N := 9) (x := 38) (T := 30) (mA X qb) (zs := #[.slice none 0 0, .slice none 0 0, .slice none 0 0]) (mA_one _ _) ?_ ?_ ?_ ?_ ?_ ?_ ?_ ?_ ?_ ?_ ?_ ?_ ?_)
 all_goals (first | rfl | decide | (intro _ _; go_simp; done) | kernel_rfl | skip)
 intro g9 Wqb hg9 bg9 hb
 simp only [Act.put, List.setIfInBounds_toArray, List.set_cons_zero, List.set_cons_succ]
 clear hg9
 have H6 := Aside0.mk (show Box Wqb g9 30 (mA X qb) ∧ MV Wqb X qb ∧ Box Wqb g6 30 (mA X qa) ∧ MV Wqb X qa ∧ Box Wqb g3 30 (mA m p) ∧ MV Wqb m p ∧ LV Wqb s A3 c3 ∧ Below w.heap.size w Wqb ∧ ErrAt Wqb a from ⟨bg9, MV.last _ _ _ _ hb H5.out.1, blk_below H5.out.2.1 hb, MV.last _ _ _ _ hb H5.out.2.2.1, blk_below H5.out.2.2.2.1 hb, MV.last _ _ _ _ hb H5.out.2.2.2.2.1, (LV.last _ _ _) _ _ hb H5.out.2.2.2.2.2.1, Below.trans H5.out.2.2.2.2.2.2.1 (hb.mono H5.out.2.2.2.2.2.2.1.size), (ErrAt.lasts _) _ _ hb H5.out.2.2.2.2.2.2.2⟩)
 clear H5 bg9 hb
 have hn1 : (cc != cc) = false := by simp
 have hn2 : (lf != lf) = false := by simp
 have lb0 := H6.out.2.2.1
 have lb1 := H6.out.1
 go_wp2_with (first | ((with_reducible refine gate_dst (N := 50) rfl ?_); refine gate_guard rfl ?_; refine getM_ rfl rfl rfl rfl lb0 ?_) | ((with_reducible refine gate_dst (N := 51) rfl ?_); refine gate_guard rfl ?_; refine getM_ rfl rfl rfl rfl lb1 ?_))
 clear lb0 lb1
 refine (same_any X X HSH.out qa qb Wqb H6.out.2.2.2.1 H6.out.2.1).mono ?_
 rw [sameV_refl]
 rintro e w5 ⟨rfl, hb⟩
 have H7 := Aside0.mk (show Box w5 g9 30 (mA X qb) ∧ MV w5 X qb ∧ Box w5 g6 30 (mA X qa) ∧ MV w5 X qa ∧ Box w5 g3 30 (mA m p) ∧ MV w5 m p ∧ LV w5 s A3 c3 ∧ Below w.heap.size w w5 ∧ ErrAt w5 a from ⟨blk_below H6.out.1 hb, MV.last _ _ _ _ hb H6.out.2.1, blk_below H6.out.2.2.1 hb, MV.last _ _ _ _ hb H6.out.2.2.2.1, blk_below H6.out.2.2.2.2.1 hb, MV.last _ _ _ _ hb H6.out.2.2.2.2.2.1, (LV.last _ _ _) _ _ hb H6.out.2.2.2.2.2.2.1, Below.trans H6.out.2.2.2.2.2.2.2.1 (hb.mono H6.out.2.2.2.2.2.2.2.1.size), (ErrAt.lasts _) _ _ hb H6.out.2.2.2.2.2.2.2.2⟩)
 clear H6 hb hn1 hn2
 by_cases h2 : cc = 2
 ·have hq : (cc == 2) = true := by simp [h2]
  have hx0 : ((X.1.length : Int) == 0) = true := beq_iff_eq.2 (by rw [(HW.out.1 h2).1]; rfl)
  have hl0 : (lf == 0) = true := beq_iff_eq.2 (HW.out.1 h2).2
  clear h2
  have cm := (Box.cell (H7.out.2.2.1) 0 (.slice qa.1.1 X.1.length qa.1.2) rfl).1
  go_wp2
  go_ret
  exact ⟨rfl, H7.out.2.2.2.2.2.2.2.1⟩
 have hq : (cc == 2) = false := by simp [h2]
 have HW2 := Aside0.mk (HW.out.2 h2)
 clear h2
 have lb0 := H7.out.2.2.1
 go_wp2_with (first | ((with_reducible refine gate_dst (N := 65) rfl ?_); refine getM_ rfl rfl rfl rfl lb0 ?_))
 clear lb0
 refine (memOkI_any X qa w5 H7.out.2.2.2.1).mono ?_
 rw [HW2.out.1]
 rintro e w6 ⟨rfl, hb⟩
 have H8 := Aside0.mk (show Box w6 g9 30 (mA X qb) ∧ MV w6 X qb ∧ Box w6 g6 30 (mA X qa) ∧ MV w6 X qa ∧ Box w6 g3 30 (mA m p) ∧ MV w6 m p ∧ LV w6 s A3 c3 ∧ Below w.heap.size w w6 ∧ ErrAt w6 a from ⟨blk_below H7.out.1 hb, MV.last _ _ _ _ hb H7.out.2.1, blk_below H7.out.2.2.1 hb, MV.last _ _ _ _ hb H7.out.2.2.2.1, blk_below H7.out.2.2.2.2.1 hb, MV.last _ _ _ _ hb H7.out.2.2.2.2.2.1, (LV.last _ _ _) _ _ hb H7.out.2.2.2.2.2.2.1, Below.trans H7.out.2.2.2.2.2.2.2.1 (hb.mono H7.out.2.2.2.2.2.2.2.1.size), (ErrAt.lasts _) _ _ hb H7.out.2.2.2.2.2.2.2.2⟩)
 clear H7 hb
 have hl1 : decide (lf < 0) = false := decide_eq_false (by have := HW2.out.2.2.1; omega)
 have hl2 : decide (f < lf) = false := decide_eq_false (by have := HW2.out.2.2.2.1; omega)
 have HLEN := Aside0.mk (show X.1.length = 6 ∧ m.1.length = 6 ∧ X.1 = m.1 from ⟨listOk_len (by have := HW2.out.1; unfold mOk memOkL at this; simp only [Bool.and_eq_true] at this; exact this.1), listOk_len (by have := HW2.out.2.1; unfold mOk memOkL at this; simp only [Bool.and_eq_true] at this; exact this.1), HW2.out.2.2.2.2.2.1⟩)
 rcases (show ((cc == 1) = true ∧ (lf != 0) = false) ∨ (cc == 1) = false from by
  by_cases h1 : cc = 1
  ·exact .inl ⟨by simp [h1], by simp [HW2.out.2.2.2.2.1 h1]⟩
  ·exact .inr (by simp [h1])) with ⟨k1, k2⟩ | k1
 all_goals
  go_wp2
  go_loopw [12] (fun v wr => ∃ x4 : Int, v = .int .i64 x4 ∧ Aside0 (∃ j : Nat, x4 = j ∧ j ≤ 6) ∧ Aside0 (Box wr g9 30 (mA X qb) ∧ MV wr X qb ∧ Box wr g6 30 (mA X qa) ∧ MV wr X qa ∧ Box wr g3 30 (mA m p) ∧ MV wr m p ∧ LV wr s A3 c3 ∧ Below w.heap.size w wr ∧ ErrAt wr a)) (fun v _ => 6 - (intOf v).toNat)
  case atStart => exact ⟨0, rfl, ⟨0, rfl, by omega⟩, ⟨H8.out⟩⟩
  case round =>
   clear H8
   obtain ⟨x4, rfl, HJ, HO⟩ := hrel
   by_cases hx : x4 < 6
   ·have b5 : decide (x4 < 6) = true := decide_eq_true hx
    obtain ⟨j, hj, hj6⟩ := HJ.out
    have x0 : 0 ≤ x4 := by omega
    have xm : x4 < (m.1.length : Int) := by rw [HLEN.out.2.1]; omega
    have xX : x4 < (X.1.length : Int) := by rw [HLEN.out.1]; omega
    have HJ2 := Aside0.mk (show x4 = j ∧ j < 6 from ⟨hj, by omega⟩)
    have hw5 : wrap64 (x4 + 1) = x4 + 1 := by unfold wrap64; omega
    clear hj hj6 hx HJ
    go_upto_region 15 with fail
    obtain ⟨k, hk⟩ : ∃ k, k = rd m.1 x4 := ⟨_, rfl⟩
    refine weaveB_ (fun W => Box W g6 30 (mA X qa) ∧ Box W g3 30 (mA m p) ∧ MV W X qa ∧ MV W m p ∧ Below wr.heap.size wr W) (fun W W' hb h => ⟨blk_below h.1 hb, blk_below h.2.1 hb, MV.last _ _ _ _ hb h.2.2.1, MV.last _ _ _ _ hb h.2.2.2.1, h.2.2.2.2.trans (hb.mono h.2.2.2.2.size)⟩) ⟨HO.out.2.2.1, HO.out.2.2.2.2.1, HO.out.2.2.2.1, HO.out.2.2.2.2.2.1, Below.refl _ _⟩ [(89, 0), (90, 1), (91, 2), (92, 3), (93, 4), (94, 5), (95, 6), (96, 7), (97, 8), (98, 9), (99, 10)] [fun v _ => v = .pointer (some ⟨g6, 0, none⟩), fun v _ => v = .slice qa.1.1 X.1.length qa.1.2, fun v _ => v = .int .i64 x4, fun v W => ∃ ad, v = .pointer (some ad) ∧ W.cell? ad = some (.int .i64 k), fun v _ => v = .int .i64 k, fun v _ => v = .pointer (some ⟨g3, 0, none⟩), fun v _ => v = .slice p.1.1 m.1.length p.1.2, fun v _ => v = .int .i64 x4, fun v W => ∃ ad, v = .pointer (some ad) ∧ W.cell? ad = some (.int .i64 k), fun v _ => v = .int .i64 k, fun v _ => v = .bool false] mixed (by kernel_rfl) ⟨fun _ => Lasts.const _, fun _ => Lasts.const _, fun _ => Lasts.const _, fun _ W W' hb ⟨ad, h1, h2⟩ => ⟨ad, h1, (hb.cell (World.block_lt_of_cell? W _ h2)).trans h2⟩, fun _ => Lasts.const _, fun _ => Lasts.const _, fun _ => Lasts.const _, fun _ => Lasts.const _, fun _ W W' hb ⟨ad, h1, h2⟩ => ⟨ad, h1, (hb.cell (World.block_lt_of_cell? W _ h2)).trans h2⟩, fun _ => Lasts.const _, fun _ => Lasts.const _, trivial⟩ ?_ ?_
    ·refine ⟨?_, ?_, ?_, ?_, ?_, ?_, ?_, ?_, ?_, ?_, ?_, trivial⟩
     ·intro vs W hp hv b hs
      have o6 := (hs.oldtm 6 rfl).trans (show _ = some (Value.pointer (some ⟨g6, 0, none⟩)) from rfl)
      exact stepVal rfl (by go_simp) ⟨Below.refl _ _, rfl⟩
     ·intro vs W hp hv b hs
      have h0 : vs 0 = .pointer (some ⟨g6, 0, none⟩) := hv 0 (by decide)
      have t0 := (hs.tm 89 0 rfl).trans (congrArg some h0)
      have cm := (Box.cell hp.1 0 (.slice qa.1.1 X.1.length qa.1.2) rfl).1
      exact stepVal rfl (by go_simp) ⟨Below.refl _ _, rfl⟩
     ·intro vs W hp hv b hs
      have o12 := (hs.oldtm 12 rfl).trans (show _ = some (Value.int .i64 x4) from rfl)
      exact stepVal rfl (by go_simp) ⟨Below.refl _ _, rfl⟩
     ·intro vs W hp hv b hs
      have h1 : vs 1 = .slice qa.1.1 X.1.length qa.1.2 := hv 1 (by decide)
      have h2 : vs 2 = .int .i64 x4 := hv 2 (by decide)
      obtain ⟨ad, c, e0, _, hK, hc⟩ := Kd.C_get (hp.2.2.1).c0 (0 : Int) x4 x0 xX
      rw [e0] at h1
      have t1 := (hs.tm 90 1 rfl).trans (congrArg some h1)
      have t2 := (hs.tm 91 2 rfl).trans (congrArg some h2)
      have hc' : c = [.int .i64 (rd X.1 x4)] := hK
      refine stepVal (v := .pointer (some (ad.add x4.toNat))) rfl (by go_simp) ⟨Below.refl _ _, _, rfl, ?_⟩
      have := hc 0 (.int .i64 (rd X.1 x4)) (by rw [hc']; rfl)
      simpa [hk, HLEN.out.2.2, show (Kd.int .i64).sz = 1 from rfl] using this
     ·intro vs W hp hv b hs
      obtain ⟨ad, h3, hc⟩ : ∃ ad, vs 3 = .pointer (some ad) ∧ W.cell? ad = some (.int .i64 k) := hv 3 (by decide)
      have t3 := (hs.tm 92 3 rfl).trans (congrArg some h3)
      exact stepVal rfl (by go_simp) ⟨Below.refl _ _, rfl⟩
     ·intro vs W hp hv b hs
      have o3 := (hs.oldtm 3 rfl).trans (show _ = some (Value.pointer (some ⟨g3, 0, none⟩)) from rfl)
      exact stepVal rfl (by go_simp) ⟨Below.refl _ _, rfl⟩
     ·intro vs W hp hv b hs
      have h0 : vs 5 = .pointer (some ⟨g3, 0, none⟩) := hv 5 (by decide)
      have t0 := (hs.tm 94 5 rfl).trans (congrArg some h0)
      have cm := (Box.cell hp.2.1 0 (.slice p.1.1 m.1.length p.1.2) rfl).1
      exact stepVal rfl (by go_simp) ⟨Below.refl _ _, rfl⟩
     ·intro vs W hp hv b hs
      have o12 := (hs.oldtm 12 rfl).trans (show _ = some (Value.int .i64 x4) from rfl)
      exact stepVal rfl (by go_simp) ⟨Below.refl _ _, rfl⟩
     ·intro vs W hp hv b hs
      have h1 : vs 6 = .slice p.1.1 m.1.length p.1.2 := hv 6 (by decide)
      have h2 : vs 7 = .int .i64 x4 := hv 7 (by decide)
      obtain ⟨ad, c, e0, _, hK, hc⟩ := Kd.C_get (hp.2.2.2.1).c0 (0 : Int) x4 x0 xm
      rw [e0] at h1
      have t1 := (hs.tm 95 6 rfl).trans (congrArg some h1)
      have t2 := (hs.tm 96 7 rfl).trans (congrArg some h2)
      have hc' : c = [.int .i64 (rd m.1 x4)] := hK
      refine stepVal (v := .pointer (some (ad.add x4.toNat))) rfl (by go_simp) ⟨Below.refl _ _, _, rfl, ?_⟩
      have := hc 0 (.int .i64 (rd m.1 x4)) (by rw [hc']; rfl)
      simpa [hk, show (Kd.int .i64).sz = 1 from rfl] using this
     ·intro vs W hp hv b hs
      obtain ⟨ad, h3, hc⟩ : ∃ ad, vs 8 = .pointer (some ad) ∧ W.cell? ad = some (.int .i64 k) := hv 8 (by decide)
      have t3 := (hs.tm 97 8 rfl).trans (congrArg some h3)
      exact stepVal rfl (by go_simp) ⟨Below.refl _ _, rfl⟩
     ·intro vs W hp hv b hs
      have h4 : vs 4 = .int .i64 k := hv 4 (by decide)
      have h9 : vs 9 = .int .i64 k := hv 9 (by decide)
      have t4 := (hs.tm 93 4 rfl).trans (congrArg some h4)
      have t9 := (hs.tm 98 9 rfl).trans (congrArg some h9)
      have hkk : (k != k) = false := by simp
      exact stepVal rfl (by go_simp) ⟨Below.refl _ _, rfl⟩
    ·intro vs WB hp hv
     have hres : vs 10 = .bool false := hv 10 (by decide)
     have hb := hp.2.2.2.2
     simp only [List.map_cons, List.map_nil, putL, Act.put, List.setIfInBounds_toArray, List.set_cons_zero, List.set_cons_succ, hres]
     have H9 := Aside0.mk (show Box WB g9 30 (mA X qb) ∧ MV WB X qb ∧ Box WB g6 30 (mA X qa) ∧ MV WB X qa ∧ Box WB g3 30 (mA m p) ∧ MV WB m p ∧ LV WB s A3 c3 ∧ Below w.heap.size w WB ∧ ErrAt WB a from ⟨blk_below HO.out.1 hb, MV.last _ _ _ _ hb HO.out.2.1, blk_below HO.out.2.2.1 hb, MV.last _ _ _ _ hb HO.out.2.2.2.1, blk_below HO.out.2.2.2.2.1 hb, MV.last _ _ _ _ hb HO.out.2.2.2.2.2.1, (LV.last _ _ _) _ _ hb HO.out.2.2.2.2.2.2.1, Below.trans HO.out.2.2.2.2.2.2.2.1 (hb.mono HO.out.2.2.2.2.2.2.2.1.size), (ErrAt.lasts _) _ _ hb HO.out.2.2.2.2.2.2.2.2⟩)
     clear HO hb hp hres hv
     go_wp2
     go_roundw
     case measure => have := HJ2.out; simp [intOf]; omega
     case rel => exact ⟨_, rfl, ⟨j + 1, by have := HJ2.out; omega, by have := HJ2.out; omega⟩, ⟨H9.out⟩⟩
   have b5 : decide (x4 < 6) = false := decide_eq_false hx
   clear hx HJ
   by_cases hc0 : cc = 0
   rotate_left
   ·have hz : (cc != 0) = true := by simp [hc0]
    clear hc0
    go_wp2
    go_ret
    exact ⟨rfl, HO.out.2.2.2.2.2.2.2.1⟩
   have hz : (cc != 0) = false := by simp [hc0]
   by_cases hf : 100 ≤ f
   ·have hfq : decide (100 ≤ f) = true := decide_eq_true hf
    clear hf hc0
    go_wp2
    go_ret
    exact ⟨rfl, HO.out.2.2.2.2.2.2.2.1⟩
   have hfq : decide (100 ≤ f) = false := decide_eq_false hf
   have HZ := Aside0.mk (show stRunV m s (f + 1) = (X, 0, lf + 1) from HW2.out.2.2.2.2.2.2 hc0 (by omega))
   have hwf : wrap64 (f + 1) = f + 1 := by have := HX.out.2.2; unfold wrap64; omega
   have hwl : wrap64 (lf + 1) = lf + 1 := by have h1 := HW2.out.2.2.1; have h2 := HW2.out.2.2.2.1; unfold wrap64; omega
   have hee : (lf + 1 == lf + 1) = true := by simp
   have he4 : ((0 : Int) == 0) = true := by simp
   clear hf hc0
   have lb0 := HO.out.2.2.2.2.1
   go_wp2_with (first | ((with_reducible refine gate_dst (N := 107) rfl ?_); refine getM_ rfl rfl rfl rfl lb0 ?_))
   clear lb0
   refine (runI_any HZ.out p A3 c3 a wr HO.out.2.2.2.2.2.2.2.2 HO.out.2.2.2.2.2.1 HO.out.2.2.2.2.2.2.1).mono ?_
   rintro e wqc ⟨qc, rfl, hM, hb⟩
   have H61 := Aside0.mk (show MV wqc X qc ∧ Box wqc g9 30 (mA X qb) ∧ MV wqc X qb ∧ Box wqc g6 30 (mA X qa) ∧ MV wqc X qa ∧ Box wqc g3 30 (mA m p) ∧ MV wqc m p ∧ LV wqc s A3 c3 ∧ Below w.heap.size w wqc ∧ ErrAt wqc a from ⟨hM, blk_below HO.out.1 hb, MV.last _ _ _ _ hb HO.out.2.1, blk_below HO.out.2.2.1 hb, MV.last _ _ _ _ hb HO.out.2.2.2.1, blk_below HO.out.2.2.2.2.1 hb, MV.last _ _ _ _ hb HO.out.2.2.2.2.2.1, (LV.last _ _ _) _ _ hb HO.out.2.2.2.2.2.2.1, Below.trans HO.out.2.2.2.2.2.2.2.1 (hb.mono HO.out.2.2.2.2.2.2.2.1.size), (ErrAt.lasts _) _ _ hb HO.out.2.2.2.2.2.2.2.2⟩)
   clear HO hM hb
   go_wp2_with ((with_reducible refine gate_dst (N := 13) rfl ?_); refine new1_ (N := 13) (x := 112) (T := 30) (mA X qc) (zs := #[.slice none 0 0, .slice none 0 0, .slice none 0 0]) (mA_one _ _) ?_ ?_ ?_ ?_ ?_ ?_ ?_ ?_ ?_ ?_ ?_ ?_ ?_)
   all_goals (first | rfl | decide | (intro _ _; go_simp; done) | kernel_rfl | skip)
   intro g13 Wqc hg13 bg13 hb
   simp only [Act.put, List.setIfInBounds_toArray, List.set_cons_zero, List.set_cons_succ]
   clear hg13
   have H62 := Aside0.mk (show Box Wqc g13 30 (mA X qc) ∧ MV Wqc X qc ∧ Box Wqc g9 30 (mA X qb) ∧ MV Wqc X qb ∧ Box Wqc g6 30 (mA X qa) ∧ MV Wqc X qa ∧ Box Wqc g3 30 (mA m p) ∧ MV Wqc m p ∧ LV Wqc s A3 c3 ∧ Below w.heap.size w Wqc ∧ ErrAt Wqc a from ⟨bg13, MV.last _ _ _ _ hb H61.out.1, blk_below H61.out.2.1 hb, MV.last _ _ _ _ hb H61.out.2.2.1, blk_below H61.out.2.2.2.1 hb, MV.last _ _ _ _ hb H61.out.2.2.2.2.1, blk_below H61.out.2.2.2.2.2.1 hb, MV.last _ _ _ _ hb H61.out.2.2.2.2.2.2.1, (LV.last _ _ _) _ _ hb H61.out.2.2.2.2.2.2.2.1, Below.trans H61.out.2.2.2.2.2.2.2.2.1 (hb.mono H61.out.2.2.2.2.2.2.2.2.1.size), (ErrAt.lasts _) _ _ hb H61.out.2.2.2.2.2.2.2.2.2⟩)
   clear H61 bg13 hb
   have lb0 := H62.out.1
   have lb1 := H62.out.2.2.2.2.1
   go_wp2_with (first | ((with_reducible refine gate_dst (N := 124) rfl ?_); refine gate_guard rfl ?_; refine getM_ rfl rfl rfl rfl lb0 ?_) | ((with_reducible refine gate_dst (N := 125) rfl ?_); refine gate_guard rfl ?_; refine getM_ rfl rfl rfl rfl lb1 ?_))
   clear lb0 lb1
   refine (same_any X X HSH.out qc qa Wqc H62.out.2.1 H62.out.2.2.2.2.2.1).mono ?_
   rw [sameV_refl]
   rintro e w10 ⟨rfl, hb⟩
   have H63 := Aside0.mk (show Box w10 g13 30 (mA X qc) ∧ MV w10 X qc ∧ Box w10 g9 30 (mA X qb) ∧ MV w10 X qb ∧ Box w10 g6 30 (mA X qa) ∧ MV w10 X qa ∧ Box w10 g3 30 (mA m p) ∧ MV w10 m p ∧ LV w10 s A3 c3 ∧ Below w.heap.size w w10 ∧ ErrAt w10 a from ⟨blk_below H62.out.1 hb, MV.last _ _ _ _ hb H62.out.2.1, blk_below H62.out.2.2.1 hb, MV.last _ _ _ _ hb H62.out.2.2.2.1, blk_below H62.out.2.2.2.2.1 hb, MV.last _ _ _ _ hb H62.out.2.2.2.2.2.1, blk_below H62.out.2.2.2.2.2.2.1 hb, MV.last _ _ _ _ hb H62.out.2.2.2.2.2.2.2.1, (LV.last _ _ _) _ _ hb H62.out.2.2.2.2.2.2.2.2.1, Below.trans H62.out.2.2.2.2.2.2.2.2.2.1 (hb.mono H62.out.2.2.2.2.2.2.2.2.2.1.size), (ErrAt.lasts _) _ _ hb H62.out.2.2.2.2.2.2.2.2.2.2⟩)
   clear H62 hb
   go_wp2
   go_ret
   exact ⟨rfl, H63.out.2.2.2.2.2.2.2.2.2.1⟩
end Go.Proofs.YtendbgedpjcocaaGreatDoor.B
