import Derived.Test.YtendbgedpjcocaaGreatDoorPkA
import Derived.Test.YtendbgedpjcocaaGreatDoorPkB
import Derived.Test.YtendbgedpjcocaaGreatDoorJnJ
import Derived.Test.YtendbgedpjcocaaGreatDoorJnL
import Derived.Test.YtendbgedpjcocaaGreatDoorJnK
import Derived.Test.YtendbgedpjcocaaGreatDoorJnD
/- spec.l2MemBent, spec.l12Open, by their size. -/
namespace Go.Proofs.YtendbgedpjcocaaGreatDoor.B
open Go Go.RowKit Go.Shelf Go.Proofs.YtendbgedpjcocaaGreatDoorW.PrintWords Go.Proofs.YtendbgedpjcocaaGreatDoorW.PrintLast Go.Proofs.YtendbgedpjcocaaGreatDoorW.PrintMore
set_option linter.unusedVariables false
/-- A row of numbers of one's own. -/
abbrev RI (W : World) (base : Nat) (v : Value) (l : List Int) : Prop := Kd.R (Kd.int .i64) 3 W base (fun k => base ≤ k) v l
theorem open_dr {w0 w : World} (l : List Int) (hw : ∀ x ∈ l, (Lit.int .u8 x).wf = true) (A : Option Addr) (c : Nat) (hC : Kd.C (Kd.int .u8) w0 A l.length l) (hc : l.length ≤ c) (hb : Below w0.heap.size w0 w) : Calls Tryz.prog 32 #[.slice A l.length c] w fun e W => ∃ g s, e = .returned (.pointer (some ⟨g, 0, none⟩)) ∧ At w0 W g s 1099000000000 W ∧ Below w.heap.size w W ∧ ∀ b T cs, Box W b T cs → T ≠ 93 → b ≠ g := by
 obtain ⟨s, hs, hl, ho⟩ := open_total l hw
 refine (spec_l12Open.calls A c l s 0 w0 w hb hC hc ho).mono ?_
 rintro e W ⟨g, rfl, hi, hb0, hb1⟩
 exact ⟨g, s, rfl, ⟨⟨0, by omega, by omega, hi⟩, hb0, KeepBut.refl _ _ _, hi.lt, hs, hl⟩, hb1, fun b T cs hbx hT => (hi.ne_blk hbx hT).symm⟩
theorem RI.mv {W : World} {base : Nat} {m : List Int × List Int × List Int} {p : (Option Addr × Nat) × (Option Addr × Nat) × (Option Addr × Nat)} (h0 : RI W base (.slice p.1.1 m.1.length p.1.2) m.1) (h1 : RI W base (.slice p.2.1.1 m.2.1.length p.2.1.2) m.2.1) (h2 : RI W base (.slice p.2.2.1 m.2.2.length p.2.2.2) m.2.2) : MV W m p :=
 ⟨(Kd.R_reads' h0).2.1, (Kd.R_reads' h0).2.2, (Kd.R_reads' h1).2.1, (Kd.R_reads' h1).2.2, (Kd.R_reads' h2).2.1, (Kd.R_reads' h2).2.2⟩
/- MBENT -/
theorem Row6.ri {W : World} {base q e : Nat} {l : List Int} (h : Row6 W base q e l) : RI W base (.slice (some ⟨q, 0, none⟩) 6 e) l :=
 own_R h h.len.symm _ fun k hk => by
  rcases h.2 with ⟨_, h0⟩ | ⟨g, cap, cur, hv, hg, _⟩
  ·omega
  ·injection hv with hv
   injection hv with hv
   injection hv with hv
   rw [← hv] at hg
   have : q = k := by simpa [Value.ownBlock] using hk
   omega
section
variable {P : Program} {ops : Array Oper} {o : Oper} {a : Act} {Q : Exit → Act → World → Prop} {W : World}
theorem setR_ {rest : List Oper} {T : TypeId} {q : Tmp} {x : Operand} {g i : Nat} {v : Value} (ho : o.op = .store T (.tmp q) x) (hd : o.dst = none) (hg : o.guard = none)
  (hrun : (execOp a.eval o).run P W = .ok .skip (W.setCell ⟨g, i, none⟩ v)) (h : ∀ W', W' = W.setCell ⟨g, i, none⟩ v → Put1 g W W' → wpList P ops Q rest a W') : wpList P ops Q (o :: rest) a W := by
 refine store_event hg ho hd hrun fun w' hw => ?_
 exact h w' hw (by subst hw; exact ⟨rfl, rfl, rfl, by simp [World.setCell], fun j hj => Below.heap_setCell _ _ _ _ hj⟩)
end
theorem RI.put1 {W W' : World} {base b : Nat} {v : Value} {l : List Int} (h : RI W base v l) (hp : Put1 b W W') (hb : ∀ k, v.ownBlock = some k → k ≠ b) : RI W' base v l := by
 obtain ⟨h0, inner, ⟨h1, h2⟩, hr⟩ := h
 refine ⟨h0, inner, ⟨h1, ?_⟩, hr⟩
 rcases h2 with h2 | ⟨k, cap, cur, rfl, hk, hh, r⟩
 ·exact .inl h2
 ·exact .inr ⟨k, cap, cur, rfl, hk, (hp.far k (hb k rfl)).trans hh, r⟩
set_option maxRecDepth 100000 in
set_option maxHeartbeats 4000000 in
theorem memBent_at {w0 w : World} {g N : Nat} {s : List Int} (h : At w0 w g s (N + 100) w) : Calls Tryz.prog 34 #[.pointer (some ⟨g, 0, none⟩)] w fun e W' => ∃ (m : List Int × List Int × List Int) (p : (Option Addr × Nat) × (Option Addr × Nat) × (Option Addr × Nat)), e = .returned (.agg #[.slice p.1.1 m.1.length p.1.2, .slice p.2.1.1 m.2.1.length p.2.1.2, .slice p.2.2.1 m.2.2.length p.2.2.2]) ∧ Mini m.1 m.2.1 m.2.2 ∧ RI W' w.heap.size (.slice p.1.1 m.1.length p.1.2) m.1 ∧ RI W' w.heap.size (.slice p.2.1.1 m.2.1.length p.2.1.2) m.2.1 ∧ RI W' w.heap.size (.slice p.2.2.1 m.2.2.length p.2.2.2) m.2.2 ∧ At w0 w g s N W' := by
 have fr := h.fresh
 have H0 := Aside0.mk h
 clear h
 go_enter Tryz.func34, Tryz.ntmps34
 go_wp2_with ((with_reducible refine gate_dst (N := 2) rfl ?_); refine boxNew_ rfl rfl mZ 30 ?hr ?_; (case hr => (go_simp; first | done | rfl)); intro g2 w1 hg2' b2 hb1; have hg2 := Nat.le_of_eq hg2'.symm; clear hg2')
 have n2 : g2 ≠ g := fr g2 hg2
 have s1 := hb1.size
 have H1 := Aside0.mk (show At w0 w g s (N + 50 + 20) w1 ∧ Box w1 g2 30 mZ from ⟨At.less (At.below H0.out hb1) (by omega), b2⟩)
 clear H0 b2 hb1
 have hg2s := blk_lt H1.out.2
 refine (mem_at (At.here H1.out.1)).mono ?_
 rintro e w2 ⟨q0, e0, q1, e1, q2, e2, l0, l1, l2, rfl, hR0, hR1, hR2, a01, a02, a12, hA⟩
 have t0 := own_lt hR0 q0 rfl
 have t1 := own_lt hR1 q1 rfl
 have t2 := own_lt hR2 q2 rfl
 have u0 := (own_blk hR0)
 have hq : w1.heap.size ≤ q0 ∧ w1.heap.size ≤ q1 ∧ w1.heap.size ≤ q2 := ⟨hR0.ri.1 q0 rfl, hR1.ri.1 q1 rfl, hR2.ri.1 q2 rfl⟩
 have ll := And.intro hR0.len (And.intro hR1.len hR2.len)
 have ec := And.intro (own_le hR0) (And.intro (own_le hR1) (own_le hR2))
 have nq0 : q0 ≠ g := fr q0 (by omega)
 have nq1 : q1 ≠ g := fr q1 (by omega)
 have nq2 : q2 ≠ g := fr q2 (by omega)
 clear u0
 have hk := hA.k
 have H2 := Aside0.mk (show At w0 w g s (N + 50) w2 ∧ Row6 w2 w1.heap.size q0 e0 l0 ∧ Row6 w2 w1.heap.size q1 e1 l1 ∧ Row6 w2 w1.heap.size q2 e2 l2 ∧ Box w2 g2 30 mZ from ⟨At.over hA H1.out.1, hR0, hR1, hR2, Box.keep H1.out.2 hk n2⟩)
 clear H1 hA hk hR0 hR1 hR2
 go_wp2_with ((with_reducible refine gate_dst (N := 3) rfl ?_); refine new1_ (N := 3) (x := 5) (T := 30) (#[.slice (some ⟨q0, 0, none⟩) 6 e0, .slice (some ⟨q1, 0, none⟩) 6 e1, .slice (some ⟨q2, 0, none⟩) 6 e2]) (zs := #[.slice none 0 0, .slice none 0 0, .slice none 0 0]) (by simp [Value.oneCell']) ?_ ?_ ?_ ?_ ?_ ?_ ?_ ?_ ?_ ?_ ?_ ?_ ?_)
 all_goals (first | rfl | decide | (intro _ _; go_simp; done) | kernel_rfl | skip)
 intro g3 w3 hg3 b3 hb
 simp only [Act.put, List.setIfInBounds_toArray, List.set_cons_zero, List.set_cons_succ]
 have n3 : g3 ≠ g := fr g3 (by omega)
 have H3 := Aside0.mk (show At w0 w g s (N + 49 + 1) w3 ∧ Box w3 g3 30 #[.slice (some ⟨q0, 0, none⟩) 6 e0, .slice (some ⟨q1, 0, none⟩) 6 e1, .slice (some ⟨q2, 0, none⟩) 6 e2] ∧ Row6 w3 w1.heap.size q0 e0 l0 ∧ Row6 w3 w1.heap.size q1 e1 l1 ∧ Row6 w3 w1.heap.size q2 e2 l2 ∧ Box w3 g2 30 mZ from ⟨At.less (At.below H2.out.1 hb) (by omega), b3, Row6.keep H2.out.2.1 (kb_below (g := g) hb) nq0, Row6.keep H2.out.2.2.1 (kb_below (g := g) hb) nq1, Row6.keep H2.out.2.2.2.1 (kb_below (g := g) hb) nq2, Box.keep H2.out.2.2.2.2 (kb_below (g := g) hb) n2⟩)
 clear H2 hb b3
 go_wp2_with fail
 refine (pick_dr H3.out.1 30 (by omega) (by omega)).mono ?_
 rintro e w4 ⟨r, rfl, r0, r1, hA, hk⟩
 have hk4 := hk.1
 have H4 := Aside0.mk (show At w0 w g s (N + 49) w4 ∧ Box w4 g3 30 #[.slice (some ⟨q0, 0, none⟩) 6 e0, .slice (some ⟨q1, 0, none⟩) 6 e1, .slice (some ⟨q2, 0, none⟩) 6 e2] ∧ Row6 w4 w1.heap.size q0 e0 l0 ∧ Row6 w4 w1.heap.size q1 e1 l1 ∧ Row6 w4 w1.heap.size q2 e2 l2 ∧ Box w4 g2 30 mZ from ⟨hA, Box.keep H3.out.2.1 hk n3, Row6.keep H3.out.2.2.1 hk nq0, Row6.keep H3.out.2.2.2.1 hk nq1, Row6.keep H3.out.2.2.2.2.1 hk nq2, Box.keep H3.out.2.2.2.2.2 hk n2⟩)
 clear H3 hA hk
 have dis : g3 ≠ q0 ∧ g3 ≠ q1 ∧ g3 ≠ q2 ∧ g2 ≠ q0 ∧ g2 ≠ q1 ∧ g2 ≠ q2 ∧ g2 ≠ g3 ∧ w.heap.size ≤ g3 := ⟨by omega, by omega, by omega, by omega, by omega, by omega, by omega, by omega⟩
 have low : ∀ (W W' : World) (v : Value) (l : List Int), RI W w1.heap.size v l → Put1 g2 W W' → RI W' w.heap.size v l := fun W W' v l h hp => Kd.R_lower (Kd.R_mono (RI.put1 h hp fun k hk => by have := h.1 k hk; omega) fun k hk => by have : w1.heap.size ≤ k := hk; omega) (by omega)
 have LOW := Aside0.mk low
 clear low
 have fin : ∀ (W W' : World) (A0 A1 A2 : Option Addr) (n0 n1 n2 c0 c1 c2 : Nat) (m0 m1 m2 : List Int), n0 = m0.length → n1 = m1.length → n2 = m2.length → n0 ≤ 7 ∧ n1 ≤ 7 ∧ n2 ≤ 7 → RI W w1.heap.size (.slice A0 n0 c0) m0 → RI W w1.heap.size (.slice A1 n1 c1) m1 → RI W w1.heap.size (.slice A2 n2 c2) m2 → At w0 w g s N W → Put1 g2 W W' → ∃ (m : List Int × List Int × List Int) (p : (Option Addr × Nat) × (Option Addr × Nat) × (Option Addr × Nat)), Ending.returned (Value.agg #[.slice A0 n0 c0, .slice A1 n1 c1, .slice A2 n2 c2]) = .returned (.agg #[.slice p.1.1 m.1.length p.1.2, .slice p.2.1.1 m.2.1.length p.2.1.2, .slice p.2.2.1 m.2.2.length p.2.2.2]) ∧ Mini m.1 m.2.1 m.2.2 ∧ RI W' w.heap.size (.slice p.1.1 m.1.length p.1.2) m.1 ∧ RI W' w.heap.size (.slice p.2.1.1 m.2.1.length p.2.1.2) m.2.1 ∧ RI W' w.heap.size (.slice p.2.2.1 m.2.2.length p.2.2.2) m.2.2 ∧ At w0 w g s N W' := by
  intro W W' A0 A1 A2 n0 n1 n2 c0 c1 c2 m0 m1 m2 h0 h1 h2 hm r0 r1 r2 hA hp
  subst h0 h1 h2
  exact ⟨(m0, m1, m2), ((A0, c0), (A1, c1), (A2, c2)), rfl, hm, LOW.out _ _ _ _ r0 hp, LOW.out _ _ _ _ r1 hp, LOW.out _ _ _ _ r2 hp, hA.put1 hp hg2⟩
 have FIN := Aside0.mk fin
 clear fin
 by_cases h0 : r = 0
 ·have c0 : (r == 0) = true := by simp [h0]
  clear h0
  have lb := H4.out.2.1
  have lb2 := H4.out.2.2.2.2.2
  have cc := (Box.cell lb 0 _ rfl).1
  have cf := (Box.cell lb 0 _ rfl).2
  have ec2 : 2 ≤ e0 := by omega
  go_wp2_with (first | ((with_reducible refine gate_store (t := 28) (p := 13) rfl ?_); refine setF_ (i := 0) (v := .slice (some ⟨q0, 0, none⟩) 2 e0) rfl rfl rfl lb (by go_simp) ?_; intro w7 hb7 hput; have lb27 := Box.put1 lb2 hput (by omega)) | ((with_reducible refine gate_dst (N := 26) rfl ?_); refine boxGet_ rfl rfl rfl rfl hb7 Tryz.underlying30 rfl (by kernel_rfl) ?_) | ((with_reducible refine gate_store (t := 30) (p := 2) rfl ?_); refine boxPut_ rfl rfl rfl rfl (#[.slice (some ⟨q0, 0, none⟩) 2 e0, .slice (some ⟨q1, 0, none⟩) 6 e1, .slice (some ⟨q2, 0, none⟩) 6 e2]) (by rfl) lb27 rfl (by kernel_rfl) (by simp [Value.oneCell']) ?_; intro w9 hbx hput9))
  refine bodyPost_ret (results_cell_row rfl _ _ g2 30 (#[.slice (some ⟨q0, 0, none⟩) 2 e0, .slice (some ⟨q1, 0, none⟩) 6 e1, .slice (some ⟨q2, 0, none⟩) 6 e2]) (0, 0) _ rfl hbx Tryz.underlying30 rfl (by kernel_rfl)) rfl ?_
  exact FIN.out _ w9 _ _ _ _ _ _ _ _ _ (l0.take 2) l1 l2 (by rw [List.length_take, ll.1]; rfl) ll.2.1.symm ll.2.2.symm (by omega) (Kd.R_take (Row6.ri (Row6.put1 (H4.out.2.2.1) hput (by omega))) (by omega)) (Row6.ri (Row6.put1 (H4.out.2.2.2.1) hput (by omega))) (Row6.ri (Row6.put1 (H4.out.2.2.2.2.1) hput (by omega))) (At.less (At.put1 H4.out.1 hput (by omega)) (by omega)) hput9
 have c0 : (r == 0) = false := by simp [h0]
 by_cases h1 : r = 1
 ·have c1 : (r == 1) = true := by simp [h1]
  clear h0 h1
  have lb := H4.out.2.1
  have lb2 := H4.out.2.2.2.2.2
  have cc := (Box.cell lb 2 _ rfl).1
  have hat := own_at (H4.out.2.2.2.2.1) 0 (by omega) (by omega)
  have ca := hat.1
  have cb := hat.2
  simp only [Int.toNat_zero] at ca cb
  go_wp2_with (first | ((with_reducible refine gate_store (t := 3) (p := 18) rfl ?_); refine setR_ (g := q2) (i := 0) (v := .int .i64 1000001) rfl rfl rfl (by go_simp) ?_; intro w7 hw7 hput; have lb7 := Box.put1 lb hput (by omega); have lb27 := Box.put1 lb2 hput (by omega)) | ((with_reducible refine gate_dst (N := 26) rfl ?_); refine boxGet_ rfl rfl rfl rfl lb7 Tryz.underlying30 rfl (by kernel_rfl) ?_) | ((with_reducible refine gate_store (t := 30) (p := 2) rfl ?_); refine boxPut_ rfl rfl rfl rfl (#[.slice (some ⟨q0, 0, none⟩) 6 e0, .slice (some ⟨q1, 0, none⟩) 6 e1, .slice (some ⟨q2, 0, none⟩) 6 e2]) (by rfl) lb27 rfl (by kernel_rfl) (by simp [Value.oneCell']) ?_; intro w9 hbx hput9))
  have hr2 : Row6 w7 w1.heap.size q2 e2 (l2.set 0 1000001) := by rw [hw7]; exact (own_store (H4.out.2.2.2.2.1) 0 1000001).1
  refine bodyPost_ret (results_cell_row rfl _ _ g2 30 (#[.slice (some ⟨q0, 0, none⟩) 6 e0, .slice (some ⟨q1, 0, none⟩) 6 e1, .slice (some ⟨q2, 0, none⟩) 6 e2]) (0, 0) _ rfl hbx Tryz.underlying30 rfl (by kernel_rfl)) rfl ?_
  exact FIN.out _ w9 _ _ _ _ _ _ _ _ _ l0 l1 (l2.set 0 1000001) ll.1.symm ll.2.1.symm (by rw [List.length_set]; exact ll.2.2.symm) (by omega) (Row6.ri (Row6.put1 (H4.out.2.2.1) hput (by omega))) (Row6.ri (Row6.put1 (H4.out.2.2.2.1) hput (by omega))) hr2.ri (At.less (At.put1 H4.out.1 hput (by omega)) (by omega)) hput9
 have c1 : (r == 1) = false := by simp [h1]
 by_cases h2 : r = 2
 rotate_left
 ·have c2 : (r == 2) = false := by simp [h2]
  clear h0 h1 h2
  have lb3 := H4.out.2.1
  have lb2 := H4.out.2.2.2.2.2
  go_wp2_with (first | ((with_reducible refine gate_dst (N := 26) rfl ?_); refine boxGet_ rfl rfl rfl rfl lb3 Tryz.underlying30 rfl (by kernel_rfl) ?_) | ((with_reducible refine gate_store (t := 30) (p := 2) rfl ?_); refine boxPut_ rfl rfl rfl rfl (#[.slice (some ⟨q0, 0, none⟩) 6 e0, .slice (some ⟨q1, 0, none⟩) 6 e1, .slice (some ⟨q2, 0, none⟩) 6 e2]) (by rfl) lb2 rfl (by kernel_rfl) (by simp [Value.oneCell']) ?_; intro w9 hbx hput9))
  refine bodyPost_ret (results_cell_row rfl _ _ g2 30 (#[.slice (some ⟨q0, 0, none⟩) 6 e0, .slice (some ⟨q1, 0, none⟩) 6 e1, .slice (some ⟨q2, 0, none⟩) 6 e2]) (0, 0) _ rfl hbx Tryz.underlying30 rfl (by kernel_rfl)) rfl ?_
  exact FIN.out _ w9 _ _ _ _ _ _ _ _ _ l0 l1 l2 ll.1.symm ll.2.1.symm ll.2.2.symm (by omega) (Row6.ri H4.out.2.2.1) (Row6.ri H4.out.2.2.2.1) (Row6.ri H4.out.2.2.2.2.1) (At.less H4.out.1 (by omega)) hput9
 have c2 : (r == 2) = true := by simp [h2]
 clear h0 h1 h2
 have lb := H4.out.2.1
 have lb2 := H4.out.2.2.2.2.2
 have cc := (Box.cell lb 1 _ rfl).1
 go_wp2_with (first | ((with_reducible refine gate_builtin (b := .append) (xs := #[.tmp 22, .tmp 23]) rfl ?_); at_builtin; refine Kd.R_append (Kd.int .i64) w1.heap.size rfl (.tmp 22) (.tmp 23) 28 3 (.int .i64 0) 8 rfl Tryz.underlying28 info3 rfl (by decide) (by omega) (.slice (some ⟨q1, 0, none⟩) 6 e1) l1 0 [.int .i64 0] (fun k => w1.heap.size ≤ k ∧ k ≠ g3 ∧ k ≠ q0 ∧ k ≠ q2) (fun _ => False) rfl rfl rfl (fun _ hk => hk.elim) (fun k hk => by have := blk_lt lb; have := own_lt (H4.out.2.2.1) q0 rfl; have := own_lt (H4.out.2.2.2.2.1) q2 rfl; exact ⟨by omega, by omega, by omega, by omega⟩) (own_R (H4.out.2.2.2.1) ll.2.1.symm _ (fun k hk => by have e : q1 = k := (by simpa [Value.ownBlock] using hk); subst e; exact ⟨hq.2.1, by omega, by omega, by omega⟩)) (Below.refl _ _) (by have := own_lt (H4.out.2.2.1) q0 rfl; omega) (by omega) ?_; intro v1 w6 hN hb hg hat; obtain ⟨A1, c1, eN⟩ := Kd.R_slice hN; subst eN; have lb6 := (hg.block g3 (blk_lt lb) (by simp [Value.ownBlock]; omega)).trans lb; have lb26 := (hb.block g2 hg2s).trans lb2; have cc6 := (Box.cell lb6 1 _ rfl).1; have cf6 := (Box.cell lb6 1 _ rfl).2) | ((with_reducible refine gate_store (t := 28) (p := 25) rfl ?_); refine setF_ (i := 1) (v := .slice A1 (l1 ++ [0]).length c1) rfl rfl rfl lb6 (by go_simp) ?_; intro w7 hb7 hput; have lb27 := Box.put1 lb26 hput (by omega)) | ((with_reducible refine gate_dst (N := 26) rfl ?_); refine boxGet_ rfl rfl rfl rfl hb7 Tryz.underlying30 rfl (by kernel_rfl) ?_) | ((with_reducible refine gate_store (t := 30) (p := 2) rfl ?_); refine boxPut_ rfl rfl rfl rfl (#[.slice (some ⟨q0, 0, none⟩) 6 e0, .slice A1 (l1 ++ [0]).length c1, .slice (some ⟨q2, 0, none⟩) 6 e2]) (by rfl) lb27 rfl (by kernel_rfl) (by simp [Value.oneCell']) ?_; intro w9 hbx hput9))
 have o0 := own_other (H4.out.2.2.1) hg (.inr (by simp [Value.ownBlock]; omega))
 have o2 := own_other (H4.out.2.2.2.2.1) hg (.inr (by simp [Value.ownBlock]; omega))
 have hr1 : RI w7 w1.heap.size (.slice A1 (l1 ++ [0]).length c1) (l1 ++ [0]) := RI.put1 (Kd.R_mono hN fun k hk => hk.1) hput fun k hk => (hN.1 k hk).2.1
 refine bodyPost_ret (results_cell_row rfl _ _ g2 30 (#[.slice (some ⟨q0, 0, none⟩) 6 e0, .slice A1 (l1 ++ [0]).length c1, .slice (some ⟨q2, 0, none⟩) 6 e2]) (0, 0) _ rfl hbx Tryz.underlying30 rfl (by kernel_rfl)) rfl ?_
 exact FIN.out _ w9 _ _ _ _ _ _ _ _ _ l0 (l1 ++ [0]) l2 ll.1.symm rfl ll.2.2.symm (by have := ll.2.1; simp; omega) (Row6.ri (Row6.put1 o0 hput (by omega))) hr1 (Row6.ri (Row6.put1 o2 hput (by omega))) (At.less (At.put1 (At.low H4.out.1 (hb.mono (by omega))) hput (by omega)) (by omega)) hput9
theorem memBent_dr {w0 wb W : World} {g N : Nat} {s : List Int} (h : At w0 wb g s (N + 100) W) : Calls Tryz.prog 34 #[.pointer (some ⟨g, 0, none⟩)] W fun e W' => ∃ (m : List Int × List Int × List Int) (p : (Option Addr × Nat) × (Option Addr × Nat) × (Option Addr × Nat)), e = .returned (.agg #[.slice p.1.1 m.1.length p.1.2, .slice p.2.1.1 m.2.1.length p.2.1.2, .slice p.2.2.1 m.2.2.length p.2.2.2]) ∧ Mini m.1 m.2.1 m.2.2 ∧ RI W' W.heap.size (.slice p.1.1 m.1.length p.1.2) m.1 ∧ RI W' W.heap.size (.slice p.2.1.1 m.2.1.length p.2.1.2) m.2.1 ∧ RI W' W.heap.size (.slice p.2.2.1 m.2.2.length p.2.2.2) m.2.2 ∧ At w0 wb g s N W' ∧ KeepBut W W' g none :=
 (memBent_at h.here).mono fun e w' ⟨m, p, h1, h2, h3, h4, h5, h7⟩ => ⟨m, p, h1, h2, h3, h4, h5, h7.over h, h7.k⟩

end Go.Proofs.YtendbgedpjcocaaGreatDoor.B
/- The draw for MemPut. -/
namespace Go.Proofs.YtendbgedpjcocaaGreatDoor.B
open Go Go.RowKit Go.Shelf Go.Proofs.YtendbgedpjcocaaGreatDoorW.PrintWords Go.Proofs.YtendbgedpjcocaaGreatDoorW.PrintLast Go.Proofs.YtendbgedpjcocaaGreatDoorW.PrintMore
set_option linter.unusedVariables false
theorem results_cct' {P : Program} {fn : Func} {p p' u : Tmp} {ty ty' : TypeId} (h : fn.results = #[.cell p ty, .cell p' ty', .tmp u]) (tmps : Array Value) (w : World) (g g' : Nat) (t t' : TypeId) (cs cs' : Array Value) (fr fr' : Nat × Nat) (d d' : TypeDesc)
  (hp : tmps.getD p undef = .pointer (some ⟨g, 0, none⟩)) (hg : w.heap[g]? = some (.cells cs t fr))
  (hu : P.underlying ty = some d) (hd : (match d with | .struct _ | .array _ _ => true | _ => false) = true) (hi : (P.info? ty).map (·.size) = some cs.size)
  (hp' : tmps.getD p' undef = .pointer (some ⟨g', 0, none⟩)) (hg' : w.heap[g']? = some (.cells cs' t' fr'))
  (hu' : P.underlying ty' = some d') (hd' : (match d' with | .struct _ | .array _ _ => true | _ => false) = true) (hi' : (P.info? ty').map (·.size) = some cs'.size) :
  (results fn tmps).run P w = .ok (.tuple #[.agg cs, .agg cs', tmps.getD u undef]) w := by
 have h1 : tmps[p]?.getD undef = .pointer (some ⟨g, 0, none⟩) := by simpa using hp
 have h2 : tmps[p']?.getD undef = .pointer (some ⟨g', 0, none⟩) := by simpa using hp'
 simp [results, h, h1, h2, asAddr, run_loadVar_row w g t ty cs fr d hg hu hd hi, run_loadVar_row w g' t' ty' cs' fr' d' hg' hu' hd' hi']
theorem l1Num_dr {w0 wb W : World} {g N : Nat} {s : List Int} (h : At w0 wb g s (N + 1) W) : Calls Tryz.prog 56 #[.pointer (some ⟨g, 0, none⟩)] W fun e W' => ∃ n, e = .returned (.int .i64 n) ∧ At w0 wb g s N W' ∧ KeepBut W W' g none := by
 obtain ⟨q, q0, q1, hq⟩ := h.q
 obtain ⟨r, r0, hr⟩ := num_total s h.by_ h.sl q q0 (by omega) [0, 1, 2, (-1), 3, 7, 100, 999999, 1000000, (-1000000), 1000001, (-1000007), 9223372036854775807, (-9223372036854775808), 4000000000] (by decide) (by decide)
 refine (spec_l1Num.calls 2 g s q r (q + 1) w0 W hq h.b ?_).mono ?_
 ·rw [spec_l1Num.f, hr 1]; rfl
 rintro e W' ⟨rfl, hi, hb, hk⟩
 exact ⟨r, rfl, h.after q0 q1 (by omega) (by omega) hi hb hk, hk⟩
structure MPut (w0 w2 w6 : World) (g : Nat) (s : List Int) (g2 g3 g6 g7 : Nat) (m : List Int × List Int × List Int) (p : (Option Addr × Nat) × (Option Addr × Nat) × (Option Addr × Nat)) (a b : Int) (l : Nat → Bool) (vs : Nat → Value) (W : World) : Prop where
 d4 : l 4 = true → l 3 = true ∧ l 0 = true
 d5 : l 5 = true → l 4 = true
 sz : w6.heap.size ≤ W.heap.size
 bl : Below w0.heap.size w0 W
 at_ : l 3 = false → At w0 w2 g s (800000000 + 1) W
 r0 : RI W w2.heap.size (.slice p.1.1 m.1.length p.1.2) m.1
 r1 : RI W w2.heap.size (.slice p.2.1.1 m.2.1.length p.2.1.2) m.2.1
 r2 : RI W w2.heap.size (.slice p.2.2.1 m.2.2.length p.2.2.2) m.2.2
 b6 : Box W g6 30 (#[.slice p.1.1 m.1.length p.1.2, .slice p.2.1.1 m.2.1.length p.2.1.2, .slice p.2.2.1 m.2.2.length p.2.2.2])
 b7 : Box W g7 24 (#[.int .i64 a, .int .i64 b])
 f0 : l 0 = true → vs 0 = .agg (#[.slice p.1.1 m.1.length p.1.2, .slice p.2.1.1 m.2.1.length p.2.1.2, .slice p.2.2.1 m.2.2.length p.2.2.2])
 f1 : l 1 = true → vs 1 = .agg (#[.int .i64 a, .int .i64 b])
 f2 : l 2 = true → vs 2 = .pointer (some ⟨g, 0, none⟩)
 f3 : l 3 = true → ∃ n : Int, vs 3 = .int .i64 n
 f4 : l 4 = false → Box W g2 30 mZ
 f4' : l 4 = true → Box W g2 30 (#[.slice p.1.1 m.1.length p.1.2, .slice p.2.1.1 m.2.1.length p.2.1.2, .slice p.2.2.1 m.2.2.length p.2.2.2])
 f5 : l 5 = false → Box W g3 24 (#[.int .i64 0, .int .i64 0])
 f5' : l 5 = true → Box W g3 24 (#[.int .i64 a, .int .i64 b])
 f6 : l 6 = true → ∃ n : Int, vs 6 = .int .i64 n
set_option maxRecDepth 100000 in
set_option maxHeartbeats 4000000 in
theorem drawMP_any (l : List Int) (hw : ∀ x ∈ l, (Lit.int .u8 x).wf = true) (A : Option Addr) (c : Nat) (w0 : World) (hC : Kd.C (Kd.int .u8) w0 A l.length l) (hc : l.length ≤ c) : Calls Tryz.prog 29 #[.slice A l.length c] w0 fun e W' => ∃ (m : List Int × List Int × List Int) (a b n : Int), ∃ p, e = .returned (.tuple #[.agg (mA m p), .agg #[.int .i64 a, .int .i64 b], .int .i64 n]) ∧ Mini m.1 m.2.1 m.2.2 ∧ MV W' m p ∧ Below w0.heap.size w0 W' := by
 have mixed : Tryz.prog.follows .mixedOrders = true := rfl
 have H0 := Aside0.mk (And.intro hC hc)
 clear hC hc
 go_enter Tryz.func29, Tryz.ntmps29
 go_wp2_with (first | ((with_reducible refine gate_dst (N := 2) rfl ?_); refine boxNew_ rfl rfl (mZ) 30 ?hr ?_; (case hr => (go_simp; first | done | rfl)); intro g2 w1 hg2' bg2 hb1; have hg2w := Nat.le_of_eq hg2'.symm; clear hg2') | ((with_reducible refine gate_dst (N := 3) rfl ?_); refine boxNew_ rfl rfl (#[.int .i64 0, .int .i64 0]) 24 ?hr ?_; (case hr => (go_simp; first | done | rfl)); intro g3 w1' hg3' bg3 hb1'; have hg3w := Nat.le_of_eq hg3'.symm; clear hg3'))
 have b2' := blk_below bg2 hb1'
 have s12 := blk_lt bg2
 have hbb := hb1.trans (hb1'.mono hb1.size)
 refine (open_dr l hw A c H0.out.1 H0.out.2 hbb).mono ?_
 rintro e w2 ⟨g, s, rfl, hA, hb, hne⟩
 have fr := hA.fresh
 have n2 : g2 ≠ g := hne g2 _ _ (blk_below b2' hb) (by decide)
 have n3 : g3 ≠ g := hne g3 _ _ (blk_below bg3 hb) (by decide)
 have H1 := Aside0.mk (show At w0 w2 g s (1000000000 + 100) w2 ∧ Box w2 g2 30 mZ ∧ Box w2 g3 24 #[.int .i64 0, .int .i64 0] from ⟨At.less hA (by omega), blk_below b2' hb, blk_below bg3 hb⟩)
 clear  hA bg2 b2' bg3 hb hne hb1 hb1' H0
 have hg2 := blk_lt H1.out.2.1
 have hg3 := blk_lt H1.out.2.2
 go_wp2_with fail
 refine (memBent_dr H1.out.1).mono ?_
 rintro e w3 ⟨m, p, rfl, hm, h0, h1, h2, hA, hk⟩
 have hk3 := hk.1
 have H2 := Aside0.mk (show At w0 w2 g s (1000000000) w3 ∧ RI w3 w2.heap.size (.slice p.1.1 m.1.length p.1.2) m.1 ∧ RI w3 w2.heap.size (.slice p.2.1.1 m.2.1.length p.2.1.2) m.2.1 ∧ RI w3 w2.heap.size (.slice p.2.2.1 m.2.2.length p.2.2.2) m.2.2 ∧ Box w3 g2 30 mZ ∧ Box w3 g3 24 #[.int .i64 0, .int .i64 0] from ⟨hA, h0, h1, h2, Box.keep H1.out.2.1 hk n2, Box.keep H1.out.2.2 hk n3⟩)
 clear H1 hA hk
 have HM := Aside0.mk hm
 clear hm h0 h1 h2
 go_wp2_with ((with_reducible refine gate_dst (N := 6) rfl ?_); refine new1_ (N := 6) (x := 11) (T := 30) (#[.slice p.1.1 m.1.length p.1.2, .slice p.2.1.1 m.2.1.length p.2.1.2, .slice p.2.2.1 m.2.2.length p.2.2.2]) (zs := #[.slice none 0 0, .slice none 0 0, .slice none 0 0]) (by simp [Value.oneCell']) ?_ ?_ ?_ ?_ ?_ ?_ ?_ ?_ ?_ ?_ ?_ ?_ ?_)
 all_goals (first | rfl | decide | (intro _ _; go_simp; done) | kernel_rfl | skip)
 intro g6 w4 hg6 b6 hb
 simp only [Act.put, List.setIfInBounds_toArray, List.set_cons_zero, List.set_cons_succ]
 have n6 : g6 ≠ g := fr g6 (by omega)
 have s34 := hb.size
 have H3 := Aside0.mk (show At w0 w2 g s (1000000000) w4 ∧ Box w4 g6 30 (#[.slice p.1.1 m.1.length p.1.2, .slice p.2.1.1 m.2.1.length p.2.1.2, .slice p.2.2.1 m.2.2.length p.2.2.2]) ∧ RI w4 w2.heap.size (.slice p.1.1 m.1.length p.1.2) m.1 ∧ RI w4 w2.heap.size (.slice p.2.1.1 m.2.1.length p.2.1.2) m.2.1 ∧ RI w4 w2.heap.size (.slice p.2.2.1 m.2.2.length p.2.2.2) m.2.2 ∧ Box w4 g2 30 mZ ∧ Box w4 g3 24 #[.int .i64 0, .int .i64 0] from ⟨At.below H2.out.1 hb, b6, Kd.R_keep H2.out.2.1 (kb_below (g := g) hb) (fun k hk => fr k hk), Kd.R_keep H2.out.2.2.1 (kb_below (g := g) hb) (fun k hk => fr k hk), Kd.R_keep H2.out.2.2.2.1 (kb_below (g := g) hb) (fun k hk => fr k hk), Box.keep H2.out.2.2.2.2.1 (kb_below (g := g) hb) n2, Box.keep H2.out.2.2.2.2.2 (kb_below (g := g) hb) n3⟩)
 clear H2 hb b6
 go_wp2_with fail
 refine (addrBent_dr (At.less (N := 1000000000) (M := 900000000 + 1000000) H3.out.1 (by omega))).mono ?_
 rintro e w5 ⟨a, b, rfl, hA, hk⟩
 have hk5 := hk.1
 have H4 := Aside0.mk (show At w0 w2 g s (900000000) w5 ∧ Box w5 g6 30 (#[.slice p.1.1 m.1.length p.1.2, .slice p.2.1.1 m.2.1.length p.2.1.2, .slice p.2.2.1 m.2.2.length p.2.2.2]) ∧ RI w5 w2.heap.size (.slice p.1.1 m.1.length p.1.2) m.1 ∧ RI w5 w2.heap.size (.slice p.2.1.1 m.2.1.length p.2.1.2) m.2.1 ∧ RI w5 w2.heap.size (.slice p.2.2.1 m.2.2.length p.2.2.2) m.2.2 ∧ Box w5 g2 30 mZ ∧ Box w5 g3 24 #[.int .i64 0, .int .i64 0] from ⟨hA, Box.keep H3.out.2.1 hk n6, Kd.R_keep H3.out.2.2.1 hk (fun k hk => fr k hk), Kd.R_keep H3.out.2.2.2.1 hk (fun k hk => fr k hk), Kd.R_keep H3.out.2.2.2.2.1 hk (fun k hk => fr k hk), Box.keep H3.out.2.2.2.2.2.1 hk n2, Box.keep H3.out.2.2.2.2.2.2 hk n3⟩)
 clear H3 hA hk
 go_wp2_with ((with_reducible refine gate_dst (N := 7) rfl ?_); refine new1_ (N := 7) (x := 13) (T := 24) (#[.int .i64 a, .int .i64 b]) (zs := #[.int .i64 0, .int .i64 0]) (by simp [Value.oneCell']) ?_ ?_ ?_ ?_ ?_ ?_ ?_ ?_ ?_ ?_ ?_ ?_ ?_)
 all_goals (first | rfl | decide | (intro _ _; go_simp; done) | kernel_rfl | skip)
 intro g7 w6 hg7 b7 hb
 simp only [Act.put, List.setIfInBounds_toArray, List.set_cons_zero, List.set_cons_succ]
 have n7 : g7 ≠ g := fr g7 (by omega)
 have s56 := hb.size
 have H5 := Aside0.mk (show At w0 w2 g s (800000000 + 1) w6 ∧ Box w6 g7 24 (#[.int .i64 a, .int .i64 b]) ∧ Box w6 g6 30 (#[.slice p.1.1 m.1.length p.1.2, .slice p.2.1.1 m.2.1.length p.2.1.2, .slice p.2.2.1 m.2.2.length p.2.2.2]) ∧ RI w6 w2.heap.size (.slice p.1.1 m.1.length p.1.2) m.1 ∧ RI w6 w2.heap.size (.slice p.2.1.1 m.2.1.length p.2.1.2) m.2.1 ∧ RI w6 w2.heap.size (.slice p.2.2.1 m.2.2.length p.2.2.2) m.2.2 ∧ Box w6 g2 30 mZ ∧ Box w6 g3 24 #[.int .i64 0, .int .i64 0] from ⟨At.less (At.below H4.out.1 hb) (by omega), b7, Box.keep H4.out.2.1 (kb_below (g := g) hb) n6, Kd.R_keep H4.out.2.2.1 (kb_below (g := g) hb) (fun k hk => fr k hk), Kd.R_keep H4.out.2.2.2.1 (kb_below (g := g) hb) (fun k hk => fr k hk), Kd.R_keep H4.out.2.2.2.2.1 (kb_below (g := g) hb) (fun k hk => fr k hk), Box.keep H4.out.2.2.2.2.2.1 (kb_below (g := g) hb) n2, Box.keep H4.out.2.2.2.2.2.2 (kb_below (g := g) hb) n3⟩)
 clear H4 hb b7
 have h6s := blk_lt H5.out.2.2.1
 have h7s := blk_lt H5.out.2.1
 go_upto_region 4 with fail
 refine weave (MPut w0 w2 w6 g s g2 g3 g6 g7 m p a b) [(14, 0), (15, 1), (16, 2), (17, 3), (4, 6)] mixed (by kernel_rfl) ?_ ?_ ?_
 ·exact ⟨fun h => absurd h (by simp), fun h => absurd h (by simp), Nat.le_refl _, (At.below H5.out.1 (drew_below _)).b, fun _ => At.below H5.out.1 (drew_below _), Kd.R_below H5.out.2.2.2.1 (drew_below _), Kd.R_below H5.out.2.2.2.2.1 (drew_below _), Kd.R_below H5.out.2.2.2.2.2.1 (drew_below _), Box.keep H5.out.2.2.1 (kb_below (g := g) (drew_below _)) n6, Box.keep H5.out.2.1 (kb_below (g := g) (drew_below _)) n7, fun h => absurd h (by simp), fun h => absurd h (by simp), fun h => absurd h (by simp), fun h => absurd h (by simp), fun _ => Box.keep H5.out.2.2.2.2.2.2.1 (kb_below (g := g) (drew_below _)) n2, fun h => absurd h (by simp), fun _ => Box.keep H5.out.2.2.2.2.2.2.2 (kb_below (g := g) (drew_below _)) n3, fun h => absurd h (by simp), fun h => absurd h (by simp)⟩
 ·intro i o ho l vs W h hli hw b9 hs
  have hi : i = 0 ∨ i = 1 ∨ i = 2 ∨ i = 3 ∨ i = 4 ∨ i = 5 ∨ i = 6 := by
   have := (Array.getElem?_eq_some_iff.1 ho).1
   simp at this
   omega
  rcases hi with rfl | rfl | rfl | rfl | rfl | rfl | rfl
  ·obtain rfl := Option.some.inj ho
   exact stepGet rfl rfl ((hs.old 6 rfl).trans rfl) h.b6 Tryz.underlying30 rfl (by kernel_rfl) { h with d4 := fun h4 => ⟨(h.d4 h4).1, rfl⟩, f0 := fun _ => rfl }
  ·obtain rfl := Option.some.inj ho
   exact stepGet rfl rfl ((hs.old 7 rfl).trans rfl) h.b7 Tryz.underlying24 rfl (by kernel_rfl) { h with f1 := fun _ => rfl }
  ·obtain rfl := Option.some.inj ho
   have o5 := (hs.oldtm 5 rfl).trans (show _ = some (Value.pointer (some ⟨g, 0, none⟩)) from rfl)
   exact stepVal rfl (by go_simp) { h with f2 := fun _ => rfl }
  ·obtain rfl := Option.some.inj ho
   have q2 := h.f2 (hw 2 (by decide))
   have l4 : ∀ h4 : l 4 = true, False := fun h4 => by have := (h.d4 h4).1; rw [hli] at this; cases this
   refine stepCall rfl Tryz.func56 (by kernel_rfl) rfl #[vs 2] rfl (by simp [Act.eval, hs.tm 16 2 rfl]) (by rw [q2]; exact l1Num_dr (h.at_ hli)) ?_
   rintro e' W' ⟨n, rfl, hA2, hk⟩
   exact ⟨_, rfl, { h with d4 := fun h4 => (l4 h4).elim, sz := Nat.le_trans h.sz hk.1, bl := hA2.b, at_ := fun h9 => absurd h9 (by simp), r0 := Kd.R_keep h.r0 hk fr, r1 := Kd.R_keep h.r1 hk fr, r2 := Kd.R_keep h.r2 hk fr, b6 := Box.keep h.b6 hk n6, b7 := Box.keep h.b7 hk n7, f3 := fun _ => ⟨n, rfl⟩, f4 := fun h9 => Box.keep (h.f4 h9) hk n2, f4' := fun h9 => Box.keep (h.f4' h9) hk n2, f5 := fun h9 => Box.keep (h.f5 h9) hk n3, f5' := fun h9 => Box.keep (h.f5' h9) hk n3 }⟩
  ·obtain rfl := Option.some.inj ho
   have q0 := h.f0 (hw 0 (by decide))
   have q3 := hw 3 (by decide)
   exact stepPutB rfl rfl ((hs.old 2 rfl).trans rfl) (#[.slice p.1.1 m.1.length p.1.2, .slice p.2.1.1 m.2.1.length p.2.1.2, .slice p.2.2.1 m.2.2.length p.2.2.2]) ((hs.ev 14 0 rfl).trans q0) (h.f4 hli) rfl (by kernel_rfl) (by simp [Value.oneCell']) fun W' hbx hp => { h with sz := by rw [hp.size]; exact h.sz, bl := hp.below h.bl (by omega), r0 := RI.put1 h.r0 hp (fun k hk => by have := h.r0.1 k hk; omega), r1 := RI.put1 h.r1 hp (fun k hk => by have := h.r1.1 k hk; omega), r2 := RI.put1 h.r2 hp (fun k hk => by have := h.r2.1 k hk; omega), b6 := Box.put1 h.b6 hp (by omega), b7 := Box.put1 h.b7 hp (by omega), d4 := fun _ => ⟨q3, hw 0 (by decide)⟩, d5 := fun _ => rfl, at_ := fun h9 => absurd (show l 3 = false from h9) (by rw [q3]; decide), f4 := fun h9 => absurd h9 (by simp), f4' := fun _ => hbx, f5 := fun h9 => Box.put1 (h.f5 h9) hp (by omega), f5' := fun h9 => Box.put1 (h.f5' h9) hp (by omega) }
  ·obtain rfl := Option.some.inj ho
   have q1 := h.f1 (hw 1 (by decide))
   have q4 := hw 4 (by decide)
   exact stepPutB rfl rfl ((hs.old 3 rfl).trans rfl) (#[.int .i64 a, .int .i64 b]) ((hs.ev 15 1 rfl).trans q1) (h.f5 hli) rfl (by kernel_rfl) (by simp [Value.oneCell']) fun W' hbx hp => { h with sz := by rw [hp.size]; exact h.sz, bl := hp.below h.bl (by omega), r0 := RI.put1 h.r0 hp (fun k hk => by have := h.r0.1 k hk; omega), r1 := RI.put1 h.r1 hp (fun k hk => by have := h.r1.1 k hk; omega), r2 := RI.put1 h.r2 hp (fun k hk => by have := h.r2.1 k hk; omega), b6 := Box.put1 h.b6 hp (by omega), b7 := Box.put1 h.b7 hp (by omega), d5 := fun _ => q4, at_ := fun h9 => absurd (show l 3 = false from h9) (by rw [(h.d4 q4).1]; decide), f4 := fun h9 => Box.put1 (h.f4 h9) hp (by omega), f4' := fun h9 => Box.put1 (h.f4' h9) hp (by omega), f5 := fun h9 => absurd h9 (by simp), f5' := fun _ => hbx }
  ·obtain rfl := Option.some.inj ho
   obtain ⟨n, q3⟩ := h.f3 (hw 3 (by decide))
   have t3 := (hs.tm 17 3 rfl).trans (congrArg some q3)
   exact stepVal rfl (by go_simp) { h with f6 := fun _ => ⟨n, rfl⟩ }
 ·intro l vs W hl h
  obtain ⟨n, q6⟩ := h.f6 (hl 6 (by decide))
  have hbx := h.f4' (hl 4 (by decide))
  have hby := h.f5' (hl 5 (by decide))
  have HH := Aside0.mk (And.intro h.bl (And.intro h.r0 (And.intro h.r1 h.r2)))
  simp only [List.map_cons, List.map_nil, putL, q6]
  simp only [Act.put, List.setIfInBounds_toArray, List.set_cons_zero, List.set_cons_succ]
  clear h q6
  go_wp2
  refine bodyPost_ret (results_cct' rfl _ _ g2 g3 30 24 (#[.slice p.1.1 m.1.length p.1.2, .slice p.2.1.1 m.2.1.length p.2.1.2, .slice p.2.2.1 m.2.2.length p.2.2.2]) (#[.int .i64 a, .int .i64 b]) (0, 0) (0, 0) _ _ rfl hbx Tryz.underlying30 rfl (by kernel_rfl) rfl hby Tryz.underlying24 rfl (by kernel_rfl)) rfl ?_
  exact ⟨m, a, b, n, p, rfl, HM.out, RI.mv HH.out.2.1 HH.out.2.2.1 HH.out.2.2.2, HH.out.1⟩
end Go.Proofs.YtendbgedpjcocaaGreatDoor.B
/- The draw of an expression and a memory. -/
namespace Go.Proofs.YtendbgedpjcocaaGreatDoor.B
open Go Go.RowKit Go.Shelf Go.Proofs.YtendbgedpjcocaaGreatDoorW.PrintWords Go.Proofs.YtendbgedpjcocaaGreatDoorW.PrintLast Go.Proofs.YtendbgedpjcocaaGreatDoorW.PrintMore
set_option linter.unusedVariables false
set_option maxRecDepth 100000 in
set_option maxHeartbeats 4000000 in
theorem drawE_any (l : List Int) (hw : ∀ x ∈ l, (Lit.int .u8 x).wf = true) (A : Option Addr) (c : Nat) (w0 : World) (hC : Kd.C (Kd.int .u8) w0 A l.length l) (hc : l.length ≤ c) :
  Calls Tryz.prog 10 #[.slice A l.length c] w0 fun e W' => ∃ (x : Ex) (m : Mem3), ∃ B d p, e = .returned (.tuple #[.agg (eA x B d), .agg (mA m p)]) ∧ Tiny x ∧ Mini m.1 m.2.1 m.2.2 ∧ TV W' x B d ∧ MV W' m p ∧ Below w0.heap.size w0 W' := by
 have mixed : Tryz.prog.follows .mixedOrders = true := rfl
 have H0 := Aside0.mk (And.intro hC hc)
 clear hC hc
 go_enter Tryz.func10, Tryz.ntmps10
 go_wp2_with (first | ((with_reducible refine gate_dst (N := 2) rfl ?_); refine boxNew_ rfl rfl zE 27 ?hr ?_; (case hr => (go_simp; first | done | rfl)); intro g2 w1 hg2' b2 hb1; have hg2w := Nat.le_of_eq hg2'.symm; clear hg2') | ((with_reducible refine gate_dst (N := 3) rfl ?_); refine boxNew_ rfl rfl mZ 30 ?hr ?_; (case hr => (go_simp; first | done | rfl)); intro g3 w1' hg3' b3 hb1'; have hg3w := Nat.le_of_eq hg3'.symm; clear hg3'))
 have b2' := blk_below b2 hb1'
 have s12 := blk_lt b2
 have hbb := hb1.trans (hb1'.mono hb1.size)
 refine (open_dr l hw A c H0.out.1 H0.out.2 hbb).mono ?_
 rintro e w2 ⟨g, s, rfl, hA, hb, hne⟩
 have n2 : g2 ≠ g := hne g2 _ _ (blk_below b2' hb) (by decide)
 have n3 : g3 ≠ g := hne g3 _ _ (blk_below b3 hb) (by decide)
 have fr := hA.fresh
 have H1 := Aside0.mk (show At w0 w2 g s (1000000000 + 1000000) w2 ∧ Box w2 g2 27 zE ∧ Box w2 g3 30 mZ from ⟨At.less hA (by omega), blk_below b2' hb, blk_below b3 hb⟩)
 clear  hA b2 b2' b3 hb hne hb1 hb1' H0
 have hg2 := blk_lt H1.out.2.1
 have hg3 := blk_lt H1.out.2.2
 go_wp2_with fail
 refine (exBent_dr H1.out.1).mono ?_
 rintro e w3 ⟨x, B, e, rfl, hx, hT, hA, hk⟩
 have hk3 := hk.1
 have H2 := Aside0.mk (show At w0 w2 g s (1000000000) w3 ∧ TVo w3 (Fr w2) x B e ∧ Box w3 g2 27 zE ∧ Box w3 g3 30 mZ from ⟨hA, hT, Box.keep H1.out.2.1 hk n2, Box.keep H1.out.2.2 hk n3⟩)
 clear H1 hA hk
 have HX := Aside0.mk hx
 clear hx
 go_wp2_with ((with_reducible refine gate_dst (N := 5) rfl ?_); refine new1_ (N := 5) (x := 9) (T := 27) (eC x B e) (zs := zE) (by simp [Value.oneCell']) ?_ ?_ ?_ ?_ ?_ ?_ ?_ ?_ ?_ ?_ ?_ ?_ ?_)
 all_goals (first | rfl | decide | (intro _ _; go_simp; done) | kernel_rfl | skip)
 intro g5 w4 hg5 b5 hb
 simp only [Act.put, List.setIfInBounds_toArray, List.set_cons_zero, List.set_cons_succ]
 have n5 : g5 ≠ g := fr g5 (by omega)
 have H3 := Aside0.mk (show At w0 w2 g s (900000000 + 100) w4 ∧ Box w4 g5 27 (eC x B e) ∧ TVo w4 (Fr w2) x B e ∧ Box w4 g2 27 zE ∧ Box w4 g3 30 mZ from ⟨At.less (At.below H2.out.1 hb) (by omega), b5, TVo.keep H2.out.2.1 (kb_below (g := g) hb) fr, Box.keep H2.out.2.2.1 (kb_below (g := g) hb) n2, Box.keep H2.out.2.2.2 (kb_below (g := g) hb) n3⟩)
 clear H2 hb b5
 have hw2s := (H3.out.1).k.1
 go_upto_region 3 with fail
 have rk : ∀ (W W' : World) (v : Value), KeepBut W W' g none → (∃ (m : List Int × List Int × List Int) (p : (Option Addr × Nat) × (Option Addr × Nat) × (Option Addr × Nat)), v = .agg #[.slice p.1.1 m.1.length p.1.2, .slice p.2.1.1 m.2.1.length p.2.1.2, .slice p.2.2.1 m.2.2.length p.2.2.2] ∧ Mini m.1 m.2.1 m.2.2 ∧ RI W w4.heap.size (.slice p.1.1 m.1.length p.1.2) m.1 ∧ RI W w4.heap.size (.slice p.2.1.1 m.2.1.length p.2.1.2) m.2.1 ∧ RI W w4.heap.size (.slice p.2.2.1 m.2.2.length p.2.2.2) m.2.2) → ∃ (m : List Int × List Int × List Int) (p : (Option Addr × Nat) × (Option Addr × Nat) × (Option Addr × Nat)), v = .agg #[.slice p.1.1 m.1.length p.1.2, .slice p.2.1.1 m.2.1.length p.2.1.2, .slice p.2.2.1 m.2.2.length p.2.2.2] ∧ Mini m.1 m.2.1 m.2.2 ∧ RI W' w4.heap.size (.slice p.1.1 m.1.length p.1.2) m.1 ∧ RI W' w4.heap.size (.slice p.2.1.1 m.2.1.length p.2.1.2) m.2.1 ∧ RI W' w4.heap.size (.slice p.2.2.1 m.2.2.length p.2.2.2) m.2.2 := fun W W' v hk ⟨m, p, h1, h2, r0, r1, r2⟩ => ⟨m, p, h1, h2, Kd.R_keep r0 hk fun k hk => fr k (by omega), Kd.R_keep r1 hk fun k hk => fr k (by omega), Kd.R_keep r2 hk fun k hk => fr k (by omega)⟩
 have rp : ∀ (W W' : World) (v : Value) (b : Nat), Put1 b W W' → b < w4.heap.size → (∃ (m : List Int × List Int × List Int) (p : (Option Addr × Nat) × (Option Addr × Nat) × (Option Addr × Nat)), v = .agg #[.slice p.1.1 m.1.length p.1.2, .slice p.2.1.1 m.2.1.length p.2.1.2, .slice p.2.2.1 m.2.2.length p.2.2.2] ∧ Mini m.1 m.2.1 m.2.2 ∧ RI W w4.heap.size (.slice p.1.1 m.1.length p.1.2) m.1 ∧ RI W w4.heap.size (.slice p.2.1.1 m.2.1.length p.2.1.2) m.2.1 ∧ RI W w4.heap.size (.slice p.2.2.1 m.2.2.length p.2.2.2) m.2.2) → ∃ (m : List Int × List Int × List Int) (p : (Option Addr × Nat) × (Option Addr × Nat) × (Option Addr × Nat)), v = .agg #[.slice p.1.1 m.1.length p.1.2, .slice p.2.1.1 m.2.1.length p.2.1.2, .slice p.2.2.1 m.2.2.length p.2.2.2] ∧ Mini m.1 m.2.1 m.2.2 ∧ RI W' w4.heap.size (.slice p.1.1 m.1.length p.1.2) m.1 ∧ RI W' w4.heap.size (.slice p.2.1.1 m.2.1.length p.2.1.2) m.2.1 ∧ RI W' w4.heap.size (.slice p.2.2.1 m.2.2.length p.2.2.2) m.2.2 := fun W W' v b hp hb ⟨m, p, h1, h2, r0, r1, r2⟩ => ⟨m, p, h1, h2, RI.put1 r0 hp fun k hk => by have := r0.1 k hk; omega, RI.put1 r1 hp fun k hk => by have := r1.1 k hk; omega, RI.put1 r2 hp fun k hk => by have := r2.1 k hk; omega⟩
 have h54 := blk_lt H3.out.2.1
 have hs4 := hg5
 refine weave (fun l vs W => ((l 3 = true → l 2 = true ∧ l 0 = true) ∧ (l 4 = true → l 3 = true)) ∧ w4.heap.size ≤ W.heap.size ∧ (Below w0.heap.size w0 W ∧ (l 2 = false → At w0 w2 g s (900000000 + 100) W)) ∧ TVo W (Fr w2) x B e ∧ Box W g5 27 (eC x B e) ∧ (l 0 = true → vs 0 = .agg (eC x B e)) ∧ (l 1 = true → vs 1 = .pointer (some ⟨g, 0, none⟩)) ∧ (l 2 = true → ∃ (m : List Int × List Int × List Int) (p : (Option Addr × Nat) × (Option Addr × Nat) × (Option Addr × Nat)), vs 2 = .agg #[.slice p.1.1 m.1.length p.1.2, .slice p.2.1.1 m.2.1.length p.2.1.2, .slice p.2.2.1 m.2.2.length p.2.2.2] ∧ Mini m.1 m.2.1 m.2.2 ∧ RI W w4.heap.size (.slice p.1.1 m.1.length p.1.2) m.1 ∧ RI W w4.heap.size (.slice p.2.1.1 m.2.1.length p.2.1.2) m.2.1 ∧ RI W w4.heap.size (.slice p.2.2.1 m.2.2.length p.2.2.2) m.2.2) ∧ (if l 3 = true then Box W g2 27 (eC x B e) else Box W g2 27 zE) ∧ (if l 4 = true then ∃ cs, vs 2 = .agg cs ∧ Box W g3 30 cs else Box W g3 30 mZ)) [(10, 0), (11, 1), (12, 2)] mixed (by kernel_rfl) ?_ ?_ ?_
 ·exact ⟨⟨fun h => absurd h (by simp), fun h => absurd h (by simp)⟩, Nat.le_refl _, ⟨(At.below H3.out.1 (drew_below _)).b, fun _ => At.below H3.out.1 (drew_below _)⟩, TVo.keep H3.out.2.2.1 (kb_below (g := g) (drew_below _)) fr, Box.keep H3.out.2.1 (kb_below (g := g) (drew_below _)) n5, (fun h => absurd h (by simp)), (fun h => absurd h (by simp)), (fun h => absurd h (by simp)), by simpa using blk_below H3.out.2.2.2.1 (drew_below _), by simpa using blk_below H3.out.2.2.2.2 (drew_below _)⟩
 ·intro i o ho l vs W ⟨⟨d3, d4⟩, hsz, hA, hT, hb5, h0, h1, h2, hg2', hg3'⟩ hli hw b hs
  have hi : i = 0 ∨ i = 1 ∨ i = 2 ∨ i = 3 ∨ i = 4 := by
   have := (Array.getElem?_eq_some_iff.1 ho).1
   simp at this
   omega
  rcases hi with rfl | rfl | rfl | rfl | rfl
  ·obtain rfl := Option.some.inj ho
   exact stepGet rfl rfl ((hs.old 5 rfl).trans rfl) hb5 Tryz.underlying27 rfl (by kernel_rfl) ⟨⟨fun h => ⟨(d3 h).1, rfl⟩, d4⟩, hsz, hA, hT, hb5, fun _ => rfl, h1, h2, hg2', hg3'⟩
  ·obtain rfl := Option.some.inj ho
   have o4 := (hs.oldtm 4 rfl).trans (show _ = some (Value.pointer (some ⟨g, 0, none⟩)) from rfl)
   exact stepVal rfl (by go_simp) ⟨⟨d3, d4⟩, hsz, hA, hT, hb5, h0, fun _ => rfl, h2, hg2', hg3'⟩
  ·obtain rfl := Option.some.inj ho
   have q1 := h1 (hw 1 (by decide))
   have l3 : l 3 = false := by
    cases hq : l 3 with
    | false => rfl
    | true => rw [(d3 hq).1] at hli; cases hli
   have l4 : l 4 = false := by
    cases hq : l 4 with
    | false => rfl
    | true => rw [d4 hq] at l3; cases l3
   rw [if_neg (by rw [l3]; decide)] at hg2'
   rw [if_neg (by rw [l4]; decide)] at hg3'
   have hA' : At w0 w2 g s (900000000 + 100) W := hA.2 hli
   refine stepCall rfl Tryz.func34 (by kernel_rfl) rfl #[vs 1] rfl (by simp [Act.eval, hs.tm 11 1 rfl]) (by rw [q1]; exact memBent_dr hA') ?_
   rintro e' W' ⟨m, p, rfl, hm, r0, r1, r2, hA2, hk⟩
   exact ⟨_, rfl, ⟨fun h => absurd (show l 3 = true from h) (by rw [l3]; decide), d4⟩, Nat.le_trans hsz hk.1, ⟨hA2.b, fun h => absurd h (by simp)⟩, hT.keep hk fr, Box.keep hb5 hk n5, h0, h1, fun _ => ⟨m, p, rfl, hm, Kd.R_lower (Kd.R_mono r0 fun k hk' => Nat.le_trans hsz hk') hsz, Kd.R_lower (Kd.R_mono r1 fun k hk' => Nat.le_trans hsz hk') hsz, Kd.R_lower (Kd.R_mono r2 fun k hk' => Nat.le_trans hsz hk') hsz⟩, (if_neg (by show ¬ l 3 = true; rw [l3]; decide)).mpr (Box.keep hg2' hk n2), (if_neg (by show ¬ l 4 = true; rw [l4]; decide)).mpr (Box.keep hg3' hk n3)⟩
  ·obtain rfl := Option.some.inj ho
   have q0 := h0 (hw 0 (by decide))
   have q2 := hw 2 (by decide)
   have l4 : l 4 = false := by
    cases hq : l 4 with
    | false => rfl
    | true => rw [d4 hq] at hli; cases hli
   rw [if_neg (by rw [hli]; decide)] at hg2'
   rw [if_neg (by rw [l4]; decide)] at hg3'
   exact stepPutB rfl rfl ((hs.old 2 rfl).trans rfl) (eC x B e) ((hs.ev 10 0 rfl).trans q0) hg2' rfl (by kernel_rfl) (by simp [Value.oneCell']) fun W' hbx hput => ⟨⟨fun _ => ⟨q2, hw 0 (by decide)⟩, fun h => absurd (show l 4 = true from h) (by rw [l4]; decide)⟩, by rw [hput.size]; exact hsz, ⟨hput.below hA.1 hg2w, fun h => absurd (show l 2 = false from h) (by rw [q2]; decide)⟩, ⟨Kd.V_step hT.v fun k hk _ => hput.far k (by have : w2.heap.size ≤ k := hk; omega)⟩, Box.put1 hb5 hput (by omega), h0, h1, fun h => rp _ _ _ _ hput (by omega) (h2 h), (if_pos rfl).mpr hbx, (if_neg (by show ¬ l 4 = true; rw [l4]; decide)).mpr (Box.put1 hg3' hput (by omega))⟩
  ·obtain rfl := Option.some.inj ho
   have l3 := hw 3 (by decide)
   obtain ⟨m, p, q2, hm, r0, r1, r2⟩ := h2 (d3 l3).1
   rw [if_pos l3] at hg2'
   rw [if_neg (by rw [hli]; decide)] at hg3'
   exact stepPutB rfl rfl ((hs.old 3 rfl).trans rfl) #[.slice p.1.1 m.1.length p.1.2, .slice p.2.1.1 m.2.1.length p.2.1.2, .slice p.2.2.1 m.2.2.length p.2.2.2] ((hs.ev 12 2 rfl).trans q2) hg3' rfl (by kernel_rfl) (by simp [Value.oneCell']) fun W' hbx hput => ⟨⟨d3, fun _ => l3⟩, by rw [hput.size]; exact hsz, ⟨hput.below hA.1 (by omega), fun h => absurd (show l 2 = false from h) (by rw [(d3 l3).1]; decide)⟩, ⟨Kd.V_step hT.v fun k hk _ => hput.far k (by have : w2.heap.size ≤ k := hk; omega)⟩, Box.put1 hb5 hput (by omega), h0, h1, fun h => rp _ _ _ _ hput (by omega) (h2 h), (if_pos (show l 3 = true from l3)).mpr (Box.put1 hg2' hput (by omega)), (if_pos rfl).mpr ⟨_, q2, hbx⟩⟩
 ·intro l vs W hl ⟨_, _, hA, hT, _, _, _, h2, hg2', hg3'⟩
  rw [if_pos (hl 3 (by decide))] at hg2'
  rw [if_pos (hl 4 (by decide))] at hg3'
  obtain ⟨m, p, q2, hm, r0, r1, r2⟩ := h2 (hl 2 (by decide))
  obtain ⟨cs, q2', hb3⟩ := hg3'
  obtain rfl : cs = #[.slice p.1.1 m.1.length p.1.2, .slice p.2.1.1 m.2.1.length p.2.1.2, .slice p.2.2.1 m.2.2.length p.2.2.2] := by
   rw [q2] at q2'
   injection q2' with q2'
   exact q2'.symm
  have HH := Aside0.mk (And.intro hA.1 (And.intro hT (And.intro hm (And.intro r0 (And.intro r1 r2)))))
  simp only [List.map_cons, List.map_nil, putL]
  simp only [Act.put, List.setIfInBounds_toArray, List.set_cons_zero, List.set_cons_succ]
  clear hA hT hm r0 r1 r2
  go_wp2
  refine bodyPost_ret (results_cc rfl _ _ g2 g3 27 30 (eC x B e) (#[.slice p.1.1 m.1.length p.1.2, .slice p.2.1.1 m.2.1.length p.2.1.2, .slice p.2.2.1 m.2.2.length p.2.2.2]) (0, 0) (0, 0) _ _ rfl hg2' Tryz.underlying27 rfl (by kernel_rfl) rfl hb3 Tryz.underlying30 rfl (by kernel_rfl)) rfl ?_
  exact ⟨x, m, B, e, p, rfl, HX.out, HH.out.2.2.1, ⟨Kd.V_mono HH.out.2.1.v fun _ _ => trivial⟩, RI.mv HH.out.2.2.2.1 HH.out.2.2.2.2.1 HH.out.2.2.2.2.2, HH.out.1⟩
end Go.Proofs.YtendbgedpjcocaaGreatDoor.B
/- The draws for SlimReads and SlimWrites. -/
namespace Go.Proofs.YtendbgedpjcocaaGreatDoor.B
open Go Go.RowKit Go.Shelf Go.Proofs.YtendbgedpjcocaaGreatDoorW.PrintWords Go.Proofs.YtendbgedpjcocaaGreatDoorW.PrintLast Go.Proofs.YtendbgedpjcocaaGreatDoorW.PrintMore
set_option linter.unusedVariables false
theorem results_tc' {P : Program} {fn : Func} {p u : Tmp} {ty : TypeId} (h : fn.results = #[.tmp u, .cell p ty]) (tmps : Array Value) (w : World) (g : Nat) (t : TypeId) (cs : Array Value) (fr : Nat × Nat) (d : TypeDesc)
  (hp : tmps.getD p undef = .pointer (some ⟨g, 0, none⟩)) (hg : w.heap[g]? = some (.cells cs t fr))
  (hu : P.underlying ty = some d) (hd : (match d with | .struct _ | .array _ _ => true | _ => false) = true) (hi : (P.info? ty).map (·.size) = some cs.size) :
  (results fn tmps).run P w = .ok (.tuple #[tmps.getD u undef, .agg cs]) w := by
 have hp' : tmps[p]?.getD undef = .pointer (some ⟨g, 0, none⟩) := by simpa using hp
 simp [results, h, hp', asAddr, run_loadVar_row w g t ty cs fr d hg hu hd hi]
set_option maxRecDepth 100000 in
set_option maxHeartbeats 4000000 in
theorem drawSR_any (l : List Int) (hw : ∀ x ∈ l, (Lit.int .u8 x).wf = true) (A : Option Addr) (c : Nat) (w0 : World) (hC : Kd.C (Kd.int .u8) w0 A l.length l) (hc : l.length ≤ c) : Calls Tryz.prog 23 #[.slice A l.length c] w0 fun e W' => ∃ (x : Ex) (a b : Int), ∃ B d, e = .returned (.tuple #[.agg (eA x B d), .agg #[.int .i64 a, .int .i64 b]]) ∧ Tiny x ∧ TV W' x B d ∧ Below w0.heap.size w0 W' := by
 have H0 := Aside0.mk (And.intro hC hc)
 clear hC hc
 go_enter Tryz.func23, Tryz.ntmps23
 go_wp2_with (first | ((with_reducible refine gate_dst (N := 2) rfl ?_); refine boxNew_ rfl rfl (zE) 27 ?hr ?_; (case hr => (go_simp; first | done | rfl)); intro g2 w1 hg2' bg2 hb1; have hg2w := Nat.le_of_eq hg2'.symm; clear hg2') | ((with_reducible refine gate_dst (N := 3) rfl ?_); refine boxNew_ rfl rfl (#[.int .i64 0, .int .i64 0]) 24 ?hr ?_; (case hr => (go_simp; first | done | rfl)); intro g3 w1' hg3' bg3 hb1'; have hg3w := Nat.le_of_eq hg3'.symm; clear hg3'))
 have b2' := blk_below bg2 hb1'
 have s12 := blk_lt bg2
 have hbb := hb1.trans (hb1'.mono hb1.size)
 refine (open_dr l hw A c H0.out.1 H0.out.2 hbb).mono ?_
 rintro e w2 ⟨g, s, rfl, hA, hb, hne⟩
 have fr := hA.fresh
 have n2 : g2 ≠ g := hne g2 _ _ (blk_below b2' hb) (by decide)
 have n3 : g3 ≠ g := hne g3 _ _ (blk_below bg3 hb) (by decide)
 have H1 := Aside0.mk (show At w0 w2 g s (1000000000 + 1000000) w2 ∧ Box w2 g2 27 zE ∧ Box w2 g3 24 #[.int .i64 0, .int .i64 0] from ⟨At.less hA (by omega), blk_below b2' hb, blk_below bg3 hb⟩)
 clear  hA bg2 b2' bg3 hb hne hb1 hb1' H0
 have hg2 := blk_lt H1.out.2.1
 have hg3 := blk_lt H1.out.2.2
 go_wp2_with fail
 refine (exBent_dr H1.out.1).mono ?_
 rintro e w3 ⟨x, B, e, rfl, hx, hT, hA, hk⟩
 have hk3 := hk.1
 have H2 := Aside0.mk (show At w0 w2 g s (1000000000) w3 ∧ TVo w3 (Fr w2) x B e ∧ Box w3 g2 27 zE ∧ Box w3 g3 24 #[.int .i64 0, .int .i64 0] from ⟨hA, hT, Box.keep H1.out.2.1 hk n2, Box.keep H1.out.2.2 hk n3⟩)
 clear H1 hA hk
 have HX := Aside0.mk hx
 clear hx
 go_wp2_with fail
 refine (addrBent_dr (At.less (N := 1000000000) (M := 900000000 + 1000000) H2.out.1 (by omega))).mono ?_
 rintro e w4 ⟨a, b, rfl, hA, hk⟩
 have hk4 := hk.1
 have H3 := Aside0.mk (show At w0 w2 g s (900000000) w4 ∧ TVo w4 (Fr w2) x B e ∧ Box w4 g2 27 zE ∧ Box w4 g3 24 #[.int .i64 0, .int .i64 0] from ⟨hA, TVo.keep H2.out.2.1 hk fr, Box.keep H2.out.2.2.1 hk n2, Box.keep H2.out.2.2.2 hk n3⟩)
 clear H2 hA hk
 have lb2 := H3.out.2.2.1
 have lb3 := H3.out.2.2.2
 go_wp2_with (first | ((with_reducible refine gate_store (t := 27) (p := 2) rfl ?_); refine boxPut_ rfl rfl rfl rfl (eC x B e) (by rfl) lb2 rfl (by kernel_rfl) (by simp [Value.oneCell']) ?_; intro w5 hbx hp5; have lb35 := Box.put1 lb3 hp5 (by omega)) | ((with_reducible refine gate_store (t := 24) (p := 3) rfl ?_); refine boxPut_ rfl rfl rfl rfl (#[.int .i64 a, .int .i64 b]) (by rfl) lb35 rfl (by kernel_rfl) (by simp [Value.oneCell']) ?_; intro w6 hby hp6; have hbx6 := Box.put1 hbx hp6 (by omega)))
 refine bodyPost_ret (results_cc rfl _ _ g2 g3 27 24 (eC x B e) (#[.int .i64 a, .int .i64 b]) (0, 0) (0, 0) _ _ rfl hbx6 Tryz.underlying27 rfl (by kernel_rfl) rfl hby Tryz.underlying24 rfl (by kernel_rfl)) rfl ?_
 exact ⟨x, a, b, B, e, rfl, HX.out, ⟨Kd.V_mono (Kd.V_step (Kd.V_step (H3.out.2.1).v fun k hk _ => hp5.far k (by have : w2.heap.size ≤ k := hk; omega)) fun k hk _ => hp6.far k (by have : w2.heap.size ≤ k := hk; omega)) fun _ _ => trivial⟩, hp6.below (hp5.below (H3.out.1).b hg2w) (by omega)⟩
set_option maxRecDepth 100000 in
set_option maxHeartbeats 4000000 in
theorem drawSW_any (l : List Int) (hw : ∀ x ∈ l, (Lit.int .u8 x).wf = true) (A : Option Addr) (c : Nat) (w0 : World) (hC : Kd.C (Kd.int .u8) w0 A l.length l) (hc : l.length ≤ c) : Calls Tryz.prog 24 #[.slice A l.length c] w0 fun e W' => ∃ (s : List St) (a b : Int), ∃ B d, e = .returned (.tuple #[.slice B s.length d, .agg #[.int .i64 a, .int .i64 b]]) ∧ Fit 500 s ∧ LV W' s B d ∧ Below w0.heap.size w0 W' := by
 have H0 := Aside0.mk (And.intro hC hc)
 clear hC hc
 go_enter Tryz.func24, Tryz.ntmps24
 go_wp2_with ((with_reducible refine gate_dst (N := 3) rfl ?_); refine boxNew_ rfl rfl (#[.int .i64 0, .int .i64 0]) 24 ?hr ?_; (case hr => (go_simp; first | done | rfl)); intro g3 w1 hg3' bg3 hb1; have hg3w := Nat.le_of_eq hg3'.symm; clear hg3')
 refine (open_dr l hw A c H0.out.1 H0.out.2 hb1).mono ?_
 rintro e w2 ⟨g, s, rfl, hA, hb, hne⟩
 have fr := hA.fresh
 have n3 : g3 ≠ g := hne g3 _ _ (blk_below bg3 hb) (by decide)
 have H1 := Aside0.mk (show At w0 w2 g s (1000000000 + 300000000) w2 ∧ Box w2 g3 24 #[.int .i64 0, .int .i64 0] from ⟨At.less hA (by omega), blk_below bg3 hb⟩)
 clear  hA bg3 hb hne hb1 H0
 have hg3 := blk_lt H1.out.2
 go_wp2_with fail
 refine (bentS_dr H1.out.1).mono ?_
 rintro e w3 ⟨l1, A1, c1, rfl, hF, hN, hA⟩
 have hk := hA.k
 have H2 := Aside0.mk (show At w0 w2 g s (1000000000) w3 ∧ LVo w3 (Fr w2) l1 A1 c1 ∧ Box w3 g3 24 #[.int .i64 0, .int .i64 0] from ⟨hA, ⟨Kd.N_V hN⟩, Box.keep H1.out.2 hk n3⟩)
 clear H1 hA hN hk
 have HF := Aside0.mk hF
 clear hF
 go_wp2_with fail
 refine (addrBent_dr (At.less (N := 1000000000) (M := 900000000 + 1000000) H2.out.1 (by omega))).mono ?_
 rintro e w4 ⟨a, b, rfl, hA, hk⟩
 have hk4 := hk.1
 have H3 := Aside0.mk (show At w0 w2 g s (900000000) w4 ∧ LVo w4 (Fr w2) l1 A1 c1 ∧ Box w4 g3 24 #[.int .i64 0, .int .i64 0] from ⟨hA, LVo.keep H2.out.2.1 hk fr, Box.keep H2.out.2.2 hk n3⟩)
 clear H2 hA hk
 have lb3 := H3.out.2.2
 go_wp2_with ((with_reducible refine gate_store (t := 24) (p := 3) rfl ?_); refine boxPut_ rfl rfl rfl rfl (#[.int .i64 a, .int .i64 b]) (by rfl) lb3 rfl (by kernel_rfl) (by simp [Value.oneCell']) ?_; intro w6 hby hp6)
 refine bodyPost_ret (results_tc' rfl _ _ g3 24 (#[.int .i64 a, .int .i64 b]) (0, 0) _ rfl hby Tryz.underlying24 rfl (by kernel_rfl)) rfl ?_
 exact ⟨l1, a, b, A1, c1, rfl, HF.out, ⟨Kd.V_mono (Kd.V_step (H3.out.2.1).v fun k hk _ => hp6.far k (by have : w2.heap.size ≤ k := hk; omega)) fun _ _ => trivial⟩, hp6.below (H3.out.1).b hg3w⟩
end Go.Proofs.YtendbgedpjcocaaGreatDoor.B
/- The draw of a run. -/
namespace Go.Proofs.YtendbgedpjcocaaGreatDoor.B
open Go Go.RowKit Go.Shelf Go.Proofs.YtendbgedpjcocaaGreatDoorW.PrintWords Go.Proofs.YtendbgedpjcocaaGreatDoorW.PrintLast Go.Proofs.YtendbgedpjcocaaGreatDoorW.PrintMore
set_option linter.unusedVariables false
end Go.Proofs.YtendbgedpjcocaaGreatDoor.B
/- Plain laws of runs: one list behind the other; if; while; more fuel. -/
namespace Go.Proofs.YtendbgedpjcocaaGreatDoor.B
open Go Go.RowKit Go.Shelf Go.Proofs.YtendbgedpjcocaaGreatDoorW.PrintWords Go.Proofs.YtendbgedpjcocaaGreatDoorW.PrintLast Go.Proofs.YtendbgedpjcocaaGreatDoorW.PrintMore
set_option linter.unusedVariables false
theorem cut3_join {bs : List Int} (h : bs.length = 18) : (cut3 bs).1 ++ (cut3 bs).2.1 ++ (cut3 bs).2.2 = bs := by
 have h3 : (bs.drop 12).take 6 = bs.drop 12 := List.take_of_length_le (by simp; omega)
 have h2 : (bs.drop 6).take 6 ++ bs.drop 12 = bs.drop 6 := by
  have := List.take_append_drop 6 (bs.drop 6)
  rwa [List.drop_drop] at this
 unfold cut3
 dsimp only
 rw [h3, List.append_assoc, h2, List.take_append_drop]
theorem mOk_parts {m : Mem3} (h : mOk m = true) : listOk m.1 = true ∧ listOk m.2.1 = true ∧ listOk m.2.2 = true := by
 unfold mOk memOkL at h
 simpa [Bool.and_eq_true] using h
theorem mOk_18 {m : Mem3} (h : mOk m = true) : (m.1 ++ m.2.1 ++ m.2.2).length = 18 := by
 obtain ⟨h0, h1, h2⟩ := mOk_parts h
 have := listOk_len h0
 have := listOk_len h1
 have := listOk_len h2
 simp only [List.length_append]; omega
/-- Numbers that a memory may hold. -/
def Fine (bs : List Int) : Prop := bs.length = 18 ∧ ∀ x ∈ bs, -1000000 ≤ x ∧ x ≤ 1000000
theorem mOk_fine {m : Mem3} (h : mOk m = true) : Fine (m.1 ++ m.2.1 ++ m.2.2) := ⟨mOk_18 h, memOk_in (show memOkL m.1 m.2.1 m.2.2 = true from h)⟩
theorem listOk_mk {l : List Int} (h6 : l.length = 6) (h : ∀ x ∈ l, -1000000 ≤ x ∧ x ≤ 1000000) : listOk l = true := by
 unfold listOk
 rw [h6, Bool.and_eq_true]
 refine ⟨rfl, ?_⟩
 rw [Bool.not_eq_true', List.any_eq_false]
 intro x hx
 have := h x hx
 simp [isNumL, this.1, this.2]
theorem fine_ok {bs : List Int} (h : Fine bs) : mOk (cut3 bs) = true := by
 have hl := h.1
 unfold mOk memOkL cut3
 rw [listOk_mk (l := bs.take 6) (by simp; omega) (fun x hx => h.2 x (List.mem_of_mem_take hx)), listOk_mk (l := (bs.drop 6).take 6) (by simp; omega) (fun x hx => h.2 x (List.mem_of_mem_drop (List.mem_of_mem_take hx))),
  listOk_mk (l := (bs.drop 12).take 6) (by simp; omega) (fun x hx => h.2 x (List.mem_of_mem_drop (List.mem_of_mem_take hx)))]
 rfl
theorem putB_fine {bs : List Int} (h : Fine bs) (k a n : Int) : Fine (putB bs k a n) := by
 refine ⟨(putB_len bs k a n).trans h.1, fun x hx => ?_⟩
 unfold putB at hx
 split at hx
 ·rcases List.mem_or_eq_of_mem_set hx with hx | rfl
  ·exact h.2 x hx
  ·exact cutL_in n
 ·exact h.2 x hx
theorem run_fine {bs : List Int} {l : List St} {f : Int} {r : Res} (h : Fine bs) (hr : Run bs l f r) : Fine r.1 := by
 obtain ⟨k, hk⟩ := hr
 exact run_keeps Fine k l (fun _ => True) (fun _ _ _ _ => trivial) (fun _ _ _ _ => trivial) (fun s _ _ b hb => putB_fine hb _ _ _) (fun _ _ => trivial) bs f r h hk
end Go.Proofs.YtendbgedpjcocaaGreatDoor.B
/- Plain laws of runs: if, while, all of it. -/
namespace Go.Proofs.YtendbgedpjcocaaGreatDoor.B
open Go Go.RowKit Go.Shelf Go.Proofs.YtendbgedpjcocaaGreatDoorW.PrintWords Go.Proofs.YtendbgedpjcocaaGreatDoorW.PrintLast Go.Proofs.YtendbgedpjcocaaGreatDoorW.PrintMore
set_option linter.unusedVariables false
end Go.Proofs.YtendbgedpjcocaaGreatDoor.B
/- Statements with lists, as they lie in a literal; fits. -/
namespace Go.Proofs.YtendbgedpjcocaaGreatDoor.B
open Go Go.RowKit Go.Shelf Go.Proofs.YtendbgedpjcocaaGreatDoorW.PrintWords Go.Proofs.YtendbgedpjcocaaGreatDoorW.PrintLast Go.Proofs.YtendbgedpjcocaaGreatDoorW.PrintMore
set_option linter.unusedVariables false
end Go.Proofs.YtendbgedpjcocaaGreatDoor.B
/- Pure laws for FnSlimReads: what is not read may be anything; what is not set stays. -/
namespace Go.Proofs.YtendbgedpjcocaaGreatDoor.B
open Go Go.RowKit Go.Proofs.YtendbgedpjcocaaGreatDoorW.PrintWords Go.Proofs.YtendbgedpjcocaaGreatDoorW.PrintLast Go.Proofs.YtendbgedpjcocaaGreatDoorW.PrintMore
set_option linter.unusedVariables false
theorem flat_reads (p q : Int) (d : Nat) : ∀ e : Ex, formS d e = true → (flat d e).any (readsP p q) = readsE p q e := by
 induction d with
 | zero => intro e h; cases h
 | succ d ih =>
  intro e h
  rw [formS, Bool.and_eq_true] at h
  have hk : ∀ x ∈ e.f3, (flat d x).any (readsP p q) = readsE p q x := fun x hx => ih x (List.all_eq_true.1 h.2 x hx)
  rw [flat, List.any_cons, readsE_eq, List.any_flatMap]
  congr 1
  have : ∀ l : List Ex, (∀ x ∈ l, (flat d x).any (readsP p q) = readsE p q x) → (l.any fun x => (flat d x).any (readsP p q)) = l.any (readsE p q) := by
   intro l
   induction l with
   | nil => intro _; rfl
   | cons a l ihl =>
    intro hl
    rw [List.any_cons, List.any_cons, hl a List.mem_cons_self, ihl fun x hx => hl x (List.mem_cons_of_mem _ hx)]
  exact this _ hk
theorem putV_not {m : Mem3} (h : mOk m = false) (k a n : Int) : putV m k a n = ([], [], []) := by rw [putV, if_neg (by rw [h]; decide)]
theorem reads_keeps {e : Ex} {m : Mem3} {k a n : Int} (he : okE e = true) (hr : (flat 6 e).any (readsP k a) = false) : oV e (putV m k a n) = oV e m := by
 have hf : formS 6 e = true := by unfold okE at he; rw [Bool.and_eq_true] at he; exact he.1
 rw [flat_reads k a 6 e hf] at hr
 cases hm : mOk m with
 | false =>
  rw [putV_not hm]
  have h1 : oV e m = 0 := by rw [oV, ofV_eq, show memOkL m.1 m.2.1 m.2.2 = false from hm]; rfl
  have h2 : oV e ([], [], []) = 0 := by rw [oV, ofV_eq]; rfl
  rw [h1, h2]
 | true =>
  have hfi := mOk_fine hm
  have hp : Fine (putB (m.1 ++ m.2.1 ++ m.2.2) k a n) := putB_fine hfi _ _ _
  rw [putV, if_pos hm, oV_is (fine_ok hp) he, cut3_join hp.1, oV_is hm he, evalI_put _ _ _ _ _ hr]
theorem writes_keeps {m : Mem3} {l : List St} {f : Int} {X : Mem3} {v r : Int} {p q : Int} (hV : stRunV m l f = (X, v, r)) (hv : v ≠ 2) (hw : (stOkL l && l.any (wrSt p q)) = false) : memGetV X.1 X.2.1 X.2.2 p q = memGetV m.1 m.2.1 m.2.2 p q := by
 rcases runV_cases hV with ⟨h, bs, rfl, hr, hF⟩ | ⟨_, _, h2, _⟩
 rotate_left
 ·exact absurd h2 hv
 obtain ⟨h1, h2, _, _⟩ := runOk_of h
 rw [h2, Bool.true_and] at hw
 have hfine := run_fine (mOk_fine h1) hr
 obtain ⟨k, hk⟩ := hr
 have hkeep := run_keeps (fun b => getL b p q = getL (m.1 ++ m.2.1 ++ m.2.2) p q) k l (fun s => wrSt p q s = false) (fun s hs x hx => by
   rw [wrSt_eq, Bool.or_eq_false_iff, Bool.or_eq_false_iff] at hs
   simpa using List.any_eq_false.1 hs.2.1 x hx) (fun s hs x hx => by
   rw [wrSt_eq, Bool.or_eq_false_iff, Bool.or_eq_false_iff] at hs
   simpa using List.any_eq_false.1 hs.2.2 x hx) (fun s hs h1 b hb => by
   rw [wrSt_eq, Bool.or_eq_false_iff] at hs
   rw [getL_put, hb]
   rintro ⟨e1, e2⟩
   have := hs.1
   rw [h1, e1, e2] at this
   simp at this) (fun s hs => by simpa using List.any_eq_false.1 hw s hs) _ f _ rfl hk
 rw [memGetV, memGetV, if_pos (show memOkL m.1 m.2.1 m.2.2 = true from h1), if_pos (show memOkL (cut3 bs).1 (cut3 bs).2.1 (cut3 bs).2.2 = true from fine_ok hfine), cut3_join hfine.1]
 exact hkeep
end Go.Proofs.YtendbgedpjcocaaGreatDoor.B
/- impl.SlimWrites, over ExprOk's contract. -/
namespace Go.Proofs.YtendbgedpjcocaaGreatDoor.B
open Go.RowKit Go.Shelf Go.Proofs.YtendbgedpjcocaaGreatDoorW.PrintWords Go.Proofs.YtendbgedpjcocaaGreatDoorW.PrintLast Go.Proofs.YtendbgedpjcocaaGreatDoorW.PrintMore
set_option linter.unusedVariables false
set_option maxRecDepth 100000 in
set_option maxHeartbeats 4000000 in
theorem slimWr_of (hok : OkCon) (A : Option Addr) (c : Nat) (l : List ISt) (a b : Int) (w : World) (hC : Kd.C k35 w A l.length l) (hc : l.length ≤ c) :
  Calls Tryz.prog 26 #[.slice A l.length c, .agg #[.int .i64 a, .int .i64 b]] w fun e w' => e = .returned (.bool ((countL 4 l 0).1 && l.any (wrSt a b))) ∧ Below w.heap.size w w' := by
 have hbox : (w.alloc (.cells #[.int .i64 a, .int .i64 b] 24)).heap[w.heap.size]? = some (.cells #[.int .i64 a, .int .i64 b] 24 (0, 0)) := World.alloc_heap_new w _
 have hb0 : Below w.heap.size w (w.alloc (.cells #[.int .i64 a, .int .i64 b] 24)) := (Below.refl _ _).alloc (Nat.le_refl _) _
 have HCALL := Aside0.mk (stmtsOk_of hok A c l (w.alloc (.cells #[.int .i64 a, .int .i64 b] 24)) (Kd.C_below hC hb0) hc)
 have HC := Aside0.mk (And.intro hC hc)
 have HX := Aside0.mk (And.intro hbox hb0)
 clear hbox hb0 hC hc hok
 go_enter Tryz.func26, Tryz.ntmps26
 go_wp2_with fail
 refine HCALL.out.mono ?_
 clear HCALL
 rintro e w1 ⟨rfl, hb1⟩
 have HB := Aside0.mk (HX.out.2.trans (hb1.mono HX.out.2.size))
 have g1 := (hb1.block _ (blk_lt HX.out.1)).trans HX.out.1
 have q0 : w1.cell? ⟨w.heap.size, 0, none⟩ = some (.int .i64 a) := (blk_cell g1 0).trans rfl
 have q1 : w1.cell? ⟨w.heap.size, 1, none⟩ = some (.int .i64 b) := (blk_cell g1 1).trans rfl
 clear hb1 HX g1
 obtain ⟨r, hr⟩ : ∃ r, r = (countL 4 l 0).1 := ⟨_, rfl⟩
 rw [← hr]
 have HR := Aside0.mk hr
 clear hr
 cases r with
 | false =>
  go_wp2
  go_ret
  exact ⟨by rw [← HR.out]; rfl, HB.out⟩
 | true =>
  have HCALL := Aside0.mk (wr_any l A c a b w1 (Kd.C_below HC.out.1 HB.out) HC.out.2)
  go_wp2_with fail
  refine HCALL.out.mono ?_
  clear HCALL
  rintro e w2 ⟨rfl, hb2⟩
  have HB2 := Aside0.mk (HB.out.trans (hb2.mono HB.out.size))
  clear hb2 q0 q1
  go_wp2
  go_ret
  exact ⟨by rw [← HR.out, Bool.true_and]; rfl, HB2.out⟩
end Go.Proofs.YtendbgedpjcocaaGreatDoor.B
/- SlimReads, SlimWrites, MemGet over values that are read alone. -/
namespace Go.Proofs.YtendbgedpjcocaaGreatDoor.B
open Go Go.RowKit Go.Shelf Go.Proofs.YtendbgedpjcocaaGreatDoorW.PrintWords Go.Proofs.YtendbgedpjcocaaGreatDoorW.PrintLast Go.Proofs.YtendbgedpjcocaaGreatDoorW.PrintMore
set_option linter.unusedVariables false
def rdB (x : Ex) (a b : Int) : Bool := okL 0 (partsL x) && (partsL x).any (readsP a b)
def wrB (l : List St) (a b : Int) : Bool := stOkL l && l.any (wrSt a b)
theorem rdB_not {x : Ex} {a b : Int} (h : okE x = true) (hr : rdB x a b = false) : (flat 6 x).any (readsP a b) = false := by
 have hk : okL 0 (partsL x) = true := by rw [okL_eq]; exact h
 rw [rdB, hk, Bool.true_and, parts_flat x hk] at hr
 exact hr
theorem readsI_any (x : Ex) (a b : Int) (A : Option Addr) (c : Nat) (W : World) (h : TV W x A c) : Calls Tryz.prog 25 #[.agg (eA x A c), .agg #[.int .i64 a, .int .i64 b]] W fun e W' => e = .returned (.bool (rdB x a b)) ∧ Below W.heap.size W W' :=
 slimReads_any okCon x a b A c W h.reads.2 h.reads.1
theorem readsS_any (x : Ex) (hx : Short x) (a b : Int) (A : Option Addr) (c : Nat) (W : World) (h : TV W x A c) : Calls Tryz.prog 27 #[.agg (eA x A c), .agg #[.int .i64 a, .int .i64 b]] W fun e W' => e = .returned (.bool (rdB x a b)) ∧ Below W.heap.size W W' := by
 obtain ⟨k, hk⟩ := slimReads_spec x hx a b
 exact spec_SlimReads.calls k x.f0 x.f1 x.f2.f0 x.f2.f1 A c x.f3 a b _ W h.reads.2 h.reads.1 hk
theorem writesS_any (l : List St) (hl : StFit l) (hn : l.length ≤ 1048576) (a b : Int) (A : Option Addr) (c : Nat) (W : World) (h : LV W l A c) : Calls Tryz.prog 28 #[.slice A l.length c, .agg #[.int .i64 a, .int .i64 b]] W fun e W' => e = .returned (.bool (wrB l a b)) ∧ Below W.heap.size W W' := by
 have hw : Ends (fun k => (spec_l10Writes.f k l a b).bind fun t => some t) (l.any (wrSt a b)) := Ends.bind (g := fun _ t => some t) (wr_spec a b l hn hl.2) (Ends.const fun k => rfl)
 have he : Ends (fun k => spec_SlimWrites.f k l a b) (wrB l a b) := (and_part (spec_stOk l hl.1 hl.2) (fun _ => hw)).of fun k => by rw [spec_SlimWrites.f]
 obtain ⟨K, hK⟩ := he
 exact spec_SlimWrites.calls K A c l a b _ W h.reads.2 h.reads.1 (hK K (Nat.le_refl _))
theorem writesI_any (l : List St) (a b : Int) (A : Option Addr) (c : Nat) (W : World) (h : LV W l A c) : Calls Tryz.prog 26 #[.slice A l.length c, .agg #[.int .i64 a, .int .i64 b]] W fun e W' => e = .returned (.bool (wrB l a b)) ∧ Below W.heap.size W W' :=
 slimWr_of okCon A c l a b W h.reads.2 h.reads.1
theorem memGetI_any (m : Mem3) (k a : Int) (p : Caps3) (W : World) (h : MV W m p) : Calls Tryz.prog 31 #[.agg (mA m p), .agg #[.int .i64 k, .int .i64 a]] W fun e W' => e = .returned (.int .i64 (memGetV m.1 m.2.1 m.2.2 k a)) ∧ Below W.heap.size W W' :=
 memGet_any m.1 m.2.1 m.2.2 k a p.1.1 p.2.1.1 p.2.2.1 p.1.2 p.2.1.2 p.2.2.2 W h.c0 h.c1 h.c2 h.l0 h.l1 h.l2
end Go.Proofs.YtendbgedpjcocaaGreatDoor.B
