import Derived.Test.YtendbgedpjcocaaGreatDoorJnD
import Derived.Test.YtendbgedpjcocaaGreatDoorJnL
import Derived.Test.YtendbgedpjcocaaGreatDoorJnA
import Derived.Test.YtendbgedpjcocaaGreatDoorJnG
import Derived.Test.YtendbgedpjcocaaGreatDoorPkA
/- The draw of an expression and a memory. -/
namespace Go.Proofs.YtendbgedpjcocaaGreatDoor.B
open Go Go.RowKit Go.Shelf Go.Proofs.YtendbgedpjcocaaGreatDoorW.PrintWords Go.Proofs.YtendbgedpjcocaaGreatDoorW.PrintLast Go.Proofs.YtendbgedpjcocaaGreatDoorW.PrintMore
set_option linter.unusedVariables false
set_option maxRecDepth 100000 in
set_option maxHeartbeats 4000000 in
theorem drawE_any (l : List Int) (hw : ∀ x ∈ l, (Lit.int .u8 x).wf = true) (A : Option Addr) (c : Nat) (w0 : World) (hC : Kd.C (Kd.int .u8) w0 A l.length l) (hc : l.length ≤ c) :
  Calls Tryz.prog 10 #[.slice A l.length c] w0 fun e W' => ∃ (x : Ex) (m : Mem3), ∃ B d p, e = .returned (.tuple #[.agg (eA x B d), .agg (mA m p)]) ∧ Tiny x ∧ Mini m.1 m.2.1 m.2.2 ∧ TV W' x B d ∧ MV W' m p ∧ Below w0.heap.size w0 W' := by
 have mixed : Tryz.prog.follows .mixedOrders = true := rfl
 have H0 := Aside0.mk (And.intro hC hc)
 clear hC hc
 go_enter Tryz.func10, Tryz.ntmps10
 go_wp2_with (first | ((with_reducible refine gate_dst (N := 2) rfl ?_); refine boxNew_ rfl rfl zE 27 ?hr ?_; (case hr => (go_simp; first | done | rfl)); intro g2 w1 hg2' b2 hb1; have hg2w := Nat.le_of_eq hg2'.symm; clear hg2') | ((with_reducible refine gate_dst (N := 3) rfl ?_); refine boxNew_ rfl rfl mZ 30 ?hr ?_; (case hr => (go_simp; first | done | rfl)); intro g3 w1' hg3' b3 hb1'; have hg3w := Nat.le_of_eq hg3'.symm; clear hg3'))
 have b2' := blk_below b2 hb1'
 have s12 := blk_lt b2
 have hbb := hb1.trans (hb1'.mono hb1.size)
 refine (open_dr l hw A c H0.out.1 H0.out.2 hbb).mono ?_
 rintro e w2 ⟨g, s, rfl, hA, hb, hne⟩
 have n2 : g2 ≠ g := hne g2 _ _ (blk_below b2' hb) (by decide)
 have n3 : g3 ≠ g := hne g3 _ _ (blk_below b3 hb) (by decide)
 have fr := hA.fresh
 have H1 := Aside0.mk (show At w0 w2 g s (1000000000 + 1000000) w2 ∧ Box w2 g2 27 zE ∧ Box w2 g3 30 mZ from ⟨At.less hA (by omega), blk_below b2' hb, blk_below b3 hb⟩)
 clear  hA b2 b2' b3 hb hne hb1 hb1' H0
 have hg2 := blk_lt H1.out.2.1
 have hg3 := blk_lt H1.out.2.2
 go_wp2_with fail
 refine (exBent_dr H1.out.1).mono ?_
 rintro e w3 ⟨x, B, e, rfl, hx, hT, hA, hk⟩
 have hk3 := hk.1
 have H2 := Aside0.mk (show At w0 w2 g s (1000000000) w3 ∧ TVo w3 (Fr w2) x B e ∧ Box w3 g2 27 zE ∧ Box w3 g3 30 mZ from ⟨hA, hT, Box.keep H1.out.2.1 hk n2, Box.keep H1.out.2.2 hk n3⟩)
 clear H1 hA hk
 have HX := Aside0.mk hx
 clear hx
 go_wp2_with ((with_reducible refine gate_dst (N := 5) rfl ?_); refine new1_ (N := 5) (x := 9) (T := 27) (eC x B e) (zs := zE) (by simp [Value.oneCell']) ?_ ?_ ?_ ?_ ?_ ?_ ?_ ?_ ?_ ?_ ?_ ?_ ?_)
 all_goals (first | rfl | decide | (intro _ _; go_simp; done) | kernel_rfl | skip)
 intro g5 w4 hg5 b5 hb
 simp only [Act.put, List.setIfInBounds_toArray, List.set_cons_zero, List.set_cons_succ]
 have n5 : g5 ≠ g := fr g5 (by omega)
 have H3 := Aside0.mk (show At w0 w2 g s (900000000 + 100) w4 ∧ Box w4 g5 27 (eC x B e) ∧ TVo w4 (Fr w2) x B e ∧ Box w4 g2 27 zE ∧ Box w4 g3 30 mZ from ⟨At.less (At.below H2.out.1 hb) (by omega), b5, TVo.keep H2.out.2.1 (kb_below (g := g) hb) fr, Box.keep H2.out.2.2.1 (kb_below (g := g) hb) n2, Box.keep H2.out.2.2.2 (kb_below (g := g) hb) n3⟩)
 clear H2 hb b5
 have hw2s := (H3.out.1).k.1
 go_upto_region 3 with fail
 have rk : ∀ (W W' : World) (v : Value), KeepBut W W' g none → (∃ (m : List Int × List Int × List Int) (p : (Option Addr × Nat) × (Option Addr × Nat) × (Option Addr × Nat)), v = .agg #[.slice p.1.1 m.1.length p.1.2, .slice p.2.1.1 m.2.1.length p.2.1.2, .slice p.2.2.1 m.2.2.length p.2.2.2] ∧ Mini m.1 m.2.1 m.2.2 ∧ RI W w4.heap.size (.slice p.1.1 m.1.length p.1.2) m.1 ∧ RI W w4.heap.size (.slice p.2.1.1 m.2.1.length p.2.1.2) m.2.1 ∧ RI W w4.heap.size (.slice p.2.2.1 m.2.2.length p.2.2.2) m.2.2) → ∃ (m : List Int × List Int × List Int) (p : (Option Addr × Nat) × (Option Addr × Nat) × (Option Addr × Nat)), v = .agg #[.slice p.1.1 m.1.length p.1.2, .slice p.2.1.1 m.2.1.length p.2.1.2, .slice p.2.2.1 m.2.2.length p.2.2.2] ∧ Mini m.1 m.2.1 m.2.2 ∧ RI W' w4.heap.size (.slice p.1.1 m.1.length p.1.2) m.1 ∧ RI W' w4.heap.size (.slice p.2.1.1 m.2.1.length p.2.1.2) m.2.1 ∧ RI W' w4.heap.size (.slice p.2.2.1 m.2.2.length p.2.2.2) m.2.2 := fun W W' v hk ⟨m, p, h1, h2, r0, r1, r2⟩ => ⟨m, p, h1, h2, Kd.R_keep r0 hk fun k hk => fr k (by omega), Kd.R_keep r1 hk fun k hk => fr k (by omega), Kd.R_keep r2 hk fun k hk => fr k (by omega)⟩
 have rp : ∀ (W W' : World) (v : Value) (b : Nat), Put1 b W W' → b < w4.heap.size → (∃ (m : List Int × List Int × List Int) (p : (Option Addr × Nat) × (Option Addr × Nat) × (Option Addr × Nat)), v = .agg #[.slice p.1.1 m.1.length p.1.2, .slice p.2.1.1 m.2.1.length p.2.1.2, .slice p.2.2.1 m.2.2.length p.2.2.2] ∧ Mini m.1 m.2.1 m.2.2 ∧ RI W w4.heap.size (.slice p.1.1 m.1.length p.1.2) m.1 ∧ RI W w4.heap.size (.slice p.2.1.1 m.2.1.length p.2.1.2) m.2.1 ∧ RI W w4.heap.size (.slice p.2.2.1 m.2.2.length p.2.2.2) m.2.2) → ∃ (m : List Int × List Int × List Int) (p : (Option Addr × Nat) × (Option Addr × Nat) × (Option Addr × Nat)), v = .agg #[.slice p.1.1 m.1.length p.1.2, .slice p.2.1.1 m.2.1.length p.2.1.2, .slice p.2.2.1 m.2.2.length p.2.2.2] ∧ Mini m.1 m.2.1 m.2.2 ∧ RI W' w4.heap.size (.slice p.1.1 m.1.length p.1.2) m.1 ∧ RI W' w4.heap.size (.slice p.2.1.1 m.2.1.length p.2.1.2) m.2.1 ∧ RI W' w4.heap.size (.slice p.2.2.1 m.2.2.length p.2.2.2) m.2.2 := fun W W' v b hp hb ⟨m, p, h1, h2, r0, r1, r2⟩ => ⟨m, p, h1, h2, RI.put1 r0 hp fun k hk => by have := r0.1 k hk; omega, RI.put1 r1 hp fun k hk => by have := r1.1 k hk; omega, RI.put1 r2 hp fun k hk => by have := r2.1 k hk; omega⟩
 have h54 := blk_lt H3.out.2.1
 have hs4 := hg5
 refine weave (fun l vs W => ((l 3 = true → l 2 = true ∧ l 0 = true) ∧ (l 4 = true → l 3 = true)) ∧ w4.heap.size ≤ W.heap.size ∧ (Below w0.heap.size w0 W ∧ (l 2 = false → At w0 w2 g s (900000000 + 100) W)) ∧ TVo W (Fr w2) x B e ∧ Box W g5 27 (eC x B e) ∧ (l 0 = true → vs 0 = .agg (eC x B e)) ∧ (l 1 = true → vs 1 = .pointer (some ⟨g, 0, none⟩)) ∧ (l 2 = true → ∃ (m : List Int × List Int × List Int) (p : (Option Addr × Nat) × (Option Addr × Nat) × (Option Addr × Nat)), vs 2 = .agg #[.slice p.1.1 m.1.length p.1.2, .slice p.2.1.1 m.2.1.length p.2.1.2, .slice p.2.2.1 m.2.2.length p.2.2.2] ∧ Mini m.1 m.2.1 m.2.2 ∧ RI W w4.heap.size (.slice p.1.1 m.1.length p.1.2) m.1 ∧ RI W w4.heap.size (.slice p.2.1.1 m.2.1.length p.2.1.2) m.2.1 ∧ RI W w4.heap.size (.slice p.2.2.1 m.2.2.length p.2.2.2) m.2.2) ∧ (if l 3 = true then Box W g2 27 (eC x B e) else Box W g2 27 zE) ∧ (if l 4 = true then ∃ cs, vs 2 = .agg cs ∧ Box W g3 30 cs else Box W g3 30 mZ)) [(10, 0), (11, 1), (12, 2)] mixed (by kernel_rfl) ?_ ?_ ?_
 ·exact ⟨⟨fun h => absurd h (by simp), fun h => absurd h (by simp)⟩, Nat.le_refl _, ⟨(At.below H3.out.1 (drew_below _)).b, fun _ => At.below H3.out.1 (drew_below _)⟩, TVo.keep H3.out.2.2.1 (kb_below (g := g) (drew_below _)) fr, Box.keep H3.out.2.1 (kb_below (g := g) (drew_below _)) n5, (fun h => absurd h (by simp)), (fun h => absurd h (by simp)), (fun h => absurd h (by simp)), by simpa using blk_below H3.out.2.2.2.1 (drew_below _), by simpa using blk_below H3.out.2.2.2.2 (drew_below _)⟩
 ·intro i o ho l vs W ⟨⟨d3, d4⟩, hsz, hA, hT, hb5, h0, h1, h2, hg2', hg3'⟩ hli hw b hs
  have hi : i = 0 ∨ i = 1 ∨ i = 2 ∨ i = 3 ∨ i = 4 := by
   have := (Array.getElem?_eq_some_iff.1 ho).1
   simp at this
   omega
  rcases hi with rfl | rfl | rfl | rfl | rfl
  ·obtain rfl := Option.some.inj ho
   exact stepGet rfl rfl ((hs.old 5 rfl).trans rfl) hb5 Tryz.underlying27 rfl (by kernel_rfl) ⟨⟨fun h => ⟨(d3 h).1, rfl⟩, d4⟩, hsz, hA, hT, hb5, fun _ => rfl, h1, h2, hg2', hg3'⟩
  ·obtain rfl := Option.some.inj ho
   have o4 := (hs.oldtm 4 rfl).trans (show _ = some (Value.pointer (some ⟨g, 0, none⟩)) from rfl)
   exact stepVal rfl (by go_simp) ⟨⟨d3, d4⟩, hsz, hA, hT, hb5, h0, fun _ => rfl, h2, hg2', hg3'⟩
  ·obtain rfl := Option.some.inj ho
   have q1 := h1 (hw 1 (by decide))
   have l3 : l 3 = false := by
    cases hq : l 3 with
    | false => rfl
    | true => rw [(d3 hq).1] at hli; cases hli
   have l4 : l 4 = false := by
    cases hq : l 4 with
    | false => rfl
    | true => rw [d4 hq] at l3; cases l3
   rw [if_neg (by rw [l3]; decide)] at hg2'
   rw [if_neg (by rw [l4]; decide)] at hg3'
   have hA' : At w0 w2 g s (900000000 + 100) W := hA.2 hli
   refine stepCall rfl Tryz.func34 (by kernel_rfl) rfl #[vs 1] rfl (by simp [Act.eval, hs.tm 11 1 rfl]) (by rw [q1]; exact memBent_dr hA') ?_
   rintro e' W' ⟨m, p, rfl, hm, r0, r1, r2, hA2, hk⟩
   exact ⟨_, rfl, ⟨fun h => absurd (show l 3 = true from h) (by rw [l3]; decide), d4⟩, Nat.le_trans hsz hk.1, ⟨hA2.b, fun h => absurd h (by simp)⟩, hT.keep hk fr, Box.keep hb5 hk n5, h0, h1, fun _ => ⟨m, p, rfl, hm, Kd.R_lower (Kd.R_mono r0 fun k hk' => Nat.le_trans hsz hk') hsz, Kd.R_lower (Kd.R_mono r1 fun k hk' => Nat.le_trans hsz hk') hsz, Kd.R_lower (Kd.R_mono r2 fun k hk' => Nat.le_trans hsz hk') hsz⟩, (if_neg (by show ¬ l 3 = true; rw [l3]; decide)).mpr (Box.keep hg2' hk n2), (if_neg (by show ¬ l 4 = true; rw [l4]; decide)).mpr (Box.keep hg3' hk n3)⟩
  ·obtain rfl := Option.some.inj ho
   have q0 := h0 (hw 0 (by decide))
   have q2 := hw 2 (by decide)
   have l4 : l 4 = false := by
    cases hq : l 4 with
    | false => rfl
    | true => rw [d4 hq] at hli; cases hli
   rw [if_neg (by rw [hli]; decide)] at hg2'
   rw [if_neg (by rw [l4]; decide)] at hg3'
   exact stepPutB rfl rfl ((hs.old 2 rfl).trans rfl) (eC x B e) ((hs.ev 10 0 rfl).trans q0) hg2' rfl (by kernel_rfl) (by simp [Value.oneCell']) fun W' hbx hput => ⟨⟨fun _ => ⟨q2, hw 0 (by decide)⟩, fun h => absurd (show l 4 = true from h) (by rw [l4]; decide)⟩, by rw [hput.size]; exact hsz, ⟨hput.below hA.1 hg2w, fun h => absurd (show l 2 = false from h) (by rw [q2]; decide)⟩, ⟨Kd.V_step hT.v fun k hk _ => hput.far k (by have : w2.heap.size ≤ k := hk; omega)⟩, Box.put1 hb5 hput (by omega), h0, h1, fun h => rp _ _ _ _ hput (by omega) (h2 h), (if_pos rfl).mpr hbx, (if_neg (by show ¬ l 4 = true; rw [l4]; decide)).mpr (Box.put1 hg3' hput (by omega))⟩
  ·obtain rfl := Option.some.inj ho
   have l3 := hw 3 (by decide)
   obtain ⟨m, p, q2, hm, r0, r1, r2⟩ := h2 (d3 l3).1
   rw [if_pos l3] at hg2'
   rw [if_neg (by rw [hli]; decide)] at hg3'
   exact stepPutB rfl rfl ((hs.old 3 rfl).trans rfl) #[.slice p.1.1 m.1.length p.1.2, .slice p.2.1.1 m.2.1.length p.2.1.2, .slice p.2.2.1 m.2.2.length p.2.2.2] ((hs.ev 12 2 rfl).trans q2) hg3' rfl (by kernel_rfl) (by simp [Value.oneCell']) fun W' hbx hput => ⟨⟨d3, fun _ => l3⟩, by rw [hput.size]; exact hsz, ⟨hput.below hA.1 (by omega), fun h => absurd (show l 2 = false from h) (by rw [(d3 l3).1]; decide)⟩, ⟨Kd.V_step hT.v fun k hk _ => hput.far k (by have : w2.heap.size ≤ k := hk; omega)⟩, Box.put1 hb5 hput (by omega), h0, h1, fun h => rp _ _ _ _ hput (by omega) (h2 h), (if_pos (show l 3 = true from l3)).mpr (Box.put1 hg2' hput (by omega)), (if_pos rfl).mpr ⟨_, q2, hbx⟩⟩
 ·intro l vs W hl ⟨_, _, hA, hT, _, _, _, h2, hg2', hg3'⟩
  rw [if_pos (hl 3 (by decide))] at hg2'
  rw [if_pos (hl 4 (by decide))] at hg3'
  obtain ⟨m, p, q2, hm, r0, r1, r2⟩ := h2 (hl 2 (by decide))
  obtain ⟨cs, q2', hb3⟩ := hg3'
  obtain rfl : cs = #[.slice p.1.1 m.1.length p.1.2, .slice p.2.1.1 m.2.1.length p.2.1.2, .slice p.2.2.1 m.2.2.length p.2.2.2] := by
   rw [q2] at q2'
   injection q2' with q2'
   exact q2'.symm
  have HH := Aside0.mk (And.intro hA.1 (And.intro hT (And.intro hm (And.intro r0 (And.intro r1 r2)))))
  simp only [List.map_cons, List.map_nil, putL]
  simp only [Act.put, List.setIfInBounds_toArray, List.set_cons_zero, List.set_cons_succ]
  clear hA hT hm r0 r1 r2
  go_wp2
  refine bodyPost_ret (results_cc rfl _ _ g2 g3 27 30 (eC x B e) (#[.slice p.1.1 m.1.length p.1.2, .slice p.2.1.1 m.2.1.length p.2.1.2, .slice p.2.2.1 m.2.2.length p.2.2.2]) (0, 0) (0, 0) _ _ rfl hg2' Tryz.underlying27 rfl (by kernel_rfl) rfl hb3 Tryz.underlying30 rfl (by kernel_rfl)) rfl ?_
  exact ⟨x, m, B, e, p, rfl, HX.out, HH.out.2.2.1, ⟨Kd.V_mono HH.out.2.1.v fun _ _ => trivial⟩, RI.mv HH.out.2.2.2.1 HH.out.2.2.2.2.1 HH.out.2.2.2.2.2, HH.out.1⟩
end Go.Proofs.YtendbgedpjcocaaGreatDoor.B
/- spec.l4Some, spec.l4Bent, by their size. -/
namespace Go.Proofs.YtendbgedpjcocaaGreatDoor.B
open Go Go.RowKit Go.Shelf Go.Proofs.YtendbgedpjcocaaGreatDoorW.PrintWords Go.Proofs.YtendbgedpjcocaaGreatDoorW.PrintLast Go.Proofs.YtendbgedpjcocaaGreatDoorW.PrintMore
set_option linter.unusedVariables false
theorem lbN3 : lbN 3 ≤ 129100000 := by decide
theorem cnN3 : cnN 3 ≤ 400 := by decide
set_option maxRecDepth 100000 in
set_option maxHeartbeats 4000000 in
theorem some_dr {w0 w : World} {g N : Nat} {s : List Int} (h : At w0 w g s (N + 130000000) w) : Calls Tryz.prog 82 #[.pointer (some ⟨g, 0, none⟩)] w fun e w' => LD w w' 400 e (At w0 w g s N w') := by
 have fr := h.fresh
 have H0 := Aside0.mk h
 clear h
 go_enter Tryz.func82, Tryz.ntmps82
 go_wp2_with fail
 refine (list_dr 3 (by omega) 3 (by omega) (by omega) w0 w g s (N + 200000) (H0.out.less (by have := lbN3; omega))).mono ?_
 rintro e w1 ⟨l, A, c, rfl, hF, hN, hA⟩
 have hF4 : Fit 400 l := hF.mono cnN3
 have H1 := Aside0.mk (show At w0 w g s (N + 200000) w1 ∧ Kd.N stK 35 w1 w.heap.size (Fr w) (.slice A l.length c) l ∧ Fit 400 l from ⟨hA, hN, hF4⟩)
 clear hF hN hA hF4 H0
 go_wp2_with fail
 refine (okS_any l (H1.out.2.2.ok (by omega)) A c w1 ⟨Kd.V_mono (Kd.N_V H1.out.2.1) fun _ _ => trivial⟩).mono ?_
 rintro e w2 ⟨rfl, hb⟩
 have H2 := Aside0.mk (show At w0 w g s (N + 200000) w2 ∧ Kd.N stK 35 w2 w.heap.size (Fr w) (.slice A l.length c) l ∧ Fit 400 l from ⟨H1.out.1.below hb, Kd.N_below H1.out.2.1 hb, H1.out.2.2⟩)
 clear H1 hb
 cases stOkL l
 ·go_wp2_with fail
  refine (count_fr H2.out.1).mono ?_
  rintro e w3 ⟨x, B, d, A3, c3, rfl, hx4, hxt, hxc, hT, hL, hA, hk⟩
  obtain ⟨k0, ⟨k1, k2⟩, k3, k4, k5⟩ := x
  dsimp only at hx4
  subst hx4
  have hw := H2.out.1.k.1
  have H3 := Aside0.mk (show At w0 w g s N w3 ∧ TVo w3 (Fr w) k3 B d ∧ LVo w3 (Fr w) k4 A3 c3 from ⟨hA, hT.mono fun k hk => Nat.le_trans hw hk, hL.mono fun k hk => Nat.le_trans hw hk⟩)
  have HX := Aside0.mk (And.intro hxt hxc)
  clear hA hT hL hk H2 hxt hxc
  go_wp2_with ((with_reducible refine gate_dst (N := 11) rfl ?_); refine Kd.N_lit stK w.heap.size 35 rfl (N' := 11) rfl (xs := [(⟨k0, ⟨k1, k2⟩, k3, k4, []⟩ : St)]) (inner := [.int .i64 k0, .int .i64 k1, .int .i64 k2, .int .i64 k3.f0, .int .i64 k3.f1, .int .i64 k3.f2.f0, .int .i64 k3.f2.f1, .slice B k3.f3.length d, .slice A3 k4.length c3, .slice none 0 0]) (ok := Fr w) (okp := Fr w) (by go_simp; try rfl) (Reps.c10 (stLitO_F k0 k1 k2 k3 B d k4 A3 c3 [] none 0 w3 _ H3.out.2.1 H3.out.2.2 (LVo.nil _ _)) (Reps.none _ _)) (fun _ hk => hk) H3.out.1.k.1 (Below.refl _ _) H3.out.1.k.1 (by simp) ?_; intro vL wL ho hbL hgL hnL; clear hgL hnL; obtain ⟨A9, c9, eL⟩ := Kd.N_slice ho; subst eL)
  go_ret
  refine ⟨_, A9, c9, rfl, ?_, ho, H3.out.1.low hbL⟩
  have := (Fit.nil 0).snoc HX.out.1 HX.out.2
  exact Fit.mono (by simpa using this) (by omega)
 ·go_wp2
  go_ret
  exact ⟨l, A, c, rfl, H2.out.2.2, H2.out.2.1, H2.out.1.less (by omega)⟩
theorem some_fr {w0 wb W : World} {g N : Nat} {s : List Int} (h : At w0 wb g s (N + 130000000) W) (hwb : wb.heap.size ≤ W.heap.size) : Calls Tryz.prog 82 #[.pointer (some ⟨g, 0, none⟩)] W fun e w' => ∃ (l : List St) (A : Option Addr) (c : Nat), e = .returned (.slice A l.length c) ∧ Fit 400 l ∧ Kd.N stK 35 w' wb.heap.size (Fr wb) (.slice A l.length c) l ∧ At w0 wb g s N w' :=
 (some_dr h.here).mono fun e w' ⟨l, A, c, h1, h2, h3, h7⟩ => ⟨l, A, c, h1, h2, Kd.N_lower (Kd.N_mono h3 fun k hk => Nat.le_trans hwb hk) hwb, h7.over h⟩
def lenOf : Value → Nat
 | .slice _ n _ => n
 | _ => 0
set_option maxRecDepth 100000 in
set_option maxHeartbeats 4000000 in
theorem bentS_dr {w0 w : World} {g N : Nat} {s : List Int} (h : At w0 w g s (N + 300000000) w) : Calls Tryz.prog 50 #[.pointer (some ⟨g, 0, none⟩)] w fun e w' => LD w w' 500 e (At w0 w g s N w') := by
 have fr := h.fresh
 have H0 := Aside0.mk h
 clear h
 go_enter Tryz.func50, Tryz.ntmps50
 go_wp2_with fail
 refine (some_fr (N := N + 100000000) (H0.out.less (by omega)) (Nat.le_refl _)).mono ?_
 rintro e w1 ⟨l, A, c, rfl, hF, hN, hA⟩
 have HF := Aside0.mk hF
 clear hF H0
 have H1 := Aside0.mk (show At w0 w g s (N + 100000000) w1 ∧ Kd.N stK 35 w1 w.heap.size (Fr w) (.slice A l.length c) l from ⟨hA, hN⟩)
 clear  hA hN
 by_cases h0 : (l.length : Int) = 0
 ·have b0 : ((l.length : Int) == 0) = true := beq_iff_eq.2 h0
  clear h0
  go_wp2
  go_ret
  exact ⟨l, A, c, rfl, HF.out.mono (by omega), H1.out.2, At.less H1.out.1 (by omega)⟩
 have b0 : ((l.length : Int) == 0) = false := beq_eq_false_iff_ne.2 h0
 have hlen : l.length ≤ 400 := HF.out.len
 go_wp2_with fail
 refine (pick_dr (At.less (N := N + 100000000) (M := N + 99999999 + 1) H1.out.1 (by omega)) (l.length : Int) (by omega) (by omega)).mono ?_
 rintro e w2 ⟨i, rfl, i0, i1, hA, hk⟩
 have hk2 := hk.1
 have H2 := Aside0.mk (show At w0 w g s (N + 99999999) w2 ∧ Kd.N stK 35 w2 w.heap.size (Fr w) (.slice A l.length c) l from ⟨hA, Kd.N_keep H1.out.2 hk fr⟩)
 clear H1 hA hk b0 h0
 go_wp2_with fail
 refine (pick_dr (At.less (N := N + 99999999) (M := N + 99999998 + 1) H2.out.1 (by omega)) 50 (by omega) (by omega)).mono ?_
 rintro e w3 ⟨r, rfl, r0, r1, hA, hk⟩
 have hk3 := hk.1
 have H3 := Aside0.mk (show At w0 w g s (N + 99999998) w3 ∧ Kd.N stK 35 w3 w.heap.size (Fr w) (.slice A l.length c) l from ⟨hA, Kd.N_keep H2.out.2 hk fr⟩)
 clear H2 hA hk
 by_cases h0 : r = 0
 ·have c0 : (r == 0) = true := by simp [h0]
  clear h0
  go_wp2_with ((with_reducible refine gate_dst (N := 23) rfl ?_); refine Kd.R_lit (Kd.int .i64) w3.heap.size 3 rfl (N := 23) rfl (xs := [0, 4, 1, 2, 3]) (inner := [.int .i64 0, .int .i64 4, .int .i64 1, .int .i64 2, .int .i64 3]) (ok := fun k => k ≠ g) (okp := fun k => k ≠ g) (by go_simp; try rfl) (reps_ints _ _ _ [0, 4, 1, 2, 3]) (fun _ hk => hk) (by have := At.lt' H3.out.1; show w3.heap.size ≠ g; omega) (Below.refl _ _) (Nat.le_refl _) (by simp) ?_; intro v23 w4 hR hb4 hg_ hn_; clear hg_ hn_; obtain ⟨A4, c4, e4⟩ := Kd.R_slice hR; subst e4)
  have H4 := Aside0.mk (show At w0 w g s (N + 99999997 + 1) w4 ∧ Kd.N stK 35 w4 w.heap.size (Fr w) (.slice A l.length c) l from ⟨At.less (At.below H3.out.1 hb4) (by omega), Kd.N_keep H3.out.2 (kb_below (g := g) hb4) fr⟩)
  clear H3 hb4
  refine (num_dr H4.out.1 [0, 4, 1, 2, 3] (by decide) (by decide) A4 c4 (Kd.R_reads' hR).2.2 (Kd.R_reads' hR).2.1 (far_slice fun e => hR.1 g e.symm rfl)).mono ?_
  rintro e w5 ⟨n, rfl, _, hA, hk⟩
  have H5 := Aside0.mk (show At w0 w g s (N + 99999997) w5 ∧ Kd.N stK 35 w5 w.heap.size (Fr w) (.slice A l.length c) l from ⟨hA, Kd.N_keep H4.out.2 hk fr⟩)
  clear H4 hA hk hR
  obtain ⟨go, cap, eo, hgo, hgl, _⟩ := Kd.N_form H5.out.2 (by omega)
  injection eo with eo1 _ eo3
  subst eo1 eo3
  obtain ⟨ce, hcl, hM, hcc, hfr⟩ := Kd.N_elem H5.out.2 z35 i i0 i1
  have hj : i.toNat < l.length := by omega
  obtain ⟨x, hx⟩ : ∃ x, x = l[i.toNat] := ⟨_, rfl⟩
  have hgd : l.getD i.toNat z35 = x := by rw [hx]; simp [hj]
  rw [hgd] at hM
  obtain ⟨A7, c7, A8, c8, A9, c9, rfl, l7, g7, l8, g8, l9, g9⟩ := k35_openF hM
  have hxm : TinyS x := by rw [hx]; exact HF.out.2 _ (List.getElem_mem hj)
  have hset : ∀ (k0 : Int) (a0 : S24) (e0 : Ex), Tiny e0 → Fit 500 (l.set i.toNat ⟨k0, a0, e0, x.f3, x.f4⟩) := fun k0 a0 e0 he => (HF.out.set i.toNat hj _ (by
   cases hxm with
   | mk _ h2 h3 h4 h5 h6 => exact .mk _ he h3 h4 h5 h6) (by rw [cntS_eq, ← hx, cntS_eq x])).mono (by omega)
  have hTx : Tiny x.f2 := by cases hxm with | mk _ h2 h3 h4 h5 h6 => exact h2
  have HS := Aside0.mk (And.intro hset hTx)
  have HE := Aside0.mk (And.intro hcl (And.intro hcc (And.intro l7 (And.intro g7 (And.intro l8 (And.intro g8 (And.intro l9 g9)))))))
  clear hset hTx hxm hgd hM hcl hcc hfr l7 g7 l8 g8 l9 g9 hx
  go_wp2_with ((with_reducible refine gate_store (t := 3) (p := 26) rfl ?_); refine Kd.N_store stK w.heap.size rfl rfl 3 (.tmp 26) (.tmp 24) rfl 35 i 0 l ((⟨n, x.f1, x.f2, x.f3, x.f4⟩ : St)) (.int .i64 n) [.int .i64 n] [.int .i64 x.f0, .int .i64 x.f1.f0, .int .i64 x.f1.f1, .int .i64 x.f2.f0, .int .i64 x.f2.f1, .int .i64 x.f2.f2.f0, .int .i64 x.f2.f2.f1, .slice A7 x.f2.f3.length c7, .slice A8 x.f3.length c8, .slice A9 x.f4.length c9] (Fr w) (fun k => Fr w k ∧ k ≠ go) rfl (by first | rfl | omega) rfl rfl rfl (by simp [Value.oneCell']) H5.out.2 i0 i1 HE.out.1 HE.out.2.1 (show 1 ≤ 10 by omega) (k35_mkF _ _ (⟨n, x.f1, x.f2, x.f3, x.f4⟩ : St) HE.out.2.2.1 HE.out.2.2.2.1 HE.out.2.2.2.2.1 HE.out.2.2.2.2.2.1 HE.out.2.2.2.2.2.2.1 HE.out.2.2.2.2.2.2.2) (fun _ hk => hk) (Below.refl _ _) ?_; intro W9 hN hb hg)
  go_ret
  have e2 : (l.set i.toNat ((⟨n, x.f1, x.f2, x.f3, x.f4⟩ : St))).length = l.length := List.length_set
  rw [← e2] at hN ⊢
  exact ⟨_, _, _, rfl, HS.out.1 n x.f1 x.f2 HS.out.2, hN, At.less (At.low H5.out.1 hb) (by omega)⟩
 have c0 : (r == 0) = false := by simp [h0]
 by_cases h1 : r = 1
 ·have c1 : (r == 1) = true := by simp [h1]
  clear h0 h1
  go_wp2_with fail
  refine (addrBent_dr (At.less (N := N + 99999998) (M := N + 90000000 + 1000000) H3.out.1 (by omega))).mono ?_
  rintro e w5 ⟨a, b, rfl, hA, hk⟩
  have hk5 := hk.1
  have H4 := Aside0.mk (show At w0 w g s (N + 90000000) w5 ∧ Kd.N stK 35 w5 w.heap.size (Fr w) (.slice A l.length c) l from ⟨hA, Kd.N_keep H3.out.2 hk fr⟩)
  clear H3 hA hk
  obtain ⟨go, cap, eo, hgo, hgl, _⟩ := Kd.N_form H4.out.2 (by omega)
  injection eo with eo1 _ eo3
  subst eo1 eo3
  obtain ⟨ce, hcl, hM, hcc, hfr⟩ := Kd.N_elem H4.out.2 z35 i i0 i1
  have hj : i.toNat < l.length := by omega
  obtain ⟨x, hx⟩ : ∃ x, x = l[i.toNat] := ⟨_, rfl⟩
  have hgd : l.getD i.toNat z35 = x := by rw [hx]; simp [hj]
  rw [hgd] at hM
  obtain ⟨A7, c7, A8, c8, A9, c9, rfl, l7, g7, l8, g8, l9, g9⟩ := k35_openF hM
  have hxm : TinyS x := by rw [hx]; exact HF.out.2 _ (List.getElem_mem hj)
  have hset : ∀ (k0 : Int) (a0 : S24) (e0 : Ex), Tiny e0 → Fit 500 (l.set i.toNat ⟨k0, a0, e0, x.f3, x.f4⟩) := fun k0 a0 e0 he => (HF.out.set i.toNat hj _ (by
   cases hxm with
   | mk _ h2 h3 h4 h5 h6 => exact .mk _ he h3 h4 h5 h6) (by rw [cntS_eq, ← hx, cntS_eq x])).mono (by omega)
  have hTx : Tiny x.f2 := by cases hxm with | mk _ h2 h3 h4 h5 h6 => exact h2
  have HS := Aside0.mk (And.intro hset hTx)
  have HE := Aside0.mk (And.intro hcl (And.intro hcc (And.intro l7 (And.intro g7 (And.intro l8 (And.intro g8 (And.intro l9 g9)))))))
  clear hset hTx hxm hgd hM hcl hcc hfr l7 g7 l8 g8 l9 g9 hx
  go_wp2_with ((with_reducible refine gate_store (t := 24) (p := 34) rfl ?_); refine Kd.N_store stK w.heap.size rfl rfl 24 (.tmp 34) (.tmp 32) rfl 35 i 1 l ((⟨x.f0, ⟨a, b⟩, x.f2, x.f3, x.f4⟩ : St)) (.agg #[.int .i64 a, .int .i64 b]) [.int .i64 a, .int .i64 b] [.int .i64 x.f0, .int .i64 x.f1.f0, .int .i64 x.f1.f1, .int .i64 x.f2.f0, .int .i64 x.f2.f1, .int .i64 x.f2.f2.f0, .int .i64 x.f2.f2.f1, .slice A7 x.f2.f3.length c7, .slice A8 x.f3.length c8, .slice A9 x.f4.length c9] (Fr w) (fun k => Fr w k ∧ k ≠ go) rfl (by first | rfl | omega) rfl rfl rfl (by simp [Value.oneCell']) H4.out.2 i0 i1 HE.out.1 HE.out.2.1 (show 3 ≤ 10 by omega) (k35_mkF _ _ (⟨x.f0, ⟨a, b⟩, x.f2, x.f3, x.f4⟩ : St) HE.out.2.2.1 HE.out.2.2.2.1 HE.out.2.2.2.2.1 HE.out.2.2.2.2.2.1 HE.out.2.2.2.2.2.2.1 HE.out.2.2.2.2.2.2.2) (fun _ hk => hk) (Below.refl _ _) ?_; intro W9 hN hb hg)
  go_ret
  have e2 : (l.set i.toNat ((⟨x.f0, ⟨a, b⟩, x.f2, x.f3, x.f4⟩ : St))).length = l.length := List.length_set
  rw [← e2] at hN ⊢
  exact ⟨_, _, _, rfl, HS.out.1 x.f0 ⟨a, b⟩ x.f2 HS.out.2, hN, At.less (At.low H4.out.1 hb) (by omega)⟩
 have c1 : (r == 1) = false := by simp [h1]
 by_cases h2 : r = 2
 ·have c2 : (r == 2) = true := by simp [h2]
  clear h0 h1 h2
  have hlt := Kd.N_lt H3.out.2
  have hw3 := (H3.out.1).k.1
  go_wp2_with fail
  refine (exBent_dr (At.less (N := N + 99999998) (M := N + 90000000 + 1000000) H3.out.1 (by omega))).mono ?_
  rintro e w5 ⟨y, B, e, rfl, hy, hT, hA, hk⟩
  have hk5 := hk.1
  have H4 := Aside0.mk (show At w0 w g s (N + 90000000) w5 ∧ TVo w5 (Fr w3) y B e ∧ Kd.N stK 35 w5 w.heap.size (Fr w) (.slice A l.length c) l from ⟨hA, hT, Kd.N_keep H3.out.2 hk fr⟩)
  clear H3 hA hk
  have HY := Aside0.mk hy
  clear hy
  obtain ⟨go, cap, eo, hgo, hgl, _⟩ := Kd.N_form H4.out.2.2 (by omega)
  injection eo with eo1 _ eo3
  subst eo1 eo3
  obtain ⟨ce, hcl, hM, hcc, hfr⟩ := Kd.N_elem H4.out.2.2 z35 i i0 i1
  have hj : i.toNat < l.length := by omega
  obtain ⟨x, hx⟩ : ∃ x, x = l[i.toNat] := ⟨_, rfl⟩
  have hgd : l.getD i.toNat z35 = x := by rw [hx]; simp [hj]
  rw [hgd] at hM
  obtain ⟨A7, c7, A8, c8, A9, c9, rfl, l7, g7, l8, g8, l9, g9⟩ := k35_openF hM
  have hxm : TinyS x := by rw [hx]; exact HF.out.2 _ (List.getElem_mem hj)
  have hset : ∀ (k0 : Int) (a0 : S24) (e0 : Ex), Tiny e0 → Fit 500 (l.set i.toNat ⟨k0, a0, e0, x.f3, x.f4⟩) := fun k0 a0 e0 he => (HF.out.set i.toNat hj _ (by
   cases hxm with
   | mk _ h2 h3 h4 h5 h6 => exact .mk _ he h3 h4 h5 h6) (by rw [cntS_eq, ← hx, cntS_eq x])).mono (by omega)
  have hTx : Tiny x.f2 := by cases hxm with | mk _ h2 h3 h4 h5 h6 => exact h2
  have HS := Aside0.mk (And.intro hset hTx)
  have HE := Aside0.mk (And.intro hcl (And.intro hcc (And.intro l7 (And.intro g7 (And.intro l8 (And.intro g8 (And.intro l9 g9)))))))
  clear hset hTx hxm hgd hM hcl hcc hfr l7 g7 l8 g8 l9 g9 hx
  have hTy := TVo.mono (ok' := fun k => Fr w k ∧ k ≠ go) H4.out.2.1 (fun k hk => ⟨by show w.heap.size ≤ k; have : w3.heap.size ≤ k := hk; omega, by have := hlt go rfl; have : w3.heap.size ≤ k := hk; omega⟩)
  have HTY := Aside0.mk hTy
  clear hTy
  go_wp2_with ((with_reducible refine gate_store (t := 27) (p := 42) rfl ?_); refine Kd.N_store stK w.heap.size rfl rfl 27 (.tmp 42) (.tmp 40) rfl 35 i 3 l ((⟨x.f0, x.f1, y, x.f3, x.f4⟩ : St)) (.agg #[.int .i64 y.f0, .int .i64 y.f1, .int .i64 y.f2.f0, .int .i64 y.f2.f1, .slice B y.f3.length e]) [.int .i64 y.f0, .int .i64 y.f1, .int .i64 y.f2.f0, .int .i64 y.f2.f1, .slice B y.f3.length e] [.int .i64 x.f0, .int .i64 x.f1.f0, .int .i64 x.f1.f1, .int .i64 x.f2.f0, .int .i64 x.f2.f1, .int .i64 x.f2.f2.f0, .int .i64 x.f2.f2.f1, .slice A7 x.f2.f3.length c7, .slice A8 x.f3.length c8, .slice A9 x.f4.length c9] (Fr w) (fun k => Fr w k ∧ k ≠ go) rfl (by first | rfl | omega) rfl rfl rfl (by simp [Value.oneCell']) H4.out.2.2 i0 i1 HE.out.1 HE.out.2.1 (show 8 ≤ 10 by omega) (k35_mkF _ _ (⟨x.f0, x.f1, y, x.f3, x.f4⟩ : St) HTY.out.reads.1 (Kd.V_F HTY.out.v) HE.out.2.2.2.2.1 HE.out.2.2.2.2.2.1 HE.out.2.2.2.2.2.2.1 HE.out.2.2.2.2.2.2.2) (fun _ hk => hk) (Below.refl _ _) ?_; intro W9 hN hb hg)
  go_ret
  have e2 : (l.set i.toNat ((⟨x.f0, x.f1, y, x.f3, x.f4⟩ : St))).length = l.length := List.length_set
  rw [← e2] at hN ⊢
  exact ⟨_, _, _, rfl, HS.out.1 x.f0 x.f1 y HY.out, hN, At.less (At.low H4.out.1 hb) (by omega)⟩
 have c2 : (r == 2) = false := by simp [h2]
 by_cases h3 : r = 3
 ·have c3 : (r == 3) = true := by simp [h3]
  clear h0 h1 h2 h3
  go_wp2
  go_loopw [3, 5] (fun v3 v5 wr => ∃ (x5 : Int) (l' : List St) (A' : Option Addr) (c' m : Nat), v3 = .slice A' l'.length c' ∧ v5 = .int .i64 x5 ∧ Aside0 (∃ j : Nat, x5 = j ∧ j ≤ 4 ∧ m + (4 - j) ≤ 404 ∧ At w0 w g s (N + (4 - j) * 100000) wr) ∧ Aside0 (Fit m l' ∧ Kd.N stK 35 wr w.heap.size (Fr w) (.slice A' l'.length c') l')) (fun _ v5 _ => 4 - (intOf v5).toNat)
  case atStart => exact ⟨0, l, A, c, 400, rfl, rfl, ⟨0, rfl, by omega, by omega, At.less H3.out.1 (by omega)⟩, ⟨HF.out, H3.out.2⟩⟩
  case round =>
   obtain ⟨x5, l', A', c', m, rfl, rfl, HJ, HO⟩ := hrel
   by_cases hx : x5 < 4
   rotate_left
   ·have b5 : decide (x5 < 4) = false := decide_eq_false hx
    have hend : LD w wr 500 (.returned (.slice A' l'.length c')) (At w0 w g s N wr) := by
     obtain ⟨j, _, _, hm, hA⟩ := HJ.out
     exact ⟨l', A', c', rfl, HO.out.1.mono (by omega), HO.out.2, hA.less (by omega)⟩
    clear hx
    go_wp2
    go_ret
    exact hend
   have b5 : decide (x5 < 4) = true := decide_eq_true hx
   obtain ⟨j, hj, hj4, hm, hA⟩ := HJ.out
   have hw5 : wrap64 (x5 + 1) = ((j + 1 : Nat) : Int) := by unfold wrap64; omega
   have hlt := Kd.N_lt HO.out.2
   have hws := hA.k.1
   have HJ2 := Aside0.mk (show x5 = j ∧ j ≤ 3 ∧ m + 1 + (4 - (j + 1)) ≤ 404 ∧ Fit m l' from ⟨hj, by omega, by omega, HO.out.1⟩)
   have H9 := Aside0.mk (show At w0 w g s (N + (4 - (j + 1)) * 100000 + 100000) wr ∧ Kd.N stK 35 wr w.heap.size (Fr w) (.slice A' l'.length c') l' from ⟨hA.less (by omega), HO.out.2⟩)
   clear hj hj4 hm hA hx HJ HO
   go_wp2_with fail
   refine (expr_dr 1 (by omega) H9.out.1).mono ?_
   rintro e w5 ⟨x, B, e, rfl, hx, hT, hA, hk⟩
   have hk5 := hk.1
   have H10 := Aside0.mk (show At w0 w g s (N + (4 - (j + 1)) * 100000) w5 ∧ TVo w5 (Fr w) x B e ∧ Kd.N stK 35 w5 w.heap.size (Fr w) (.slice A' l'.length c') l' from ⟨hA, hT.mono fun k hk => Nat.le_trans hws hk, Kd.N_keep H9.out.2 hk fr⟩)
   clear H9 hA hk
   have HX := Aside0.mk hx
   clear hx
   go_wp2_with ((with_reducible refine gate_dst (N := 53) rfl ?_); refine Kd.N_lit stK w.heap.size 35 rfl (N' := 53) rfl (xs := [(⟨2, ⟨0, 0⟩, x, l', []⟩ : St)]) (inner := [.int .i64 2, .int .i64 0, .int .i64 0, .int .i64 x.f0, .int .i64 x.f1, .int .i64 x.f2.f0, .int .i64 x.f2.f1, .slice B x.f3.length e, .slice A' l'.length c', .slice none 0 0]) (ok := Fr w) (okp := Fr w) (by go_simp; try rfl) (Reps.c10 (stLitO_F 2 0 0 x B e l' A' c' [] none 0 w5 _ (H10.out.2.1) ⟨Kd.N_V (H10.out.2.2)⟩ (LVo.nil _ _)) (Reps.none _ _)) (fun _ hk => hk) (H10.out.1).k.1 (Below.refl _ _) (H10.out.1).k.1 (by simp) ?_; intro vL wL ho hbL hgL hnL; clear hgL hnL; obtain ⟨A9, c9, eL⟩ := Kd.N_slice ho; subst eL)
   go_roundw
   case measure => have := HJ2.out; simp [intOf]; omega
   case rel =>
    rw [hw5]
    have hf := Fit.mk1 (k := 2) (a := ⟨0, 0⟩) HX.out HJ2.out.2.2.2 (Fit.nil 0) (by have := HJ2.out.2.2.1; omega) (by omega)
    have hf1 : Fit (m + 1) [(⟨2, ⟨0, 0⟩, x, l', []⟩ : St)] := by
     have := (Fit.nil 0).snoc hf.1 hf.2
     exact Fit.mono (by simpa using this) (by omega)
    exact ⟨_, [(⟨2, ⟨0, 0⟩, x, l', []⟩ : St)], A9, c9, m + 1, rfl, rfl, ⟨j + 1, rfl, by have := HJ2.out; omega, HJ2.out.2.2.1, At.low H10.out.1 hbL⟩, ⟨hf1, ho⟩⟩
 have c3 : (r == 3) = false := by simp [h3]
 by_cases h4 : r = 4
 rotate_left
 ·have c4 : (r == 4) = false := by simp [h4]
  clear h0 h1 h2 h3 h4
  go_wp2
  go_ret
  exact ⟨l, A, c, rfl, HF.out.mono (by omega), H3.out.2, At.less H3.out.1 (by omega)⟩
 have c4 : (r == 4) = true := by simp [h4]
 clear h0 h1 h2 h3 h4
 go_wp2
 go_loopw [3] (fun v3 wr => ∃ (l' : List St) (A' : Option Addr) (c' m : Nat), v3 = .slice A' l'.length c' ∧ Aside0 (m + (17 - l'.length) ≤ 417 ∧ At w0 w g s (N + (17 - l'.length) * 200000) wr) ∧ Aside0 (Fit m l' ∧ Kd.N stK 35 wr w.heap.size (Fr w) (.slice A' l'.length c') l')) (fun v3 _ => 17 - lenOf v3)
 case atStart => exact ⟨l, A, c, 400, rfl, ⟨by omega, At.less H3.out.1 (by omega)⟩, ⟨HF.out, H3.out.2⟩⟩
 case round =>
  obtain ⟨l', A', c', m, rfl, HJ, HO⟩ := hrel
  by_cases hx : (l'.length : Int) ≤ 16
  rotate_left
  ·have b5 : decide ((l'.length : Int) ≤ 16) = false := decide_eq_false hx
   have hend : LD w wr 500 (.returned (.slice A' l'.length c')) (At w0 w g s N wr) := ⟨l', A', c', rfl, HO.out.1.mono (by have := HJ.out.1; omega), HO.out.2, HJ.out.2.less (by omega)⟩
   clear hx
   go_wp2
   go_ret
   exact hend
  have b5 : decide ((l'.length : Int) ≤ 16) = true := decide_eq_true hx
  have hlt := Kd.N_lt HO.out.2
  have hws := HJ.out.2.k.1
  have HJ2 := Aside0.mk (show l'.length ≤ 16 ∧ m + 1 + (17 - (l'.length + 1)) ≤ 417 ∧ Fit m l' from ⟨by omega, by have := HJ.out.1; omega, HO.out.1⟩)
  have H9 := Aside0.mk (show At w0 w g s (N + (17 - (l'.length + 1)) * 200000 + 100000 + 2) wr ∧ Kd.N stK 35 wr w.heap.size (Fr w) (.slice A' l'.length c') l' from ⟨HJ.out.2.less (by omega), HO.out.2⟩)
  clear hx HJ HO
  go_wp2_with fail
  refine (to_dr H9.out.1).mono ?_
  rintro e w4 ⟨y, z, rfl, hA, hk⟩
  have hk4 := hk.1
  have H10 := Aside0.mk (show At w0 w g s (N + (17 - (l'.length + 1)) * 200000 + 100000) w4 ∧ Kd.N stK 35 w4 w.heap.size (Fr w) (.slice A' l'.length c') l' from ⟨hA, Kd.N_keep H9.out.2 hk fr⟩)
  clear H9 hA hk
  go_wp2_with fail
  refine (expr_dr 1 (by omega) H10.out.1).mono ?_
  rintro e w5 ⟨x, B, e, rfl, hx, hT, hA, hk⟩
  have hk5 := hk.1
  have H11 := Aside0.mk (show At w0 w g s (N + (17 - (l'.length + 1)) * 200000) w5 ∧ TVo w5 (Fr wr) x B e ∧ Kd.N stK 35 w5 w.heap.size (Fr w) (.slice A' l'.length c') l' from ⟨hA, hT.mono fun k hk => Nat.le_trans hk4 hk, Kd.N_keep H10.out.2 hk fr⟩)
  clear H10 hA hk
  have HX := Aside0.mk hx
  clear hx
  go_wp2_with ((with_reducible refine gate_builtin (b := .append) (xs := #[.tmp 59, .tmp 65]) rfl ?_); at_builtin; refine Kd.N_append k35 w.heap.size rfl (.tmp 59) (.tmp 65) 33 35 (.agg zS) 128 rfl Tryz.underlying33 info35 rfl (by decide) (by omega) (.slice A' l'.length c') (l') ((⟨1, ⟨y, z⟩, x, [], []⟩ : St)) ([.int .i64 1, .int .i64 y, .int .i64 z, .int .i64 x.f0, .int .i64 x.f1, .int .i64 x.f2.f0, .int .i64 x.f2.f1, .slice B x.f3.length e, .slice none 0 0, .slice none 0 0]) (Fr w) (Fr wr) rfl rfl (stLitO_F 1 y z x B e [] none 0 [] none 0 _ _ (H11.out.2.1) (LVo.nil _ _) (LVo.nil _ _)) (fun k hk => ⟨Nat.le_trans hws hk, fun e => by have := hlt k e.symm; have : wr.heap.size ≤ k := hk; omega⟩) (fun k hk => by have := (H11.out.1).k.1; show w.heap.size ≤ k; omega) (H11.out.2.2) (Below.refl _ _) (by have := (H11.out.1).k.1; omega) (by have := HJ2.out.1; omega) ?_; intro v1 W1 hN hb hg hat)
  go_roundw
  case measure => have := HJ2.out.1; obtain ⟨A1, c1, rfl⟩ := Kd.N_slice hN; simp [lenOf]; omega
  case rel =>
   obtain ⟨A1, c1, rfl⟩ := Kd.N_slice hN
   have e2 : (l' ++ [(⟨1, ⟨y, z⟩, x, [], []⟩ : St)]).length = l'.length + 1 := by simp
   have hf := Fit.mk1 (n := 0) (m := 0) (k := 1) (a := ⟨y, z⟩) HX.out (Fit.nil 0) (Fit.nil 0) (by omega) (by omega)
   exact ⟨l' ++ [(⟨1, ⟨y, z⟩, x, [], []⟩ : St)], A1, c1, m + 1, rfl, ⟨by rw [e2]; exact HJ2.out.2.1, by rw [e2]; exact At.low H11.out.1 hb⟩, ⟨HJ2.out.2.2.snoc hf.1 hf.2, hN⟩⟩
end Go.Proofs.YtendbgedpjcocaaGreatDoor.B
/- The draw of a run. -/
namespace Go.Proofs.YtendbgedpjcocaaGreatDoor.B
open Go Go.RowKit Go.Shelf Go.Proofs.YtendbgedpjcocaaGreatDoorW.PrintWords Go.Proofs.YtendbgedpjcocaaGreatDoorW.PrintLast Go.Proofs.YtendbgedpjcocaaGreatDoorW.PrintMore
set_option linter.unusedVariables false
set_option maxRecDepth 100000 in
set_option maxHeartbeats 4000000 in
theorem drawRun_any (l : List Int) (hw : ∀ x ∈ l, (Lit.int .u8 x).wf = true) (A : Option Addr) (c : Nat) (w0 : World) (hC : Kd.C (Kd.int .u8) w0 A l.length l) (hc : l.length ≤ c) :
  Calls Tryz.prog 20 #[.slice A l.length c] w0 fun e W' => ∃ (m : Mem3) (s : List St) (f : Int), ∃ p B d, e = .returned (.tuple #[.agg (mA m p), .slice B s.length d, .int .i64 f]) ∧ Mini m.1 m.2.1 m.2.2 ∧ Fit 500 s ∧ f ∈ [100, 100, 5, 0, 1, 101, -1] ∧ MV W' m p ∧ LV W' s B d ∧ Below w0.heap.size w0 W' := by
 have H0 := Aside0.mk (And.intro hC hc)
 clear hC hc
 go_enter Tryz.func20, Tryz.ntmps20
 go_wp2_with ((with_reducible refine gate_dst (N := 2) rfl ?_); refine boxNew_ rfl rfl mZ 30 ?hr ?_; (case hr => (go_simp; first | done | rfl)); intro g2 w1 hg2' b2 hb1; have hg2w := Nat.le_of_eq hg2'.symm; clear hg2')
 refine (open_dr l hw A c H0.out.1 H0.out.2 hb1).mono ?_
 rintro e w2 ⟨g, s, rfl, hA, hb, hne⟩
 have n2 : g2 ≠ g := hne g2 _ _ (blk_below b2 hb) (by decide)
 have fr := hA.fresh
 have hg2 := blk_lt (blk_below b2 hb)
 have H1 := Aside0.mk (show At w0 w2 g s (1000000000 + 300000000) w2 ∧ Box w2 g2 30 mZ from ⟨At.less hA (by omega), blk_below b2 hb⟩)
 clear  hA b2 hb hne hb1 H0
 go_wp2_with fail
 refine (bentS_dr H1.out.1).mono ?_
 rintro e w3 ⟨l1, A1, c1, rfl, hF, hN, hA⟩
 have hk := hA.k
 have H2 := Aside0.mk (show At w0 w2 g s (1000000000) w3 ∧ LVo w3 (Fr w2) l1 A1 c1 ∧ Box w3 g2 30 mZ from ⟨hA, ⟨Kd.N_V hN⟩, Box.keep H1.out.2 hk n2⟩)
 clear H1 hA hN hk
 have HF := Aside0.mk hF
 clear hF
 have hs3 := (H2.out.1).k.1
 go_wp2_with fail
 refine (memBent_dr (At.less (N := 1000000000) (M := 900000000 + 100) H2.out.1 (by omega))).mono ?_
 rintro e w4 ⟨m, p, rfl, hm, h0, h1, h2, hA, hk⟩
 have hk4 := hk.1
 have H3 := Aside0.mk (show At w0 w2 g s (900000000) w4 ∧ RI w4 w3.heap.size (.slice p.1.1 m.1.length p.1.2) m.1 ∧ RI w4 w3.heap.size (.slice p.2.1.1 m.2.1.length p.2.1.2) m.2.1 ∧ RI w4 w3.heap.size (.slice p.2.2.1 m.2.2.length p.2.2.2) m.2.2 ∧ LVo w4 (Fr w2) l1 A1 c1 ∧ Box w4 g2 30 mZ from ⟨hA, h0, h1, h2, LVo.keep H2.out.2.1 hk fr, Box.keep H2.out.2.2 hk n2⟩)
 clear H2 hA hk
 have HM := Aside0.mk hm
 clear hm h0 h1 h2
 go_wp2_with ((with_reducible refine gate_dst (N := 15) rfl ?_); refine Kd.R_lit (Kd.int .i64) w4.heap.size 3 rfl (N := 15) rfl (xs := [100, 100, 5, 0, 1, 101, -1]) (inner := [.int .i64 100, .int .i64 100, .int .i64 5, .int .i64 0, .int .i64 1, .int .i64 101, .int .i64 (-1)]) (ok := fun k => k ≠ g) (okp := fun k => k ≠ g) (by go_simp; try rfl) (reps_ints _ _ _ [100, 100, 5, 0, 1, 101, -1]) (fun _ hk => hk) (by have := At.lt' H3.out.1; show w4.heap.size ≠ g; omega) (Below.refl _ _) (Nat.le_refl _) (by simp) ?_; intro v15 w5 hR hb4 hg_ hn_; clear hg_ hn_; obtain ⟨A4, c4, e4⟩ := Kd.R_slice hR; subst e4)
 have H4 := Aside0.mk (show At w0 w2 g s (899999999 + 1) w5 ∧ RI w5 w3.heap.size (.slice p.1.1 m.1.length p.1.2) m.1 ∧ RI w5 w3.heap.size (.slice p.2.1.1 m.2.1.length p.2.1.2) m.2.1 ∧ RI w5 w3.heap.size (.slice p.2.2.1 m.2.2.length p.2.2.2) m.2.2 ∧ LVo w5 (Fr w2) l1 A1 c1 ∧ Box w5 g2 30 mZ from ⟨At.less (At.below H3.out.1 hb4) (by omega), Kd.R_keep H3.out.2.1 (kb_below (g := g) hb4) (fun k hk => fr k (Nat.le_trans hs3 hk)), Kd.R_keep H3.out.2.2.1 (kb_below (g := g) hb4) (fun k hk => fr k (Nat.le_trans hs3 hk)), Kd.R_keep H3.out.2.2.2.1 (kb_below (g := g) hb4) (fun k hk => fr k (Nat.le_trans hs3 hk)), LVo.keep H3.out.2.2.2.2.1 (kb_below (g := g) hb4) fr, Box.keep H3.out.2.2.2.2.2 (kb_below (g := g) hb4) n2⟩)
 clear H3 hb4
 refine (num_dr H4.out.1 [100, 100, 5, 0, 1, 101, -1] (by decide) (by decide) A4 c4 (Kd.R_reads' hR).2.2 (Kd.R_reads' hR).2.1 (far_slice fun e => hR.1 g e.symm rfl)).mono ?_
 rintro e w6 ⟨f, rfl, hf, hA, hk⟩
 have H5 := Aside0.mk (show At w0 w2 g s (899999999) w6 ∧ RI w6 w3.heap.size (.slice p.1.1 m.1.length p.1.2) m.1 ∧ RI w6 w3.heap.size (.slice p.2.1.1 m.2.1.length p.2.1.2) m.2.1 ∧ RI w6 w3.heap.size (.slice p.2.2.1 m.2.2.length p.2.2.2) m.2.2 ∧ LVo w6 (Fr w2) l1 A1 c1 ∧ Box w6 g2 30 mZ from ⟨hA, Kd.R_keep H4.out.2.1 hk (fun k hk => fr k (Nat.le_trans hs3 hk)), Kd.R_keep H4.out.2.2.1 hk (fun k hk => fr k (Nat.le_trans hs3 hk)), Kd.R_keep H4.out.2.2.2.1 hk (fun k hk => fr k (Nat.le_trans hs3 hk)), LVo.keep H4.out.2.2.2.2.1 hk fr, Box.keep H4.out.2.2.2.2.2 hk n2⟩)
 clear H4 hA hk hR
 have lb2 := H5.out.2.2.2.2.2
 go_wp2_with (refine boxPut_ rfl rfl rfl rfl (mA m p) rfl lb2 rfl (by kernel_rfl) (by simp [Value.oneCell', mA]) ?_; intro w7 hbx hput)
 refine bodyPost_ret (results_ctt rfl _ _ g2 30 (mA m p) (0, 0) _ rfl hbx Tryz.underlying30 rfl (by kernel_rfl)) rfl ?_
 exact ⟨m, l1, f, p, A1, c1, rfl, HM.out, HF.out, hf, RI.mv (Kd.R_step H5.out.2.1 (fun k hk _ => hput.far k (by have : w3.heap.size ≤ k := hk; omega))) (Kd.R_step H5.out.2.2.1 (fun k hk _ => hput.far k (by have : w3.heap.size ≤ k := hk; omega))) (Kd.R_step H5.out.2.2.2.1 (fun k hk _ => hput.far k (by have : w3.heap.size ≤ k := hk; omega))), ⟨Kd.V_mono (Kd.V_step (H5.out.2.2.2.2.1).v fun k hk _ => hput.far k (by have : w2.heap.size ≤ k := hk; omega)) fun _ _ => trivial⟩, hput.below (H5.out.1).b hg2w⟩
end Go.Proofs.YtendbgedpjcocaaGreatDoor.B
/- Plain laws of runs: if, while, all of it. -/
namespace Go.Proofs.YtendbgedpjcocaaGreatDoor.B
open Go Go.RowKit Go.Shelf Go.Proofs.YtendbgedpjcocaaGreatDoorW.PrintWords Go.Proofs.YtendbgedpjcocaaGreatDoorW.PrintLast Go.Proofs.YtendbgedpjcocaaGreatDoorW.PrintMore
set_option linter.unusedVariables false
theorem formT_up (d : Nat) : ∀ l : List St, formT d l = true → formT (d + 1) l = true ∧ manyT (d + 1) l = manyT d l := by
 induction d with
 | zero =>
  intro l h
  rw [formT, List.isEmpty_iff] at h
  subst h
  exact ⟨by rw [formT]; rfl, by rw [manyT, manyT]; simp⟩
 | succ d ih =>
  intro l h
  rw [formT, List.all_eq_true] at h
  have hk : ∀ s ∈ l, headSt s = true ∧ formT d s.f3 = true ∧ formT d s.f4 = true := fun s hs => by simpa [Bool.and_eq_true] using h s hs
  refine ⟨?_, ?_⟩
  ·rw [formT, List.all_eq_true]
   intro s hs
   obtain ⟨h1, h2, h3⟩ := hk s hs
   rw [h1, (ih _ h2).1, (ih _ h3).1]; rfl
  ·rw [manyT, manyT]
   congr 2
   refine List.map_congr_left fun s hs => ?_
   obtain ⟨h1, h2, h3⟩ := hk s hs
   rw [(ih _ h2).2, (ih _ h3).2]
theorem stOk_kids {s : St} (h : stOkL [s] = true) : stOkL s.f3 = true ∧ stOkL s.f4 = true := by
 unfold stOkL at h ⊢
 rw [stOk_is, Bool.and_eq_true, decide_eq_true_eq] at h
 obtain ⟨h1, h2⟩ := h
 rw [formT] at h1
 simp only [List.all_cons, List.all_nil, Bool.and_true, Bool.and_eq_true] at h1
 rw [manyT] at h2
 simp only [List.map_cons, List.map_nil, List.sum_cons, List.sum_nil, List.length_cons, List.length_nil] at h2
 have h3 := formT_up 3 _ h1.2.1
 have h4 := formT_up 3 _ h1.2.2
 rw [stOk_is, stOk_is, h3.1, h4.1, h3.2, h4.2, decide_eq_true (by omega), decide_eq_true (by omega)]
 exact ⟨rfl, rfl⟩
theorem cut3_same {m : Mem3} (h : mOk m = true) : cut3 (m.1 ++ m.2.1 ++ m.2.2) = m := by
 obtain ⟨h0, h1, h2⟩ := mOk_parts h
 have l0 := listOk_len h0
 have l1 := listOk_len h1
 have l2 := listOk_len h2
 obtain ⟨a, b, c⟩ := m
 dsimp only at l0 l1 l2
 unfold cut3
 have e1 : (a ++ b ++ c).drop 6 = b ++ c := by rw [List.append_assoc, List.drop_append_of_le_length (by omega), List.drop_of_length_le (by omega), List.nil_append]
 have e2 : (a ++ b ++ c).drop 12 = c := by
  have hl : (a ++ b).length = 12 := by simp; omega
  rw [List.drop_append_of_le_length (by omega), List.drop_of_length_le (by omega), List.nil_append]
 dsimp only
 rw [e1, e2, List.append_assoc, List.take_append_of_le_length (by omega), List.take_of_length_le (by omega), List.take_append_of_le_length (by omega), List.take_of_length_le (by omega), List.take_of_length_le (by omega)]
theorem stOk_nil : stOkL [] = true := by
 unfold stOkL
 rw [stOk_is, formT, manyT]; rfl
theorem none_facts {m : Mem3} {f : Int} (h : mOk m = true) (h0 : 0 ≤ f) (h1 : f ≤ 100) : stRunV m [] f = (m, 0, f) := by
 rw [runV_is (runOk_mk h stOk_nil h0 h1) (Run.nil _ _), cut3_same h]
theorem if_facts {m : Mem3} {b : S24} {e : Ex} {A B : List St} {f : Int} {X : Mem3} {v r : Int} (hV : stRunV m [⟨2, b, e, A, B⟩] f = (X, v, r)) :
  (v = 2 → X.1.length = 0) ∧ (v ≠ 2 → stRunV m (if oV e m = 0 then B else A) f = (X, v, r) ∧ stRunV m [] f = (m, 0, f)) := by
 rcases runV_cases hV with ⟨h, bs, rfl, hr, hF⟩ | ⟨_, rfl, rfl, _⟩
 ·obtain ⟨h1, h2, h3, h4⟩ := runOk_of h
  have he := stOk_head h2 (s := ⟨2, b, e, A, B⟩) (by simp)
  have hk := stOk_kids h2
  refine ⟨fun hv => ?_, fun _ => ⟨?_, none_facts h1 h3 h4⟩⟩
  ·have := hF.how
   dsimp only at this
   omega
  ·have hw : stOkL (if oV e m = 0 then B else A) = true := by split; exact hk.2; exact hk.1
   obtain ⟨r2, hr2, _⟩ := run_total 4 _ (stOk_form hw) f (m.1 ++ m.2.1 ++ m.2.2) h3
   have hr3 : Run (m.1 ++ m.2.1 ++ m.2.2) (if evalI (m.1 ++ m.2.1 ++ m.2.2) e = 0 then B else A) f r2 := by rw [← oV_is h1 he]; exact hr2
   have := hr.one (Run.single.2 (RunS.if rfl hr3))
   subst this
   exact runV_is (runOk_mk h1 hw h3 h4) hr2
 ·exact ⟨fun _ => rfl, fun hv => absurd rfl hv⟩
end Go.Proofs.YtendbgedpjcocaaGreatDoor.B
/- Statements with lists, as they lie in a literal; fits. -/
namespace Go.Proofs.YtendbgedpjcocaaGreatDoor.B
open Go Go.RowKit Go.Shelf Go.Proofs.YtendbgedpjcocaaGreatDoorW.PrintWords Go.Proofs.YtendbgedpjcocaaGreatDoorW.PrintLast Go.Proofs.YtendbgedpjcocaaGreatDoorW.PrintMore
set_option linter.unusedVariables false
theorem LV.nil (W : World) : LV W [] none 0 := ⟨Kd.V_mono (Kd.R_V (base' := 0) (Kd.R_nil stK 35 W 0 (fun _ => True))) fun _ _ => trivial⟩
theorem stLit2_F (k a b : Int) (x : Ex) (B : Option Addr) (d : Nat) (l3 : List St) (A3 : Option Addr) (c3 : Nat) (l4 : List St) (A4 : Option Addr) (c4 : Nat) (W : World) (h : TV W x B d) (h3 : LV W l3 A3 c3) (h4 : LV W l4 A4 c4) :
  Kd.FK stK W (fun _ => True) (⟨k, ⟨a, b⟩, x, l3, l4⟩ : St) [.int .i64 k, .int .i64 a, .int .i64 b, .int .i64 x.f0, .int .i64 x.f1, .int .i64 x.f2.f0, .int .i64 x.f2.f1, .slice B x.f3.length d, .slice A3 l3.length c3, .slice A4 l4.length c4] :=
 k35_mkF W _ (⟨k, ⟨a, b⟩, x, l3, l4⟩ : St) h.reads.1 (Kd.V_F h.v) h3.reads.1 (Kd.V_F h3.v) h4.reads.1 (Kd.V_F h4.v)
theorem fit_lists {k : Int} {b : S24} {x : Ex} {l l' : List St} (hx : Tiny x) (h : Fit 500 l) (h' : Fit 500 l') : StFit [(⟨k, b, x, l, l'⟩ : St)] := by
 have h := Fit.mk1 (n := 500) (m := 500) (k := k) (a := b) hx h h' (by omega) (by omega)
 exact Fit.ok (n := 1001) (Fit.mono (by simpa using (Fit.nil 0).snoc h.1 h.2) (by omega)) (by omega)
end Go.Proofs.YtendbgedpjcocaaGreatDoor.B
/- The law FnRunIf, walked by hand. -/
namespace Go.Proofs.YtendbgedpjcocaaGreatDoor.B
open Go Go.RowKit Go.Proofs.YtendbgedpjcocaaGreatDoorW.PrintWords Go.Proofs.YtendbgedpjcocaaGreatDoorW.PrintLast Go.Proofs.YtendbgedpjcocaaGreatDoorW.PrintMore
set_option linter.unusedVariables false
theorem onI_any (n : Int) (w : World) : Calls Tryz.prog 22 #[.int .i64 n] w fun e w' => e = .returned (.bool (n != 0)) ∧ Below w.heap.size w w' :=
 (impl_NumOn.calls n (n != 0) w rfl).mono fun e w' h => ⟨h.1, h.2.below⟩
set_option maxRecDepth 100000 in
set_option maxHeartbeats 4000000 in
theorem law_RunIf (l0 l1 : List Int) (hw0 : ∀ x ∈ l0, (Lit.int .u8 x).wf = true) (hw1 : ∀ x ∈ l1, (Lit.int .u8 x).wf = true) (A0 : Option Addr) (c0 : Nat) (A1 : Option Addr) (c1 : Nat) (w : World) (r0 : Kd.C (Kd.int .u8) w A0 l0.length l0) (h0 : l0.length ≤ c0) (r1 : Kd.C (Kd.int .u8) w A1 l1.length l1) (h1 : l1.length ≤ c1) (a : Addr) (HT : ErrAt w a) :
  Calls Tryz.prog 7 #[.slice A0 l0.length c0, .slice A1 l1.length c1] w fun e w' => e = .returned (.bool true) ∧ Below w.heap.size w w' := by
 have D0 := Aside0.mk (drawRun_any l0 hw0 A0 c0 w r0 h0)
 have D1 := Aside0.mk (fun W (hb : Below w.heap.size w W) => drawRun_any l1 hw1 A1 c1 W (Kd.C_below r1 hb) h1)
 have D2 := Aside0.mk (fun W (hb : Below w.heap.size w W) => drawE_any l1 hw1 A1 c1 W (Kd.C_below r1 hb) h1)
 have HTT := Aside0.mk HT
 clear r0 r1 h0 h1 hw0 hw1 HT
 by_cases hlenl0 : (1048576 : Int) < (l0.length : Int)
 ·go_enter Tryz.func7, Tryz.ntmps7
  go_wp2
  go_ret
  exact ⟨rfl, Below.refl _ _⟩
 by_cases hlenl1 : (1048576 : Int) < (l1.length : Int)
 ·go_enter Tryz.func7, Tryz.ntmps7
  go_wp2
  go_ret
  exact ⟨rfl, Below.refl _ _⟩
 go_enter Tryz.func7, Tryz.ntmps7
 go_wp2_with fail
 refine D0.out.mono ?_
 clear D0
 rintro e w1 ⟨m, sa, f, p, A3, c3, rfl, hm, hfs, hf, hM, hLV, hb⟩
 have HX0 := Aside0.mk (And.intro hm hfs)
 clear hm hfs hf
 have H1 := Aside0.mk (show MV w1 m p ∧ LV w1 sa A3 c3 ∧ Below w.heap.size w w1 ∧ ErrAt w1 a from ⟨hM, hLV, hb, HTT.out.below hb⟩)
 clear hM hLV hb HTT
 go_wp2_with ((with_reducible refine gate_dst (N := 5) rfl ?_); refine new1_ (N := 5) (x := 38) (T := 30) (mA m p) (zs := #[.slice none 0 0, .slice none 0 0, .slice none 0 0]) (mA_one _ _) ?_ ?_ ?_ ?_ ?_ ?_ ?_ ?_ ?_ ?_ ?_ ?_ ?_)
 all_goals (first | rfl | decide | (intro _ _; go_simp; done) | kernel_rfl | skip)
 intro g5 W1 hg5 bg5 hb
 simp only [Act.put, List.setIfInBounds_toArray, List.set_cons_zero, List.set_cons_succ]
 clear hg5
 have H2 := Aside0.mk (show Box W1 g5 30 (mA m p) ∧ MV W1 m p ∧ LV W1 sa A3 c3 ∧ Below w.heap.size w W1 ∧ ErrAt W1 a from ⟨bg5, MV.last _ _ _ _ hb H1.out.1, (LV.last _ _ _) _ _ hb H1.out.2.1, Below.trans H1.out.2.2.1 (hb.mono H1.out.2.2.1.size), (ErrAt.lasts _) _ _ hb H1.out.2.2.2⟩)
 clear H1 bg5 hb
 go_wp2_with fail
 refine (D1.out W1 H2.out.2.2.2.1).mono ?_
 clear D1
 rintro e w2 ⟨mb, sb, fb, pb, A4, c4, rfl, _, hfs, _, hM, hLV, hb⟩
 have HX1 := Aside0.mk hfs
 clear hfs
 have H3 := Aside0.mk (show LV w2 sb A4 c4 ∧ Box w2 g5 30 (mA m p) ∧ MV w2 m p ∧ LV w2 sa A3 c3 ∧ Below w.heap.size w w2 ∧ ErrAt w2 a from ⟨hLV, blk_below H2.out.1 hb, MV.last _ _ _ _ hb H2.out.2.1, (LV.last _ _ _) _ _ hb H2.out.2.2.1, Below.trans H2.out.2.2.2.1 (hb.mono H2.out.2.2.2.1.size), (ErrAt.lasts _) _ _ hb H2.out.2.2.2.2⟩)
 clear H2 hM hLV hb
 go_wp2_with ((with_reducible refine gate_dst (N := 8) rfl ?_); refine new1_ (N := 8) (x := 44) (T := 30) (mA mb pb) (zs := #[.slice none 0 0, .slice none 0 0, .slice none 0 0]) (mA_one _ _) ?_ ?_ ?_ ?_ ?_ ?_ ?_ ?_ ?_ ?_ ?_ ?_ ?_)
 all_goals (first | rfl | decide | (intro _ _; go_simp; done) | kernel_rfl | skip)
 intro g8 W2 hg8 bg8 hb
 simp only [Act.put, List.setIfInBounds_toArray, List.set_cons_zero, List.set_cons_succ]
 clear hg8
 have H4 := Aside0.mk (show LV W2 sb A4 c4 ∧ Box W2 g5 30 (mA m p) ∧ MV W2 m p ∧ LV W2 sa A3 c3 ∧ Below w.heap.size w W2 ∧ ErrAt W2 a from ⟨(LV.last _ _ _) _ _ hb H3.out.1, blk_below H3.out.2.1 hb, MV.last _ _ _ _ hb H3.out.2.2.1, (LV.last _ _ _) _ _ hb H3.out.2.2.2.1, Below.trans H3.out.2.2.2.2.1 (hb.mono H3.out.2.2.2.2.1.size), (ErrAt.lasts _) _ _ hb H3.out.2.2.2.2.2⟩)
 clear H3 bg8 hb
 go_wp2_with fail
 refine (D2.out W2 H4.out.2.2.2.2.1).mono ?_
 clear D2
 rintro e w3 ⟨x, m2, B, d, p2, rfl, hx, _, hT, hM, hb⟩
 have HX := Aside0.mk (And.intro hx (And.intro HX0.out HX1.out))
 clear hx HX0 HX1
 have H5 := Aside0.mk (show TV w3 x B d ∧ LV w3 sb A4 c4 ∧ Box w3 g5 30 (mA m p) ∧ MV w3 m p ∧ LV w3 sa A3 c3 ∧ Below w.heap.size w w3 ∧ ErrAt w3 a from ⟨hT, (LV.last _ _ _) _ _ hb H4.out.1, blk_below H4.out.2.1 hb, MV.last _ _ _ _ hb H4.out.2.2.1, (LV.last _ _ _) _ _ hb H4.out.2.2.2.1, Below.trans H4.out.2.2.2.2.1 (hb.mono H4.out.2.2.2.2.1.size), (ErrAt.lasts _) _ _ hb H4.out.2.2.2.2.2⟩)
 clear H4 hT hM hb
 go_wp2_with ((with_reducible refine gate_dst (N := 11) rfl ?_); refine new2_ (N := 11) (M := 12) (x := 50) (y := 51) (T := 27) (U := 30) (eA x B d) (mA m2 p2) (zs := #[.int .i64 0, .int .i64 0, .int .i64 0, .int .i64 0, .slice none 0 0]) (ys := #[.slice none 0 0, .slice none 0 0, .slice none 0 0]) (eA_one _ _ _) (mA_one _ _) ?_ ?_ ?_ ?_ ?_ ?_ ?_ ?_ ?_ ?_ ?_ ?_ ?_ ?_ ?_ ?_ ?_ ?_ ?_ ?_ ?_ ?_ ?_ ?_ ?_ ?_ ?_ ?_)
 all_goals (first | rfl | decide | (intro _ _; go_simp; done) | kernel_rfl | skip)
 intro g11 g12 W3 hg11 hg12 hne bg11 bg12 hb
 simp only [Act.put, List.setIfInBounds_toArray, List.set_cons_zero, List.set_cons_succ]
 clear hg11 hg12 hne
 have H6 := Aside0.mk (show Box W3 g11 27 (eA x B d) ∧ TV W3 x B d ∧ LV W3 sb A4 c4 ∧ Box W3 g5 30 (mA m p) ∧ MV W3 m p ∧ LV W3 sa A3 c3 ∧ Below w.heap.size w W3 ∧ ErrAt W3 a from ⟨bg11, TV.last _ _ _ _ _ hb H5.out.1, (LV.last _ _ _) _ _ hb H5.out.2.1, blk_below H5.out.2.2.1 hb, MV.last _ _ _ _ hb H5.out.2.2.2.1, (LV.last _ _ _) _ _ hb H5.out.2.2.2.2.1, Below.trans H5.out.2.2.2.2.2.1 (hb.mono H5.out.2.2.2.2.2.1.size), (ErrAt.lasts _) _ _ hb H5.out.2.2.2.2.2.2⟩)
 clear H5 bg11 bg12 hb
 obtain ⟨L, hL⟩ : ∃ L : List St, L = [⟨2, ⟨0, 0⟩, x, sa, sb⟩] := ⟨_, rfl⟩
 have HL := Aside0.mk hL
 clear hL
 have lb1 : Box W3 g11 27 #[.int .i64 x.f0, .int .i64 x.f1, .int .i64 x.f2.f0, .int .i64 x.f2.f1, .slice B x.f3.length d] := H6.out.1
 have lt := H6.out.2.1
 have l3 := H6.out.2.2.2.2.2.1
 have l4 := H6.out.2.2.1
 go_upto_region 7 with (first | ((with_reducible refine gate_dst (N := 52) rfl ?_); refine boxGet_ rfl rfl rfl rfl lb1 Tryz.underlying27 rfl (by kernel_rfl) ?_) | ((with_reducible refine gate_dst (N := 56) rfl ?_); refine Kd.N_lit stK _ 35 rfl (N' := 56) rfl (xs := L) (inner := [.int .i64 2, .int .i64 0, .int .i64 0, .int .i64 x.f0, .int .i64 x.f1, .int .i64 x.f2.f0, .int .i64 x.f2.f1, .slice B x.f3.length d, .slice A3 sa.length c3, .slice A4 sb.length c4]) (ok := fun _ => True) (okp := fun _ => True) (by rw [HL.out]; go_simp; try rfl) (by rw [HL.out]; exact Reps.c10 (stLit2_F 2 0 0 x B d sa A3 c3 sb A4 c4 W3 lt l3 l4) (Reps.none _ _)) (fun _ hk => hk) trivial (Below.refl W3.heap.size W3) (Nat.le_refl _) (by rw [HL.out]; simp) ?_; intro vL wL ho hbL hgL hnL; clear hgL hnL; obtain ⟨A9, c9, eL⟩ := Kd.N_slice ho; subst eL))
 have hLV : LV wL L A9 c9 := ⟨Kd.V_mono (Kd.N_V (base' := 0) ho) fun _ _ => trivial⟩
 clear lb1 lt l3 l4 ho
 have H7 := Aside0.mk (show LV wL L A9 c9 ∧ Box wL g11 27 (eA x B d) ∧ TV wL x B d ∧ LV wL sb A4 c4 ∧ Box wL g5 30 (mA m p) ∧ MV wL m p ∧ LV wL sa A3 c3 ∧ Below w.heap.size w wL ∧ ErrAt wL a from ⟨hLV, blk_below H6.out.1 hbL, TV.last _ _ _ _ _ hbL H6.out.2.1, (LV.last _ _ _) _ _ hbL H6.out.2.2.1, blk_below H6.out.2.2.2.1 hbL, MV.last _ _ _ _ hbL H6.out.2.2.2.2.1, (LV.last _ _ _) _ _ hbL H6.out.2.2.2.2.2.1, Below.trans H6.out.2.2.2.2.2.2.1 (hbL.mono H6.out.2.2.2.2.2.2.1.size), (ErrAt.lasts _) _ _ hbL H6.out.2.2.2.2.2.2.2⟩)
 clear H6 hLV hbL
 obtain ⟨X, cc, lf, hV⟩ : ∃ X cc lf, stRunV m L f = (X, cc, lf) := ⟨_, _, _, rfl⟩
 have HV := Aside0.mk hV
 have HFI := Aside0.mk (show StFit L by rw [HL.out]; exact fit_lists HX.out.1 HX.out.2.1.2 HX.out.2.2)
 have HSH := Aside0.mk (runV_short hV)
 have HW := Aside0.mk (show _ from if_facts (show stRunV m [⟨2, ⟨0, 0⟩, x, sa, sb⟩] f = (X, cc, lf) by rw [← HL.out]; exact hV))
 clear hV
 have lb0 := H7.out.2.2.2.2.1
 go_wp2_with (first | ((with_reducible refine gate_dst (N := 58) rfl ?_); refine getM_ rfl rfl rfl rfl lb0 ?_))
 clear lb0
 refine (runI_any HV.out p A9 c9 a wL H7.out.2.2.2.2.2.2.2.2 H7.out.2.2.2.2.2.1 H7.out.1).mono ?_
 rintro e wqa ⟨qa, rfl, hM, hb⟩
 have H8 := Aside0.mk (show MV wqa X qa ∧ LV wqa L A9 c9 ∧ Box wqa g11 27 (eA x B d) ∧ TV wqa x B d ∧ LV wqa sb A4 c4 ∧ Box wqa g5 30 (mA m p) ∧ MV wqa m p ∧ LV wqa sa A3 c3 ∧ Below w.heap.size w wqa ∧ ErrAt wqa a from ⟨hM, (LV.last _ _ _) _ _ hb H7.out.1, blk_below H7.out.2.1 hb, TV.last _ _ _ _ _ hb H7.out.2.2.1, (LV.last _ _ _) _ _ hb H7.out.2.2.2.1, blk_below H7.out.2.2.2.2.1 hb, MV.last _ _ _ _ hb H7.out.2.2.2.2.2.1, (LV.last _ _ _) _ _ hb H7.out.2.2.2.2.2.2.1, Below.trans H7.out.2.2.2.2.2.2.2.1 (hb.mono H7.out.2.2.2.2.2.2.2.1.size), (ErrAt.lasts _) _ _ hb H7.out.2.2.2.2.2.2.2.2⟩)
 clear H7 hM hb
 go_wp2_with ((with_reducible refine gate_dst (N := 14) rfl ?_); refine new1_ (N := 14) (x := 62) (T := 30) (mA X qa) (zs := #[.slice none 0 0, .slice none 0 0, .slice none 0 0]) (mA_one _ _) ?_ ?_ ?_ ?_ ?_ ?_ ?_ ?_ ?_ ?_ ?_ ?_ ?_)
 all_goals (first | rfl | decide | (intro _ _; go_simp; done) | kernel_rfl | skip)
 intro g14 Wqa hg14 bg14 hb
 simp only [Act.put, List.setIfInBounds_toArray, List.set_cons_zero, List.set_cons_succ]
 clear hg14
 have H9 := Aside0.mk (show Box Wqa g14 30 (mA X qa) ∧ MV Wqa X qa ∧ LV Wqa L A9 c9 ∧ Box Wqa g11 27 (eA x B d) ∧ TV Wqa x B d ∧ LV Wqa sb A4 c4 ∧ Box Wqa g5 30 (mA m p) ∧ MV Wqa m p ∧ LV Wqa sa A3 c3 ∧ Below w.heap.size w Wqa ∧ ErrAt Wqa a from ⟨bg14, MV.last _ _ _ _ hb H8.out.1, (LV.last _ _ _) _ _ hb H8.out.2.1, blk_below H8.out.2.2.1 hb, TV.last _ _ _ _ _ hb H8.out.2.2.2.1, (LV.last _ _ _) _ _ hb H8.out.2.2.2.2.1, blk_below H8.out.2.2.2.2.2.1 hb, MV.last _ _ _ _ hb H8.out.2.2.2.2.2.2.1, (LV.last _ _ _) _ _ hb H8.out.2.2.2.2.2.2.2.1, Below.trans H8.out.2.2.2.2.2.2.2.2.1 (hb.mono H8.out.2.2.2.2.2.2.2.2.1.size), (ErrAt.lasts _) _ _ hb H8.out.2.2.2.2.2.2.2.2.2⟩)
 clear H8 bg14 hb
 have lb0 := H9.out.2.2.2.2.2.2.1
 go_wp2_with (first | ((with_reducible refine gate_dst (N := 66) rfl ?_); refine getM_ rfl rfl rfl rfl lb0 ?_))
 clear lb0
 refine (runS_any HV.out HX.out.2.1.1 HFI.out p A9 c9 Wqa H9.out.2.2.2.2.2.2.2.1 H9.out.2.2.1).mono ?_
 rintro e wqb ⟨qb, rfl, hM, hb⟩
 have H10 := Aside0.mk (show MV wqb X qb ∧ Box wqb g14 30 (mA X qa) ∧ MV wqb X qa ∧ LV wqb L A9 c9 ∧ Box wqb g11 27 (eA x B d) ∧ TV wqb x B d ∧ LV wqb sb A4 c4 ∧ Box wqb g5 30 (mA m p) ∧ MV wqb m p ∧ LV wqb sa A3 c3 ∧ Below w.heap.size w wqb ∧ ErrAt wqb a from ⟨hM, blk_below H9.out.1 hb, MV.last _ _ _ _ hb H9.out.2.1, (LV.last _ _ _) _ _ hb H9.out.2.2.1, blk_below H9.out.2.2.2.1 hb, TV.last _ _ _ _ _ hb H9.out.2.2.2.2.1, (LV.last _ _ _) _ _ hb H9.out.2.2.2.2.2.1, blk_below H9.out.2.2.2.2.2.2.1 hb, MV.last _ _ _ _ hb H9.out.2.2.2.2.2.2.2.1, (LV.last _ _ _) _ _ hb H9.out.2.2.2.2.2.2.2.2.1, Below.trans H9.out.2.2.2.2.2.2.2.2.2.1 (hb.mono H9.out.2.2.2.2.2.2.2.2.2.1.size), (ErrAt.lasts _) _ _ hb H9.out.2.2.2.2.2.2.2.2.2.2⟩)
 clear H9 hM hb
 go_wp2_with ((with_reducible refine gate_dst (N := 17) rfl ?_); refine new1_ (N := 17) (x := 70) (T := 30) (mA X qb) (zs := #[.slice none 0 0, .slice none 0 0, .slice none 0 0]) (mA_one _ _) ?_ ?_ ?_ ?_ ?_ ?_ ?_ ?_ ?_ ?_ ?_ ?_ ?_)
 all_goals (first | rfl | decide | (intro _ _; go_simp; done) | kernel_rfl | skip)
 intro g17 Wqb hg17 bg17 hb
 simp only [Act.put, List.setIfInBounds_toArray, List.set_cons_zero, List.set_cons_succ]
 clear hg17
 have H11 := Aside0.mk (show Box Wqb g17 30 (mA X qb) ∧ MV Wqb X qb ∧ Box Wqb g14 30 (mA X qa) ∧ MV Wqb X qa ∧ LV Wqb L A9 c9 ∧ Box Wqb g11 27 (eA x B d) ∧ TV Wqb x B d ∧ LV Wqb sb A4 c4 ∧ Box Wqb g5 30 (mA m p) ∧ MV Wqb m p ∧ LV Wqb sa A3 c3 ∧ Below w.heap.size w Wqb ∧ ErrAt Wqb a from ⟨bg17, MV.last _ _ _ _ hb H10.out.1, blk_below H10.out.2.1 hb, MV.last _ _ _ _ hb H10.out.2.2.1, (LV.last _ _ _) _ _ hb H10.out.2.2.2.1, blk_below H10.out.2.2.2.2.1 hb, TV.last _ _ _ _ _ hb H10.out.2.2.2.2.2.1, (LV.last _ _ _) _ _ hb H10.out.2.2.2.2.2.2.1, blk_below H10.out.2.2.2.2.2.2.2.1 hb, MV.last _ _ _ _ hb H10.out.2.2.2.2.2.2.2.2.1, (LV.last _ _ _) _ _ hb H10.out.2.2.2.2.2.2.2.2.2.1, Below.trans H10.out.2.2.2.2.2.2.2.2.2.2.1 (hb.mono H10.out.2.2.2.2.2.2.2.2.2.2.1.size), (ErrAt.lasts _) _ _ hb H10.out.2.2.2.2.2.2.2.2.2.2.2⟩)
 clear H10 bg17 hb
 have hn1 : (cc != cc) = false := by simp
 have hn2 : (lf != lf) = false := by simp
 have he1 : (cc == cc) = true := by simp
 have he2 : (lf == lf) = true := by simp
 have he3 : (f == f) = true := by simp
 have he4 : ((0 : Int) == 0) = true := by simp
 have lb0 := H11.out.2.2.1
 have lb1 := H11.out.1
 go_wp2_with (first | ((with_reducible refine gate_dst (N := 82) rfl ?_); refine gate_guard rfl ?_; refine getM_ rfl rfl rfl rfl lb0 ?_) | ((with_reducible refine gate_dst (N := 83) rfl ?_); refine gate_guard rfl ?_; refine getM_ rfl rfl rfl rfl lb1 ?_))
 clear lb0 lb1
 refine (same_any X X HSH.out qa qb Wqb H11.out.2.2.2.1 H11.out.2.1).mono ?_
 rw [sameV_refl]
 rintro e w5 ⟨rfl, hb⟩
 have H12 := Aside0.mk (show Box w5 g17 30 (mA X qb) ∧ MV w5 X qb ∧ Box w5 g14 30 (mA X qa) ∧ MV w5 X qa ∧ LV w5 L A9 c9 ∧ Box w5 g11 27 (eA x B d) ∧ TV w5 x B d ∧ LV w5 sb A4 c4 ∧ Box w5 g5 30 (mA m p) ∧ MV w5 m p ∧ LV w5 sa A3 c3 ∧ Below w.heap.size w w5 ∧ ErrAt w5 a from ⟨blk_below H11.out.1 hb, MV.last _ _ _ _ hb H11.out.2.1, blk_below H11.out.2.2.1 hb, MV.last _ _ _ _ hb H11.out.2.2.2.1, (LV.last _ _ _) _ _ hb H11.out.2.2.2.2.1, blk_below H11.out.2.2.2.2.2.1 hb, TV.last _ _ _ _ _ hb H11.out.2.2.2.2.2.2.1, (LV.last _ _ _) _ _ hb H11.out.2.2.2.2.2.2.2.1, blk_below H11.out.2.2.2.2.2.2.2.2.1 hb, MV.last _ _ _ _ hb H11.out.2.2.2.2.2.2.2.2.2.1, (LV.last _ _ _) _ _ hb H11.out.2.2.2.2.2.2.2.2.2.2.1, Below.trans H11.out.2.2.2.2.2.2.2.2.2.2.2.1 (hb.mono H11.out.2.2.2.2.2.2.2.2.2.2.2.1.size), (ErrAt.lasts _) _ _ hb H11.out.2.2.2.2.2.2.2.2.2.2.2.2⟩)
 clear H11 hb
 by_cases h2 : cc = 2
 ·have hq : (cc == 2) = true := by simp [h2]
  have hx0 : ((X.1.length : Int) == 0) = true := beq_iff_eq.2 (by rw [HW.out.1 h2]; rfl)
  clear h2
  have cm := (Box.cell (H12.out.2.2.1) 0 (.slice qa.1.1 X.1.length qa.1.2) rfl).1
  go_wp2
  go_ret
  exact ⟨rfl, H12.out.2.2.2.2.2.2.2.2.2.2.2.1⟩
 have hq : (cc == 2) = false := by simp [h2]
 have HW2 := Aside0.mk (HW.out.2 h2)
 have HMM := Aside0.mk (show ShortM m from ⟨Nat.le_trans HX.out.2.1.1.1 (by omega), Nat.le_trans HX.out.2.1.1.2.1 (by omega), Nat.le_trans HX.out.2.1.1.2.2 (by omega)⟩)
 obtain ⟨n, hn⟩ : ∃ n, n = oV x m := ⟨_, rfl⟩
 have HN := Aside0.mk hn
 clear hn h2
 have lb0 := H12.out.2.2.2.2.2.1
 have lb1 := H12.out.2.2.2.2.2.2.2.2.1
 go_wp2_with (first | ((with_reducible refine gate_dst (N := 94) rfl ?_); refine getE_ rfl rfl rfl rfl lb0 ?_) | ((with_reducible refine gate_dst (N := 95) rfl ?_); refine getM_ rfl rfl rfl rfl lb1 ?_))
 clear lb0 lb1
 refine (implOf_any x B d m p w5 H12.out.2.2.2.2.2.2.1 H12.out.2.2.2.2.2.2.2.2.2.1).mono ?_
 rw [← HN.out]
 rintro e w6 ⟨rfl, hb⟩
 have H13 := Aside0.mk (show Box w6 g17 30 (mA X qb) ∧ MV w6 X qb ∧ Box w6 g14 30 (mA X qa) ∧ MV w6 X qa ∧ LV w6 L A9 c9 ∧ Box w6 g11 27 (eA x B d) ∧ TV w6 x B d ∧ LV w6 sb A4 c4 ∧ Box w6 g5 30 (mA m p) ∧ MV w6 m p ∧ LV w6 sa A3 c3 ∧ Below w.heap.size w w6 ∧ ErrAt w6 a from ⟨blk_below H12.out.1 hb, MV.last _ _ _ _ hb H12.out.2.1, blk_below H12.out.2.2.1 hb, MV.last _ _ _ _ hb H12.out.2.2.2.1, (LV.last _ _ _) _ _ hb H12.out.2.2.2.2.1, blk_below H12.out.2.2.2.2.2.1 hb, TV.last _ _ _ _ _ hb H12.out.2.2.2.2.2.2.1, (LV.last _ _ _) _ _ hb H12.out.2.2.2.2.2.2.2.1, blk_below H12.out.2.2.2.2.2.2.2.2.1 hb, MV.last _ _ _ _ hb H12.out.2.2.2.2.2.2.2.2.2.1, (LV.last _ _ _) _ _ hb H12.out.2.2.2.2.2.2.2.2.2.2.1, Below.trans H12.out.2.2.2.2.2.2.2.2.2.2.2.1 (hb.mono H12.out.2.2.2.2.2.2.2.2.2.2.2.1.size), (ErrAt.lasts _) _ _ hb H12.out.2.2.2.2.2.2.2.2.2.2.2.2⟩)
 clear H12 hb
 go_wp2_with fail
 refine (onI_any n w6).mono ?_
 rintro e w7 ⟨rfl, hb⟩
 have H14 := Aside0.mk (show Box w7 g17 30 (mA X qb) ∧ MV w7 X qb ∧ Box w7 g14 30 (mA X qa) ∧ MV w7 X qa ∧ LV w7 L A9 c9 ∧ Box w7 g11 27 (eA x B d) ∧ TV w7 x B d ∧ LV w7 sb A4 c4 ∧ Box w7 g5 30 (mA m p) ∧ MV w7 m p ∧ LV w7 sa A3 c3 ∧ Below w.heap.size w w7 ∧ ErrAt w7 a from ⟨blk_below H13.out.1 hb, MV.last _ _ _ _ hb H13.out.2.1, blk_below H13.out.2.2.1 hb, MV.last _ _ _ _ hb H13.out.2.2.2.1, (LV.last _ _ _) _ _ hb H13.out.2.2.2.2.1, blk_below H13.out.2.2.2.2.2.1 hb, TV.last _ _ _ _ _ hb H13.out.2.2.2.2.2.2.1, (LV.last _ _ _) _ _ hb H13.out.2.2.2.2.2.2.2.1, blk_below H13.out.2.2.2.2.2.2.2.2.1 hb, MV.last _ _ _ _ hb H13.out.2.2.2.2.2.2.2.2.2.1, (LV.last _ _ _) _ _ hb H13.out.2.2.2.2.2.2.2.2.2.2.1, Below.trans H13.out.2.2.2.2.2.2.2.2.2.2.2.1 (hb.mono H13.out.2.2.2.2.2.2.2.2.2.2.2.1.size), (ErrAt.lasts _) _ _ hb H13.out.2.2.2.2.2.2.2.2.2.2.2.2⟩)
 clear H13 hb
 by_cases h0 : n = 0
 ·have hn0 : (n != 0) = false := by simp [h0]
  have HZ := Aside0.mk (show stRunV m sb f = (X, cc, lf) by have := HW2.out.1; rw [if_pos (by rw [← HN.out]; exact h0)] at this; exact this)
  clear h0
  have lb0 := H14.out.2.2.2.2.2.2.2.2.1
  go_wp2_with (first | ((with_reducible refine gate_dst (N := 100) rfl ?_); refine getM_ rfl rfl rfl rfl lb0 ?_))
  clear lb0
  refine (runI_any HZ.out p A4 c4 a w7 H14.out.2.2.2.2.2.2.2.2.2.2.2.2 H14.out.2.2.2.2.2.2.2.2.2.1 H14.out.2.2.2.2.2.2.2.1).mono ?_
  rintro e wqc ⟨qc, rfl, hM, hb⟩
  have H15 := Aside0.mk (show MV wqc X qc ∧ Box wqc g17 30 (mA X qb) ∧ MV wqc X qb ∧ Box wqc g14 30 (mA X qa) ∧ MV wqc X qa ∧ LV wqc L A9 c9 ∧ Box wqc g11 27 (eA x B d) ∧ TV wqc x B d ∧ LV wqc sb A4 c4 ∧ Box wqc g5 30 (mA m p) ∧ MV wqc m p ∧ LV wqc sa A3 c3 ∧ Below w.heap.size w wqc ∧ ErrAt wqc a from ⟨hM, blk_below H14.out.1 hb, MV.last _ _ _ _ hb H14.out.2.1, blk_below H14.out.2.2.1 hb, MV.last _ _ _ _ hb H14.out.2.2.2.1, (LV.last _ _ _) _ _ hb H14.out.2.2.2.2.1, blk_below H14.out.2.2.2.2.2.1 hb, TV.last _ _ _ _ _ hb H14.out.2.2.2.2.2.2.1, (LV.last _ _ _) _ _ hb H14.out.2.2.2.2.2.2.2.1, blk_below H14.out.2.2.2.2.2.2.2.2.1 hb, MV.last _ _ _ _ hb H14.out.2.2.2.2.2.2.2.2.2.1, (LV.last _ _ _) _ _ hb H14.out.2.2.2.2.2.2.2.2.2.2.1, Below.trans H14.out.2.2.2.2.2.2.2.2.2.2.2.1 (hb.mono H14.out.2.2.2.2.2.2.2.2.2.2.2.1.size), (ErrAt.lasts _) _ _ hb H14.out.2.2.2.2.2.2.2.2.2.2.2.2⟩)
  clear H14 hM hb
  go_wp2_with ((with_reducible refine gate_dst (N := 21) rfl ?_); refine new1_ (N := 21) (x := 104) (T := 30) (mA X qc) (zs := #[.slice none 0 0, .slice none 0 0, .slice none 0 0]) (mA_one _ _) ?_ ?_ ?_ ?_ ?_ ?_ ?_ ?_ ?_ ?_ ?_ ?_ ?_)
  all_goals (first | rfl | decide | (intro _ _; go_simp; done) | kernel_rfl | skip)
  intro g21 Wqc hg21 bg21 hb
  simp only [Act.put, List.setIfInBounds_toArray, List.set_cons_zero, List.set_cons_succ]
  clear hg21
  have H16 := Aside0.mk (show Box Wqc g21 30 (mA X qc) ∧ MV Wqc X qc ∧ Box Wqc g17 30 (mA X qb) ∧ MV Wqc X qb ∧ Box Wqc g14 30 (mA X qa) ∧ MV Wqc X qa ∧ LV Wqc L A9 c9 ∧ Box Wqc g11 27 (eA x B d) ∧ TV Wqc x B d ∧ LV Wqc sb A4 c4 ∧ Box Wqc g5 30 (mA m p) ∧ MV Wqc m p ∧ LV Wqc sa A3 c3 ∧ Below w.heap.size w Wqc ∧ ErrAt Wqc a from ⟨bg21, MV.last _ _ _ _ hb H15.out.1, blk_below H15.out.2.1 hb, MV.last _ _ _ _ hb H15.out.2.2.1, blk_below H15.out.2.2.2.1 hb, MV.last _ _ _ _ hb H15.out.2.2.2.2.1, (LV.last _ _ _) _ _ hb H15.out.2.2.2.2.2.1, blk_below H15.out.2.2.2.2.2.2.1 hb, TV.last _ _ _ _ _ hb H15.out.2.2.2.2.2.2.2.1, (LV.last _ _ _) _ _ hb H15.out.2.2.2.2.2.2.2.2.1, blk_below H15.out.2.2.2.2.2.2.2.2.2.1 hb, MV.last _ _ _ _ hb H15.out.2.2.2.2.2.2.2.2.2.2.1, (LV.last _ _ _) _ _ hb H15.out.2.2.2.2.2.2.2.2.2.2.2.1, Below.trans H15.out.2.2.2.2.2.2.2.2.2.2.2.2.1 (hb.mono H15.out.2.2.2.2.2.2.2.2.2.2.2.2.1.size), (ErrAt.lasts _) _ _ hb H15.out.2.2.2.2.2.2.2.2.2.2.2.2.2⟩)
  clear H15 bg21 hb
  have lb0 := H16.out.2.2.2.2.2.2.2.2.2.2.1
  go_wp2_with (first | ((with_reducible refine gate_dst (N := 108) rfl ?_); refine getM_ rfl rfl rfl rfl lb0 ?_))
  clear lb0
  refine (runI_any HW2.out.2 p none 0 a Wqc H16.out.2.2.2.2.2.2.2.2.2.2.2.2.2.2 H16.out.2.2.2.2.2.2.2.2.2.2.2.1 (LV.nil _)).mono ?_
  rintro e wqd ⟨qd, rfl, hM, hb⟩
  have H17 := Aside0.mk (show MV wqd m qd ∧ Box wqd g21 30 (mA X qc) ∧ MV wqd X qc ∧ Box wqd g17 30 (mA X qb) ∧ MV wqd X qb ∧ Box wqd g14 30 (mA X qa) ∧ MV wqd X qa ∧ LV wqd L A9 c9 ∧ Box wqd g11 27 (eA x B d) ∧ TV wqd x B d ∧ LV wqd sb A4 c4 ∧ Box wqd g5 30 (mA m p) ∧ MV wqd m p ∧ LV wqd sa A3 c3 ∧ Below w.heap.size w wqd ∧ ErrAt wqd a from ⟨hM, blk_below H16.out.1 hb, MV.last _ _ _ _ hb H16.out.2.1, blk_below H16.out.2.2.1 hb, MV.last _ _ _ _ hb H16.out.2.2.2.1, blk_below H16.out.2.2.2.2.1 hb, MV.last _ _ _ _ hb H16.out.2.2.2.2.2.1, (LV.last _ _ _) _ _ hb H16.out.2.2.2.2.2.2.1, blk_below H16.out.2.2.2.2.2.2.2.1 hb, TV.last _ _ _ _ _ hb H16.out.2.2.2.2.2.2.2.2.1, (LV.last _ _ _) _ _ hb H16.out.2.2.2.2.2.2.2.2.2.1, blk_below H16.out.2.2.2.2.2.2.2.2.2.2.1 hb, MV.last _ _ _ _ hb H16.out.2.2.2.2.2.2.2.2.2.2.2.1, (LV.last _ _ _) _ _ hb H16.out.2.2.2.2.2.2.2.2.2.2.2.2.1, Below.trans H16.out.2.2.2.2.2.2.2.2.2.2.2.2.2.1 (hb.mono H16.out.2.2.2.2.2.2.2.2.2.2.2.2.2.1.size), (ErrAt.lasts _) _ _ hb H16.out.2.2.2.2.2.2.2.2.2.2.2.2.2.2⟩)
  clear H16 hM hb
  go_wp2_with ((with_reducible refine gate_dst (N := 24) rfl ?_); refine new1_ (N := 24) (x := 111) (T := 30) (mA m qd) (zs := #[.slice none 0 0, .slice none 0 0, .slice none 0 0]) (mA_one _ _) ?_ ?_ ?_ ?_ ?_ ?_ ?_ ?_ ?_ ?_ ?_ ?_ ?_)
  all_goals (first | rfl | decide | (intro _ _; go_simp; done) | kernel_rfl | skip)
  intro g24 Wqd hg24 bg24 hb
  simp only [Act.put, List.setIfInBounds_toArray, List.set_cons_zero, List.set_cons_succ]
  clear hg24
  have H18 := Aside0.mk (show Box Wqd g24 30 (mA m qd) ∧ MV Wqd m qd ∧ Box Wqd g21 30 (mA X qc) ∧ MV Wqd X qc ∧ Box Wqd g17 30 (mA X qb) ∧ MV Wqd X qb ∧ Box Wqd g14 30 (mA X qa) ∧ MV Wqd X qa ∧ LV Wqd L A9 c9 ∧ Box Wqd g11 27 (eA x B d) ∧ TV Wqd x B d ∧ LV Wqd sb A4 c4 ∧ Box Wqd g5 30 (mA m p) ∧ MV Wqd m p ∧ LV Wqd sa A3 c3 ∧ Below w.heap.size w Wqd ∧ ErrAt Wqd a from ⟨bg24, MV.last _ _ _ _ hb H17.out.1, blk_below H17.out.2.1 hb, MV.last _ _ _ _ hb H17.out.2.2.1, blk_below H17.out.2.2.2.1 hb, MV.last _ _ _ _ hb H17.out.2.2.2.2.1, blk_below H17.out.2.2.2.2.2.1 hb, MV.last _ _ _ _ hb H17.out.2.2.2.2.2.2.1, (LV.last _ _ _) _ _ hb H17.out.2.2.2.2.2.2.2.1, blk_below H17.out.2.2.2.2.2.2.2.2.1 hb, TV.last _ _ _ _ _ hb H17.out.2.2.2.2.2.2.2.2.2.1, (LV.last _ _ _) _ _ hb H17.out.2.2.2.2.2.2.2.2.2.2.1, blk_below H17.out.2.2.2.2.2.2.2.2.2.2.2.1 hb, MV.last _ _ _ _ hb H17.out.2.2.2.2.2.2.2.2.2.2.2.2.1, (LV.last _ _ _) _ _ hb H17.out.2.2.2.2.2.2.2.2.2.2.2.2.2.1, Below.trans H17.out.2.2.2.2.2.2.2.2.2.2.2.2.2.2.1 (hb.mono H17.out.2.2.2.2.2.2.2.2.2.2.2.2.2.2.1.size), (ErrAt.lasts _) _ _ hb H17.out.2.2.2.2.2.2.2.2.2.2.2.2.2.2.2⟩)
  clear H17 bg24 hb
  have lb0 := H18.out.2.2.1
  have lb1 := H18.out.2.2.2.2.2.2.1
  go_wp2_with (first | ((with_reducible refine gate_dst (N := 123) rfl ?_); refine gate_guard rfl ?_; refine getM_ rfl rfl rfl rfl lb0 ?_) | ((with_reducible refine gate_dst (N := 124) rfl ?_); refine gate_guard rfl ?_; refine getM_ rfl rfl rfl rfl lb1 ?_))
  clear lb0 lb1
  refine (same_any X X HSH.out qc qa Wqd H18.out.2.2.2.1 H18.out.2.2.2.2.2.2.2.1).mono ?_
  rw [sameV_refl]
  rintro e w8 ⟨rfl, hb⟩
  have H19 := Aside0.mk (show Box w8 g24 30 (mA m qd) ∧ MV w8 m qd ∧ Box w8 g21 30 (mA X qc) ∧ MV w8 X qc ∧ Box w8 g17 30 (mA X qb) ∧ MV w8 X qb ∧ Box w8 g14 30 (mA X qa) ∧ MV w8 X qa ∧ LV w8 L A9 c9 ∧ Box w8 g11 27 (eA x B d) ∧ TV w8 x B d ∧ LV w8 sb A4 c4 ∧ Box w8 g5 30 (mA m p) ∧ MV w8 m p ∧ LV w8 sa A3 c3 ∧ Below w.heap.size w w8 ∧ ErrAt w8 a from ⟨blk_below H18.out.1 hb, MV.last _ _ _ _ hb H18.out.2.1, blk_below H18.out.2.2.1 hb, MV.last _ _ _ _ hb H18.out.2.2.2.1, blk_below H18.out.2.2.2.2.1 hb, MV.last _ _ _ _ hb H18.out.2.2.2.2.2.1, blk_below H18.out.2.2.2.2.2.2.1 hb, MV.last _ _ _ _ hb H18.out.2.2.2.2.2.2.2.1, (LV.last _ _ _) _ _ hb H18.out.2.2.2.2.2.2.2.2.1, blk_below H18.out.2.2.2.2.2.2.2.2.2.1 hb, TV.last _ _ _ _ _ hb H18.out.2.2.2.2.2.2.2.2.2.2.1, (LV.last _ _ _) _ _ hb H18.out.2.2.2.2.2.2.2.2.2.2.2.1, blk_below H18.out.2.2.2.2.2.2.2.2.2.2.2.2.1 hb, MV.last _ _ _ _ hb H18.out.2.2.2.2.2.2.2.2.2.2.2.2.2.1, (LV.last _ _ _) _ _ hb H18.out.2.2.2.2.2.2.2.2.2.2.2.2.2.2.1, Below.trans H18.out.2.2.2.2.2.2.2.2.2.2.2.2.2.2.2.1 (hb.mono H18.out.2.2.2.2.2.2.2.2.2.2.2.2.2.2.2.1.size), (ErrAt.lasts _) _ _ hb H18.out.2.2.2.2.2.2.2.2.2.2.2.2.2.2.2.2⟩)
  clear H18 hb
  have lb0 := H19.out.1
  have lb1 := H19.out.2.2.2.2.2.2.2.2.2.2.2.2.1
  go_wp2_with (first | ((with_reducible refine gate_dst (N := 137) rfl ?_); refine gate_guard rfl ?_; refine getM_ rfl rfl rfl rfl lb0 ?_) | ((with_reducible refine gate_dst (N := 138) rfl ?_); refine gate_guard rfl ?_; refine getM_ rfl rfl rfl rfl lb1 ?_))
  clear lb0 lb1
  refine (same_any m m HMM.out qd p w8 H19.out.2.1 H19.out.2.2.2.2.2.2.2.2.2.2.2.2.2.1).mono ?_
  rw [sameV_refl]
  rintro e w9 ⟨rfl, hb⟩
  have H20 := Aside0.mk (show Box w9 g24 30 (mA m qd) ∧ MV w9 m qd ∧ Box w9 g21 30 (mA X qc) ∧ MV w9 X qc ∧ Box w9 g17 30 (mA X qb) ∧ MV w9 X qb ∧ Box w9 g14 30 (mA X qa) ∧ MV w9 X qa ∧ LV w9 L A9 c9 ∧ Box w9 g11 27 (eA x B d) ∧ TV w9 x B d ∧ LV w9 sb A4 c4 ∧ Box w9 g5 30 (mA m p) ∧ MV w9 m p ∧ LV w9 sa A3 c3 ∧ Below w.heap.size w w9 ∧ ErrAt w9 a from ⟨blk_below H19.out.1 hb, MV.last _ _ _ _ hb H19.out.2.1, blk_below H19.out.2.2.1 hb, MV.last _ _ _ _ hb H19.out.2.2.2.1, blk_below H19.out.2.2.2.2.1 hb, MV.last _ _ _ _ hb H19.out.2.2.2.2.2.1, blk_below H19.out.2.2.2.2.2.2.1 hb, MV.last _ _ _ _ hb H19.out.2.2.2.2.2.2.2.1, (LV.last _ _ _) _ _ hb H19.out.2.2.2.2.2.2.2.2.1, blk_below H19.out.2.2.2.2.2.2.2.2.2.1 hb, TV.last _ _ _ _ _ hb H19.out.2.2.2.2.2.2.2.2.2.2.1, (LV.last _ _ _) _ _ hb H19.out.2.2.2.2.2.2.2.2.2.2.2.1, blk_below H19.out.2.2.2.2.2.2.2.2.2.2.2.2.1 hb, MV.last _ _ _ _ hb H19.out.2.2.2.2.2.2.2.2.2.2.2.2.2.1, (LV.last _ _ _) _ _ hb H19.out.2.2.2.2.2.2.2.2.2.2.2.2.2.2.1, Below.trans H19.out.2.2.2.2.2.2.2.2.2.2.2.2.2.2.2.1 (hb.mono H19.out.2.2.2.2.2.2.2.2.2.2.2.2.2.2.2.1.size), (ErrAt.lasts _) _ _ hb H19.out.2.2.2.2.2.2.2.2.2.2.2.2.2.2.2.2⟩)
  clear H19 hb
  go_wp2
  go_ret
  exact ⟨rfl, H20.out.2.2.2.2.2.2.2.2.2.2.2.2.2.2.2.1⟩
 have hn0 : (n != 0) = true := by simp [h0]
 have HZ := Aside0.mk (show stRunV m sa f = (X, cc, lf) by have := HW2.out.1; rw [if_neg (by rw [← HN.out]; exact h0)] at this; exact this)
 clear h0
 have lb0 := H14.out.2.2.2.2.2.2.2.2.1
 go_wp2_with (first | ((with_reducible refine gate_dst (N := 100) rfl ?_); refine getM_ rfl rfl rfl rfl lb0 ?_))
 clear lb0
 refine (runI_any HZ.out p A3 c3 a w7 H14.out.2.2.2.2.2.2.2.2.2.2.2.2 H14.out.2.2.2.2.2.2.2.2.2.1 H14.out.2.2.2.2.2.2.2.2.2.2.1).mono ?_
 rintro e wqc ⟨qc, rfl, hM, hb⟩
 have H15 := Aside0.mk (show MV wqc X qc ∧ Box wqc g17 30 (mA X qb) ∧ MV wqc X qb ∧ Box wqc g14 30 (mA X qa) ∧ MV wqc X qa ∧ LV wqc L A9 c9 ∧ Box wqc g11 27 (eA x B d) ∧ TV wqc x B d ∧ LV wqc sb A4 c4 ∧ Box wqc g5 30 (mA m p) ∧ MV wqc m p ∧ LV wqc sa A3 c3 ∧ Below w.heap.size w wqc ∧ ErrAt wqc a from ⟨hM, blk_below H14.out.1 hb, MV.last _ _ _ _ hb H14.out.2.1, blk_below H14.out.2.2.1 hb, MV.last _ _ _ _ hb H14.out.2.2.2.1, (LV.last _ _ _) _ _ hb H14.out.2.2.2.2.1, blk_below H14.out.2.2.2.2.2.1 hb, TV.last _ _ _ _ _ hb H14.out.2.2.2.2.2.2.1, (LV.last _ _ _) _ _ hb H14.out.2.2.2.2.2.2.2.1, blk_below H14.out.2.2.2.2.2.2.2.2.1 hb, MV.last _ _ _ _ hb H14.out.2.2.2.2.2.2.2.2.2.1, (LV.last _ _ _) _ _ hb H14.out.2.2.2.2.2.2.2.2.2.2.1, Below.trans H14.out.2.2.2.2.2.2.2.2.2.2.2.1 (hb.mono H14.out.2.2.2.2.2.2.2.2.2.2.2.1.size), (ErrAt.lasts _) _ _ hb H14.out.2.2.2.2.2.2.2.2.2.2.2.2⟩)
 clear H14 hM hb
 go_wp2_with ((with_reducible refine gate_dst (N := 21) rfl ?_); refine new1_ (N := 21) (x := 104) (T := 30) (mA X qc) (zs := #[.slice none 0 0, .slice none 0 0, .slice none 0 0]) (mA_one _ _) ?_ ?_ ?_ ?_ ?_ ?_ ?_ ?_ ?_ ?_ ?_ ?_ ?_)
 all_goals (first | rfl | decide | (intro _ _; go_simp; done) | kernel_rfl | skip)
 intro g21 Wqc hg21 bg21 hb
 simp only [Act.put, List.setIfInBounds_toArray, List.set_cons_zero, List.set_cons_succ]
 clear hg21
 have H16 := Aside0.mk (show Box Wqc g21 30 (mA X qc) ∧ MV Wqc X qc ∧ Box Wqc g17 30 (mA X qb) ∧ MV Wqc X qb ∧ Box Wqc g14 30 (mA X qa) ∧ MV Wqc X qa ∧ LV Wqc L A9 c9 ∧ Box Wqc g11 27 (eA x B d) ∧ TV Wqc x B d ∧ LV Wqc sb A4 c4 ∧ Box Wqc g5 30 (mA m p) ∧ MV Wqc m p ∧ LV Wqc sa A3 c3 ∧ Below w.heap.size w Wqc ∧ ErrAt Wqc a from ⟨bg21, MV.last _ _ _ _ hb H15.out.1, blk_below H15.out.2.1 hb, MV.last _ _ _ _ hb H15.out.2.2.1, blk_below H15.out.2.2.2.1 hb, MV.last _ _ _ _ hb H15.out.2.2.2.2.1, (LV.last _ _ _) _ _ hb H15.out.2.2.2.2.2.1, blk_below H15.out.2.2.2.2.2.2.1 hb, TV.last _ _ _ _ _ hb H15.out.2.2.2.2.2.2.2.1, (LV.last _ _ _) _ _ hb H15.out.2.2.2.2.2.2.2.2.1, blk_below H15.out.2.2.2.2.2.2.2.2.2.1 hb, MV.last _ _ _ _ hb H15.out.2.2.2.2.2.2.2.2.2.2.1, (LV.last _ _ _) _ _ hb H15.out.2.2.2.2.2.2.2.2.2.2.2.1, Below.trans H15.out.2.2.2.2.2.2.2.2.2.2.2.2.1 (hb.mono H15.out.2.2.2.2.2.2.2.2.2.2.2.2.1.size), (ErrAt.lasts _) _ _ hb H15.out.2.2.2.2.2.2.2.2.2.2.2.2.2⟩)
 clear H15 bg21 hb
 have lb0 := H16.out.2.2.2.2.2.2.2.2.2.2.1
 go_wp2_with (first | ((with_reducible refine gate_dst (N := 108) rfl ?_); refine getM_ rfl rfl rfl rfl lb0 ?_))
 clear lb0
 refine (runI_any HW2.out.2 p none 0 a Wqc H16.out.2.2.2.2.2.2.2.2.2.2.2.2.2.2 H16.out.2.2.2.2.2.2.2.2.2.2.2.1 (LV.nil _)).mono ?_
 rintro e wqd ⟨qd, rfl, hM, hb⟩
 have H17 := Aside0.mk (show MV wqd m qd ∧ Box wqd g21 30 (mA X qc) ∧ MV wqd X qc ∧ Box wqd g17 30 (mA X qb) ∧ MV wqd X qb ∧ Box wqd g14 30 (mA X qa) ∧ MV wqd X qa ∧ LV wqd L A9 c9 ∧ Box wqd g11 27 (eA x B d) ∧ TV wqd x B d ∧ LV wqd sb A4 c4 ∧ Box wqd g5 30 (mA m p) ∧ MV wqd m p ∧ LV wqd sa A3 c3 ∧ Below w.heap.size w wqd ∧ ErrAt wqd a from ⟨hM, blk_below H16.out.1 hb, MV.last _ _ _ _ hb H16.out.2.1, blk_below H16.out.2.2.1 hb, MV.last _ _ _ _ hb H16.out.2.2.2.1, blk_below H16.out.2.2.2.2.1 hb, MV.last _ _ _ _ hb H16.out.2.2.2.2.2.1, (LV.last _ _ _) _ _ hb H16.out.2.2.2.2.2.2.1, blk_below H16.out.2.2.2.2.2.2.2.1 hb, TV.last _ _ _ _ _ hb H16.out.2.2.2.2.2.2.2.2.1, (LV.last _ _ _) _ _ hb H16.out.2.2.2.2.2.2.2.2.2.1, blk_below H16.out.2.2.2.2.2.2.2.2.2.2.1 hb, MV.last _ _ _ _ hb H16.out.2.2.2.2.2.2.2.2.2.2.2.1, (LV.last _ _ _) _ _ hb H16.out.2.2.2.2.2.2.2.2.2.2.2.2.1, Below.trans H16.out.2.2.2.2.2.2.2.2.2.2.2.2.2.1 (hb.mono H16.out.2.2.2.2.2.2.2.2.2.2.2.2.2.1.size), (ErrAt.lasts _) _ _ hb H16.out.2.2.2.2.2.2.2.2.2.2.2.2.2.2⟩)
 clear H16 hM hb
 go_wp2_with ((with_reducible refine gate_dst (N := 24) rfl ?_); refine new1_ (N := 24) (x := 111) (T := 30) (mA m qd) (zs := #[.slice none 0 0, .slice none 0 0, .slice none 0 0]) (mA_one _ _) ?_ ?_ ?_ ?_ ?_ ?_ ?_ ?_ ?_ ?_ ?_ ?_ ?_)
 all_goals (first | rfl | decide | (intro _ _; go_simp; done) | kernel_rfl | skip)
 intro g24 Wqd hg24 bg24 hb
 simp only [Act.put, List.setIfInBounds_toArray, List.set_cons_zero, List.set_cons_succ]
 clear hg24
 have H18 := Aside0.mk (show Box Wqd g24 30 (mA m qd) ∧ MV Wqd m qd ∧ Box Wqd g21 30 (mA X qc) ∧ MV Wqd X qc ∧ Box Wqd g17 30 (mA X qb) ∧ MV Wqd X qb ∧ Box Wqd g14 30 (mA X qa) ∧ MV Wqd X qa ∧ LV Wqd L A9 c9 ∧ Box Wqd g11 27 (eA x B d) ∧ TV Wqd x B d ∧ LV Wqd sb A4 c4 ∧ Box Wqd g5 30 (mA m p) ∧ MV Wqd m p ∧ LV Wqd sa A3 c3 ∧ Below w.heap.size w Wqd ∧ ErrAt Wqd a from ⟨bg24, MV.last _ _ _ _ hb H17.out.1, blk_below H17.out.2.1 hb, MV.last _ _ _ _ hb H17.out.2.2.1, blk_below H17.out.2.2.2.1 hb, MV.last _ _ _ _ hb H17.out.2.2.2.2.1, blk_below H17.out.2.2.2.2.2.1 hb, MV.last _ _ _ _ hb H17.out.2.2.2.2.2.2.1, (LV.last _ _ _) _ _ hb H17.out.2.2.2.2.2.2.2.1, blk_below H17.out.2.2.2.2.2.2.2.2.1 hb, TV.last _ _ _ _ _ hb H17.out.2.2.2.2.2.2.2.2.2.1, (LV.last _ _ _) _ _ hb H17.out.2.2.2.2.2.2.2.2.2.2.1, blk_below H17.out.2.2.2.2.2.2.2.2.2.2.2.1 hb, MV.last _ _ _ _ hb H17.out.2.2.2.2.2.2.2.2.2.2.2.2.1, (LV.last _ _ _) _ _ hb H17.out.2.2.2.2.2.2.2.2.2.2.2.2.2.1, Below.trans H17.out.2.2.2.2.2.2.2.2.2.2.2.2.2.2.1 (hb.mono H17.out.2.2.2.2.2.2.2.2.2.2.2.2.2.2.1.size), (ErrAt.lasts _) _ _ hb H17.out.2.2.2.2.2.2.2.2.2.2.2.2.2.2.2⟩)
 clear H17 bg24 hb
 have lb0 := H18.out.2.2.1
 have lb1 := H18.out.2.2.2.2.2.2.1
 go_wp2_with (first | ((with_reducible refine gate_dst (N := 123) rfl ?_); refine gate_guard rfl ?_; refine getM_ rfl rfl rfl rfl lb0 ?_) | ((with_reducible refine gate_dst (N := 124) rfl ?_); refine gate_guard rfl ?_; refine getM_ rfl rfl rfl rfl lb1 ?_))
 clear lb0 lb1
 refine (same_any X X HSH.out qc qa Wqd H18.out.2.2.2.1 H18.out.2.2.2.2.2.2.2.1).mono ?_
 rw [sameV_refl]
 rintro e w8 ⟨rfl, hb⟩
 have H19 := Aside0.mk (show Box w8 g24 30 (mA m qd) ∧ MV w8 m qd ∧ Box w8 g21 30 (mA X qc) ∧ MV w8 X qc ∧ Box w8 g17 30 (mA X qb) ∧ MV w8 X qb ∧ Box w8 g14 30 (mA X qa) ∧ MV w8 X qa ∧ LV w8 L A9 c9 ∧ Box w8 g11 27 (eA x B d) ∧ TV w8 x B d ∧ LV w8 sb A4 c4 ∧ Box w8 g5 30 (mA m p) ∧ MV w8 m p ∧ LV w8 sa A3 c3 ∧ Below w.heap.size w w8 ∧ ErrAt w8 a from ⟨blk_below H18.out.1 hb, MV.last _ _ _ _ hb H18.out.2.1, blk_below H18.out.2.2.1 hb, MV.last _ _ _ _ hb H18.out.2.2.2.1, blk_below H18.out.2.2.2.2.1 hb, MV.last _ _ _ _ hb H18.out.2.2.2.2.2.1, blk_below H18.out.2.2.2.2.2.2.1 hb, MV.last _ _ _ _ hb H18.out.2.2.2.2.2.2.2.1, (LV.last _ _ _) _ _ hb H18.out.2.2.2.2.2.2.2.2.1, blk_below H18.out.2.2.2.2.2.2.2.2.2.1 hb, TV.last _ _ _ _ _ hb H18.out.2.2.2.2.2.2.2.2.2.2.1, (LV.last _ _ _) _ _ hb H18.out.2.2.2.2.2.2.2.2.2.2.2.1, blk_below H18.out.2.2.2.2.2.2.2.2.2.2.2.2.1 hb, MV.last _ _ _ _ hb H18.out.2.2.2.2.2.2.2.2.2.2.2.2.2.1, (LV.last _ _ _) _ _ hb H18.out.2.2.2.2.2.2.2.2.2.2.2.2.2.2.1, Below.trans H18.out.2.2.2.2.2.2.2.2.2.2.2.2.2.2.2.1 (hb.mono H18.out.2.2.2.2.2.2.2.2.2.2.2.2.2.2.2.1.size), (ErrAt.lasts _) _ _ hb H18.out.2.2.2.2.2.2.2.2.2.2.2.2.2.2.2.2⟩)
 clear H18 hb
 have lb0 := H19.out.1
 have lb1 := H19.out.2.2.2.2.2.2.2.2.2.2.2.2.1
 go_wp2_with (first | ((with_reducible refine gate_dst (N := 137) rfl ?_); refine gate_guard rfl ?_; refine getM_ rfl rfl rfl rfl lb0 ?_) | ((with_reducible refine gate_dst (N := 138) rfl ?_); refine gate_guard rfl ?_; refine getM_ rfl rfl rfl rfl lb1 ?_))
 clear lb0 lb1
 refine (same_any m m HMM.out qd p w8 H19.out.2.1 H19.out.2.2.2.2.2.2.2.2.2.2.2.2.2.1).mono ?_
 rw [sameV_refl]
 rintro e w9 ⟨rfl, hb⟩
 have H20 := Aside0.mk (show Box w9 g24 30 (mA m qd) ∧ MV w9 m qd ∧ Box w9 g21 30 (mA X qc) ∧ MV w9 X qc ∧ Box w9 g17 30 (mA X qb) ∧ MV w9 X qb ∧ Box w9 g14 30 (mA X qa) ∧ MV w9 X qa ∧ LV w9 L A9 c9 ∧ Box w9 g11 27 (eA x B d) ∧ TV w9 x B d ∧ LV w9 sb A4 c4 ∧ Box w9 g5 30 (mA m p) ∧ MV w9 m p ∧ LV w9 sa A3 c3 ∧ Below w.heap.size w w9 ∧ ErrAt w9 a from ⟨blk_below H19.out.1 hb, MV.last _ _ _ _ hb H19.out.2.1, blk_below H19.out.2.2.1 hb, MV.last _ _ _ _ hb H19.out.2.2.2.1, blk_below H19.out.2.2.2.2.1 hb, MV.last _ _ _ _ hb H19.out.2.2.2.2.2.1, blk_below H19.out.2.2.2.2.2.2.1 hb, MV.last _ _ _ _ hb H19.out.2.2.2.2.2.2.2.1, (LV.last _ _ _) _ _ hb H19.out.2.2.2.2.2.2.2.2.1, blk_below H19.out.2.2.2.2.2.2.2.2.2.1 hb, TV.last _ _ _ _ _ hb H19.out.2.2.2.2.2.2.2.2.2.2.1, (LV.last _ _ _) _ _ hb H19.out.2.2.2.2.2.2.2.2.2.2.2.1, blk_below H19.out.2.2.2.2.2.2.2.2.2.2.2.2.1 hb, MV.last _ _ _ _ hb H19.out.2.2.2.2.2.2.2.2.2.2.2.2.2.1, (LV.last _ _ _) _ _ hb H19.out.2.2.2.2.2.2.2.2.2.2.2.2.2.2.1, Below.trans H19.out.2.2.2.2.2.2.2.2.2.2.2.2.2.2.2.1 (hb.mono H19.out.2.2.2.2.2.2.2.2.2.2.2.2.2.2.2.1.size), (ErrAt.lasts _) _ _ hb H19.out.2.2.2.2.2.2.2.2.2.2.2.2.2.2.2.2⟩)
 clear H19 hb
 go_wp2
 go_ret
 exact ⟨rfl, H20.out.2.2.2.2.2.2.2.2.2.2.2.2.2.2.2.1⟩
end Go.Proofs.YtendbgedpjcocaaGreatDoor.B
