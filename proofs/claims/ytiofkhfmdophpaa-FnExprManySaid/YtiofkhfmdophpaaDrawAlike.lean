/- What is drawn to be compared: the same tree twice, the second's number moved by one or not. -/
import Derived.Test.YtiofkhfmdophpaaValAll
import Derived.Test.YtiofkhfmdophpaaWeaveAll
import Derived.Test.YtiofkhfmdophpaaPkA
import Derived.Test.YtiofkhfmdophpaaPkB
namespace Go.Proofs.Ytiofkhfmdophpaa.B
open Go Go.RowKit Go.Proofs.YtiofkhfmdophpaaW.PrintWords Go.Proofs.YtiofkhfmdophpaaW.PrintLast Go.Proofs.YtiofkhfmdophpaaW.PrintMore
set_option linter.unusedVariables false

def OpenC (l s : List Int) : Prop := ∀ A c W, Kd.C (Kd.int .u8) W A l.length l → l.length ≤ c → Calls Try.prog 75 #[.slice A l.length c] W fun e W' => ∃ g, e = .returned (.pointer (some ⟨g, 0, none⟩)) ∧ IsS132 W W' g s 0 ∧ Below W.heap.size W W'
def BentC (s : List Int) (x : Ex) : Prop := ∀ (w W : World) (g : Nat), IsS132 w W g s 0 → Below w.heap.size w W → Calls Try.prog 76 #[.pointer (some ⟨g, 0, none⟩)] W fun e W' => ∃ B d, e = .returned (.agg (eA x B d)) ∧ TVo W' (fun k => W.heap.size ≤ k) x B d ∧ Below w.heap.size w W'
theorem bent_con (l : List Int) (hw : ∀ x ∈ l, (Lit.int .u8 x).wf = true) : ∃ (s : List Int) (x : Ex), Tiny x ∧ OpenC l s ∧ BentC s x := by
 obtain ⟨s, hs, hl, ho⟩ := open_total l hw
 obtain ⟨e, p1, K, he, q1, q2, h1⟩ := bent_total s hs hl 0 (by omega) (by omega)
 refine ⟨s, e, he, fun A c W hC hc => ?_, fun w W g hI hB => ?_⟩
 ·refine (spec_l12Open.calls A c l s 0 W W (Below.refl _ _) hC hc ho).mono ?_
  rintro en W' ⟨g, rfl, hi, hb, _⟩
  exact ⟨g, rfl, hi, hb⟩
 ·refine (spec_l3Bent.calls K g s 0 e.f0 e.f1 e.f2.f0 e.f2.f1 e.f3 p1 w W hI hB (h1 K (Nat.le_refl _))).mono ?_
  rintro en W' ⟨v, rfl, hN, hi, hb, _⟩
  obtain ⟨B, d, rfl⟩ := Kd.N_slice hN
  exact ⟨B, d, rfl, TV.ofN hN fun _ hk => hk, hb⟩
/-- What two stores leave. -/
structure Put2 (g h : Nat) (W W' : World) : Prop where
 os : W'.os = W.os
 tape : W'.tape = W.tape
 output : W'.output = W.output
 size : W'.heap.size = W.heap.size
 far : ∀ j, j ≠ g → j ≠ h → W'.heap[j]? = W.heap[j]?
theorem Put2.refl (g h : Nat) (W : World) : Put2 g h W W := ⟨rfl, rfl, rfl, rfl, fun _ _ _ => rfl⟩
theorem Put2.step1 {g h : Nat} {a b c : World} (k : Put2 g h a b) (p : Put1 g b c) : Put2 g h a c := ⟨p.os.trans k.os, p.tape.trans k.tape, p.output.trans k.output, p.size.trans k.size, fun j h1 h2 => (p.far j h1).trans (k.far j h1 h2)⟩
theorem Put2.step2 {g h : Nat} {a b c : World} (k : Put2 g h a b) (p : Put1 h b c) : Put2 g h a c := ⟨p.os.trans k.os, p.tape.trans k.tape, p.output.trans k.output, p.size.trans k.size, fun j h1 h2 => (p.far j h2).trans (k.far j h1 h2)⟩
section
variable {P : Program} {ops : Array Oper} {o : Oper} {b : Act} {W : World} {Ψ : Value → World → Prop}
/-- A box is written whole: one operation. -/
theorem stepPut {T : TypeId} {p : Tmp} {x : Operand} (hw : Region.wanted o (yielded ops b.tmps) = true) (ho : o.op = .store T (.tmp p) x) {g : Nat} {cs : Array Value} (hp : b.eval (.tmp p) = .pointer (some ⟨g, 0, none⟩)) (cs' : Array Value) (hx : b.eval x = .agg cs')
  (hb : Box W g T cs) (hs : cs'.size = cs.size) (hi : (P.info? T).map (·.size) = some cs'.size) (h1 : cs'.all (·.oneCell') = true) (h : ∀ W', Box W' g T cs' → Put1 g W W' → Ψ undef W') : StepOK P ops o b W Ψ := by
 have hrun : (execOp b.eval o).run P W = .ok .skip (W.setCells g 0 cs'.toList) := by
  unfold execOp
  simp only [ho, hp, hx, Instr.storeAt, Instr.sureAddr, Sem.run_bind, Sem.run_pure, Result.andThen_ok, run_storeVar_mid W g 0 T cs' (by rw [hs]; exact Box.there hb) hi h1]
 intro K Q hK
 rw [if_pos hw]
 unfold Oper.wp
 rw [hrun]
 exact hK undef _ (h _ (setCells_box hb hs) (setCells_put1 g _ 0 W))
end
/-- Blocks apart from the results', below n. -/
abbrev Sq (q r n : Nat) (k : Nat) : Prop := k ≠ q ∧ k ≠ r ∧ k < n
/-- The second's tree. -/
def movedE (x : Ex) : Ex := ⟨x.f0, wrap64 (x.f1 + 1), ⟨x.f2.f0, x.f2.f1⟩, x.f3⟩
set_option maxRecDepth 100000 in
set_option maxHeartbeats 4000000 in
/-- The two results are filled. -/
theorem two_out {id : Nat} {Q : Exit → Act → World → Prop} {a0 : Act} {W : World} (ops : Array Oper) (o0 o1 o2 o3 : Oper) (hops : ops = #[o0, o1, o2, o3]) (hB : weaveB ops [(26, 0), (27, 1)] = true)
  (h0 : o0.op = .load 32 (.tmp 4)) (h1 : o1.op = .load 32 (.tmp 5)) (h2 : o2.op = .store 32 (.tmp 2) (.tmp 26)) (h3 : o3.op = .store 32 (.tmp 3) (.tmp 27)) (n0 : o0.guard = none) (n1 : o1.guard = none) (n2 : o2.guard = none) (n3 : o3.guard = none)
  (w2 : 0 ∈ waitsOn o2) (w3 : 1 ∈ waitsOn o3) (hs26 : 26 < a0.tmps.size) (hs27 : 27 < a0.tmps.size) (q2 q3 g4 g5 : Nat) (cx cy : Array Value) (hx : cx.size = 5) (hy : cy.size = 5) (hx1 : cx.all (·.oneCell') = true) (hy1 : cy.all (·.oneCell') = true)
  (t2 : a0.eval (.tmp 2) = .pointer (some ⟨q2, 0, none⟩)) (t3 : a0.eval (.tmp 3) = .pointer (some ⟨q3, 0, none⟩)) (t4 : a0.eval (.tmp 4) = .pointer (some ⟨g4, 0, none⟩)) (t5 : a0.eval (.tmp 5) = .pointer (some ⟨g5, 0, none⟩))
  (b2 : Box W q2 32 eZ) (b3 : Box W q3 32 eZ) (b4 : Box W g4 32 cx) (b5 : Box W g5 32 cy) (n24 : g4 ≠ q2) (n34 : g4 ≠ q3) (n25 : g5 ≠ q2) (n35 : g5 ≠ q3) (n23 : q2 ≠ q3)
  (hend : ∀ W', Box W' q2 32 cx → Box W' q3 32 cy → Put2 q2 q3 W W' → Q .normal ((a0.put (some 26) (.agg cx)).put (some 27) (.agg cy)) W') : (Code.region id ops true).wp Try.prog Q a0 W := by
 refine weave (fun l vs W' => Put2 q2 q3 W W' ∧ (l 0 = true → vs 0 = .agg cx) ∧ (l 1 = true → vs 1 = .agg cy) ∧ Box W' q2 32 (if l 2 = true then cx else eZ) ∧ Box W' q3 32 (if l 3 = true then cy else eZ)) [(26, 0), (27, 1)] rfl hB ⟨⟨rfl, rfl, rfl, rfl, (fun _ _ _ => rfl)⟩, (fun h => absurd h (by simp)), (fun h => absurd h (by simp)), b2, b3⟩ ?_ ?_
 ·intro i o ho l vs W' ⟨hp, f0, f1, k2, k3⟩ hli hw b hsee
  have w26 : ∀ v, o.op = .store 32 (.tmp 2) (.tmp 26) → 0 ∈ waitsOn o → vs 0 = v → b.eval (.tmp 26) = v := fun v _ hh e => (hsee.ev 26 0 (by simp [hh, hs26])).trans e
  have w27 : ∀ v, 1 ∈ waitsOn o → vs 1 = v → b.eval (.tmp 27) = v := fun v hh e => (hsee.ev 27 1 (by simp [hh, hs27])).trans e
  have d4 : Box W' g4 32 cx := (hp.far g4 n24 n34).trans b4
  have d5 : Box W' g5 32 cy := (hp.far g5 n25 n35).trans b5
  have hi : i < 4 := by
   have := (Array.getElem?_eq_some_iff.1 ho).1
   rw [hops] at this
   simpa using this
  rw [hops] at ho
  rcases (show i = 0 ∨ i = 1 ∨ i = 2 ∨ i = 3 by omega) with rfl | rfl | rfl | rfl
  ·obtain rfl : o0 = o := Option.some.inj ho
   refine stepGet (by simp [Region.wanted, n0]) h0 ((hsee.old 4 rfl).trans t4) d4 Try.underlying32 rfl (by rw [hx]; kernel_rfl) ⟨hp, fun _ => rfl, fun h => by simpa using f1 (by simpa using h), by simpa using k2, by simpa using k3⟩
  ·obtain rfl : o1 = o := Option.some.inj ho
   refine stepGet (by simp [Region.wanted, n1]) h1 ((hsee.old 5 rfl).trans t5) d5 Try.underlying32 rfl (by rw [hy]; kernel_rfl) ⟨hp, fun h => by simpa using f0 (by simpa using h), fun _ => rfl, by simpa using k2, by simpa using k3⟩
  ·obtain rfl : o2 = o := Option.some.inj ho
   rw [hli] at k2
   refine stepPut (by simp [Region.wanted, n2]) h2 ((hsee.old 2 rfl).trans t2) cx (w26 _ h2 w2 (f0 (hw 0 w2))) k2 hx (by rw [hx]; kernel_rfl) hx1 fun W2 e1 e2 => ⟨hp.step1 e2, fun h => by simpa using f0 (by simpa using h), fun h => by simpa using f1 (by simpa using h), by simpa using e1, ?_⟩
   simpa using Box.put1 k3 e2 (Ne.symm n23)
  ·obtain rfl : o3 = o := Option.some.inj ho
   rw [hli] at k3
   refine stepPut (by simp [Region.wanted, n3]) h3 ((hsee.old 3 rfl).trans t3) cy (w27 _ w3 (f1 (hw 1 w3))) k3 hy (by rw [hy]; kernel_rfl) hy1 fun W2 e1 e2 => ⟨hp.step2 e2, fun h => by simpa using f0 (by simpa using h), fun h => by simpa using f1 (by simpa using h), ?_, by simpa using e1⟩
   simpa using Box.put1 k2 e2 n23
 ·intro l vs W' hl ⟨hp, f0, f1, k2, k3⟩
  have hsz : ops.size = 4 := by rw [hops]; rfl
  rw [hl 2 (by omega), if_pos rfl] at k2
  rw [hl 3 (by omega), if_pos rfl] at k3
  have := hend W' k2 k3 hp
  simp only [List.map_cons, List.map_nil, putL, f0 (hl 0 (by omega)), f1 (hl 1 (by omega))]
  exact this
set_option maxRecDepth 100000 in
set_option maxHeartbeats 4000000 in
theorem drawAlike_any (l : List Int) (hw : ∀ x ∈ l, (Lit.int .u8 x).wf = true) : ∃ (x y : Ex), Tiny x ∧ (y = x ∨ y = movedE x) ∧ ∀ A c w, Kd.C (Kd.int .u8) w A l.length l → l.length ≤ c →
  Calls Try.prog 47 #[.slice A l.length c] w fun e W' => ∃ B d B' d', e = .returned (.tuple #[.agg (eA x B d), .agg (eA y B' d')]) ∧ TV W' x B d ∧ TV W' y B' d' ∧ Below w.heap.size w W' := by
 obtain ⟨s, x, hx, hO, hBt⟩ := bent_con l hw
 obtain ⟨y, hy⟩ : ∃ y, y = if (rd l 0).tmod 2 = 1 then movedE x else x := ⟨_, rfl⟩
 refine ⟨x, y, hx, by rw [hy]; split <;> simp, fun A c w hC hc => ?_⟩
 have mixed : Try.prog.follows .mixedOrders = true := rfl
 have HC := Aside0.mk (And.intro hC hc)
 have HO := Aside0.mk (And.intro hO hBt)
 have HY := Aside0.mk (And.intro hy hx)
 clear hC hc hO hBt hy hx hw
 go_enter Try.func47, Try.ntmps47
 go_wp2_with (first
  | ((with_reducible refine gate_dst (N := 2) rfl ?_); refine boxNew_ (N := 2) rfl rfl eZ 32 (by first | (go_simp; done) | (go_simp; rfl)) ?_; intro g2 V1 hg2 b2 hb2; subst hg2)
  | ((with_reducible refine gate_dst (N := 3) rfl ?_); refine boxNew_ (N := 3) rfl rfl eZ 32 (by first | (go_simp; done) | (go_simp; rfl)) ?_; intro g3 V2 hg3 b3 hb3; subst hg3))
 have hne : w.heap.size ≠ V1.heap.size := fun e => by
  have := blk_lt b2
  omega
 have H1 := Aside0.mk (show Box V2 w.heap.size 32 eZ ∧ Box V2 V1.heap.size 32 eZ ∧ w.heap.size ≠ V1.heap.size ∧ w.heap.size ≤ V1.heap.size ∧ Below w.heap.size w V2 from ⟨blk_below b2 hb3, b3, hne, hb2.size, hb2.trans (hb3.mono hb2.size)⟩)
 clear hne b2 b3 hb2 hb3
 obtain ⟨q2, e2⟩ : ∃ q, q = w.heap.size := ⟨_, rfl⟩
 obtain ⟨q3, e3⟩ : ∃ q, q = V1.heap.size := ⟨_, rfl⟩
 rw [← e2, ← e3] at H1 ⊢
 have E2 := Aside0.mk e2
 clear e2 e3
 refine (HO.out.1 A c V2 (Kd.C_below HC.out.1 (E2.out ▸ H1.out.2.2.2.2)) HC.out.2).mono ?_
 rintro e w1 ⟨g, rfl, hi, hb⟩
 have H2 := Aside0.mk (And.intro hi hb)
 clear hi hb
 go_wp2_with fail
 refine (HO.out.2 V2 w1 g H2.out.1 H2.out.2).mono ?_
 rintro e w2 ⟨B, d, rfl, hT, hb2⟩
 have T3 : TVo w2 (Sq q2 q3 w2.heap.size) x B d := ⟨Kd.V_mono (Kd.V_bound hT.v) fun k hk => by
  have a1 := blk_lt H1.out.1
  have a2 := blk_lt H1.out.2.1
  have a3 := H2.out.2.size
  exact ⟨by omega, by omega, hk.2⟩⟩
 have H3 := Aside0.mk (show TVo w2 (Sq q2 q3 w2.heap.size) x B d ∧ Box w2 q2 32 eZ ∧ Box w2 q3 32 eZ ∧ Below q2 w w2 from ⟨T3, blk_below H1.out.1 hb2, blk_below H1.out.2.1 hb2, H1.out.2.2.2.2.trans (hb2.mono (by rw [E2.out]; exact H1.out.2.2.2.2.size))⟩)
 clear hT hb2 H2 T3
 go_wp2_with ((with_reducible refine gate_dst (N := 4) rfl ?_); refine new1_ (N := 4) (x := 8) (T := 32) (eA x B d) (zs := #[.int .i64 0, .int .i64 0, .int .i64 0, .int .i64 0, .slice none 0 0]) (eA_one _ _ _) ?_ ?_ ?_ ?_ ?_ ?_ ?_ ?_ ?_ ?_ ?_ ?_ ?_)
 all_goals (first | rfl | decide | (intro _ _; go_simp; done) | kernel_rfl | skip)
 intro g4 W1 hg4 bg4 hb
 simp only [Act.put, List.setIfInBounds_toArray, List.set_cons_zero, List.set_cons_succ]
 have hW1 : w.heap.size ≤ w2.heap.size := H3.out.2.2.2.size
 have H4 := Aside0.mk (show TVo W1 (Sq q2 q3 W1.heap.size) x B d ∧ Box W1 q2 32 eZ ∧ Box W1 q3 32 eZ ∧ Box W1 g4 32 (eA x B d) ∧ q2 ≠ g4 ∧ q3 ≠ g4 ∧ Below q2 w W1 from ⟨⟨Kd.V_mono (Kd.V_below H3.out.1.v hb) fun k hk => ⟨hk.1, hk.2.1, Nat.lt_of_lt_of_le hk.2.2 hb.size⟩⟩, blk_below H3.out.2.1 hb, blk_below H3.out.2.2.1 hb, bg4, Nat.ne_of_lt (Nat.lt_of_lt_of_le (blk_lt H3.out.2.1) hg4), Nat.ne_of_lt (Nat.lt_of_lt_of_le (blk_lt H3.out.2.2.1) hg4), H3.out.2.2.2.trans (hb.mono (by rw [E2.out]; exact hW1))⟩)
 clear hb bg4 hg4 H3 hW1
 go_wp2_with fail
 refine (HO.out.1 A c W1 (Kd.C_below HC.out.1 (E2.out ▸ H4.out.2.2.2.2.2.2)) HC.out.2).mono ?_
 rintro e w3 ⟨g, rfl, hi, hb⟩
 have H2 := Aside0.mk (And.intro hi hb)
 clear hi hb
 go_wp2_with fail
 refine (HO.out.2 W1 w3 g H2.out.1 H2.out.2).mono ?_
 rintro e w4 ⟨B', d', rfl, hT, hb2⟩
 have hW1 : w.heap.size ≤ W1.heap.size := H4.out.2.2.2.2.2.2.size
 have T5 : TVo w4 (Sq q2 q3 w4.heap.size) x B' d' := ⟨Kd.V_mono (Kd.V_bound hT.v) fun k hk => by
  have a1 := blk_lt H4.out.2.1
  have a2 := blk_lt H4.out.2.2.1
  have a3 := H2.out.2.size
  exact ⟨by omega, by omega, hk.2⟩⟩
 have H5 := Aside0.mk (show TVo w4 (Sq q2 q3 w4.heap.size) x B d ∧ TVo w4 (Sq q2 q3 w4.heap.size) x B' d' ∧ Box w4 q2 32 eZ ∧ Box w4 q3 32 eZ ∧ Box w4 g4 32 (eA x B d) ∧ q2 ≠ g4 ∧ q3 ≠ g4 ∧ Below q2 w w4 from ⟨⟨Kd.V_mono (Kd.V_below H4.out.1.v hb2) fun k hk => ⟨hk.1, hk.2.1, Nat.lt_of_lt_of_le hk.2.2 hb2.size⟩⟩, T5, blk_below H4.out.2.1 hb2, blk_below H4.out.2.2.1 hb2, blk_below H4.out.2.2.2.1 hb2, H4.out.2.2.2.2.1, H4.out.2.2.2.2.2.1, H4.out.2.2.2.2.2.2.trans (hb2.mono (by rw [E2.out]; exact hW1))⟩)
 clear hT hb2 H2 H4 hW1 T5
 go_wp2_with ((with_reducible refine gate_dst (N := 5) rfl ?_); refine new1_ (N := 5) (x := 11) (T := 32) (eA x B' d') (zs := #[.int .i64 0, .int .i64 0, .int .i64 0, .int .i64 0, .slice none 0 0]) (eA_one _ _ _) ?_ ?_ ?_ ?_ ?_ ?_ ?_ ?_ ?_ ?_ ?_ ?_ ?_)
 all_goals (first | rfl | decide | (intro _ _; go_simp; done) | kernel_rfl | skip)
 intro g5 W2 hg5 bg5 hb
 simp only [Act.put, List.setIfInBounds_toArray, List.set_cons_zero, List.set_cons_succ]
 have hW1 : w.heap.size ≤ w4.heap.size := H5.out.2.2.2.2.2.2.2.size
 have H6 := Aside0.mk (show TVo W2 (fun k => k ≠ q2 ∧ k ≠ q3 ∧ k ≠ g5) x B d ∧ TVo W2 (fun k => k ≠ q2 ∧ k ≠ q3 ∧ k ≠ g5) x B' d' ∧ Box W2 q2 32 eZ ∧ Box W2 q3 32 eZ ∧ Box W2 g4 32 (eA x B d) ∧ Box W2 g5 32 (eA x B' d') ∧ (q2 ≠ g4 ∧ q3 ≠ g4 ∧ q2 ≠ g5 ∧ q3 ≠ g5 ∧ g4 ≠ g5 ∧ q2 ≠ q3 ∧ w.heap.size ≤ q2 ∧ w.heap.size ≤ q3 ∧ w.heap.size ≤ g5) ∧ Below w.heap.size w W2 from
  ⟨⟨Kd.V_mono (Kd.V_below H5.out.1.v hb) fun k hk => ⟨hk.1, hk.2.1, Nat.ne_of_lt (Nat.lt_of_lt_of_le hk.2.2 hg5)⟩⟩, ⟨Kd.V_mono (Kd.V_below H5.out.2.1.v hb) fun k hk => ⟨hk.1, hk.2.1, Nat.ne_of_lt (Nat.lt_of_lt_of_le hk.2.2 hg5)⟩⟩, blk_below H5.out.2.2.1 hb, blk_below H5.out.2.2.2.1 hb, blk_below H5.out.2.2.2.2.1 hb, bg5, ⟨H5.out.2.2.2.2.2.1, H5.out.2.2.2.2.2.2.1, Nat.ne_of_lt (Nat.lt_of_lt_of_le (blk_lt H5.out.2.2.1) hg5), Nat.ne_of_lt (Nat.lt_of_lt_of_le (blk_lt H5.out.2.2.2.1) hg5), Nat.ne_of_lt (Nat.lt_of_lt_of_le (blk_lt H5.out.2.2.2.2.1) hg5), H1.out.2.2.1, Nat.le_of_eq E2.out.symm, by have := H1.out.2.2.2.1; have := E2.out; omega, Nat.le_trans hW1 hg5⟩, E2.out ▸ H5.out.2.2.2.2.2.2.2.trans (hb.mono (by rw [E2.out]; exact hW1))⟩)
 clear hb bg5 hg5 H5 H1 hW1
 by_cases hl : 0 < l.length
 ·obtain ⟨ad, e0, c0⟩ := Kd.at_int (Kd.C_below HC.out.1 H6.out.2.2.2.2.2.2.2) 0 (by omega) (by omega)
  subst e0
  have b0 : decide ((0 : Int) < (l.length : Int)) = true := decide_eq_true (by omega)
  obtain ⟨a0, ha0⟩ : ∃ a, a = rd l 0 := ⟨_, rfl⟩
  rw [← ha0] at c0 HY
  clear ha0
  have c0' : W2.cell? ad = some (.int .u8 a0) := by
   have hz : ad.add (0 : Int).toNat = ad := Addr.add_zero' ad
   rw [hz] at c0
   exact c0
  clear c0
  by_cases hp : a0.tmod 2 = 1
  ·have b1 : decide (a0.tmod 2 = 1) = true := decide_eq_true hp
   have lc := Box.cell H6.out.2.2.2.2.2.1 1 (.int .i64 x.f1) rfl
   obtain ⟨lc1, lc2⟩ := lc
   go_upto_region 5 with fail
   have b' := blk_set H6.out.2.2.2.2.2.1 1 (.int .i64 (wrap64 (x.f1 + 1)))
   have hp' : Put1 g5 W2 (W2.setCell ⟨g5, 1, none⟩ (.int .i64 (wrap64 (x.f1 + 1)))) := ⟨rfl, rfl, rfl, by simp [World.setCell], fun j hj => Below.heap_setCell _ _ _ _ hj⟩
   generalize W2.setCell ⟨g5, 1, none⟩ (.int .i64 (wrap64 (x.f1 + 1))) = W3 at b' hp' ⊢
   have hyx : y = movedE x := by rw [HY.out.1, if_pos hp]
   subst hyx
   have hb7 : Below w.heap.size w W3 := hp'.below H6.out.2.2.2.2.2.2.2 H6.out.2.2.2.2.2.2.1.2.2.2.2.2.2.2.2
   have H7 := Aside0.mk (show TVo W3 (fun k => k ≠ q2 ∧ k ≠ q3 ∧ k ≠ g5) x B d ∧ TVo W3 (fun k => k ≠ q2 ∧ k ≠ q3 ∧ k ≠ g5) (movedE x) B' d' ∧ Box W3 q2 32 eZ ∧ Box W3 q3 32 eZ ∧ Box W3 g4 32 (eA x B d) ∧ Box W3 g5 32 (eA (movedE x) B' d') ∧ Below w.heap.size w W3 from
    ⟨⟨Kd.V_step H6.out.1.v fun j hj _ => hp'.far j hj.2.2⟩, ⟨Kd.V_step H6.out.2.1.v fun j hj _ => hp'.far j hj.2.2⟩, H6.out.2.2.1.put1 hp' H6.out.2.2.2.2.2.2.1.2.2.1, H6.out.2.2.2.1.put1 hp' H6.out.2.2.2.2.2.2.1.2.2.2.1, H6.out.2.2.2.2.1.put1 hp' H6.out.2.2.2.2.2.2.1.2.2.2.2.1, b', hb7⟩)
   refine two_out _ _ _ _ _ rfl (by kernel_rfl) rfl rfl rfl rfl rfl rfl rfl rfl (by decide) (by decide) (by simp) (by simp) q2 q3 g4 g5 (eA x B d) (eA (movedE x) B' d') rfl rfl (eA_one _ _ _) (eA_one _ _ _) rfl rfl rfl rfl H7.out.2.2.1 H7.out.2.2.2.1 H7.out.2.2.2.2.1 H7.out.2.2.2.2.2.1 (Ne.symm H6.out.2.2.2.2.2.2.1.1) (Ne.symm H6.out.2.2.2.2.2.2.1.2.1) (Ne.symm H6.out.2.2.2.2.2.2.1.2.2.1) (Ne.symm H6.out.2.2.2.2.2.2.1.2.2.2.1) H6.out.2.2.2.2.2.2.1.2.2.2.2.2.1 fun W4 r2 r3 r4 => ?_
   have HT := Aside0.mk (show TV W4 x B d ∧ TV W4 (movedE x) B' d' ∧ Below w.heap.size w W4 from
    ⟨⟨Kd.V_mono (Kd.V_step H7.out.1.v fun j hj _ => r4.far j hj.1 hj.2.1) fun _ _ => trivial⟩, ⟨Kd.V_mono (Kd.V_step H7.out.2.1.v fun j hj _ => r4.far j hj.1 hj.2.1) fun _ _ => trivial⟩, Below.trans H7.out.2.2.2.2.2.2 ⟨r4.os, r4.tape, r4.output, by rw [r4.size]; exact Nat.le_refl _, fun k hk => r4.far k (by have := H6.out.2.2.2.2.2.2.1.2.2.2.2.2.2.1; omega) (by have := H6.out.2.2.2.2.2.2.1.2.2.2.2.2.2.2.1; omega)⟩⟩)
   simp only [Act.put, List.setIfInBounds_toArray, List.set_cons_zero, List.set_cons_succ]
   go_wp2_with fail
   refine bodyPost_ret (results_cc rfl _ _ q2 q3 32 32 (eA x B d) (eA (movedE x) B' d') (0, 0) (0, 0) _ _ rfl r2 Try.underlying32 rfl (by kernel_rfl) rfl r3 Try.underlying32 rfl (by kernel_rfl)) rfl ?_
   exact ⟨B, d, B', d', rfl, HT.out⟩

  ·have b1 : decide (a0.tmod 2 = 1) = false := decide_eq_false hp
   go_wp2_with fail
   have hyx : y = x := by rw [HY.out.1, if_neg hp]
   subst hyx
   have H7 := Aside0.mk (show TVo W2 (fun k => k ≠ q2 ∧ k ≠ q3 ∧ k ≠ g5) y B d ∧ TVo W2 (fun k => k ≠ q2 ∧ k ≠ q3 ∧ k ≠ g5) y B' d' ∧ Box W2 q2 32 eZ ∧ Box W2 q3 32 eZ ∧ Box W2 g4 32 (eA y B d) ∧ Box W2 g5 32 (eA y B' d') ∧ Below w.heap.size w W2 from ⟨H6.out.1, H6.out.2.1, H6.out.2.2.1, H6.out.2.2.2.1, H6.out.2.2.2.2.1, H6.out.2.2.2.2.2.1, H6.out.2.2.2.2.2.2.2⟩)
   refine two_out _ _ _ _ _ rfl (by kernel_rfl) rfl rfl rfl rfl rfl rfl rfl rfl (by decide) (by decide) (by simp) (by simp) q2 q3 g4 g5 (eA y B d) (eA y B' d') rfl rfl (eA_one _ _ _) (eA_one _ _ _) rfl rfl rfl rfl H7.out.2.2.1 H7.out.2.2.2.1 H7.out.2.2.2.2.1 H7.out.2.2.2.2.2.1 (Ne.symm H6.out.2.2.2.2.2.2.1.1) (Ne.symm H6.out.2.2.2.2.2.2.1.2.1) (Ne.symm H6.out.2.2.2.2.2.2.1.2.2.1) (Ne.symm H6.out.2.2.2.2.2.2.1.2.2.2.1) H6.out.2.2.2.2.2.2.1.2.2.2.2.2.1 fun W4 r2 r3 r4 => ?_
   have HT := Aside0.mk (show TV W4 y B d ∧ TV W4 y B' d' ∧ Below w.heap.size w W4 from
    ⟨⟨Kd.V_mono (Kd.V_step H7.out.1.v fun j hj _ => r4.far j hj.1 hj.2.1) fun _ _ => trivial⟩, ⟨Kd.V_mono (Kd.V_step H7.out.2.1.v fun j hj _ => r4.far j hj.1 hj.2.1) fun _ _ => trivial⟩, Below.trans H7.out.2.2.2.2.2.2 ⟨r4.os, r4.tape, r4.output, by rw [r4.size]; exact Nat.le_refl _, fun k hk => r4.far k (by have := H6.out.2.2.2.2.2.2.1.2.2.2.2.2.2.1; omega) (by have := H6.out.2.2.2.2.2.2.1.2.2.2.2.2.2.2.1; omega)⟩⟩)
   simp only [Act.put, List.setIfInBounds_toArray, List.set_cons_zero, List.set_cons_succ]
   go_wp2_with fail
   refine bodyPost_ret (results_cc rfl _ _ q2 q3 32 32 (eA y B d) (eA y B' d') (0, 0) (0, 0) _ _ rfl r2 Try.underlying32 rfl (by kernel_rfl) rfl r3 Try.underlying32 rfl (by kernel_rfl)) rfl ?_
   exact ⟨B, d, B', d', rfl, HT.out⟩

 ·have b0 : decide ((0 : Int) < (l.length : Int)) = false := decide_eq_false (by omega)
  go_wp2_with fail
  have hyx : y = x := by
   rw [HY.out.1, if_neg]
   have : l = [] := List.length_eq_zero_iff.1 (by omega)
   rw [this]
   decide
  subst hyx
  have H7 := Aside0.mk (show TVo W2 (fun k => k ≠ q2 ∧ k ≠ q3 ∧ k ≠ g5) y B d ∧ TVo W2 (fun k => k ≠ q2 ∧ k ≠ q3 ∧ k ≠ g5) y B' d' ∧ Box W2 q2 32 eZ ∧ Box W2 q3 32 eZ ∧ Box W2 g4 32 (eA y B d) ∧ Box W2 g5 32 (eA y B' d') ∧ Below w.heap.size w W2 from ⟨H6.out.1, H6.out.2.1, H6.out.2.2.1, H6.out.2.2.2.1, H6.out.2.2.2.2.1, H6.out.2.2.2.2.2.1, H6.out.2.2.2.2.2.2.2⟩)
  refine two_out _ _ _ _ _ rfl (by kernel_rfl) rfl rfl rfl rfl rfl rfl rfl rfl (by decide) (by decide) (by simp) (by simp) q2 q3 g4 g5 (eA y B d) (eA y B' d') rfl rfl (eA_one _ _ _) (eA_one _ _ _) rfl rfl rfl rfl H7.out.2.2.1 H7.out.2.2.2.1 H7.out.2.2.2.2.1 H7.out.2.2.2.2.2.1 (Ne.symm H6.out.2.2.2.2.2.2.1.1) (Ne.symm H6.out.2.2.2.2.2.2.1.2.1) (Ne.symm H6.out.2.2.2.2.2.2.1.2.2.1) (Ne.symm H6.out.2.2.2.2.2.2.1.2.2.2.1) H6.out.2.2.2.2.2.2.1.2.2.2.2.2.1 fun W4 r2 r3 r4 => ?_
  have HT := Aside0.mk (show TV W4 y B d ∧ TV W4 y B' d' ∧ Below w.heap.size w W4 from
   ⟨⟨Kd.V_mono (Kd.V_step H7.out.1.v fun j hj _ => r4.far j hj.1 hj.2.1) fun _ _ => trivial⟩, ⟨Kd.V_mono (Kd.V_step H7.out.2.1.v fun j hj _ => r4.far j hj.1 hj.2.1) fun _ _ => trivial⟩, Below.trans H7.out.2.2.2.2.2.2 ⟨r4.os, r4.tape, r4.output, by rw [r4.size]; exact Nat.le_refl _, fun k hk => r4.far k (by have := H6.out.2.2.2.2.2.2.1.2.2.2.2.2.2.1; omega) (by have := H6.out.2.2.2.2.2.2.1.2.2.2.2.2.2.2.1; omega)⟩⟩)
  simp only [Act.put, List.setIfInBounds_toArray, List.set_cons_zero, List.set_cons_succ]
  go_wp2_with fail
  refine bodyPost_ret (results_cc rfl _ _ q2 q3 32 32 (eA y B d) (eA y B' d') (0, 0) (0, 0) _ _ rfl r2 Try.underlying32 rfl (by kernel_rfl) rfl r3 Try.underlying32 rfl (by kernel_rfl)) rfl ?_
  exact ⟨B, d, B', d', rfl, HT.out⟩

end Go.Proofs.Ytiofkhfmdophpaa.B
