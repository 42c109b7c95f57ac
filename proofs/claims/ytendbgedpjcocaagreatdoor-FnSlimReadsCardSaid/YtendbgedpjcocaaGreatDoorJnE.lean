import Derived.Test.YtendbgedpjcocaaGreatDoorJnA
import Derived.Test.YtendbgedpjcocaaGreatDoorJnG
import Derived.Test.YtendbgedpjcocaaGreatDoorJnF
import Derived.Test.YtendbgedpjcocaaGreatDoorPkA
import Derived.Shelf.RegionOpen
/- impl's memory as it is told: three rows of its own. -/
namespace Go.Proofs.YtendbgedpjcocaaGreatDoor.B
open Go Go.RowKit Go.Shelf Go.Lib Go.Proofs.YtendbgedpjcocaaGreatDoorW.PrintWords Go.Proofs.YtendbgedpjcocaaGreatDoorW.PrintLast Go.Proofs.YtendbgedpjcocaaGreatDoorW.PrintMore
set_option linter.unusedVariables false
section
variable {P : Program} {ops : Array Oper} {o : Oper} {b : Act} {W : World} {Ψ : Value → World → Prop}
/-- A box is written whole: one operation. -/
theorem stepPutB {T : TypeId} {p : Tmp} {x : Operand} (hw : Region.wanted o (yielded ops b.tmps) = true) (ho : o.op = .store T (.tmp p) x) {g : Nat} {cs : Array Value} (hp : b.eval (.tmp p) = .pointer (some ⟨g, 0, none⟩)) (cs' : Array Value) (hx : b.eval x = .agg cs')
  (hb : Box W g T cs) (hs : cs'.size = cs.size) (hi : (P.info? T).map (·.size) = some cs'.size) (h1 : cs'.all (·.oneCell') = true) (h : ∀ W', Box W' g T cs' → Put1 g W W' → Ψ undef W') : StepOK P ops o b W Ψ := by
 have hrun : (execOp b.eval o).run P W = .ok .skip (W.setCells g 0 cs'.toList) := by
  unfold execOp
  simp only [ho, hp, hx, Instr.storeAt, Instr.sureAddr, Sem.run_bind, Sem.run_pure, Result.andThen_ok, run_storeVar_mid W g 0 T cs' (by rw [hs]; exact Box.there hb) hi h1]
 intro K Q hK
 rw [if_pos hw]
 unfold Oper.wp
 rw [hrun]
 exact hK undef _ (h _ (setCells_box hb hs) (setCells_put1 g _ 0 W))
end
theorem put1_out {g : Nat} {W W' : World} {cs : Array Value} {T : TypeId} (hb : Box W g T cs) (h : Put1 g W W') {base : Nat} {e : TypeId} {size n : Nat} {v : Value} {xs : List Value} (ho : W.ownsRow base e size v n xs) (hne : v.ownBlock ≠ some g) : W'.ownsRow base e size v n xs := by
 obtain ⟨h1, h2⟩ := ho
 refine ⟨h1, ?_⟩
 rcases h2 with h2 | ⟨k, cap, cur, rfl, hk, hh, r⟩
 ·exact .inl h2
 ·exact .inr ⟨k, cap, cur, rfl, hk, (h.far k (fun e => hne (by rw [e]; rfl))).trans hh, r⟩
/-- Three rows of six numbers, each in its own memory, younger than base. -/
structure MemRows (W : World) (base : Nat) (v0 v1 v2 : Value) (bs : List Int) : Prop where
 r0 : W.ownsRow base 3 1 v0 6 (nums .i64 (bs.take 6))
 r1 : W.ownsRow base 3 1 v1 6 (nums .i64 ((bs.drop 6).take 6))
 r2 : W.ownsRow base 3 1 v2 6 (nums .i64 ((bs.drop 12).take 6))
 a01 : ∀ k, v0.ownBlock = some k → v1.ownBlock ≠ some k
 a02 : ∀ k, v0.ownBlock = some k → v2.ownBlock ≠ some k
 a12 : ∀ k, v1.ownBlock = some k → v2.ownBlock ≠ some k
theorem MemRows.weaken {W : World} {base base' : Nat} {v0 v1 v2 : Value} {bs : List Int} (h : MemRows W base v0 v1 v2 bs) (hb : base' ≤ base) : MemRows W base' v0 v1 v2 bs :=
 ⟨own_weaken h.r0 hb, own_weaken h.r1 hb, own_weaken h.r2 hb, h.a01, h.a02, h.a12⟩
theorem MemRows.put1 {W W' : World} {base g : Nat} {T : TypeId} {cs : Array Value} {v0 v1 v2 : Value} {bs : List Int} (h : MemRows W base v0 v1 v2 bs) (hb : Box W g T cs) (hT : T ≠ 3) (hp : Put1 g W W') : MemRows W' base v0 v1 v2 bs :=
 ⟨put1_out hb hp h.r0 (own_ne h.r0 hb (Ne.symm hT)).symm, put1_out hb hp h.r1 (own_ne h.r1 hb (Ne.symm hT)).symm, put1_out hb hp h.r2 (own_ne h.r2 hb (Ne.symm hT)).symm, h.a01, h.a02, h.a12⟩
theorem own_R {w : World} {base : Nat} {v : Value} {xs : List Int} {n : Nat} (h : w.ownsRow base 3 1 v n (nums .i64 xs)) (hn : n = xs.length) (ok : Nat → Prop) (hok : ∀ k, v.ownBlock = some k → ok k) : Kd.R (Kd.int .i64) 3 w base ok v xs := by
 subst hn
 exact ⟨hok, nums .i64 xs, h, Kd.reps_scalar xs⟩
theorem clone_at (g off : Nat) (zs bs : List Int) (w : World) (hm : MemAt w g bs) (hz : zs.length = 6) (ho : off + 6 ≤ 18) (hd : zs = (bs.drop off).take 6) :
  Calls Tryz.prog 80 #[.slice (some ⟨g, off, none⟩) 6 6] w fun e w' => ∃ v', e = .returned v' ∧ w'.ownsRow w.heap.size 3 1 v' 6 (nums .i64 zs) ∧ Below w.heap.size w w' := by
 refine (Tryz.slices_Clone_int g off 6 6 zs w (by omega) (by decide) (fun j hj => ?_)).mono ?_
 ·have := hm.cell (off + j) (by omega)
  rw [this]
  subst hd
  rw [List.getD_eq_getElem?_getD, List.getD_eq_getElem?_getD, List.getElem?_take, if_pos (by omega), List.getElem?_drop]
 ·rintro e w' ⟨v', rfl, h1, _, hb⟩
  rw [List.take_of_length_le (by omega)] at h1
  exact ⟨v', rfl, h1, hb⟩
set_option maxRecDepth 100000 in
set_option maxHeartbeats 4000000 in
theorem mem_any (g : Nat) (bs : List Int) (w : World) (hm : MemAt w g bs) :
  Calls Tryz.prog 47 #[.pointer (some ⟨g, 0, none⟩)] w fun e w' => ∃ v0 v1 v2, e = .returned (.agg #[v0, v1, v2]) ∧ MemRows w' w.heap.size v0 v1 v2 bs ∧ Below w.heap.size w w' := by
 have mixed : Tryz.prog.follows .mixedOrders = true := rfl
 obtain ⟨w1, hw1⟩ : ∃ W, W = w.alloc (.cells #[.slice none 0 0, .slice none 0 0, .slice none 0 0] 30 (0, 0)) := ⟨_, rfl⟩
 have hB : Below w.heap.size w w1 := by rw [hw1]; exact (Below.refl _ _).alloc (Nat.le_refl _) _
 have hz1 : w1.heap.size = w.heap.size + 1 := by rw [hw1]; simp
 have H1 := Aside0.mk (show Box w1 w.heap.size 30 #[.slice none 0 0, .slice none 0 0, .slice none 0 0] ∧ MemAt w1 g bs ∧ Below w.heap.size w w1 ∧ w1.heap.size = w.heap.size + 1 from
  ⟨by rw [hw1]; exact heap_alloc_new _ _, hm.below hB, hB, hz1⟩)
 have hl := hm.n
 obtain ⟨z0, hz0⟩ : ∃ z, z = bs.take 6 := ⟨_, rfl⟩
 obtain ⟨z1, hz1⟩ : ∃ z, z = (bs.drop 6).take 6 := ⟨_, rfl⟩
 obtain ⟨z2, hz2⟩ : ∃ z, z = (bs.drop 12).take 6 := ⟨_, rfl⟩
 have HZ := Aside0.mk (show z0 = (bs.drop 0).take 6 ∧ z1 = (bs.drop 6).take 6 ∧ z2 = (bs.drop 12).take 6 ∧ z0.length = 6 ∧ z1.length = 6 ∧ z2.length = 6 from ⟨by rw [hz0, List.drop_zero], hz1, hz2, by rw [hz0]; simp; omega, by rw [hz1]; simp; omega, by rw [hz2]; simp; omega⟩)
 clear hm hB hl hz0 hz1 hz2
 go_enter Tryz.func47, Tryz.ntmps47
 go_upto_region 1 with fail
 rw [← hw1]
 clear hw1
 refine weaveFresh_ [5, 11, 17] 18 rfl rfl (fun W => Below w1.heap.size w1 W) (Lasts.below w1) (Below.refl _ _) [(3, 0), (4, 1), (5, 2), (6, 3), (7, 4), (8, 5), (9, 6), (10, 7), (11, 8), (12, 9), (13, 10), (14, 11), (15, 12), (16, 13), (17, 14), (18, 15), (19, 16), (20, 17), (21, 18)]
  [fun v _ => v = .pointer (some ⟨g, 0, none⟩), fun v _ => v = .pointer (some ⟨g, 0, none⟩), fun v _ => v = .pointer (some ⟨g, 0, none⟩), fun v _ => v = .pointer (some ⟨g, 0, none⟩), fun v _ => v = .slice (some ⟨g, 0, none⟩) 6 6, fun v W => W.ownsRow w1.heap.size 3 1 v 6 (nums .i64 z0),
   fun v _ => v = .pointer (some ⟨g, 0, none⟩), fun v _ => v = .pointer (some ⟨g, 0, none⟩), fun v _ => v = .pointer (some ⟨g, 0, none⟩), fun v _ => v = .pointer (some ⟨g, 6, none⟩), fun v _ => v = .slice (some ⟨g, 6, none⟩) 6 6, fun v W => W.ownsRow w1.heap.size 3 1 v 6 (nums .i64 z1),
   fun v _ => v = .pointer (some ⟨g, 0, none⟩), fun v _ => v = .pointer (some ⟨g, 0, none⟩), fun v _ => v = .pointer (some ⟨g, 0, none⟩), fun v _ => v = .pointer (some ⟨g, 12, none⟩), fun v _ => v = .slice (some ⟨g, 12, none⟩) 6 6, fun v W => W.ownsRow w1.heap.size 3 1 v 6 (nums .i64 z2)]
  mixed (by kernel_rfl) ⟨fun _ => Lasts.const _, fun _ => Lasts.const _, fun _ => Lasts.const _, fun _ => Lasts.const _, fun _ => Lasts.const _, fun _ _ _ hb h => pw_own_below h hb, fun _ => Lasts.const _, fun _ => Lasts.const _, fun _ => Lasts.const _, fun _ => Lasts.const _, fun _ => Lasts.const _, fun _ _ _ hb h => pw_own_below h hb, fun _ => Lasts.const _, fun _ => Lasts.const _, fun _ => Lasts.const _, fun _ => Lasts.const _, fun _ => Lasts.const _, fun _ _ _ hb h => pw_own_below h hb, trivial⟩
  (by kernel_rfl) (by kernel_rfl) (by kernel_rfl) ?_ ?_
  (fun v W => ∃ v0 v1 v2, v = .agg #[v0, v1, v2] ∧ MemRows W w1.heap.size v0 v1 v2 bs ∧ Below w1.heap.size w1 W)
  (fun _ W => ∃ v0 v1 v2, Box W w.heap.size 30 #[v0, v1, v2] ∧ MemRows W w1.heap.size v0 v1 v2 bs ∧ Below w.heap.size w W) ?_ ?_ ?_
 ·refine ⟨?_, ?_, ?_, ?_, ?_, ?_, ?_, ?_, ?_, ?_, ?_, ?_, ?_, ?_, ?_, ?_, ?_, ?_, ?_, ?_, trivial⟩
  ·intro _ vs W hp hv b hs
   have t0 := (hs.oldtm 0 rfl).trans (show _ = some (Value.pointer (some ⟨g, 0, none⟩)) from rfl)
   exact stepVal rfl (by go_simp) ⟨Below.refl _ _, rfl, fun h => absurd h (by decide)⟩
  ·intro _ vs W hp hv b hs
   have h0 : vs 0 = .pointer (some ⟨g, 0, none⟩) := hv 0 (by decide)
   have t3 := (hs.tm 3 0 rfl).trans (congrArg some h0)
   exact stepVal rfl (by go_simp) ⟨Below.refl _ _, rfl, fun h => absurd h (by decide)⟩
  ·intro _ vs W hp hv b hs
   have h1 : vs 1 = .pointer (some ⟨g, 0, none⟩) := hv 1 (by decide)
   have t4 := (hs.tm 4 1 rfl).trans (congrArg some h1)
   exact stepVal rfl (by go_simp) ⟨Below.refl _ _, rfl, fun h => absurd h (by decide)⟩
  ·intro _ vs W hp hv b hs
   have h2 : vs 2 = .pointer (some ⟨g, 0, none⟩) := hv 2 (by decide)
   have t5 := (hs.tm 5 2 rfl).trans (congrArg some h2)
   exact stepVal rfl (by go_simp) ⟨Below.refl _ _, rfl, fun h => absurd h (by decide)⟩
  ·intro _ vs W hp hv b hs
   have h3 : vs 3 = .pointer (some ⟨g, 0, none⟩) := hv 3 (by decide)
   have t6 := (hs.tm 6 3 rfl).trans (congrArg some h3)
   exact stepVal rfl (by go_simp) ⟨Below.refl _ _, rfl, fun h => absurd h (by decide)⟩
  ·intro _ vs W hp hv b hs
   have h4 : vs 4 = .slice (some ⟨g, 0, none⟩) 6 6 := hv 4 (by decide)
   refine stepCall rfl Tryz.func80 (by kernel_rfl) rfl #[vs 4] rfl (by simp [Act.eval, hs.tm 7 4 rfl]) (by rw [h4]; exact clone_at g 0 z0 bs W (H1.out.2.1.below hp) HZ.out.2.2.2.1 (by decide) HZ.out.1) ?_
   rintro e W' ⟨v', rfl, ho, hb'⟩
   exact ⟨_, rfl, hb', own_weaken ho hp.size, fun _ k hk => own_base ho k hk⟩
  ·intro _ vs W hp hv b hs
   have t0 := (hs.oldtm 0 rfl).trans (show _ = some (Value.pointer (some ⟨g, 0, none⟩)) from rfl)
   exact stepVal rfl (by go_simp) ⟨Below.refl _ _, rfl, fun h => absurd h (by decide)⟩
  ·intro _ vs W hp hv b hs
   have h6 : vs 6 = .pointer (some ⟨g, 0, none⟩) := hv 6 (by decide)
   have t9 := (hs.tm 9 6 rfl).trans (congrArg some h6)
   exact stepVal rfl (by go_simp) ⟨Below.refl _ _, rfl, fun h => absurd h (by decide)⟩
  ·intro _ vs W hp hv b hs
   have h7 : vs 7 = .pointer (some ⟨g, 0, none⟩) := hv 7 (by decide)
   have t10 := (hs.tm 10 7 rfl).trans (congrArg some h7)
   exact stepVal rfl (by go_simp) ⟨Below.refl _ _, rfl, fun h => absurd h (by decide)⟩
  ·intro _ vs W hp hv b hs
   have h8 : vs 8 = .pointer (some ⟨g, 0, none⟩) := hv 8 (by decide)
   have t11 := (hs.tm 11 8 rfl).trans (congrArg some h8)
   exact stepVal rfl (by go_simp) ⟨Below.refl _ _, rfl, fun h => absurd h (by decide)⟩
  ·intro _ vs W hp hv b hs
   have h9 : vs 9 = .pointer (some ⟨g, 6, none⟩) := hv 9 (by decide)
   have t12 := (hs.tm 12 9 rfl).trans (congrArg some h9)
   exact stepVal rfl (by go_simp) ⟨Below.refl _ _, rfl, fun h => absurd h (by decide)⟩
  ·intro _ vs W hp hv b hs
   have h10 : vs 10 = .slice (some ⟨g, 6, none⟩) 6 6 := hv 10 (by decide)
   refine stepCall rfl Tryz.func80 (by kernel_rfl) rfl #[vs 10] rfl (by simp [Act.eval, hs.tm 13 10 rfl]) (by rw [h10]; exact clone_at g 6 z1 bs W (H1.out.2.1.below hp) HZ.out.2.2.2.2.1 (by decide) HZ.out.2.1) ?_
   rintro e W' ⟨v', rfl, ho, hb'⟩
   exact ⟨_, rfl, hb', own_weaken ho hp.size, fun _ k hk => own_base ho k hk⟩
  ·intro _ vs W hp hv b hs
   have t0 := (hs.oldtm 0 rfl).trans (show _ = some (Value.pointer (some ⟨g, 0, none⟩)) from rfl)
   exact stepVal rfl (by go_simp) ⟨Below.refl _ _, rfl, fun h => absurd h (by decide)⟩
  ·intro _ vs W hp hv b hs
   have h12 : vs 12 = .pointer (some ⟨g, 0, none⟩) := hv 12 (by decide)
   have t15 := (hs.tm 15 12 rfl).trans (congrArg some h12)
   exact stepVal rfl (by go_simp) ⟨Below.refl _ _, rfl, fun h => absurd h (by decide)⟩
  ·intro _ vs W hp hv b hs
   have h13 : vs 13 = .pointer (some ⟨g, 0, none⟩) := hv 13 (by decide)
   have t16 := (hs.tm 16 13 rfl).trans (congrArg some h13)
   exact stepVal rfl (by go_simp) ⟨Below.refl _ _, rfl, fun h => absurd h (by decide)⟩
  ·intro _ vs W hp hv b hs
   have h14 : vs 14 = .pointer (some ⟨g, 0, none⟩) := hv 14 (by decide)
   have t17 := (hs.tm 17 14 rfl).trans (congrArg some h14)
   exact stepVal rfl (by go_simp) ⟨Below.refl _ _, rfl, fun h => absurd h (by decide)⟩
  ·intro _ vs W hp hv b hs
   have h15 : vs 15 = .pointer (some ⟨g, 12, none⟩) := hv 15 (by decide)
   have t18 := (hs.tm 18 15 rfl).trans (congrArg some h15)
   exact stepVal rfl (by go_simp) ⟨Below.refl _ _, rfl, fun h => absurd h (by decide)⟩
  ·intro _ vs W hp hv b hs
   have h16 : vs 16 = .slice (some ⟨g, 12, none⟩) 6 6 := hv 16 (by decide)
   refine stepCall rfl Tryz.func80 (by kernel_rfl) rfl #[vs 16] rfl (by simp [Act.eval, hs.tm 19 16 rfl]) (by rw [h16]; exact clone_at g 12 z2 bs W (H1.out.2.1.below hp) HZ.out.2.2.2.2.2 (by decide) HZ.out.2.2.1) ?_
   rintro e W' ⟨v', rfl, ho, hb'⟩
   exact ⟨_, rfl, hb', own_weaken ho hp.size, fun _ k hk => own_base ho k hk⟩
  ·intro h
   exact absurd h (by decide)
  ·intro h
   exact absurd h (by decide)
 ·intro j hj v W hF k hk
  rcases List.mem_cons.1 hj with rfl | hj
  ·exact own_lt (show W.ownsRow w1.heap.size 3 1 v 6 (nums .i64 z0) from hF) k hk
  ·rcases List.mem_cons.1 hj with rfl | hj
   ·exact own_lt (show W.ownsRow w1.heap.size 3 1 v 6 (nums .i64 z1) from hF) k hk
   ·rcases List.mem_cons.1 hj with rfl | hj
    ·exact own_lt (show W.ownsRow w1.heap.size 3 1 v 6 (nums .i64 z2) from hF) k hk
    ·cases hj
 ·intro o ho vs W hp hv hap b hs
  obtain rfl := Option.some.inj ho
  have h5 : W.ownsRow w1.heap.size 3 1 (vs 5) 6 (nums .i64 z0) := hv 5 (by decide)
  have h11 : W.ownsRow w1.heap.size 3 1 (vs 11) 6 (nums .i64 z1) := hv 11 (by decide)
  have h17 : W.ownsRow w1.heap.size 3 1 (vs 17) 6 (nums .i64 z2) := hv 17 (by decide)
  have t8 := hs.tm 8 5 rfl
  have t14 := hs.tm 14 11 rfl
  have t20 := hs.tm 20 17 rfl
  have HR := Aside0.mk (show MemRows W w1.heap.size (vs 5) (vs 11) (vs 17) bs from ⟨by rw [HZ.out.1, List.drop_zero] at h5; exact h5, by rw [HZ.out.2.1] at h11; exact h11, by rw [HZ.out.2.2.1] at h17; exact h17, hap 5 (by decide) 11 (by decide) (by decide), hap 5 (by decide) 17 (by decide) (by decide), hap 11 (by decide) 17 (by decide) (by decide)⟩)
  obtain ⟨A0, d0, e0⟩ := own_slice h5
  obtain ⟨A1, d1, e1⟩ := own_slice h11
  obtain ⟨A2, d2, e2⟩ := own_slice h17
  generalize vs 5 = u0 at *
  generalize vs 11 = u1 at *
  generalize vs 17 = u2 at *
  subst e0 e1 e2
  exact stepVal (v := .agg #[.slice A0 6 d0, .slice A1 6 d1, .slice A2 6 d2]) rfl (by go_simp) ⟨_, _, _, rfl, HR.out, hp⟩
 ·intro o ho vs W hv b hs
  obtain rfl := Option.some.inj ho
  obtain ⟨v0, v1, v2, he, hR, hb⟩ := hv
  obtain ⟨A0, d0, e0⟩ := own_slice hR.r0
  obtain ⟨A1, d1, e1⟩ := own_slice hR.r1
  obtain ⟨A2, d2, e2⟩ := own_slice hR.r2
  subst e0 e1 e2
  have hbx := blk_below H1.out.1 hb
  refine stepPutB rfl rfl ((hs.old 2 rfl).trans rfl) #[.slice A0 6 d0, .slice A1 6 d1, .slice A2 6 d2] ((hs.ev 21 18 rfl).trans he) hbx rfl (by kernel_rfl) (by simp [Value.oneCell']) fun W' hbx' hput => ⟨_, _, _, hbx', hR.put1 hbx (by decide) hput, ?_⟩
  exact hput.below (H1.out.2.2.1.trans (hb.mono H1.out.2.2.1.size)) (Nat.le_refl _)
 ·rintro vs W ⟨v0, v1, v2, hbx, hR, hb⟩
  have HF := Aside0.mk (show MemRows W w.heap.size v0 v1 v2 bs ∧ Below w.heap.size w W from ⟨hR.weaken (by rw [H1.out.2.2.2]; omega), hb⟩)
  have HX := Aside0.mk hbx
  simp only [List.map_cons, List.map_nil, putL, Act.put, List.setIfInBounds_toArray, List.set_cons_zero, List.set_cons_succ]
  clear hbx hR hb
  go_wp2
  refine bodyPost_ret (results_cell_row rfl _ _ w.heap.size 30 #[v0, v1, v2] (0, 0) _ rfl HX.out Tryz.underlying30 rfl (by kernel_rfl)) rfl ?_
  exact ⟨v0, v1, v2, rfl, HF.out⟩
end Go.Proofs.YtendbgedpjcocaaGreatDoor.B
/- spec.MemOpen, in the print's form. -/
namespace Go.Proofs.YtendbgedpjcocaaGreatDoor.B
open Go Go.RowKit Go.Shelf Go.Proofs.YtendbgedpjcocaaGreatDoorW.PrintWords Go.Proofs.YtendbgedpjcocaaGreatDoorW.PrintLast Go.Proofs.YtendbgedpjcocaaGreatDoorW.PrintMore
set_option linter.unusedVariables false
theorem R_own1 {w : World} {base : Nat} {ok : Nat → Prop} {v : Value} {xs : List Int} (h : Kd.R (Kd.int .i64) 3 w base ok v xs) (n : Nat) (hn : n = xs.length) : w.ownsRow base 3 1 v n (nums .i64 xs) := by
 subst hn
 obtain ⟨_, inner, ho, hr⟩ := h
 rw [Kd.reps_encs hr] at ho
 exact ho
section
variable {ops : Array Oper} {o : Oper} {b : Act} {W : World} {Ψ : Value → World → Prop}
theorem StepOK.mono {P : Program} {Φ : Value → World → Prop} (h : StepOK P ops o b W Ψ) (hm : ∀ v W', Ψ v W' → Φ v W') : StepOK P ops o b W Φ := fun K Q hK => h K Q fun v W' hv => hK v W' (hm v W' hv)
theorem stepMake6 {x y : Operand} {N : Tmp} (hw : Region.wanted o (yielded ops b.tmps) = true) (hd : o.dst = some N) (ho : o.op = .makeSlice 28 x y) (hx : b.eval x = .int .i64 6) (hy : b.eval y = .int .i64 6) :
  StepOK Tryz.prog ops o b W fun v W' => W'.ownsRow W.heap.size 3 1 v 6 (nums .i64 (List.replicate 6 0)) ∧ Below W.heap.size W W' ∧ ∀ k, v.ownBlock = some k → W.heap.size ≤ k := fun K Q hK =>
 Kd.R_make_step (Kd.int .i64) W.heap.size 3 hw hd 28 x y ho 6 hx hy Tryz.underlying28 (.int .i64 0) 8 info3 rfl (by decide) (by omega) 0 (ok := fun _ => True) (okp := fun _ => True) rfl (fun _ hk => hk) trivial (by decide) (by decide) (Below.refl _ _) (Nat.le_refl _)
  (fun v1 w1 hR hb _ hat => hK v1 w1 ⟨R_own1 hR 6 rfl, hb, fun k hk => by obtain ⟨g, hg, hle⟩ := hat; rw [hg] at hk; injection hk with hk; omega⟩)
end
set_option maxRecDepth 100000 in
set_option maxHeartbeats 4000000 in
theorem open_any (w : World) : Calls Tryz.prog 91 #[] w fun e w' => ∃ v0 v1 v2, e = .returned (.agg #[v0, v1, v2]) ∧ MemRows w' w.heap.size v0 v1 v2 (List.replicate 18 0) ∧ Below w.heap.size w w' := by
 have mixed : Tryz.prog.follows .mixedOrders = true := rfl
 obtain ⟨w1, hw1⟩ : ∃ W, W = w.alloc (.cells #[.slice none 0 0, .slice none 0 0, .slice none 0 0] 30 (0, 0)) := ⟨_, rfl⟩
 have HB1 : Below w.heap.size w w1 := by rw [hw1]; exact (Below.refl _ _).alloc (Nat.le_refl _) _
 have H1 := Aside0.mk (show Box w1 w.heap.size 30 #[.slice none 0 0, .slice none 0 0, .slice none 0 0] from by rw [hw1]; exact heap_alloc_new _ _)
 go_enter Tryz.func91, Tryz.ntmps91
 go_upto_region 1 with fail
 rw [← hw1]
 clear hw1
 refine weaveFresh_ [0, 1, 2] 3 rfl rfl (fun W => Below w1.heap.size w1 W) (Lasts.below w1) (Below.refl _ _) [(1, 0), (2, 1), (3, 2), (4, 3)]
  [fun v W => W.ownsRow w1.heap.size 3 1 v 6 (nums .i64 (List.replicate 6 0)), fun v W => W.ownsRow w1.heap.size 3 1 v 6 (nums .i64 (List.replicate 6 0)), fun v W => W.ownsRow w1.heap.size 3 1 v 6 (nums .i64 (List.replicate 6 0))]
  mixed (by kernel_rfl) ⟨fun _ _ _ hb h => pw_own_below h hb, fun _ _ _ hb h => pw_own_below h hb, fun _ _ _ hb h => pw_own_below h hb, trivial⟩
  (by kernel_rfl) (by kernel_rfl) (by kernel_rfl) ?_ ?_
  (fun v W => ∃ v0 v1 v2, v = .agg #[v0, v1, v2] ∧ MemRows W w1.heap.size v0 v1 v2 (List.replicate 18 0) ∧ Below w1.heap.size w1 W)
  (fun _ W => ∃ v0 v1 v2, Box W w.heap.size 30 #[v0, v1, v2] ∧ MemRows W w1.heap.size v0 v1 v2 (List.replicate 18 0) ∧ Below w.heap.size w W) ?_ ?_ ?_
 ·refine ⟨?_, ?_, ?_, ?_, ?_, trivial⟩
  ·intro _ vs W hp hv b hs
   exact (stepMake6 rfl rfl rfl rfl rfl).mono fun v W' h => ⟨h.2.1, own_weaken h.1 hp.size, fun _ => h.2.2⟩
  ·intro _ vs W hp hv b hs
   exact (stepMake6 rfl rfl rfl rfl rfl).mono fun v W' h => ⟨h.2.1, own_weaken h.1 hp.size, fun _ => h.2.2⟩
  ·intro _ vs W hp hv b hs
   exact (stepMake6 rfl rfl rfl rfl rfl).mono fun v W' h => ⟨h.2.1, own_weaken h.1 hp.size, fun _ => h.2.2⟩
  ·intro h
   exact absurd h (by decide)
  ·intro h
   exact absurd h (by decide)
 ·intro j hj v W hF k hk
  simp only [List.mem_cons, List.mem_nil_iff, or_false] at hj
  rcases hj with rfl | rfl | rfl <;> exact own_lt (show W.ownsRow w1.heap.size 3 1 v 6 (nums .i64 (List.replicate 6 0)) from hF) k hk
 ·intro o ho vs W hp hv hap b hs
  obtain rfl := Option.some.inj ho
  have h0 : W.ownsRow w1.heap.size 3 1 (vs 0) 6 (nums .i64 (List.replicate 6 0)) := hv 0 (by decide)
  have h1 : W.ownsRow w1.heap.size 3 1 (vs 1) 6 (nums .i64 (List.replicate 6 0)) := hv 1 (by decide)
  have h2 : W.ownsRow w1.heap.size 3 1 (vs 2) 6 (nums .i64 (List.replicate 6 0)) := hv 2 (by decide)
  have t1 := hs.tm 1 0 rfl
  have t2 := hs.tm 2 1 rfl
  have t3 := hs.tm 3 2 rfl
  have HR := Aside0.mk (show MemRows W w1.heap.size (vs 0) (vs 1) (vs 2) (List.replicate 18 0) from ⟨h0, h1, h2, hap 0 (by decide) 1 (by decide) (by decide), hap 0 (by decide) 2 (by decide) (by decide), hap 1 (by decide) 2 (by decide) (by decide)⟩)
  obtain ⟨A0, d0, q0⟩ := own_slice h0
  obtain ⟨A1, d1, q1⟩ := own_slice h1
  obtain ⟨A2, d2, q2⟩ := own_slice h2
  generalize vs 0 = u0 at *
  generalize vs 1 = u1 at *
  generalize vs 2 = u2 at *
  subst q0 q1 q2
  exact stepVal (v := .agg #[.slice A0 6 d0, .slice A1 6 d1, .slice A2 6 d2]) rfl (by go_simp) ⟨_, _, _, rfl, HR.out, hp⟩
 ·intro o ho vs W hv b hs
  obtain rfl := Option.some.inj ho
  obtain ⟨v0, v1, v2, he, hR, hb⟩ := hv
  obtain ⟨A0, d0, e0⟩ := own_slice hR.r0
  obtain ⟨A1, d1, e1⟩ := own_slice hR.r1
  obtain ⟨A2, d2, e2⟩ := own_slice hR.r2
  subst e0 e1 e2
  have hbx := blk_below H1.out hb
  refine stepPutB rfl rfl ((hs.old 0 rfl).trans rfl) #[.slice A0 6 d0, .slice A1 6 d1, .slice A2 6 d2] ((hs.ev 4 3 rfl).trans he) hbx rfl (by kernel_rfl) (by simp [Value.oneCell']) fun W' hbx' hput => ⟨_, _, _, hbx', hR.put1 hbx (by decide) hput, ?_⟩
  exact hput.below (HB1.trans (hb.mono HB1.size)) (Nat.le_refl _)
 ·rintro vs W ⟨v0, v1, v2, hbx, hR, hb⟩
  have HF := Aside0.mk (show MemRows W w.heap.size v0 v1 v2 (List.replicate 18 0) ∧ Below w.heap.size w W from ⟨hR.weaken HB1.size, hb⟩)
  have HX := Aside0.mk hbx
  simp only [List.map_cons, List.map_nil, putL, Act.put, List.setIfInBounds_toArray, List.set_cons_zero, List.set_cons_succ]
  clear hbx hR hb
  go_wp2
  refine bodyPost_ret (results_cell_row rfl _ _ w.heap.size 30 #[v0, v1, v2] (0, 0) _ rfl HX.out Tryz.underlying30 rfl (by kernel_rfl)) rfl ?_
  exact ⟨v0, v1, v2, rfl, HF.out⟩
end Go.Proofs.YtendbgedpjcocaaGreatDoor.B
/- impl's runner: one statement is done. -/
namespace Go.Proofs.YtendbgedpjcocaaGreatDoor.B
open Go Go.RowKit Go.Shelf Go.Proofs.YtendbgedpjcocaaGreatDoorW.PrintWords Go.Proofs.YtendbgedpjcocaaGreatDoorW.PrintLast Go.Proofs.YtendbgedpjcocaaGreatDoorW.PrintMore
set_option linter.unusedVariables false

theorem meth_do1 (v : Value) : ∀ w, (method 299 124 v "loop.example/stopgate/impl.do").run Tryz.prog w = .ok (125, v) w := fun _ => by kernel_rfl
theorem meth_do2 (v : Value) : ∀ w, (method 299 126 v "loop.example/stopgate/impl.do").run Tryz.prog w = .ok (128, v) w := fun _ => by kernel_rfl
theorem meth_do3 (v : Value) : ∀ w, (method 299 128 v "loop.example/stopgate/impl.do").run Tryz.prog w = .ok (131, v) w := fun _ => by kernel_rfl
theorem Ed.mono {F F' : Nat → Prop} {w w' : World} (h : Ed F w w') (hF : ∀ b, F b → F' b) : Ed F' w w' :=
 ⟨h.os, h.tape, h.output, h.size, fun i hi hn => h.far i hi (fun hf => hn (hF i hf)), fun i cs t hf hc => by
  by_cases hq : F i
  ·exact h.near i cs t hq hc
  ·exact ⟨cs, (h.far i (blk_lt hc) hq).trans hc, rfl, fun _ => .inl rfl⟩⟩
/-- What running leaves behind. -/
def RunPost (a : Addr) (gr gm : Nat) (r : Res) (w : World) (e : Ending) (w' : World) : Prop := e = .returned (errOf a r.2.1) ∧ RunAt w' gr gm r.1 r.2.2 ∧ Ed (Fm gr gm) w w'
/-- Where a run stands: younger than the lists that it does. -/
structure Env (w0 w : World) (gr gm : Nat) (a : Addr) : Prop where
 lr : w0.heap.size ≤ gr
 lm : w0.heap.size ≤ gm
 ne : gr ≠ gm
 er : ErrAt w0 a
 b : Below w0.heap.size w0 w
theorem Env.step {w0 w w' : World} {gr gm : Nat} {a : Addr} (h : Env w0 w gr gm a) (hE : Ed (Fm gr gm) w w') : Env w0 w' gr gm a :=
 ⟨h.lr, h.lm, h.ne, h.er, h.b.trans (hE.below (fun b hb => by rcases hb with rfl | rfl; exact h.lr; exact h.lm) h.b.size)⟩
theorem Env.below {w0 w w' : World} {gr gm : Nat} {a : Addr} (h : Env w0 w gr gm a) (hb : Below w.heap.size w w') : Env w0 w' gr gm a := h.step (Ed.of_below hb)
theorem Env.err {w0 w : World} {gr gm : Nat} {a : Addr} (h : Env w0 w gr gm a) : ErrAt w a := h.er.below h.b
abbrev eCells (x : Ex) (A : Option Addr) (c : Nat) : List Value := [.int .i64 x.f0, .int .i64 x.f1, .int .i64 x.f2.f0, .int .i64 x.f2.f1, .slice A x.f3.length c]
abbrev eAgg (x : Ex) (A : Option Addr) (c : Nat) : Value := .agg #[.int .i64 x.f0, .int .i64 x.f1, .int .i64 x.f2.f0, .int .i64 x.f2.f1, .slice A x.f3.length c]
theorem reckon_at (bs : List Int) (x : Ex) (he : formS 6 x = true) (g : Nat) (A : Option Addr) (c : Nat) (w : World) (hm : MemAt w g bs) (hC : Kd.C exK w A x.f3.length x.f3) (hc : x.f3.length ≤ c) :
  Calls Tryz.prog 49 #[.pointer (some ⟨g, 0, none⟩), eAgg x A c] w fun e w' => e = .returned (.int .i64 (evalI bs x)) ∧ Below w.heap.size w w' := by
 have h := reckon_any bs 6 x he g A c w hm hC hc
 simp only [List.append_toArray, List.nil_append, List.cons_append] at h
 exact h
set_option maxRecDepth 100000 in
set_option maxHeartbeats 4000000 in
theorem do_set (bs : List Int) (p q f : Int) (x : Ex) (he : formS 6 x = true) (a : Addr) (gr gm : Nat) (hne : gr ≠ gm) (A : Option Addr) (c : Nat) (w : World) (hR : RunAt w gr gm bs f) (hC : Kd.C exK w A x.f3.length x.f3) (hc : x.f3.length ≤ c) :
  Calls Tryz.prog 125 #[.agg #[.int .i64 p, .int .i64 q, .int .i64 x.f0, .int .i64 x.f1, .int .i64 x.f2.f0, .int .i64 x.f2.f1, .slice A x.f3.length c], .pointer (some ⟨gr, 0, none⟩)] w (RunPost a gr gm (putB bs p q (evalI bs x), 0, f) w) := by
 have mixed : Tryz.prog.follows .mixedOrders = true := rfl
 obtain ⟨w1, hw1⟩ : ∃ W, W = w.alloc (.cells #[.int .i64 p, .int .i64 q, .int .i64 x.f0, .int .i64 x.f1, .int .i64 x.f2.f0, .int .i64 x.f2.f1, .slice A x.f3.length c] 124 (0, 0)) := ⟨_, rfl⟩
 have hB : Below w.heap.size w w1 := by rw [hw1]; exact (Below.refl _ _).alloc (Nat.le_refl _) _
 have H1 := Aside0.mk (show Box w1 w.heap.size 124 #[.int .i64 p, .int .i64 q, .int .i64 x.f0, .int .i64 x.f1, .int .i64 x.f2.f0, .int .i64 x.f2.f1, .slice A x.f3.length c] ∧ RunAt w1 gr gm bs f ∧ Kd.C exK w1 A x.f3.length x.f3 ∧ Below w.heap.size w w1 ∧ gr ≠ gm from
  ⟨by rw [hw1]; exact heap_alloc_new _ _, hR.below hB, Kd.C_below hC hB, hB, hne⟩)
 have HE := Aside0.mk (And.intro he hc)
 clear hR hC hB hne he hc
 go_enter Tryz.func125, Tryz.ntmps125
 go_upto_region 1 with fail
 rw [← hw1]
 clear hw1
 refine weaveLast_ 13 rfl (fun W => Below w1.heap.size w1 W) (Lasts.below w1) (Below.refl _ _) [(5, 0), (6, 1), (7, 2), (8, 3), (9, 4), (10, 5), (11, 6), (12, 7), (13, 8), (14, 9), (15, 10), (16, 11), (17, 12), (18, 13)]
  [fun v _ => v = .pointer (some ⟨gr, 0, none⟩), fun v _ => v = .pointer (some ⟨gr, 0, none⟩), fun v _ => v = .pointer (some ⟨gr, 0, none⟩), fun v _ => v = .pointer (some ⟨gm, 0, none⟩), fun v _ => v = .pointer (some ⟨w.heap.size, 0, none⟩), fun v _ => v = .agg #[.int .i64 p, .int .i64 q],
   fun v _ => v = .pointer (some ⟨gr, 0, none⟩), fun v _ => v = .pointer (some ⟨gr, 0, none⟩), fun v _ => v = .pointer (some ⟨gr, 0, none⟩), fun v _ => v = .pointer (some ⟨gm, 0, none⟩), fun v _ => v = .pointer (some ⟨w.heap.size, 2, none⟩), fun v _ => v = eAgg x A c, fun v _ => v = .int .i64 (evalI bs x), fun _ _ => True]
  mixed (by kernel_rfl) ⟨fun _ => Lasts.const _, fun _ => Lasts.const _, fun _ => Lasts.const _, fun _ => Lasts.const _, fun _ => Lasts.const _, fun _ => Lasts.const _, fun _ => Lasts.const _, fun _ => Lasts.const _, fun _ => Lasts.const _, fun _ => Lasts.const _, fun _ => Lasts.const _, fun _ => Lasts.const _, fun _ => Lasts.const _, fun _ => Lasts.const _, trivial⟩
  (by kernel_rfl) (by kernel_rfl) ?_ (fun v W => v = .tuple #[] ∧ MemAt W gm (putB bs p q (evalI bs x)) ∧ Ed (fun b => b = gm) w1 W) ?_ ?_
 ·refine ⟨?_, ?_, ?_, ?_, ?_, ?_, ?_, ?_, ?_, ?_, ?_, ?_, ?_, ?_, trivial⟩
  ·intro _ vs W hp hv b hs
   have t1 := (hs.oldtm 1 rfl).trans (show _ = some (Value.pointer (some ⟨gr, 0, none⟩)) from rfl)
   exact stepVal rfl (by go_simp) ⟨Below.refl _ _, rfl⟩
  ·intro _ vs W hp hv b hs
   have h0 : vs 0 = .pointer (some ⟨gr, 0, none⟩) := hv 0 (by decide)
   have t5 := (hs.tm 5 0 rfl).trans (congrArg some h0)
   exact stepVal rfl (by go_simp) ⟨Below.refl _ _, rfl⟩
  ·intro _ vs W hp hv b hs
   have h1 : vs 1 = .pointer (some ⟨gr, 0, none⟩) := hv 1 (by decide)
   have t6 := (hs.tm 6 1 rfl).trans (congrArg some h1)
   exact stepVal rfl (by go_simp) ⟨Below.refl _ _, rfl⟩
  ·intro _ vs W hp hv b hs
   have h2 : vs 2 = .pointer (some ⟨gr, 0, none⟩) := hv 2 (by decide)
   have t7 := (hs.tm 7 2 rfl).trans (congrArg some h2)
   have cr := (Box.cell (blk_below H1.out.2.1.r hp) 0 _ rfl).1
   exact stepVal rfl (by go_simp) ⟨Below.refl _ _, rfl⟩
  ·intro _ vs W hp hv b hs
   have t2 := (hs.oldtm 2 rfl).trans (show _ = some (Value.pointer (some ⟨w.heap.size, 0, none⟩)) from rfl)
   exact stepVal rfl (by go_simp) ⟨Below.refl _ _, rfl⟩
  ·intro _ vs W hp hv b hs
   have h4 : vs 4 = .pointer (some ⟨w.heap.size, 0, none⟩) := hv 4 (by decide)
   have t9 := (hs.tm 9 4 rfl).trans (congrArg some h4)
   have k := blk_below H1.out.1 hp
   have c0 := (Box.cell k 0 _ rfl).1
   have c1 := (Box.cell k 1 _ rfl).1
   exact stepVal rfl (by go_simp) ⟨Below.refl _ _, rfl⟩
  ·intro _ vs W hp hv b hs
   have t1 := (hs.oldtm 1 rfl).trans (show _ = some (Value.pointer (some ⟨gr, 0, none⟩)) from rfl)
   exact stepVal rfl (by go_simp) ⟨Below.refl _ _, rfl⟩
  ·intro _ vs W hp hv b hs
   have h6 : vs 6 = .pointer (some ⟨gr, 0, none⟩) := hv 6 (by decide)
   have t11 := (hs.tm 11 6 rfl).trans (congrArg some h6)
   exact stepVal rfl (by go_simp) ⟨Below.refl _ _, rfl⟩
  ·intro _ vs W hp hv b hs
   have h7 : vs 7 = .pointer (some ⟨gr, 0, none⟩) := hv 7 (by decide)
   have t12 := (hs.tm 12 7 rfl).trans (congrArg some h7)
   exact stepVal rfl (by go_simp) ⟨Below.refl _ _, rfl⟩
  ·intro _ vs W hp hv b hs
   have h8 : vs 8 = .pointer (some ⟨gr, 0, none⟩) := hv 8 (by decide)
   have t13 := (hs.tm 13 8 rfl).trans (congrArg some h8)
   have cr := (Box.cell (blk_below H1.out.2.1.r hp) 0 _ rfl).1
   exact stepVal rfl (by go_simp) ⟨Below.refl _ _, rfl⟩
  ·intro _ vs W hp hv b hs
   have t2 := (hs.oldtm 2 rfl).trans (show _ = some (Value.pointer (some ⟨w.heap.size, 0, none⟩)) from rfl)
   exact stepVal rfl (by go_simp) ⟨Below.refl _ _, rfl⟩
  ·intro _ vs W hp hv b hs
   have h10 : vs 10 = .pointer (some ⟨w.heap.size, 2, none⟩) := hv 10 (by decide)
   have t15 := (hs.tm 15 10 rfl).trans (congrArg some h10)
   have k := blk_below H1.out.1 hp
   have c2 := (Box.cell k 2 _ rfl).1
   have c3 := (Box.cell k 3 _ rfl).1
   have c4 := (Box.cell k 4 _ rfl).1
   have c5 := (Box.cell k 5 _ rfl).1
   have c6 := (Box.cell k 6 _ rfl).1
   exact stepVal rfl (by go_simp) ⟨Below.refl _ _, rfl⟩
  ·intro _ vs W hp hv b hs
   have h9 : vs 9 = .pointer (some ⟨gm, 0, none⟩) := hv 9 (by decide)
   have h11 : vs 11 = eAgg x A c := hv 11 (by decide)
   refine stepCall rfl Tryz.func49 (by kernel_rfl) rfl #[vs 9, vs 11] rfl (by simp [Act.eval, hs.tm 14 9 rfl, hs.tm 16 11 rfl]) (by rw [h9, h11]; exact reckon_at bs x HE.out.1 gm A c W (H1.out.2.1.m.below hp) (Kd.C_below H1.out.2.2.1 hp) HE.out.2) ?_
   rintro e W' ⟨rfl, hb'⟩
   exact ⟨_, rfl, hb', rfl⟩
  ·intro h
   exact absurd h (by decide)
 ·intro o ho vs W hp hv b hs
  obtain rfl := Option.some.inj ho
  have h3 : vs 3 = .pointer (some ⟨gm, 0, none⟩) := hv 3 (by decide)
  have h5 : vs 5 = .agg #[.int .i64 p, .int .i64 q] := hv 5 (by decide)
  have h12 : vs 12 = .int .i64 (evalI bs x) := hv 12 (by decide)
  refine stepCall rfl Tryz.func46 (by kernel_rfl) rfl #[vs 3, vs 5, vs 12] rfl (by simp [Act.eval, hs.tm 8 3 rfl, hs.tm 10 5 rfl, hs.tm 17 12 rfl]) (by rw [h3, h5, h12]; exact put_any (fun b => b = gm) gm rfl bs p q _ W (H1.out.2.1.m.below hp)) ?_
  rintro e W' ⟨rfl, hm, hE⟩
  exact ⟨_, rfl, rfl, hm, (Ed.of_below hp).trans hE⟩
 ·rintro vs W ⟨_, hm, hE⟩
  have HF := Aside0.mk (show RunPost a gr gm (putB bs p q (evalI bs x), 0, f) w (.returned .nilIface) W from
   ⟨rfl, ⟨hm, (hE.far gr (blk_lt H1.out.2.1.r) H1.out.2.2.2.2).trans H1.out.2.1.r⟩, (Ed.of_below H1.out.2.2.2.1).trans (hE.mono fun b hb => .inr hb)⟩)
  simp only [List.map_cons, List.map_nil, putL, Act.put, List.setIfInBounds_toArray, List.set_cons_zero, List.set_cons_succ]
  clear hm hE
  go_wp2
  go_ret
  exact HF.out
set_option maxRecDepth 100000 in
set_option maxHeartbeats 4000000 in
theorem do_if (bs : List Int) (f : Int) (x : Ex) (he : formS 6 x = true) (r : Res) (a : Addr) (gr gm : Nat) (A : Option Addr) (c n1 n2 : Nat) (A1 : Option Addr) (c1 : Nat) (A2 : Option Addr) (c2 : Nat) (w : World) (hR : RunAt w gr gm bs f) (hC : Kd.C exK w A x.f3.length x.f3) (hc : x.f3.length ≤ c)
  (h1 : evalI bs x ≠ 0 → ∀ W, Below w.heap.size w W → RunAt W gr gm bs f → Calls Tryz.prog 37 #[.pointer (some ⟨gr, 0, none⟩), .slice A1 n1 c1] W (RunPost a gr gm r W))
  (h2 : evalI bs x = 0 → ∀ W, Below w.heap.size w W → RunAt W gr gm bs f → Calls Tryz.prog 37 #[.pointer (some ⟨gr, 0, none⟩), .slice A2 n2 c2] W (RunPost a gr gm r W)) :
  Calls Tryz.prog 128 #[.agg #[.int .i64 x.f0, .int .i64 x.f1, .int .i64 x.f2.f0, .int .i64 x.f2.f1, .slice A x.f3.length c, .slice A1 n1 c1, .slice A2 n2 c2], .pointer (some ⟨gr, 0, none⟩)] w (RunPost a gr gm r w) := by
 have mixed : Tryz.prog.follows .mixedOrders = true := rfl
 obtain ⟨w1, hw1⟩ : ∃ W, W = w.alloc (.cells #[.int .i64 x.f0, .int .i64 x.f1, .int .i64 x.f2.f0, .int .i64 x.f2.f1, .slice A x.f3.length c, .slice A1 n1 c1, .slice A2 n2 c2] 126 (0, 0)) := ⟨_, rfl⟩
 have hB : Below w.heap.size w w1 := by rw [hw1]; exact (Below.refl _ _).alloc (Nat.le_refl _) _
 have H1 := Aside0.mk (show Box w1 w.heap.size 126 #[.int .i64 x.f0, .int .i64 x.f1, .int .i64 x.f2.f0, .int .i64 x.f2.f1, .slice A x.f3.length c, .slice A1 n1 c1, .slice A2 n2 c2] ∧ RunAt w1 gr gm bs f ∧ Kd.C exK w1 A x.f3.length x.f3 ∧ Below w.heap.size w w1 from
  ⟨by rw [hw1]; exact heap_alloc_new _ _, hR.below hB, Kd.C_below hC hB, hB⟩)
 have HE := Aside0.mk (And.intro he hc)
 have HC := Aside0.mk (And.intro h1 h2)
 clear hR hC hB he hc h1 h2
 go_enter Tryz.func128, Tryz.ntmps128
 go_upto_region 1 with fail
 rw [← hw1]
 clear hw1
 refine weaveB_ (fun W => Below w1.heap.size w1 W) (Lasts.below w1) (Below.refl _ _) [(5, 0), (6, 1), (7, 2), (8, 3), (9, 4), (10, 5), (11, 6), (12, 7)]
  [fun v _ => v = .pointer (some ⟨gr, 0, none⟩), fun v _ => v = .pointer (some ⟨gr, 0, none⟩), fun v _ => v = .pointer (some ⟨gr, 0, none⟩), fun v _ => v = .pointer (some ⟨gm, 0, none⟩), fun v _ => v = .pointer (some ⟨w.heap.size, 0, none⟩), fun v _ => v = eAgg x A c, fun v _ => v = .int .i64 (evalI bs x), fun v _ => v = .bool (evalI bs x != 0)]
  mixed (by kernel_rfl) ⟨fun _ => Lasts.const _, fun _ => Lasts.const _, fun _ => Lasts.const _, fun _ => Lasts.const _, fun _ => Lasts.const _, fun _ => Lasts.const _, fun _ => Lasts.const _, fun _ => Lasts.const _, trivial⟩ ?_ ?_
 ·refine ⟨?_, ?_, ?_, ?_, ?_, ?_, ?_, ?_, trivial⟩
  ·intro vs W hp hv b hs
   have t1 := (hs.oldtm 1 rfl).trans (show _ = some (Value.pointer (some ⟨gr, 0, none⟩)) from rfl)
   exact stepVal rfl (by go_simp) ⟨Below.refl _ _, rfl⟩
  ·intro vs W hp hv b hs
   have h0 : vs 0 = .pointer (some ⟨gr, 0, none⟩) := hv 0 (by decide)
   have t5 := (hs.tm 5 0 rfl).trans (congrArg some h0)
   exact stepVal rfl (by go_simp) ⟨Below.refl _ _, rfl⟩
  ·intro vs W hp hv b hs
   have h1 : vs 1 = .pointer (some ⟨gr, 0, none⟩) := hv 1 (by decide)
   have t6 := (hs.tm 6 1 rfl).trans (congrArg some h1)
   exact stepVal rfl (by go_simp) ⟨Below.refl _ _, rfl⟩
  ·intro vs W hp hv b hs
   have h2 : vs 2 = .pointer (some ⟨gr, 0, none⟩) := hv 2 (by decide)
   have t7 := (hs.tm 7 2 rfl).trans (congrArg some h2)
   have cr := (Box.cell (blk_below H1.out.2.1.r hp) 0 _ rfl).1
   exact stepVal rfl (by go_simp) ⟨Below.refl _ _, rfl⟩
  ·intro vs W hp hv b hs
   have t2 := (hs.oldtm 2 rfl).trans (show _ = some (Value.pointer (some ⟨w.heap.size, 0, none⟩)) from rfl)
   exact stepVal rfl (by go_simp) ⟨Below.refl _ _, rfl⟩
  ·intro vs W hp hv b hs
   have h4 : vs 4 = .pointer (some ⟨w.heap.size, 0, none⟩) := hv 4 (by decide)
   have t9 := (hs.tm 9 4 rfl).trans (congrArg some h4)
   have k := blk_below H1.out.1 hp
   have c0 := (Box.cell k 0 _ rfl).1
   have c1' := (Box.cell k 1 _ rfl).1
   have c2' := (Box.cell k 2 _ rfl).1
   have c3 := (Box.cell k 3 _ rfl).1
   have c4 := (Box.cell k 4 _ rfl).1
   exact stepVal rfl (by go_simp) ⟨Below.refl _ _, rfl⟩
  ·intro vs W hp hv b hs
   have h3 : vs 3 = .pointer (some ⟨gm, 0, none⟩) := hv 3 (by decide)
   have h5 : vs 5 = eAgg x A c := hv 5 (by decide)
   refine stepCall rfl Tryz.func49 (by kernel_rfl) rfl #[vs 3, vs 5] rfl (by simp [Act.eval, hs.tm 8 3 rfl, hs.tm 10 5 rfl]) (by rw [h3, h5]; exact reckon_at bs x HE.out.1 gm A c W (H1.out.2.1.m.below hp) (Kd.C_below H1.out.2.2.1 hp) HE.out.2) ?_
   rintro e W' ⟨rfl, hb'⟩
   exact ⟨_, rfl, hb', rfl⟩
  ·intro vs W hp hv b hs
   have h6 : vs 6 = .int .i64 (evalI bs x) := hv 6 (by decide)
   refine stepCall rfl Tryz.func22 (by kernel_rfl) rfl #[vs 6] rfl (by simp [Act.eval, hs.tm 11 6 rfl]) (by rw [h6]; exact numOn_any _ W) ?_
   rintro e W' ⟨rfl, hb'⟩
   exact ⟨_, rfl, hb', rfl⟩
 ·intro vs W hp hv
  have h7 : vs 7 = .bool (evalI bs x != 0) := hv 7 (by decide)
  have HW := Aside0.mk (show Below w.heap.size w W ∧ RunAt W gr gm bs f from ⟨H1.out.2.2.2.trans (hp.mono H1.out.2.2.2.size), H1.out.2.1.below hp⟩)
  have k := blk_below H1.out.1 hp
  have k5 := (Box.cell k 5 _ rfl).1
  have k6 := (Box.cell k 6 _ rfl).1
  simp only [List.map_cons, List.map_nil, putL, Act.put, List.setIfInBounds_toArray, List.set_cons_zero, List.set_cons_succ, h7]
  clear hv hp h7 k
  by_cases h0 : evalI bs x = 0
  ·have b0 : (evalI bs x != 0) = false := by simp [h0]
   have HQ := Aside0.mk (HC.out.2 h0 W HW.out.1 HW.out.2)
   clear h0
   rw [b0]
   go_wp2_with fail
   refine HQ.out.mono ?_
   rintro e W' ⟨rfl, hr, hE⟩
   have HF := Aside0.mk (show RunPost a gr gm r w (.returned (errOf a r.2.1)) W' from ⟨rfl, hr, (Ed.of_below HW.out.1).trans hE⟩)
   clear hr hE HQ k5 k6
   generalize errOf a r.2.1 = ev at HF ⊢
   go_wp2
   go_ret
   exact HF.out
  ·have b0 : (evalI bs x != 0) = true := by simp [h0]
   have HQ := Aside0.mk (HC.out.1 h0 W HW.out.1 HW.out.2)
   clear h0
   rw [b0]
   go_wp2_with fail
   refine HQ.out.mono ?_
   rintro e W' ⟨rfl, hr, hE⟩
   have HF := Aside0.mk (show RunPost a gr gm r w (.returned (errOf a r.2.1)) W' from ⟨rfl, hr, (Ed.of_below HW.out.1).trans hE⟩)
   clear hr hE HQ k5 k6
   generalize errOf a r.2.1 = ev at HF ⊢
   go_wp2
   go_ret
   exact HF.out
end Go.Proofs.YtendbgedpjcocaaGreatDoor.B
/- impl's runner: a loop is done, a list is done. -/
namespace Go.Proofs.YtendbgedpjcocaaGreatDoor.B
open Go Go.RowKit Go.Shelf Go.Proofs.YtendbgedpjcocaaGreatDoorW.PrintWords Go.Proofs.YtendbgedpjcocaaGreatDoorW.PrintLast Go.Proofs.YtendbgedpjcocaaGreatDoorW.PrintMore
set_option linter.unusedVariables false

def AllCon (k : Nat) : Prop := ∀ (d : Nat) (l : List St), formT d l = true → ∀ (bs : List Int) (f : Int) (r : Res), runL k bs l f = some r → 0 ≤ f → f ≤ 100 → ∀ (a : Addr) (gr gm : Nat) (w0 w : World) (A : Option Addr) (c : Nat),
 Env w0 w gr gm a → RunAt w gr gm bs f → Kd.C stK w0 A l.length l → l.length ≤ c → Calls Tryz.prog 37 #[.pointer (some ⟨gr, 0, none⟩), .slice A l.length c] w (RunPost a gr gm r w)
theorem fits_run {d : Nat} {l : List St} (hl : formT d l = true) {k : Nat} {bs : List Int} {f : Int} {r : Res} (h : runL k bs l f = some r) (hf : 0 ≤ f) : Fits f r := by
 obtain ⟨r', hr, hF⟩ := run_total d l hl f bs hf
 rw [hr.one ⟨k, h⟩] at hF
 exact hF
theorem fits_step {d : Nat} {s : St} (hl : formT d [s] = true) {k : Nat} {bs : List Int} {f : Int} {r : Res} (h : stepR k bs s f = some r) (hf : 0 ≤ f) : Fits f r := by
 obtain ⟨r', hr, hF⟩ := run_total d [s] hl f bs hf
 rw [hr.one (Run.single.2 ⟨k, h⟩)] at hF
 exact hF
/-- A loop that goes on is a loop with a step less. -/
theorem again_step {k : Nat} {bs : List Int} {s : St} {f : Int} {r : Res} (h : runL k bs [s] f = some r) : ∃ k', k = k' + 1 ∧ stepR k' bs s f = some r := by
 cases k with
 | zero => rw [runL] at h; cases h
 | succ k =>
  refine ⟨k, rfl, ?_⟩
  rw [runL_cons] at h
  obtain ⟨r1, hr1, h⟩ := Option.bind_eq_some_iff.1 h
  by_cases hc : r1.2.1 = 0
  ·rw [if_pos hc] at h
   cases k with
   | zero => rw [runL] at h; cases h
   | succ k =>
    rw [runL_nil] at h
    injection h with h
    obtain ⟨b, c, f'⟩ := r1
    simp only at hc h
    subst hc
    rw [← h]; exact hr1
  ·rw [if_neg hc] at h
   injection h with h
   rw [← h]; exact hr1
theorem blk_ed {F : Nat → Prop} {w w' : World} {g t : Nat} {cs : Array Value} (h : w.heap[g]? = some (.cells cs t (0, 0))) (hE : Ed F w w') (hn : ¬ F g) : w'.heap[g]? = some (.cells cs t (0, 0)) := (hE.far g (blk_lt h) hn).trans h
set_option maxRecDepth 100000 in
set_option maxHeartbeats 8000000 in
theorem do_while (k : Nat) (hall : ∀ k', k' ≤ k → AllCon k') (d : Nat) (s : St) (h3 : s.f0 = 3) (he : formS 6 s.f2 = true) (hd : formT d s.f3 = true) (bs : List Int) (f : Int) (r : Res) (hr : stepR k bs s f = some r) (hf0 : 0 ≤ f) (hf1 : f ≤ 100)
  (a : Addr) (gr gm : Nat) (w0 w : World) (A : Option Addr) (c : Nat) (A8 : Option Addr) (c8 : Nat) (hN : Env w0 w gr gm a) (hR : RunAt w gr gm bs f) (hC : Kd.C exK w0 A s.f2.f3.length s.f2.f3) (hc : s.f2.f3.length ≤ c) (hC8 : Kd.C stK w0 A8 s.f3.length s.f3) (hc8 : s.f3.length ≤ c8) :
  Calls Tryz.prog 131 #[.agg #[.int .i64 s.f2.f0, .int .i64 s.f2.f1, .int .i64 s.f2.f2.f0, .int .i64 s.f2.f2.f1, .slice A s.f2.f3.length c, .slice A8 s.f3.length c8], .pointer (some ⟨gr, 0, none⟩)] w (RunPost a gr gm r w) := by
 have mixed : Tryz.prog.follows .mixedOrders = true := rfl
 obtain ⟨x, hx⟩ : ∃ x, x = s.f2 := ⟨_, rfl⟩
 obtain ⟨n8, hn8⟩ : ∃ n, n = s.f3.length := ⟨_, rfl⟩
 rw [← hx] at he hC hc ⊢
 rw [← hn8]
 obtain ⟨w1, hw1⟩ : ∃ W, W = w.alloc (.cells #[.int .i64 x.f0, .int .i64 x.f1, .int .i64 x.f2.f0, .int .i64 x.f2.f1, .slice A x.f3.length c, .slice A8 n8 c8] 128 (0, 0)) := ⟨_, rfl⟩
 have hB : Below w.heap.size w w1 := by rw [hw1]; exact (Below.refl _ _).alloc (Nat.le_refl _) _
 have hnb : ¬ Fm gr gm w.heap.size := by
  intro h
  rcases h with h | h
  ·have := blk_lt hR.r; omega
  ·have := blk_lt hR.m.b; omega
 have H1 := Aside0.mk (show Box w1 w.heap.size 128 #[.int .i64 x.f0, .int .i64 x.f1, .int .i64 x.f2.f0, .int .i64 x.f2.f1, .slice A x.f3.length c, .slice A8 n8 c8] ∧ RunAt w1 gr gm bs f ∧ Env w0 w1 gr gm a ∧ Ed (Fm gr gm) w w1 from
  ⟨by rw [hw1]; exact heap_alloc_new _ _, hR.below hB, hN.below hB, Ed.of_below hB⟩)
 have HE := Aside0.mk (And.intro he (And.intro hc (And.intro hC (And.intro hC8 (And.intro hc8 (And.intro hd (And.intro hx (And.intro hn8 (And.intro h3 (And.intro hnb hall))))))))))
 have HS := Aside0.mk (And.intro hr (And.intro hf0 hf1))
 clear hR hC hB he hc hC8 hc8 hd hN hr hf0 hf1 hall hx hn8 h3 hnb
 go_enter Tryz.func131, Tryz.ntmps131
 go_wp2_with fail
 rw [← hw1]
 clear hw1
 go_loopg [4] k (fun kq v4 W => ∃ (bs' : List Int) (f' : Int), v4 = .nilIface ∧ Aside0 (stepR kq bs' s f' = some r ∧ kq ≤ k ∧ 0 ≤ f' ∧ f' ≤ 100 ∧ Box W w.heap.size 128 #[.int .i64 x.f0, .int .i64 x.f1, .int .i64 x.f2.f0, .int .i64 x.f2.f1, .slice A x.f3.length c, .slice A8 n8 c8] ∧ RunAt W gr gm bs' f' ∧ Env w0 W gr gm a ∧ Ed (Fm gr gm) w W))
 case atStart => exact ⟨bs, f, rfl, ⟨HS.out.1, Nat.le_refl _, HS.out.2.1, HS.out.2.2, H1.out.1, H1.out.2.1, H1.out.2.2.1, H1.out.2.2.2⟩⟩
 case round =>
  obtain ⟨b', f', rfl, HR⟩ := hrel
  rename World => w2
  clear HS H1
  go_upto_region 1 with fail
  refine weaveB_ (fun W => Below w2.heap.size w2 W) (Lasts.below w2) (Below.refl _ _) [(7, 0), (8, 1), (9, 2), (10, 3), (11, 4), (12, 5), (13, 6), (14, 7)]
   [fun v _ => v = .pointer (some ⟨gr, 0, none⟩), fun v _ => v = .pointer (some ⟨gr, 0, none⟩), fun v _ => v = .pointer (some ⟨gr, 0, none⟩), fun v _ => v = .pointer (some ⟨gm, 0, none⟩), fun v _ => v = .pointer (some ⟨w.heap.size, 0, none⟩), fun v _ => v = eAgg x A c, fun v _ => v = .int .i64 (evalI b' x), fun v _ => v = .bool (evalI b' x != 0)]
   mixed (by kernel_rfl) ⟨fun _ => Lasts.const _, fun _ => Lasts.const _, fun _ => Lasts.const _, fun _ => Lasts.const _, fun _ => Lasts.const _, fun _ => Lasts.const _, fun _ => Lasts.const _, fun _ => Lasts.const _, trivial⟩ ?_ ?_
  ·refine ⟨?_, ?_, ?_, ?_, ?_, ?_, ?_, ?_, trivial⟩
   ·intro vs W hp hv b hs
    have t1 := (hs.oldtm 1 rfl).trans (show _ = some (Value.pointer (some ⟨gr, 0, none⟩)) from rfl)
    exact stepVal rfl (by go_simp) ⟨Below.refl _ _, rfl⟩
   ·intro vs W hp hv b hs
    have h0 : vs 0 = .pointer (some ⟨gr, 0, none⟩) := hv 0 (by decide)
    have t5 := (hs.tm 7 0 rfl).trans (congrArg some h0)
    exact stepVal rfl (by go_simp) ⟨Below.refl _ _, rfl⟩
   ·intro vs W hp hv b hs
    have h1 : vs 1 = .pointer (some ⟨gr, 0, none⟩) := hv 1 (by decide)
    have t6 := (hs.tm 8 1 rfl).trans (congrArg some h1)
    exact stepVal rfl (by go_simp) ⟨Below.refl _ _, rfl⟩
   ·intro vs W hp hv b hs
    have h2 : vs 2 = .pointer (some ⟨gr, 0, none⟩) := hv 2 (by decide)
    have t7 := (hs.tm 9 2 rfl).trans (congrArg some h2)
    have cr := (Box.cell (blk_below HR.out.2.2.2.2.2.1.r hp) 0 _ rfl).1
    exact stepVal rfl (by go_simp) ⟨Below.refl _ _, rfl⟩
   ·intro vs W hp hv b hs
    have t2 := (hs.oldtm 2 rfl).trans (show _ = some (Value.pointer (some ⟨w.heap.size, 0, none⟩)) from rfl)
    exact stepVal rfl (by go_simp) ⟨Below.refl _ _, rfl⟩
   ·intro vs W hp hv b hs
    have h4 : vs 4 = .pointer (some ⟨w.heap.size, 0, none⟩) := hv 4 (by decide)
    have t9 := (hs.tm 11 4 rfl).trans (congrArg some h4)
    have k := blk_below HR.out.2.2.2.2.1 hp
    have c0 := (Box.cell k 0 _ rfl).1
    have c1' := (Box.cell k 1 _ rfl).1
    have c2' := (Box.cell k 2 _ rfl).1
    have c3 := (Box.cell k 3 _ rfl).1
    have c4 := (Box.cell k 4 _ rfl).1
    exact stepVal rfl (by go_simp) ⟨Below.refl _ _, rfl⟩
   ·intro vs W hp hv b hs
    have h3 : vs 3 = .pointer (some ⟨gm, 0, none⟩) := hv 3 (by decide)
    have h5 : vs 5 = eAgg x A c := hv 5 (by decide)
    refine stepCall rfl Tryz.func49 (by kernel_rfl) rfl #[vs 3, vs 5] rfl (by simp [Act.eval, hs.tm 10 3 rfl, hs.tm 12 5 rfl]) (by rw [h3, h5]; exact reckon_at b' x HE.out.1 gm A c W (HR.out.2.2.2.2.2.1.m.below hp) (Kd.C_below (Kd.C_below HE.out.2.2.1 HR.out.2.2.2.2.2.2.1.b) hp) HE.out.2.1) ?_
    rintro e W' ⟨rfl, hb'⟩
    exact ⟨_, rfl, hb', rfl⟩
   ·intro vs W hp hv b hs
    have h6 : vs 6 = .int .i64 (evalI b' x) := hv 6 (by decide)
    refine stepCall rfl Tryz.func22 (by kernel_rfl) rfl #[vs 6] rfl (by simp [Act.eval, hs.tm 13 6 rfl]) (by rw [h6]; exact numOn_any _ W) ?_
    rintro e W' ⟨rfl, hb'⟩
    exact ⟨_, rfl, hb', rfl⟩
  ·intro vs W hp hv
   have h7 : vs 7 = .bool (evalI b' x != 0) := hv 7 (by decide)
   have HW := Aside0.mk (show RunAt W gr gm b' f' ∧ Env w0 W gr gm a ∧ Ed (Fm gr gm) w W ∧ Box W w.heap.size 128 #[.int .i64 x.f0, .int .i64 x.f1, .int .i64 x.f2.f0, .int .i64 x.f2.f1, .slice A x.f3.length c, .slice A8 n8 c8] from
    ⟨HR.out.2.2.2.2.2.1.below hp, HR.out.2.2.2.2.2.2.1.below hp, HR.out.2.2.2.2.2.2.2.trans (Ed.of_below hp), blk_below HR.out.2.2.2.2.1 hp⟩)
   have k5 := (Box.cell HW.out.2.2.2 5 _ rfl).1
   simp only [List.map_cons, List.map_nil, putL, Act.put, List.setIfInBounds_toArray, List.set_cons_zero, List.set_cons_succ, h7]
   clear hv hp h7
   have hst := HR.out.1
   unfold stepR at hst
   rw [if_neg (by have := HE.out.2.2.2.2.2.2.2.2.1; omega), if_pos HE.out.2.2.2.2.2.2.2.2.1, ← HE.out.2.2.2.2.2.2.1] at hst
   by_cases h0 : evalI b' x = 0
   ·rw [if_pos h0] at hst
    injection hst with hst
    have b0 : (evalI b' x != 0) = false := by simp [h0]
    have HF := Aside0.mk (show RunPost a gr gm r w (.returned .nilIface) W from by rw [← hst]; exact ⟨rfl, HW.out.1, HW.out.2.2.1⟩)
    clear h0 hst k5
    rw [b0]
    go_wp2
    go_ret
    exact HF.out
   ·rw [if_neg h0] at hst
    obtain ⟨r2, hr2, hst⟩ := Option.bind_eq_some_iff.1 hst
    have b0 : (evalI b' x != 0) = true := by simp [h0]
    have hF2 := fits_run HE.out.2.2.2.2.2.1 hr2 HR.out.2.2.1
    have HQ := Aside0.mk (HE.out.2.2.2.2.2.2.2.2.2.2 _ HR.out.2.1 d s.f3 HE.out.2.2.2.2.2.1 b' f' r2 hr2 HR.out.2.2.1 HR.out.2.2.2.1 a gr gm w0 W A8 c8 HW.out.2.1 HW.out.1 HE.out.2.2.2.1 HE.out.2.2.2.2.1)
    have HFT := Aside0.mk hF2
    have HST := Aside0.mk hst
    clear h0 hst hr2 hF2
    rw [b0]
    rw [← HE.out.2.2.2.2.2.2.2.1] at HQ
    go_wp2_with fail
    refine HQ.out.mono ?_
    rintro e W' ⟨rfl, hrr, hE⟩
    have H2 := Aside0.mk (show RunAt W' gr gm r2.1 r2.2.2 ∧ Env w0 W' gr gm a ∧ Ed (Fm gr gm) w W' ∧ Box W' w.heap.size 128 #[.int .i64 x.f0, .int .i64 x.f1, .int .i64 x.f2.f0, .int .i64 x.f2.f1, .slice A x.f3.length c, .slice A8 n8 c8] from
     ⟨hrr, HW.out.2.1.step hE, HW.out.2.2.1.trans hE, blk_ed HW.out.2.2.2 hE HE.out.2.2.2.2.2.2.2.2.2.1⟩)
    clear hrr hE HQ k5
    by_cases hc2 : r2.2.1 = 0
    ·have hst := HST.out
     rw [if_pos hc2] at hst
     rw [errOf, if_pos hc2]
     by_cases hl : r2.2.2 < 1
     ·rw [if_pos hl] at hst
      injection hst with hst
      have hz : r2.2.2 = 0 := by have := HFT.out.lo; omega
      have hR2 := H2.out.1
      rw [hz] at hR2
      have HF := Aside0.mk (show RunPost a gr gm r w (.returned (errOf a 1)) W' from by rw [← hst]; exact ⟨rfl, hR2, H2.out.2.2.1⟩)
      have HT := Aside0.mk (take_none gr gm r2.1 a W' hR2 H2.out.2.1.err)
      clear hst hl hz hR2 hc2
      go_wp2_with fail
      refine HT.out.mono ?_
      rintro e W'' ⟨rfl, rfl⟩
      have hne : errOf a 1 = .iface 156 (.pointer (some a)) := by rw [errOf, if_neg (by decide)]
      rw [hne]
      clear HT
      go_wp2
      go_ret
      have := HF.out
      rw [hne] at this
      exact this
     ·rw [if_neg hl] at hst
      obtain ⟨k', hk', hst'⟩ := again_step hst
      have HT := Aside0.mk (take_some gr gm H2.out.2.1.ne r2.1 r2.2.2 W' H2.out.1 (by omega) (by have h1 := HFT.out.hi; have h2 := HR.out.2.2.2.1; omega))
      have HK := Aside0.mk (And.intro hk' (And.intro hst' hl))
      clear hst hl hc2 hk' hst'
      go_wp2_with fail
      refine HT.out.mono ?_
      rintro e W'' ⟨rfl, hrr, hE⟩
      have H3 := Aside0.mk (show RunAt W'' gr gm r2.1 (r2.2.2 - 1) ∧ Env w0 W'' gr gm a ∧ Ed (Fm gr gm) w W'' ∧ Box W'' w.heap.size 128 #[.int .i64 x.f0, .int .i64 x.f1, .int .i64 x.f2.f0, .int .i64 x.f2.f1, .slice A x.f3.length c, .slice A8 n8 c8] from
       ⟨hrr, H2.out.2.1.step hE, H2.out.2.2.1.trans hE, blk_ed H2.out.2.2.2 hE HE.out.2.2.2.2.2.2.2.2.2.1⟩)
      clear hrr hE HT
      go_wp2_with fail
      go_roundg k'
      case measure => have := HK.out.1; omega
      case rel => exact ⟨r2.1, r2.2.2 - 1, rfl, ⟨HK.out.2.1, by have h1 := HK.out.1; have h2 := HR.out.2.1; omega, by have := HK.out.2.2; omega, by have h1 := HFT.out.hi; have h2 := HR.out.2.2.2.1; omega, H3.out.2.2.2, H3.out.1, H3.out.2.1, H3.out.2.2.1⟩⟩
    ·have hst := HST.out
     rw [if_neg hc2] at hst
     injection hst with hst
     have hne : errOf a r2.2.1 = .iface 156 (.pointer (some a)) := by rw [errOf, if_neg hc2]
     have HF := Aside0.mk (show RunPost a gr gm r w (.returned (.iface 156 (.pointer (some a)))) W' from by rw [← hst]; exact ⟨by rw [hne], H2.out.1, H2.out.2.2.1⟩)
     rw [hne]
     clear hst hc2 hne
     go_wp2
     go_ret
     exact HF.out
end Go.Proofs.YtendbgedpjcocaaGreatDoor.B
/- impl's runner: a list is done. -/
namespace Go.Proofs.YtendbgedpjcocaaGreatDoor.B
open Go Go.RowKit Go.Shelf Go.Proofs.YtendbgedpjcocaaGreatDoorW.PrintWords Go.Proofs.YtendbgedpjcocaaGreatDoorW.PrintLast Go.Proofs.YtendbgedpjcocaaGreatDoorW.PrintMore
set_option linter.unusedVariables false

/-- A statement as what is called. -/
structure DoOf (s : St) (A7 : Option Addr) (c7 : Nat) (A8 : Option Addr) (c8 : Nat) (A9 : Option Addr) (c9 : Nat) (T : TypeId) (v : Value) (fo : Nat) (gr : Nat) (w0 : World) (a : Addr) (gm : Nat) (bs : List Int) (f : Int) (r : Res) : Prop where
 v' : doV s A7 c7 A8 c8 A9 c9 = .iface T v
 m : ∀ w, (method 299 T v "loop.example/stopgate/impl.do").run Tryz.prog w = .ok (fo, v) w
 e : ∀ args w, (callFunc fo args).run Tryz.prog w = .ok (.enter fo args) w
 c : ∀ w, Env w0 w gr gm a → RunAt w gr gm bs f → Calls Tryz.prog fo #[v, .pointer (some ⟨gr, 0, none⟩)] w (RunPost a gr gm r w)
theorem form_of_head {s : St} (h : headSt s = true) : formS 6 s.f2 = true := by
 unfold headSt at h
 simp only [Bool.and_eq_true] at h
 have := h.2
 rw [okL_eq, Bool.and_eq_true] at this
 exact this.1
theorem kind_of_head {s : St} (hs : headSt s = true) : s.f0 = 1 ∨ s.f0 = 2 ∨ s.f0 = 3 := by
 unfold headSt plainL at hs
 by_cases h1 : s.f0 = 1
 ·exact .inl h1
 ·by_cases h2 : s.f0 = 2
  ·exact .inr (.inl h2)
  ·by_cases h3 : s.f0 = 3
   ·exact .inr (.inr h3)
   ·rw [if_neg h1, if_neg h2, if_neg h3] at hs; simp at hs
theorem do_of (k : Nat) (hall : ∀ k', k' ≤ k → AllCon k') (d : Nat) (s : St) (hh : headSt s = true) (h3 : formT d s.f3 = true) (h4 : formT d s.f4 = true) (bs : List Int) (f : Int) (r : Res) (hr : stepR k bs s f = some r) (hf0 : 0 ≤ f) (hf1 : f ≤ 100)
  (a : Addr) (gr gm : Nat) (w0 : World) (A7 : Option Addr) (c7 : Nat) (A8 : Option Addr) (c8 : Nat) (A9 : Option Addr) (c9 : Nat) (hC7 : Kd.C exK w0 A7 s.f2.f3.length s.f2.f3) (hc7 : s.f2.f3.length ≤ c7) (hC8 : Kd.C stK w0 A8 s.f3.length s.f3) (hc8 : s.f3.length ≤ c8) (hC9 : Kd.C stK w0 A9 s.f4.length s.f4) (hc9 : s.f4.length ≤ c9) :
  ∃ T v fo, DoOf s A7 c7 A8 c8 A9 c9 T v fo gr w0 a gm bs f r := by
 have he := form_of_head hh
 rcases kind_of_head hh with h | h | h
 ·refine ⟨_, _, _, by rw [doV, if_pos h], meth_do1 _, enters_of Tryz.func125 (by kernel_rfl) rfl, fun w hN hR => ?_⟩
  rw [stepR, if_pos h] at hr
  injection hr with hr
  rw [← hr]
  exact do_set bs s.f1.f0 s.f1.f1 f s.f2 he a gr gm hN.ne A7 c7 w hR (Kd.C_below hC7 hN.b) hc7
 ·refine ⟨_, _, _, by rw [doV, if_neg (by omega), if_pos h], meth_do2 _, enters_of Tryz.func128 (by kernel_rfl) rfl, fun w hN hR => ?_⟩
  rw [stepR, if_neg (by omega), if_neg (by omega)] at hr
  refine do_if bs f s.f2 he r a gr gm A7 c7 _ _ A8 c8 A9 c9 w hR (Kd.C_below hC7 hN.b) hc7 (fun h0 W hW hRW => ?_) (fun h0 W hW hRW => ?_)
  ·rw [if_neg h0] at hr
   exact hall k (Nat.le_refl _) d s.f3 h3 bs f r hr hf0 hf1 a gr gm w0 W A8 c8 (hN.below hW) hRW hC8 hc8
  ·rw [if_pos h0] at hr
   exact hall k (Nat.le_refl _) d s.f4 h4 bs f r hr hf0 hf1 a gr gm w0 W A9 c9 (hN.below hW) hRW hC9 hc9
 ·refine ⟨_, _, _, by rw [doV, if_neg (by omega), if_neg (by omega), if_pos h], meth_do3 _, enters_of Tryz.func131 (by kernel_rfl) rfl, fun w hN hR => ?_⟩
  exact do_while k hall d s h he h3 bs f r hr hf0 hf1 a gr gm w0 w A7 c7 A8 c8 hN hR hC7 hc7 hC8 hc8
theorem form_cons {d : Nat} {s : St} {l : List St} (h : formT d (s :: l) = true) : ∃ d', d = d' + 1 ∧ headSt s = true ∧ formT d' s.f3 = true ∧ formT d' s.f4 = true ∧ formT d l = true := by
 cases d with
 | zero => cases h
 | succ d =>
  have e : formT (d + 1) (s :: l) = ((headSt s && (formT d s.f3 && formT d s.f4)) && formT (d + 1) l) := rfl
  rw [e] at h
  simp only [Bool.and_eq_true] at h
  exact ⟨d, rfl, h.1.1, h.1.2.1, h.1.2.2, h.2⟩
theorem form_drop {d : Nat} : ∀ (l : List St) (j : Nat), formT d l = true → formT d (l.drop j) = true := by
 intro l
 induction l with
 | nil => intro j h; simpa using h
 | cons s l ih =>
  intro j h
  cases j with
  | zero => exact h
  | succ j => obtain ⟨_, _, _, _, _, h'⟩ := form_cons h; exact ih j h'
theorem form_one {d : Nat} {s : St} {l : List St} (h : formT d (s :: l) = true) : formT d [s] = true := by
 obtain ⟨d', rfl, h1, h2, h3, _⟩ := form_cons h
 show ((headSt s && (formT d' s.f3 && formT d' s.f4)) && formT (d' + 1) []) = true
 rw [h1, h2, h3]; rfl
set_option maxRecDepth 100000 in
set_option maxHeartbeats 8000000 in
theorem all_con (k : Nat) : AllCon k := by
 induction k using Nat.strongRecOn with
 | _ k ih =>
 intro d l hl bs f r hr hf0 hf1 a gr gm w0 w A c hN hR hC hc
 have hmax : l.length ≤ 9223372036854775807 := by have := hC.2.1; omega
 have HI := Aside0.mk (And.intro hl (And.intro hC (And.intro hc (And.intro hmax ih))))
 have HS := Aside0.mk (And.intro hr (And.intro hf0 (And.intro hf1 (And.intro hN hR))))
 clear hl hr hf0 hf1 hN hR hC hc ih hmax
 go_enter Tryz.func37, Tryz.ntmps37
 go_wp2
 go_loopg [10] k (fun kq v10 W => ∃ (j : Nat) (bs' : List Int) (f' : Int), v10 = .int .i64 j ∧ Aside0 (runL kq bs' (l.drop j) f' = some r ∧ j ≤ l.length ∧ kq ≤ k ∧ 0 ≤ f' ∧ f' ≤ 100 ∧ Env w0 W gr gm a ∧ RunAt W gr gm bs' f' ∧ Ed (Fm gr gm) w W))
 case atStart => exact ⟨0, bs, f, rfl, ⟨HS.out.1, Nat.zero_le _, Nat.le_refl _, HS.out.2.1, HS.out.2.2.1, HS.out.2.2.2.1, HS.out.2.2.2.2, Ed.refl _ _⟩⟩
 case round =>
  obtain ⟨j, b', f', rfl, HR⟩ := hrel
  rename World => w2
  clear HS
  cases gk with
  | zero => have := HR.out.1; rw [runL] at this; cases this
  | succ k1 =>
  by_cases hj : j < l.length
  ·obtain ⟨ad, A7, c7, A8, c8, A9, c9, hA, e0, e1, e2, e3, e4, e5, e6, e7, e8, e9, hl7, hi7, hl8, hi8, hl9, hi9⟩ := at_T35 HI.out.2.1 (j : Int) (by omega) (by omega)
   cases hA
   have hkid : rd_T35 l (j : Int) = l[j] := by simp [rd_T35, hj]
   have hb := HR.out.2.2.2.2.2.1.b
   replace e0 := (hb.cell (World.block_lt_of_cell? w0 _ e0)).trans e0
   replace e1 := (hb.cell (World.block_lt_of_cell? w0 _ e1)).trans e1
   replace e2 := (hb.cell (World.block_lt_of_cell? w0 _ e2)).trans e2
   replace e3 := (hb.cell (World.block_lt_of_cell? w0 _ e3)).trans e3
   replace e4 := (hb.cell (World.block_lt_of_cell? w0 _ e4)).trans e4
   replace e5 := (hb.cell (World.block_lt_of_cell? w0 _ e5)).trans e5
   replace e6 := (hb.cell (World.block_lt_of_cell? w0 _ e6)).trans e6
   replace e7 := (hb.cell (World.block_lt_of_cell? w0 _ e7)).trans e7
   replace e8 := (hb.cell (World.block_lt_of_cell? w0 _ e8)).trans e8
   replace e9 := (hb.cell (World.block_lt_of_cell? w0 _ e9)).trans e9
   rw [hkid] at e0 e1 e2 e3 e4 e5 e6 e7 e8 e9 hl7 hi7 hl8 hi8 hl9 hi9
   simp only [Int.toNat_natCast] at e0 e1 e2 e3 e4 e5 e6 e7 e8 e9
   have hdr : l.drop j = l[j] :: l.drop (j + 1) := List.drop_eq_getElem_cons hj
   obtain ⟨x, hx⟩ : ∃ x, x = l[j] := ⟨_, rfl⟩
   rw [← hx] at e0 e1 e2 e3 e4 e5 e6 e7 e8 e9 hl7 hi7 hl8 hi8 hl9 hi9 hdr
   have hfd := form_drop l j HI.out.1
   have hrun := HR.out.1
   rw [hdr] at hfd hrun
   rw [runL_cons] at hrun
   obtain ⟨r1, hr1, hrun⟩ := Option.bind_eq_some_iff.1 hrun
   obtain ⟨d', hd', hh, h3, h4, _⟩ := form_cons hfd
   have hF1 := fits_step (form_one hfd) hr1 HR.out.2.2.2.1
   obtain ⟨T, v, fo, hdo⟩ := do_of k1 (fun k' hk' => HI.out.2.2.2.2 k' (by have := HR.out.2.2.1; omega)) d' x hh h3 h4 b' f' r1 hr1 HR.out.2.2.2.1 HR.out.2.2.2.2.1 a gr gm w0 A7 c7 A8 c8 A9 c9 hi7 hl7 hi8 hl8 hi9 hl9
   have HX := Aside0.mk (And.intro hj (And.intro hrun hF1))
   have HDO := Aside0.mk hdo
   clear hb hkid hx hi7 hl7 hi8 hl8 hi9 hl9 hdr hfd hrun hr1 hd' hh h3 h4 hF1 hdo
   go_upto_region 4 with (fail)
   have j1 := heap_alloc_new w2 (.cells (stCells x A7 c7 A8 c8 A9 c9) 35)
   have hb1 : Below w2.heap.size w2 (w2.alloc (.cells (stCells x A7 c7 A8 c8 A9 c9) 35)) := (Below.refl _ _).alloc (Nat.le_refl _) _
   unfold stCells at j1 hb1
   generalize w2.alloc (.cells #[.int .i64 x.f0, .int .i64 x.f1.f0, .int .i64 x.f1.f1, .int .i64 x.f2.f0, .int .i64 x.f2.f1, .int .i64 x.f2.f2.f0, .int .i64 x.f2.f2.f1, .slice A7 x.f2.f3.length c7, .slice A8 x.f3.length c8, .slice A9 x.f4.length c9] 35) = W1 at j1 hb1 ⊢
   have HW1 := Aside0.mk hb1
   clear e0 e1 e2 e3 e4 e5 e6 e7 e8 e9 hb1
   obtain ⟨e0, e1, e2, e3, e4, e5, e6, e7, e8, e9, _⟩ := cel10 j1
   clear j1
   go_wp2_with fail
   refine (doing_any x A7 c7 A8 c8 A9 c9 W1).mono ?_
   rintro e w3 ⟨rfl, hb2⟩
   rw [HDO.out.v']
   have H3 := Aside0.mk (show Env w0 w3 gr gm a ∧ RunAt w3 gr gm b' f' ∧ Ed (Fm gr gm) w w3 from
    ⟨(HR.out.2.2.2.2.2.1.below HW1.out).below hb2, (HR.out.2.2.2.2.2.2.1.below HW1.out).below hb2, (HR.out.2.2.2.2.2.2.2.trans (Ed.of_below HW1.out)).trans (Ed.of_below hb2)⟩)
   have hm := HDO.out.m
   have hep := HDO.out.e
   have HQ := Aside0.mk (HDO.out.c w3 H3.out.1 H3.out.2.1)
   clear hb2 HW1 e0 e1 e2 e3 e4 e5 e6 e7 e8 e9 HDO
   go_wp2_with fail
   refine HQ.out.mono ?_
   rintro e w4 ⟨rfl, hrr, hE⟩
   have H4 := Aside0.mk (show RunAt w4 gr gm r1.1 r1.2.2 ∧ Env w0 w4 gr gm a ∧ Ed (Fm gr gm) w w4 from ⟨hrr, H3.out.1.step hE, H3.out.2.2.trans hE⟩)
   clear hrr hE HQ H3 hm hep
   by_cases hc1 : r1.2.1 = 0
   ·have hrun := HX.out.2.1
    rw [if_pos hc1] at hrun
    have HN := Aside0.mk hrun
    rw [errOf, if_pos hc1]
    clear hc1 hrun
    go_wp2_with fail
    go_roundg k1
    case measure => have := HR.out.2.2.1; omega
    case rel => exact ⟨j + 1, r1.1, r1.2.2, congrArg (Value.int .i64) (by rw [wrap_in (by omega) (by have := HI.out.2.2.2.1; have := HX.out.1; omega)]; omega), ⟨HN.out, HX.out.1, by have := HR.out.2.2.1; omega, HX.out.2.2.lo, by have h1 := HX.out.2.2.hi; have h2 := HR.out.2.2.2.2.1; omega, H4.out.2.1, H4.out.1, H4.out.2.2⟩⟩
   ·have hrun := HX.out.2.1
    rw [if_neg hc1] at hrun
    injection hrun with hrun
    have hne : errOf a r1.2.1 = .iface 156 (.pointer (some a)) := by rw [errOf, if_neg hc1]
    have HF := Aside0.mk (show RunPost a gr gm r w (.returned (.iface 156 (.pointer (some a)))) w4 from by rw [← hrun]; exact ⟨by rw [hne], H4.out.1, H4.out.2.2⟩)
    rw [hne]
    clear hc1 hrun hne
    go_wp2
    go_ret
    exact HF.out
  ·have hjl : l.drop j = [] := List.drop_of_length_le (by omega)
   have hrun := HR.out.1
   rw [hjl, runL_nil] at hrun
   injection hrun with hrun
   have HF := Aside0.mk (show RunPost a gr gm r w (.returned .nilIface) w2 from by rw [← hrun]; exact ⟨rfl, HR.out.2.2.2.2.2.2.1, HR.out.2.2.2.2.2.2.2⟩)
   clear hjl hrun
   go_wp2
   go_ret
   exact HF.out
end Go.Proofs.YtendbgedpjcocaaGreatDoor.B
/- impl.SlimReads: a range over the parts, over impl.ExprOk's contract. -/
namespace Go.Proofs.YtendbgedpjcocaaGreatDoor.B
open Go.RowKit Go.Shelf Go.Proofs.YtendbgedpjcocaaGreatDoorW.PrintWords Go.Proofs.YtendbgedpjcocaaGreatDoorW.PrintLast Go.Proofs.YtendbgedpjcocaaGreatDoorW.PrintMore
set_option linter.unusedVariables false
attribute [local go_sem] Oper.semAt_some
attribute [local go_sem high] eqA24

def readsP (a b : Int) (x : Int × Ex) : Bool := x.2.f0 == 2 && (x.2.f2.f0 == a && (x.2.f2.f1 == b))

structure SlI (w : World) (a b : Int) (A : Nat → Prop) (pre : List (Int × Ex)) (W : World) : Prop where
 r : Boxed W (w.heap.size + 1 + 1) 4 (.bool false)
 p : W.heap[w.heap.size + 1]? = some (.cells #[.int .i64 a, .int .i64 b] 24 (0, 0))
 ok : pre.any (readsP a b) = false
 nr : ¬ A (w.heap.size + 1 + 1)
 np : ¬ A (w.heap.size + 1)
 ge : ∀ k, A k → w.heap.size ≤ k
 below : Below w.heap.size w W
structure SlX (w : World) (a b : Int) (c : Code) (A : Nat → Prop) (pre : List (Int × Ex)) (W : World) : Prop where
 c : c = .ret
 r : Boxed W (w.heap.size + 1 + 1) 4 (.bool true)
 ok : pre.any (readsP a b) = true
 nr : ¬ A (w.heap.size + 1 + 1)
 ge : ∀ k, A k → w.heap.size ≤ k
 below : Below w.heap.size w W
def slTmps (w : World) (e : Ex) (a b : Int) (A : Option Addr) (c : Nat) (be : Nat) (x : Int × Ex) (A4 : Option Addr) (c4 Bx : Nat) : Array Value :=
 #[.agg #[.int .i64 e.f0, .int .i64 e.f1, .int .i64 e.f2.f0, .int .i64 e.f2.f1, .slice A e.f3.length c], .agg #[.int .i64 a, .int .i64 b], .pointer (some ⟨w.heap.size, 0, none⟩), .pointer (some ⟨w.heap.size + 1, 0, none⟩), .pointer (some ⟨w.heap.size + 1 + 1, 0, none⟩), undef, .pointer (some ⟨Bx, 0, none⟩),
  .agg #[.int .i64 e.f0, .int .i64 e.f1, .int .i64 e.f2.f0, .int .i64 e.f2.f1, .slice A e.f3.length c], .bool true, .bool false, .agg #[.int .i64 e.f0, .int .i64 e.f1, .int .i64 e.f2.f0, .int .i64 e.f2.f1, .slice A e.f3.length c], .func (.func 85) #[] #[.pointer (some ⟨be, 0, none⟩)],
  .int .i64 x.1, .agg #[.int .i64 x.2.f0, .int .i64 x.2.f1, .int .i64 x.2.f2.f0, .int .i64 x.2.f2.f1, .slice A4 x.2.f3.length c4],
  undef, undef, undef, undef, undef, undef, undef, undef, undef]
def SlM (w : World) (e : Ex) (a b : Int) (A : Option Addr) (c : Nat) (be : Nat) (act : Act) (A' : Nat → Prop) (s : List (Int × Ex)) (W : World) : Prop :=
 ∃ (pre : List (Int × Ex)) (x : Int × Ex) (A4 : Option Addr) (c4 Bx : Nat), s = pre ++ [x] ∧ act = { tmps := slTmps w e a b A c be x A4 c4 Bx, defers := [] } ∧
  W.heap[Bx]? = some (.cells #[.int .i64 x.2.f0, .int .i64 x.2.f1, .int .i64 x.2.f2.f0, .int .i64 x.2.f2.f1, .slice A4 x.2.f3.length c4] 27 (0, 0)) ∧ ¬ A' Bx ∧ w.heap.size + 1 + 1 < Bx ∧ x.2.f3.length ≤ c4 ∧ SlI w a b A' pre W

theorem foreign_sl (w : World) (a b : Int) : Foreign (SlI w a b) where
 turn := fun {A s W W' r} h hg he hr => ⟨h.r.kept hg (fun e => by cases e; exact h.nr hr), (hg.block _ (blk_lt h.p) (fun e => by cases e; exact h.np hr)).trans h.p, h.ok, h.nr, h.np, h.ge, h.below.grown hg (h.below.size) (fun k e => by cases e; exact h.ge _ hr)⟩
 alloc := fun {A s W} o h => ⟨h.r.alloc o, (Below.heap_alloc W o _ (blk_lt h.p)).trans h.p, h.ok, fun e => e.elim h.nr (fun e => by have := h.r.lt; omega), fun e => e.elim h.np (fun e => by have := blk_lt h.p; omega), fun k e => e.elim (h.ge k) (fun e => by have := h.below.size; omega), h.below.alloc h.below.size o⟩
 drew := fun {A s W} h => ⟨h.r, h.p, h.ok, h.nr, h.np, h.ge, h.below.drew⟩
 fewer := fun {A A' s W} h hA => ⟨h.r, h.p, h.ok, fun e => h.nr (hA _ e), fun e => h.np (hA _ e), fun k e => h.ge k (hA k e), h.below⟩
theorem foreign_slx (w : World) (a b : Int) (c : Code) : Foreign (SlX w a b c) where
 turn := fun {A s W W' r} h hg he hr => ⟨h.c, h.r.kept hg (fun e => by cases e; exact h.nr hr), h.ok, h.nr, h.ge, h.below.grown hg (h.below.size) (fun k e => by cases e; exact h.ge _ hr)⟩
 alloc := fun {A s W} o h => ⟨h.c, h.r.alloc o, h.ok, fun e => e.elim h.nr (fun e => by have := h.r.lt; omega), fun k e => e.elim (h.ge k) (fun e => by have := h.below.size; omega), h.below.alloc h.below.size o⟩
 drew := fun {A s W} h => ⟨h.c, h.r, h.ok, h.nr, h.ge, h.below.drew⟩
 fewer := fun {A A' s W} h hA => ⟨h.c, h.r, h.ok, fun e => h.nr (hA _ e), fun k e => h.ge k (hA k e), h.below⟩
theorem foreign_slm (w : World) (e : Ex) (a b : Int) (A : Option Addr) (c : Nat) (be : Nat) (act : Act) : Foreign (SlM w e a b A c be act) where
 turn := by
  rintro A' s W W' r ⟨pre, x, A4, c4, Bx, rfl, rfl, hb, hn, hlt, hc, hi⟩ hg he hr
  exact ⟨pre, x, A4, c4, Bx, rfl, rfl, (hg.block Bx (Array.getElem?_eq_some_iff.1 hb).1 (fun e => by cases e; exact hn hr)).trans hb, hn, hlt, hc, (foreign_sl w a b).turn hi hg he hr⟩
 alloc := by
  rintro A' s W o ⟨pre, x, A4, c4, Bx, rfl, rfl, hb, hn, hlt, hc, hi⟩
  have hz := (Array.getElem?_eq_some_iff.1 hb).1
  exact ⟨pre, x, A4, c4, Bx, rfl, rfl, (Below.heap_alloc W o Bx hz).trans hb, fun e => e.elim hn (fun e => by omega), hlt, hc, (foreign_sl w a b).alloc o hi⟩
 drew := by
  rintro A' s W ⟨pre, x, A4, c4, Bx, rfl, rfl, hb, hn, hlt, hc, hi⟩
  exact ⟨pre, x, A4, c4, Bx, rfl, rfl, hb, hn, hlt, hc, (foreign_sl w a b).drew hi⟩
 fewer := by
  rintro A' A'' s W ⟨pre, x, A4, c4, Bx, rfl, rfl, hb, hn, hlt, hc, hi⟩ hA
  exact ⟨pre, x, A4, c4, Bx, rfl, rfl, hb, fun e => hn (hA _ e), hlt, hc, (foreign_sl w a b).fewer hi hA⟩

set_option maxRecDepth 100000 in
set_option maxHeartbeats 8000000 in
theorem slimReads_any (hok : OkCon) (e : Ex) (a b : Int) (A : Option Addr) (c : Nat) (w : World) (hC : Kd.C exK w A e.f3.length e.f3) (hc : e.f3.length ≤ c) :
  Calls Tryz.prog 25 #[.agg #[.int .i64 e.f0, .int .i64 e.f1, .int .i64 e.f2.f0, .int .i64 e.f2.f1, .slice A e.f3.length c], .agg #[.int .i64 a, .int .i64 b]] w fun en w' => en = .returned (.bool (okL 0 (partsL e) && (partsL e).any (readsP a b))) ∧ Below w.heap.size w w' := by
 refine (callsIn_wide (n := 9)).1 ?_
 refine callsIn_of_wp_marks Tryz.func25 rfl trivial ?_ rfl
 simp only [Tryz.ntmps25, List.size_toArray, List.length_cons, List.length_nil, Nat.reduceAdd, Nat.reduceSub, Array.replicate_succ, Array.replicate_zero, List.push_toArray, List.append_toArray, List.nil_append, List.cons_append]
 gi_wp2
 obtain ⟨hs, k1, k2, k3, hB0⟩ := three_blk w (.cells #[.int .i64 e.f0, .int .i64 e.f1, .int .i64 e.f2.f0, .int .i64 e.f2.f1, .slice A e.f3.length c] 27 (0, 0)) (.cells #[.int .i64 a, .int .i64 b] 24 (0, 0)) (.cells #[.bool false] 4 (0, 0))
 refine ⟨trivial, (callsIn_wide.2 (hok e A c _ (Kd.C_below hC hB0) hc)).mono ?_⟩
 rintro en w1 ⟨rfl, hb1⟩
 have hB1 : Below w.heap.size w w1 := hB0.trans (hb1.mono hB0.size)
 replace k1 := (hb1.block _ (blk_lt k1)).trans k1
 replace k2 := (hb1.block _ (blk_lt k2)).trans k2
 replace k3 : Boxed w1 (w.heap.size + 1 + 1) 4 (.bool false) := (hb1.block _ (blk_lt k3)).trans k3
 clear hb1 hB0 hs
 have c0 : w1.cell? ⟨w.heap.size, 0, none⟩ = some (.int .i64 e.f0) := by rw [blk_cell k1]; rfl
 have c1 : w1.cell? ⟨w.heap.size, 1, none⟩ = some (.int .i64 e.f1) := by rw [blk_cell k1]; rfl
 have c2 : w1.cell? ⟨w.heap.size, 2, none⟩ = some (.int .i64 e.f2.f0) := by rw [blk_cell k1]; rfl
 have c3 : w1.cell? ⟨w.heap.size, 3, none⟩ = some (.int .i64 e.f2.f1) := by rw [blk_cell k1]; rfl
 have c4 : w1.cell? ⟨w.heap.size, 4, none⟩ = some (.slice A e.f3.length c) := by rw [blk_cell k1]; rfl
 have cr := k3.cell
 have fr := k3.frozen
 cases hv : okL 0 (partsL e) with
 | false =>
  have HB := Aside0.mk (And.intro hB1 k3)
  clear hB1 k1 k2 k3 hC
  gi_wp2
  have hc5 := (HB.out.2.set (.bool false)).cell
  refine ⟨.bool false, ?_, by rw [hv]; rfl, HB.out.1.setCell (p := ⟨w.heap.size + 1 + 1, 0, none⟩) (by simp; omega) _⟩
  simp [results, Tryz.f25, go_sem, hc5]
 | true =>
  have HB := Aside0.mk (And.intro hB1 (And.intro k2 k3))
  have HV := Aside0.mk hv
  clear hB1 k1 k2 k3 hv
  gi_wp2
  refine ⟨trivial, (parts_in e A c _ 8).mono ?_⟩
  rintro en w1' ⟨rfl, rfl⟩
  have hn1 : w.heap.size + 1 + 1 < w1.heap.size := HB.out.2.2.lt
  have hz2 : (w1.alloc (.cells #[.int .i64 e.f0, .int .i64 e.f1, .int .i64 e.f2.f0, .int .i64 e.f2.f1, .slice A e.f3.length c] 27)).heap.size = w1.heap.size + 1 := by simp
  have hB2 : Below w.heap.size w (w1.alloc (.cells #[.int .i64 e.f0, .int .i64 e.f1, .int .i64 e.f2.f0, .int .i64 e.f2.f1, .slice A e.f3.length c] 27)) := HB.out.1.alloc HB.out.1.size _
  have hbe := World.alloc_heap_new w1 (.cells #[.int .i64 e.f0, .int .i64 e.f1, .int .i64 e.f2.f0, .int .i64 e.f2.f1, .slice A e.f3.length c] 27)
  have hI0 : SlI w a b (fun _ => False) [] (w1.alloc (.cells #[.int .i64 e.f0, .int .i64 e.f1, .int .i64 e.f2.f0, .int .i64 e.f2.f1, .slice A e.f3.length c] 27)) :=
   ⟨HB.out.2.2.alloc _, (Below.heap_alloc w1 _ _ (by omega)).trans HB.out.2.1, rfl, id, id, fun k h => h.elim, hB2⟩
  generalize w1.alloc (.cells #[.int .i64 e.f0, .int .i64 e.f1, .int .i64 e.f2.f0, .int .i64 e.f2.f1, .slice A e.f3.length c] 27) = w2 at hz2 hB2 hbe hI0 ⊢
  clear c0 c1 c2 c3 c4 cr fr
  gi_wp2
  refine wpIn_rangeFunc_A (gf := 85) (lb := #[.pointer (some ⟨w1.heap.size, 0, none⟩)]) rfl (enters_of Tryz.func85 (by kernel_rfl) rfl)
   (parts1_seq e A c w w2 w1.heap.size hC hc (by omega) hbe) (by rintro x vs ⟨A4, c4, rfl, _⟩; rfl)
   (SlI w a b) (SlX w a b) (SlM w e a b A c w1.heap.size) (foreign_sl w a b) (foreign_slx w a b) (foreign_slm w e a b A c _) (fun A' s W h => h.below) hI0 ?assign ?body ?done ?stop
  case assign =>
   rintro l A' pre x vs W hsz hA hi hpre ⟨A4, c4, rfl, hc4, hC4⟩
   gi_wp2
   exact ⟨(Kpt.refl A' W).alloc hA _, pre, x, A4, c4, W.heap.size, rfl, rfl, World.alloc_heap_new W _, fun h => Nat.lt_irrefl _ (hA _ h), by omega, hc4, (foreign_sl w a b).fewer ((foreign_sl w a b).alloc _ hi) (fun k h => .inl h)⟩
  case body =>
   rintro l A' pre0 x0 a1 W hsz hA ⟨pre, x, A4, c4, Bx, hs, rfl, hb, hn, hlt, hc4, hi⟩ hpre
   obtain ⟨rfl, hx⟩ := List.append_inj' hs rfl
   obtain rfl : x0 = x := by simpa using hx
   have cr := hi.r.cell
   have fr := hi.r.frozen
   have e0 : W.cell? ⟨Bx, 0, none⟩ = some (.int .i64 x0.2.f0) := by simp [World.cell?, hb]
   have e2 : W.cell? ⟨Bx, 2, none⟩ = some (.int .i64 x0.2.f2.f0) := by simp [World.cell?, hb]
   have e3 : W.cell? ⟨Bx, 3, none⟩ = some (.int .i64 x0.2.f2.f1) := by simp [World.cell?, hb]
   have q0 : W.cell? ⟨w.heap.size + 1, 0, none⟩ = some (.int .i64 a) := by rw [blk_cell hi.p]; rfl
   have q1 : W.cell? ⟨w.heap.size + 1, 1, none⟩ = some (.int .i64 b) := by rw [blk_cell hi.p]; rfl
   unfold slTmps
   have HI := Aside0.mk hi
   clear hb hi hpre hsz hA hlt hc4 hC hc hbe hI0 hz2 hB2 hn1 hx hs hn
   by_cases h2 : x0.2.f0 = 2
   ·have b2 : decide (x0.2.f0 = 2) = true := decide_eq_true h2
    have b2' : (x0.2.f0 == 2) = true := by simp [h2]
    cases hq : (x0.2.f2.f0 == a && (x0.2.f2.f1 == b)) with
    | true =>
     have HQ := Aside0.mk (And.intro b2' hq)
     gi_wp2
     exact ⟨(Kpt.refl A' W).setCell HI.out.nr _, rfl, HI.out.r.set _, by simp [readsP, HQ.out.1, HQ.out.2], HI.out.nr, HI.out.ge, HI.out.below.setCell (p := ⟨w.heap.size + 1 + 1, 0, none⟩) (by simp; omega) _⟩
    | false =>
     have HQ := Aside0.mk hq
     gi_wp2
     exact ⟨Kpt.refl A' W, HI.out.r, HI.out.p, by rw [List.any_append, HI.out.ok]; simp only [List.any_cons, List.any_nil, readsP, HQ.out, Bool.and_false, Bool.or_false], HI.out.nr, HI.out.np, HI.out.ge, HI.out.below⟩
   ·have b2 : decide (x0.2.f0 = 2) = false := decide_eq_false h2
    have b2' : (x0.2.f0 == 2) = false := by simp [h2]
    have HQ := Aside0.mk b2'
    gi_wp2
    exact ⟨Kpt.refl A' W, HI.out.r, HI.out.p, by rw [List.any_append, HI.out.ok]; simp only [List.any_cons, List.any_nil, readsP, HQ.out, Bool.false_and, Bool.or_false], HI.out.nr, HI.out.np, HI.out.ge, HI.out.below⟩
  case done =>
   rintro D W hD hDl hi hK
   have cr := hi.r.cell
   have fr := hi.r.frozen
   gi_wp2
   have hK' := (KeepsOthers.setCell W ⟨w.heap.size + 1 + 1, 0, none⟩ (.bool false)).same D _ hK rfl
   refine ⟨by simp, .inl ⟨_, _, rfl, run_takeDeferred hK', ?_⟩⟩
   have hc5 := cell_kept (hi.r.set (.bool false)).cell (grownBy_putObj' _ D (.deferred none)) (fun r e => by cases e; exact ⟨_, hK', rfl⟩)
   refine ⟨.bool false, ?_, by rw [HV.out, hi.ok]; rfl, (hi.below.setCell (p := ⟨w.heap.size + 1 + 1, 0, none⟩) (by simp; omega) _).trans (belowK_b (w := w) (Nat.le_refl _) _ D _ _ (by omega) hK' rfl rfl)⟩
   simp [results, Tryz.f25, go_sem, hc5]
  case stop =>
   rintro D c1 pre W hD hDl hpre ⟨rfl, hr, hok', hnr, hge, hB⟩ hK
   gi_wp2
   refine ⟨by simp, .inl ⟨_, _, rfl, run_takeDeferred hK, ?_⟩⟩
   have hc5 := cell_kept hr.cell (grownBy_putObj' _ D (.deferred none)) (fun r e => by cases e; exact ⟨_, hK, rfl⟩)
   have hall : (partsL e).any (readsP a b) = true := by
    obtain ⟨r, hr'⟩ := hpre
    rw [← hr', List.any_append, hok']; rfl
   refine ⟨.bool true, ?_, by rw [HV.out, hall]; rfl, hB.trans (belowK_b (w := w) (Nat.le_refl _) W D _ _ (by omega) hK rfl rfl)⟩
   simp [results, Tryz.f25, go_sem, hc5]
end Go.Proofs.YtendbgedpjcocaaGreatDoor.B
