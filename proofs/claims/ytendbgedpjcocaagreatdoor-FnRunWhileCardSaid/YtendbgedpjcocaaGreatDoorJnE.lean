import Derived.Test.YtendbgedpjcocaaGreatDoorJnD
import Derived.Test.YtendbgedpjcocaaGreatDoorB0
import Derived.Test.YtendbgedpjcocaaGreatDoorSq
import Derived.Test.YtendbgedpjcocaaGreatDoorPkB
import Derived.Test.YtendbgedpjcocaaGreatDoorExprOk
import Derived.Test.YtendbgedpjcocaaGreatDoorJnI
import Derived.Test.YtendbgedpjcocaaGreatDoorJnB
import Derived.Test.YtendbgedpjcocaaGreatDoorPkA
import Derived.Test.YtendbgedpjcocaaGreatDoorJnJ
import Derived.Test.YtendbgedpjcocaaGreatDoorJnF
/- impl's memory as it is told: three rows of its own. -/
namespace Go.Proofs.YtendbgedpjcocaaGreatDoor.B
open Go Go.RowKit Go.Shelf Go.Lib Go.Proofs.YtendbgedpjcocaaGreatDoorW.PrintWords Go.Proofs.YtendbgedpjcocaaGreatDoorW.PrintLast Go.Proofs.YtendbgedpjcocaaGreatDoorW.PrintMore
set_option linter.unusedVariables false
section
variable {P : Program} {ops : Array Oper} {o : Oper} {b : Act} {W : World} {Ψ : Value → World → Prop}
/-- A box is written whole: one operation. -/
theorem stepPutB {T : TypeId} {p : Tmp} {x : Operand} (hw : Region.wanted o (yielded ops b.tmps) = true) (ho : o.op = .store T (.tmp p) x) {g : Nat} {cs : Array Value} (hp : b.eval (.tmp p) = .pointer (some ⟨g, 0, none⟩)) (cs' : Array Value) (hx : b.eval x = .agg cs')
  (hb : Box W g T cs) (hs : cs'.size = cs.size) (hi : (P.info? T).map (·.size) = some cs'.size) (h1 : cs'.all (·.oneCell') = true) (h : ∀ W', Box W' g T cs' → Put1 g W W' → Ψ undef W') : StepOK P ops o b W Ψ := by
 have hrun : (execOp b.eval o).run P W = .ok .skip (W.setCells g 0 cs'.toList) := by
  unfold execOp
  simp only [ho, hp, hx, Instr.storeAt, Instr.sureAddr, Sem.run_bind, Sem.run_pure, Result.andThen_ok, run_storeVar_mid W g 0 T cs' (by rw [hs]; exact Box.there hb) hi h1]
 intro K Q hK
 rw [if_pos hw]
 unfold Oper.wp
 rw [hrun]
 exact hK undef _ (h _ (setCells_box hb hs) (setCells_put1 g _ 0 W))
end
theorem put1_out {g : Nat} {W W' : World} {cs : Array Value} {T : TypeId} (hb : Box W g T cs) (h : Put1 g W W') {base : Nat} {e : TypeId} {size n : Nat} {v : Value} {xs : List Value} (ho : W.ownsRow base e size v n xs) (hne : v.ownBlock ≠ some g) : W'.ownsRow base e size v n xs := by
 obtain ⟨h1, h2⟩ := ho
 refine ⟨h1, ?_⟩
 rcases h2 with h2 | ⟨k, cap, cur, rfl, hk, hh, r⟩
 ·exact .inl h2
 ·exact .inr ⟨k, cap, cur, rfl, hk, (h.far k (fun e => hne (by rw [e]; rfl))).trans hh, r⟩
/-- Three rows of six numbers, each in its own memory, younger than base. -/
structure MemRows (W : World) (base : Nat) (v0 v1 v2 : Value) (bs : List Int) : Prop where
 r0 : W.ownsRow base 3 1 v0 6 (nums .i64 (bs.take 6))
 r1 : W.ownsRow base 3 1 v1 6 (nums .i64 ((bs.drop 6).take 6))
 r2 : W.ownsRow base 3 1 v2 6 (nums .i64 ((bs.drop 12).take 6))
 a01 : ∀ k, v0.ownBlock = some k → v1.ownBlock ≠ some k
 a02 : ∀ k, v0.ownBlock = some k → v2.ownBlock ≠ some k
 a12 : ∀ k, v1.ownBlock = some k → v2.ownBlock ≠ some k
theorem MemRows.below {W W' : World} {base : Nat} {v0 v1 v2 : Value} {bs : List Int} (h : MemRows W base v0 v1 v2 bs) (hb : Below W.heap.size W W') : MemRows W' base v0 v1 v2 bs :=
 ⟨pw_own_below h.r0 hb, pw_own_below h.r1 hb, pw_own_below h.r2 hb, h.a01, h.a02, h.a12⟩
theorem MemRows.weaken {W : World} {base base' : Nat} {v0 v1 v2 : Value} {bs : List Int} (h : MemRows W base v0 v1 v2 bs) (hb : base' ≤ base) : MemRows W base' v0 v1 v2 bs :=
 ⟨own_weaken h.r0 hb, own_weaken h.r1 hb, own_weaken h.r2 hb, h.a01, h.a02, h.a12⟩
theorem MemRows.put1 {W W' : World} {base g : Nat} {T : TypeId} {cs : Array Value} {v0 v1 v2 : Value} {bs : List Int} (h : MemRows W base v0 v1 v2 bs) (hb : Box W g T cs) (hT : T ≠ 3) (hp : Put1 g W W') : MemRows W' base v0 v1 v2 bs :=
 ⟨put1_out hb hp h.r0 (own_ne h.r0 hb (Ne.symm hT)).symm, put1_out hb hp h.r1 (own_ne h.r1 hb (Ne.symm hT)).symm, put1_out hb hp h.r2 (own_ne h.r2 hb (Ne.symm hT)).symm, h.a01, h.a02, h.a12⟩
theorem own_R {w : World} {base : Nat} {v : Value} {xs : List Int} {n : Nat} (h : w.ownsRow base 3 1 v n (nums .i64 xs)) (hn : n = xs.length) (ok : Nat → Prop) (hok : ∀ k, v.ownBlock = some k → ok k) : Kd.R (Kd.int .i64) 3 w base ok v xs := by
 subst hn
 exact ⟨hok, nums .i64 xs, h, Kd.reps_scalar xs⟩
theorem clone_at (g off : Nat) (zs bs : List Int) (w : World) (hm : MemAt w g bs) (hz : zs.length = 6) (ho : off + 6 ≤ 18) (hd : zs = (bs.drop off).take 6) :
  Calls Tryz.prog 80 #[.slice (some ⟨g, off, none⟩) 6 6] w fun e w' => ∃ v', e = .returned v' ∧ w'.ownsRow w.heap.size 3 1 v' 6 (nums .i64 zs) ∧ Below w.heap.size w w' := by
 refine (Tryz.slices_Clone_int g off 6 6 zs w (by omega) (by decide) (fun j hj => ?_)).mono ?_
 ·have := hm.cell (off + j) (by omega)
  rw [this]
  subst hd
  rw [List.getD_eq_getElem?_getD, List.getD_eq_getElem?_getD, List.getElem?_take, if_pos (by omega), List.getElem?_drop]
 ·rintro e w' ⟨v', rfl, h1, _, hb⟩
  rw [List.take_of_length_le (by omega)] at h1
  exact ⟨v', rfl, h1, hb⟩
set_option maxRecDepth 100000 in
set_option maxHeartbeats 4000000 in
theorem mem_any (g : Nat) (bs : List Int) (w : World) (hm : MemAt w g bs) :
  Calls Tryz.prog 47 #[.pointer (some ⟨g, 0, none⟩)] w fun e w' => ∃ v0 v1 v2, e = .returned (.agg #[v0, v1, v2]) ∧ MemRows w' w.heap.size v0 v1 v2 bs ∧ Below w.heap.size w w' := by
 have mixed : Tryz.prog.follows .mixedOrders = true := rfl
 obtain ⟨w1, hw1⟩ : ∃ W, W = w.alloc (.cells #[.slice none 0 0, .slice none 0 0, .slice none 0 0] 30 (0, 0)) := ⟨_, rfl⟩
 have hB : Below w.heap.size w w1 := by rw [hw1]; exact (Below.refl _ _).alloc (Nat.le_refl _) _
 have hz1 : w1.heap.size = w.heap.size + 1 := by rw [hw1]; simp
 have H1 := Aside0.mk (show Box w1 w.heap.size 30 #[.slice none 0 0, .slice none 0 0, .slice none 0 0] ∧ MemAt w1 g bs ∧ Below w.heap.size w w1 ∧ w1.heap.size = w.heap.size + 1 from
  ⟨by rw [hw1]; exact heap_alloc_new _ _, hm.below hB, hB, hz1⟩)
 have hl := hm.n
 obtain ⟨z0, hz0⟩ : ∃ z, z = bs.take 6 := ⟨_, rfl⟩
 obtain ⟨z1, hz1⟩ : ∃ z, z = (bs.drop 6).take 6 := ⟨_, rfl⟩
 obtain ⟨z2, hz2⟩ : ∃ z, z = (bs.drop 12).take 6 := ⟨_, rfl⟩
 have HZ := Aside0.mk (show z0 = (bs.drop 0).take 6 ∧ z1 = (bs.drop 6).take 6 ∧ z2 = (bs.drop 12).take 6 ∧ z0.length = 6 ∧ z1.length = 6 ∧ z2.length = 6 from ⟨by rw [hz0, List.drop_zero], hz1, hz2, by rw [hz0]; simp; omega, by rw [hz1]; simp; omega, by rw [hz2]; simp; omega⟩)
 clear hm hB hl hz0 hz1 hz2
 go_enter Tryz.func47, Tryz.ntmps47
 go_upto_region 1 with fail
 rw [← hw1]
 clear hw1
 refine weaveFresh_ [5, 11, 17] 18 rfl rfl (fun W => Below w1.heap.size w1 W) (Lasts.below w1) (Below.refl _ _) [(3, 0), (4, 1), (5, 2), (6, 3), (7, 4), (8, 5), (9, 6), (10, 7), (11, 8), (12, 9), (13, 10), (14, 11), (15, 12), (16, 13), (17, 14), (18, 15), (19, 16), (20, 17), (21, 18)]
  [fun v _ => v = .pointer (some ⟨g, 0, none⟩), fun v _ => v = .pointer (some ⟨g, 0, none⟩), fun v _ => v = .pointer (some ⟨g, 0, none⟩), fun v _ => v = .pointer (some ⟨g, 0, none⟩), fun v _ => v = .slice (some ⟨g, 0, none⟩) 6 6, fun v W => W.ownsRow w1.heap.size 3 1 v 6 (nums .i64 z0),
   fun v _ => v = .pointer (some ⟨g, 0, none⟩), fun v _ => v = .pointer (some ⟨g, 0, none⟩), fun v _ => v = .pointer (some ⟨g, 0, none⟩), fun v _ => v = .pointer (some ⟨g, 6, none⟩), fun v _ => v = .slice (some ⟨g, 6, none⟩) 6 6, fun v W => W.ownsRow w1.heap.size 3 1 v 6 (nums .i64 z1),
   fun v _ => v = .pointer (some ⟨g, 0, none⟩), fun v _ => v = .pointer (some ⟨g, 0, none⟩), fun v _ => v = .pointer (some ⟨g, 0, none⟩), fun v _ => v = .pointer (some ⟨g, 12, none⟩), fun v _ => v = .slice (some ⟨g, 12, none⟩) 6 6, fun v W => W.ownsRow w1.heap.size 3 1 v 6 (nums .i64 z2)]
  mixed (by kernel_rfl) ⟨fun _ => Lasts.const _, fun _ => Lasts.const _, fun _ => Lasts.const _, fun _ => Lasts.const _, fun _ => Lasts.const _, fun _ _ _ hb h => pw_own_below h hb, fun _ => Lasts.const _, fun _ => Lasts.const _, fun _ => Lasts.const _, fun _ => Lasts.const _, fun _ => Lasts.const _, fun _ _ _ hb h => pw_own_below h hb, fun _ => Lasts.const _, fun _ => Lasts.const _, fun _ => Lasts.const _, fun _ => Lasts.const _, fun _ => Lasts.const _, fun _ _ _ hb h => pw_own_below h hb, trivial⟩
  (by kernel_rfl) (by kernel_rfl) (by kernel_rfl) ?_ ?_
  (fun v W => ∃ v0 v1 v2, v = .agg #[v0, v1, v2] ∧ MemRows W w1.heap.size v0 v1 v2 bs ∧ Below w1.heap.size w1 W)
  (fun _ W => ∃ v0 v1 v2, Box W w.heap.size 30 #[v0, v1, v2] ∧ MemRows W w1.heap.size v0 v1 v2 bs ∧ Below w.heap.size w W) ?_ ?_ ?_
 ·refine ⟨?_, ?_, ?_, ?_, ?_, ?_, ?_, ?_, ?_, ?_, ?_, ?_, ?_, ?_, ?_, ?_, ?_, ?_, ?_, ?_, trivial⟩
  ·intro _ vs W hp hv b hs
   have t0 := (hs.oldtm 0 rfl).trans (show _ = some (Value.pointer (some ⟨g, 0, none⟩)) from rfl)
   exact stepVal rfl (by go_simp) ⟨Below.refl _ _, rfl, fun h => absurd h (by decide)⟩
  ·intro _ vs W hp hv b hs
   have h0 : vs 0 = .pointer (some ⟨g, 0, none⟩) := hv 0 (by decide)
   have t3 := (hs.tm 3 0 rfl).trans (congrArg some h0)
   exact stepVal rfl (by go_simp) ⟨Below.refl _ _, rfl, fun h => absurd h (by decide)⟩
  ·intro _ vs W hp hv b hs
   have h1 : vs 1 = .pointer (some ⟨g, 0, none⟩) := hv 1 (by decide)
   have t4 := (hs.tm 4 1 rfl).trans (congrArg some h1)
   exact stepVal rfl (by go_simp) ⟨Below.refl _ _, rfl, fun h => absurd h (by decide)⟩
  ·intro _ vs W hp hv b hs
   have h2 : vs 2 = .pointer (some ⟨g, 0, none⟩) := hv 2 (by decide)
   have t5 := (hs.tm 5 2 rfl).trans (congrArg some h2)
   exact stepVal rfl (by go_simp) ⟨Below.refl _ _, rfl, fun h => absurd h (by decide)⟩
  ·intro _ vs W hp hv b hs
   have h3 : vs 3 = .pointer (some ⟨g, 0, none⟩) := hv 3 (by decide)
   have t6 := (hs.tm 6 3 rfl).trans (congrArg some h3)
   exact stepVal rfl (by go_simp) ⟨Below.refl _ _, rfl, fun h => absurd h (by decide)⟩
  ·intro _ vs W hp hv b hs
   have h4 : vs 4 = .slice (some ⟨g, 0, none⟩) 6 6 := hv 4 (by decide)
   refine stepCall rfl Tryz.func80 (by kernel_rfl) rfl #[vs 4] rfl (by simp [Act.eval, hs.tm 7 4 rfl]) (by rw [h4]; exact clone_at g 0 z0 bs W (H1.out.2.1.below hp) HZ.out.2.2.2.1 (by decide) HZ.out.1) ?_
   rintro e W' ⟨v', rfl, ho, hb'⟩
   exact ⟨_, rfl, hb', own_weaken ho hp.size, fun _ k hk => own_base ho k hk⟩
  ·intro _ vs W hp hv b hs
   have t0 := (hs.oldtm 0 rfl).trans (show _ = some (Value.pointer (some ⟨g, 0, none⟩)) from rfl)
   exact stepVal rfl (by go_simp) ⟨Below.refl _ _, rfl, fun h => absurd h (by decide)⟩
  ·intro _ vs W hp hv b hs
   have h6 : vs 6 = .pointer (some ⟨g, 0, none⟩) := hv 6 (by decide)
   have t9 := (hs.tm 9 6 rfl).trans (congrArg some h6)
   exact stepVal rfl (by go_simp) ⟨Below.refl _ _, rfl, fun h => absurd h (by decide)⟩
  ·intro _ vs W hp hv b hs
   have h7 : vs 7 = .pointer (some ⟨g, 0, none⟩) := hv 7 (by decide)
   have t10 := (hs.tm 10 7 rfl).trans (congrArg some h7)
   exact stepVal rfl (by go_simp) ⟨Below.refl _ _, rfl, fun h => absurd h (by decide)⟩
  ·intro _ vs W hp hv b hs
   have h8 : vs 8 = .pointer (some ⟨g, 0, none⟩) := hv 8 (by decide)
   have t11 := (hs.tm 11 8 rfl).trans (congrArg some h8)
   exact stepVal rfl (by go_simp) ⟨Below.refl _ _, rfl, fun h => absurd h (by decide)⟩
  ·intro _ vs W hp hv b hs
   have h9 : vs 9 = .pointer (some ⟨g, 6, none⟩) := hv 9 (by decide)
   have t12 := (hs.tm 12 9 rfl).trans (congrArg some h9)
   exact stepVal rfl (by go_simp) ⟨Below.refl _ _, rfl, fun h => absurd h (by decide)⟩
  ·intro _ vs W hp hv b hs
   have h10 : vs 10 = .slice (some ⟨g, 6, none⟩) 6 6 := hv 10 (by decide)
   refine stepCall rfl Tryz.func80 (by kernel_rfl) rfl #[vs 10] rfl (by simp [Act.eval, hs.tm 13 10 rfl]) (by rw [h10]; exact clone_at g 6 z1 bs W (H1.out.2.1.below hp) HZ.out.2.2.2.2.1 (by decide) HZ.out.2.1) ?_
   rintro e W' ⟨v', rfl, ho, hb'⟩
   exact ⟨_, rfl, hb', own_weaken ho hp.size, fun _ k hk => own_base ho k hk⟩
  ·intro _ vs W hp hv b hs
   have t0 := (hs.oldtm 0 rfl).trans (show _ = some (Value.pointer (some ⟨g, 0, none⟩)) from rfl)
   exact stepVal rfl (by go_simp) ⟨Below.refl _ _, rfl, fun h => absurd h (by decide)⟩
  ·intro _ vs W hp hv b hs
   have h12 : vs 12 = .pointer (some ⟨g, 0, none⟩) := hv 12 (by decide)
   have t15 := (hs.tm 15 12 rfl).trans (congrArg some h12)
   exact stepVal rfl (by go_simp) ⟨Below.refl _ _, rfl, fun h => absurd h (by decide)⟩
  ·intro _ vs W hp hv b hs
   have h13 : vs 13 = .pointer (some ⟨g, 0, none⟩) := hv 13 (by decide)
   have t16 := (hs.tm 16 13 rfl).trans (congrArg some h13)
   exact stepVal rfl (by go_simp) ⟨Below.refl _ _, rfl, fun h => absurd h (by decide)⟩
  ·intro _ vs W hp hv b hs
   have h14 : vs 14 = .pointer (some ⟨g, 0, none⟩) := hv 14 (by decide)
   have t17 := (hs.tm 17 14 rfl).trans (congrArg some h14)
   exact stepVal rfl (by go_simp) ⟨Below.refl _ _, rfl, fun h => absurd h (by decide)⟩
  ·intro _ vs W hp hv b hs
   have h15 : vs 15 = .pointer (some ⟨g, 12, none⟩) := hv 15 (by decide)
   have t18 := (hs.tm 18 15 rfl).trans (congrArg some h15)
   exact stepVal rfl (by go_simp) ⟨Below.refl _ _, rfl, fun h => absurd h (by decide)⟩
  ·intro _ vs W hp hv b hs
   have h16 : vs 16 = .slice (some ⟨g, 12, none⟩) 6 6 := hv 16 (by decide)
   refine stepCall rfl Tryz.func80 (by kernel_rfl) rfl #[vs 16] rfl (by simp [Act.eval, hs.tm 19 16 rfl]) (by rw [h16]; exact clone_at g 12 z2 bs W (H1.out.2.1.below hp) HZ.out.2.2.2.2.2 (by decide) HZ.out.2.2.1) ?_
   rintro e W' ⟨v', rfl, ho, hb'⟩
   exact ⟨_, rfl, hb', own_weaken ho hp.size, fun _ k hk => own_base ho k hk⟩
  ·intro h
   exact absurd h (by decide)
  ·intro h
   exact absurd h (by decide)
 ·intro j hj v W hF k hk
  rcases List.mem_cons.1 hj with rfl | hj
  ·exact own_lt (show W.ownsRow w1.heap.size 3 1 v 6 (nums .i64 z0) from hF) k hk
  ·rcases List.mem_cons.1 hj with rfl | hj
   ·exact own_lt (show W.ownsRow w1.heap.size 3 1 v 6 (nums .i64 z1) from hF) k hk
   ·rcases List.mem_cons.1 hj with rfl | hj
    ·exact own_lt (show W.ownsRow w1.heap.size 3 1 v 6 (nums .i64 z2) from hF) k hk
    ·cases hj
 ·intro o ho vs W hp hv hap b hs
  obtain rfl := Option.some.inj ho
  have h5 : W.ownsRow w1.heap.size 3 1 (vs 5) 6 (nums .i64 z0) := hv 5 (by decide)
  have h11 : W.ownsRow w1.heap.size 3 1 (vs 11) 6 (nums .i64 z1) := hv 11 (by decide)
  have h17 : W.ownsRow w1.heap.size 3 1 (vs 17) 6 (nums .i64 z2) := hv 17 (by decide)
  have t8 := hs.tm 8 5 rfl
  have t14 := hs.tm 14 11 rfl
  have t20 := hs.tm 20 17 rfl
  have HR := Aside0.mk (show MemRows W w1.heap.size (vs 5) (vs 11) (vs 17) bs from ⟨by rw [HZ.out.1, List.drop_zero] at h5; exact h5, by rw [HZ.out.2.1] at h11; exact h11, by rw [HZ.out.2.2.1] at h17; exact h17, hap 5 (by decide) 11 (by decide) (by decide), hap 5 (by decide) 17 (by decide) (by decide), hap 11 (by decide) 17 (by decide) (by decide)⟩)
  obtain ⟨A0, d0, e0⟩ := own_slice h5
  obtain ⟨A1, d1, e1⟩ := own_slice h11
  obtain ⟨A2, d2, e2⟩ := own_slice h17
  generalize vs 5 = u0 at *
  generalize vs 11 = u1 at *
  generalize vs 17 = u2 at *
  subst e0 e1 e2
  exact stepVal (v := .agg #[.slice A0 6 d0, .slice A1 6 d1, .slice A2 6 d2]) rfl (by go_simp) ⟨_, _, _, rfl, HR.out, hp⟩
 ·intro o ho vs W hv b hs
  obtain rfl := Option.some.inj ho
  obtain ⟨v0, v1, v2, he, hR, hb⟩ := hv
  obtain ⟨A0, d0, e0⟩ := own_slice hR.r0
  obtain ⟨A1, d1, e1⟩ := own_slice hR.r1
  obtain ⟨A2, d2, e2⟩ := own_slice hR.r2
  subst e0 e1 e2
  have hbx := blk_below H1.out.1 hb
  refine stepPutB rfl rfl ((hs.old 2 rfl).trans rfl) #[.slice A0 6 d0, .slice A1 6 d1, .slice A2 6 d2] ((hs.ev 21 18 rfl).trans he) hbx rfl (by kernel_rfl) (by simp [Value.oneCell']) fun W' hbx' hput => ⟨_, _, _, hbx', hR.put1 hbx (by decide) hput, ?_⟩
  exact hput.below (H1.out.2.2.1.trans (hb.mono H1.out.2.2.1.size)) (Nat.le_refl _)
 ·rintro vs W ⟨v0, v1, v2, hbx, hR, hb⟩
  have HF := Aside0.mk (show MemRows W w.heap.size v0 v1 v2 bs ∧ Below w.heap.size w W from ⟨hR.weaken (by rw [H1.out.2.2.2]; omega), hb⟩)
  have HX := Aside0.mk hbx
  simp only [List.map_cons, List.map_nil, putL, Act.put, List.setIfInBounds_toArray, List.set_cons_zero, List.set_cons_succ]
  clear hbx hR hb
  go_wp2
  refine bodyPost_ret (results_cell_row rfl _ _ w.heap.size 30 #[v0, v1, v2] (0, 0) _ rfl HX.out Tryz.underlying30 rfl (by kernel_rfl)) rfl ?_
  exact ⟨v0, v1, v2, rfl, HF.out⟩
end Go.Proofs.YtendbgedpjcocaaGreatDoor.B
/- spec.MemOpen, in the print's form. -/
namespace Go.Proofs.YtendbgedpjcocaaGreatDoor.B
open Go Go.RowKit Go.Shelf Go.Proofs.YtendbgedpjcocaaGreatDoorW.PrintWords Go.Proofs.YtendbgedpjcocaaGreatDoorW.PrintLast Go.Proofs.YtendbgedpjcocaaGreatDoorW.PrintMore
set_option linter.unusedVariables false
theorem R_own1 {w : World} {base : Nat} {ok : Nat → Prop} {v : Value} {xs : List Int} (h : Kd.R (Kd.int .i64) 3 w base ok v xs) (n : Nat) (hn : n = xs.length) : w.ownsRow base 3 1 v n (nums .i64 xs) := by
 subst hn
 obtain ⟨_, inner, ho, hr⟩ := h
 rw [Kd.reps_encs hr] at ho
 exact ho
section
variable {ops : Array Oper} {o : Oper} {b : Act} {W : World} {Ψ : Value → World → Prop}
theorem StepOK.mono {P : Program} {Φ : Value → World → Prop} (h : StepOK P ops o b W Ψ) (hm : ∀ v W', Ψ v W' → Φ v W') : StepOK P ops o b W Φ := fun K Q hK => h K Q fun v W' hv => hK v W' (hm v W' hv)
theorem stepMake6 {x y : Operand} {N : Tmp} (hw : Region.wanted o (yielded ops b.tmps) = true) (hd : o.dst = some N) (ho : o.op = .makeSlice 28 x y) (hx : b.eval x = .int .i64 6) (hy : b.eval y = .int .i64 6) :
  StepOK Tryz.prog ops o b W fun v W' => W'.ownsRow W.heap.size 3 1 v 6 (nums .i64 (List.replicate 6 0)) ∧ Below W.heap.size W W' ∧ ∀ k, v.ownBlock = some k → W.heap.size ≤ k := fun K Q hK =>
 Kd.R_make_step (Kd.int .i64) W.heap.size 3 hw hd 28 x y ho 6 hx hy Tryz.underlying28 (.int .i64 0) 8 info3 rfl (by decide) (by omega) 0 (ok := fun _ => True) (okp := fun _ => True) rfl (fun _ hk => hk) trivial (by decide) (by decide) (Below.refl _ _) (Nat.le_refl _)
  (fun v1 w1 hR hb _ hat => hK v1 w1 ⟨R_own1 hR 6 rfl, hb, fun k hk => by obtain ⟨g, hg, hle⟩ := hat; rw [hg] at hk; injection hk with hk; omega⟩)
end
set_option maxRecDepth 100000 in
set_option maxHeartbeats 4000000 in
theorem open_any (w : World) : Calls Tryz.prog 91 #[] w fun e w' => ∃ v0 v1 v2, e = .returned (.agg #[v0, v1, v2]) ∧ MemRows w' w.heap.size v0 v1 v2 (List.replicate 18 0) ∧ Below w.heap.size w w' := by
 have mixed : Tryz.prog.follows .mixedOrders = true := rfl
 obtain ⟨w1, hw1⟩ : ∃ W, W = w.alloc (.cells #[.slice none 0 0, .slice none 0 0, .slice none 0 0] 30 (0, 0)) := ⟨_, rfl⟩
 have HB1 : Below w.heap.size w w1 := by rw [hw1]; exact (Below.refl _ _).alloc (Nat.le_refl _) _
 have H1 := Aside0.mk (show Box w1 w.heap.size 30 #[.slice none 0 0, .slice none 0 0, .slice none 0 0] from by rw [hw1]; exact heap_alloc_new _ _)
 go_enter Tryz.func91, Tryz.ntmps91
 go_upto_region 1 with fail
 rw [← hw1]
 clear hw1
 refine weaveFresh_ [0, 1, 2] 3 rfl rfl (fun W => Below w1.heap.size w1 W) (Lasts.below w1) (Below.refl _ _) [(1, 0), (2, 1), (3, 2), (4, 3)]
  [fun v W => W.ownsRow w1.heap.size 3 1 v 6 (nums .i64 (List.replicate 6 0)), fun v W => W.ownsRow w1.heap.size 3 1 v 6 (nums .i64 (List.replicate 6 0)), fun v W => W.ownsRow w1.heap.size 3 1 v 6 (nums .i64 (List.replicate 6 0))]
  mixed (by kernel_rfl) ⟨fun _ _ _ hb h => pw_own_below h hb, fun _ _ _ hb h => pw_own_below h hb, fun _ _ _ hb h => pw_own_below h hb, trivial⟩
  (by kernel_rfl) (by kernel_rfl) (by kernel_rfl) ?_ ?_
  (fun v W => ∃ v0 v1 v2, v = .agg #[v0, v1, v2] ∧ MemRows W w1.heap.size v0 v1 v2 (List.replicate 18 0) ∧ Below w1.heap.size w1 W)
  (fun _ W => ∃ v0 v1 v2, Box W w.heap.size 30 #[v0, v1, v2] ∧ MemRows W w1.heap.size v0 v1 v2 (List.replicate 18 0) ∧ Below w.heap.size w W) ?_ ?_ ?_
 ·refine ⟨?_, ?_, ?_, ?_, ?_, trivial⟩
  ·intro _ vs W hp hv b hs
   exact (stepMake6 rfl rfl rfl rfl rfl).mono fun v W' h => ⟨h.2.1, own_weaken h.1 hp.size, fun _ => h.2.2⟩
  ·intro _ vs W hp hv b hs
   exact (stepMake6 rfl rfl rfl rfl rfl).mono fun v W' h => ⟨h.2.1, own_weaken h.1 hp.size, fun _ => h.2.2⟩
  ·intro _ vs W hp hv b hs
   exact (stepMake6 rfl rfl rfl rfl rfl).mono fun v W' h => ⟨h.2.1, own_weaken h.1 hp.size, fun _ => h.2.2⟩
  ·intro h
   exact absurd h (by decide)
  ·intro h
   exact absurd h (by decide)
 ·intro j hj v W hF k hk
  simp only [List.mem_cons, List.mem_nil_iff, or_false] at hj
  rcases hj with rfl | rfl | rfl <;> exact own_lt (show W.ownsRow w1.heap.size 3 1 v 6 (nums .i64 (List.replicate 6 0)) from hF) k hk
 ·intro o ho vs W hp hv hap b hs
  obtain rfl := Option.some.inj ho
  have h0 : W.ownsRow w1.heap.size 3 1 (vs 0) 6 (nums .i64 (List.replicate 6 0)) := hv 0 (by decide)
  have h1 : W.ownsRow w1.heap.size 3 1 (vs 1) 6 (nums .i64 (List.replicate 6 0)) := hv 1 (by decide)
  have h2 : W.ownsRow w1.heap.size 3 1 (vs 2) 6 (nums .i64 (List.replicate 6 0)) := hv 2 (by decide)
  have t1 := hs.tm 1 0 rfl
  have t2 := hs.tm 2 1 rfl
  have t3 := hs.tm 3 2 rfl
  have HR := Aside0.mk (show MemRows W w1.heap.size (vs 0) (vs 1) (vs 2) (List.replicate 18 0) from ⟨h0, h1, h2, hap 0 (by decide) 1 (by decide) (by decide), hap 0 (by decide) 2 (by decide) (by decide), hap 1 (by decide) 2 (by decide) (by decide)⟩)
  obtain ⟨A0, d0, q0⟩ := own_slice h0
  obtain ⟨A1, d1, q1⟩ := own_slice h1
  obtain ⟨A2, d2, q2⟩ := own_slice h2
  generalize vs 0 = u0 at *
  generalize vs 1 = u1 at *
  generalize vs 2 = u2 at *
  subst q0 q1 q2
  exact stepVal (v := .agg #[.slice A0 6 d0, .slice A1 6 d1, .slice A2 6 d2]) rfl (by go_simp) ⟨_, _, _, rfl, HR.out, hp⟩
 ·intro o ho vs W hv b hs
  obtain rfl := Option.some.inj ho
  obtain ⟨v0, v1, v2, he, hR, hb⟩ := hv
  obtain ⟨A0, d0, e0⟩ := own_slice hR.r0
  obtain ⟨A1, d1, e1⟩ := own_slice hR.r1
  obtain ⟨A2, d2, e2⟩ := own_slice hR.r2
  subst e0 e1 e2
  have hbx := blk_below H1.out hb
  refine stepPutB rfl rfl ((hs.old 0 rfl).trans rfl) #[.slice A0 6 d0, .slice A1 6 d1, .slice A2 6 d2] ((hs.ev 4 3 rfl).trans he) hbx rfl (by kernel_rfl) (by simp [Value.oneCell']) fun W' hbx' hput => ⟨_, _, _, hbx', hR.put1 hbx (by decide) hput, ?_⟩
  exact hput.below (HB1.trans (hb.mono HB1.size)) (Nat.le_refl _)
 ·rintro vs W ⟨v0, v1, v2, hbx, hR, hb⟩
  have HF := Aside0.mk (show MemRows W w.heap.size v0 v1 v2 (List.replicate 18 0) ∧ Below w.heap.size w W from ⟨hR.weaken HB1.size, hb⟩)
  have HX := Aside0.mk hbx
  simp only [List.map_cons, List.map_nil, putL, Act.put, List.setIfInBounds_toArray, List.set_cons_zero, List.set_cons_succ]
  clear hbx hR hb
  go_wp2
  refine bodyPost_ret (results_cell_row rfl _ _ w.heap.size 30 #[v0, v1, v2] (0, 0) _ rfl HX.out Tryz.underlying30 rfl (by kernel_rfl)) rfl ?_
  exact ⟨v0, v1, v2, rfl, HF.out⟩
end Go.Proofs.YtendbgedpjcocaaGreatDoor.B
/- The draw of a memory ends: three lists of six. -/
namespace Go.Proofs.YtendbgedpjcocaaGreatDoor.B
open Go.RowKit Go.Proofs.YtendbgedpjcocaaGreatDoorW.PrintWords Go.Proofs.YtendbgedpjcocaaGreatDoorW.PrintLast Go.Proofs.YtendbgedpjcocaaGreatDoorW.PrintMore
set_option linter.unusedVariables false

end Go.Proofs.YtendbgedpjcocaaGreatDoor.B
/- The draw of an expression that may be bent ends. -/
namespace Go.Proofs.YtendbgedpjcocaaGreatDoor.B
open Go.RowKit Go.Proofs.YtendbgedpjcocaaGreatDoorW.PrintWords Go.Proofs.YtendbgedpjcocaaGreatDoorW.PrintLast Go.Proofs.YtendbgedpjcocaaGreatDoorW.PrintMore
set_option linter.unusedVariables false

theorem ex_eta (e : Ex) : (⟨e.f0, e.f1, ⟨e.f2.f0, e.f2.f1⟩, e.f3⟩ : Ex) = e := by cases e with | mk a b c l => cases c; rfl
/-- A code that came in: its bytes, its opening. -/
theorem open_total (l : List Int) (hw : ∀ x ∈ l, (Lit.int .u8 x).wf = true) : ∃ s, Bytes s ∧ s.length ≤ 2000 ∧ spec_l12Open.f l = some (s, 0) := by
 have hb : Bytes l := fun x hx => by
  have := hw x hx
  simp [Lit.wf, IntKind.min, IntKind.max, IntKind.signed, IntKind.bits] at this
  omega
 by_cases h : (l.length : Int) > 2000
 ·refine ⟨l.take 2000, fun x hx => hb x (List.mem_of_mem_take hx), by simp; omega, ?_⟩
  rw [spec_l12Open.f, if_pos h, if_pos (by omega)]
 ·exact ⟨l, hb, by omega, by rw [spec_l12Open.f, if_neg h]⟩
end Go.Proofs.YtendbgedpjcocaaGreatDoor.B
/- The draws of what may be bent end: an expression, a memory, both. -/
namespace Go.Proofs.YtendbgedpjcocaaGreatDoor.B
open Go.RowKit Go.Proofs.YtendbgedpjcocaaGreatDoorW.PrintWords Go.Proofs.YtendbgedpjcocaaGreatDoorW.PrintLast Go.Proofs.YtendbgedpjcocaaGreatDoorW.PrintMore
set_option linter.unusedVariables false

/-- Three lists that are short. -/
def Mini (l0 l1 l2 : List Int) : Prop := l0.length ≤ 7 ∧ l1.length ≤ 7 ∧ l2.length ≤ 7
end Go.Proofs.YtendbgedpjcocaaGreatDoor.B
/- Statements that are few and small. -/
namespace Go.Proofs.YtendbgedpjcocaaGreatDoor.B
open Go.RowKit Go.Proofs.YtendbgedpjcocaaGreatDoorW.PrintWords Go.Proofs.YtendbgedpjcocaaGreatDoorW.PrintLast Go.Proofs.YtendbgedpjcocaaGreatDoorW.PrintMore
set_option linter.unusedVariables false
/-- A statement whose lists are short. -/
inductive TinyS : ISt → Prop
 | mk (s : ISt) : Tiny s.f2 → s.f3.length ≤ 2000 → s.f4.length ≤ 2000 → (∀ x ∈ s.f3, TinyS x) → (∀ x ∈ s.f4, TinyS x) → TinyS s
def cntS : ISt → Nat
 | ⟨_, _, _, l, l'⟩ => 1 + (l.attach.map fun x => cntS x.1).sum + (l'.attach.map fun x => cntS x.1).sum
termination_by e => SizeOf.sizeOf e
decreasing_by all_goals (have := List.sizeOf_lt_of_mem x.2; simp; omega)
theorem cntS_eq (e : ISt) : cntS e = 1 + (e.f3.map cntS).sum + (e.f4.map cntS).sum := by
 cases e with
 | mk a b c l l' => rw [cntS]; simp
/-- A list of few statements. -/
def Fit (n : Nat) (l : List ISt) : Prop := (l.map cntS).sum ≤ n ∧ ∀ x ∈ l, TinyS x
theorem Fit.len {n : Nat} {l : List ISt} (h : Fit n l) : l.length ≤ n := by
 have : ∀ l : List ISt, l.length ≤ (l.map cntS).sum := by
  intro l
  induction l with
  | nil => simp
  | cons a l ih => rw [List.map_cons, List.sum_cons, List.length_cons, cntS_eq]; omega
 exact Nat.le_trans (this l) h.1
theorem Fit.nil (n : Nat) : Fit n [] := ⟨by simp, by simp⟩
theorem Fit.snoc {n m : Nat} {l : List ISt} {x : ISt} (h : Fit n l) (hx : TinyS x) (hc : cntS x ≤ m) : Fit (n + m) (l ++ [x]) := by
 refine ⟨?_, fun y hy => ?_⟩
 ·have := h.1
  rw [List.map_append, List.sum_append, List.map_cons, List.map_nil, List.sum_cons, List.sum_nil]; omega
 ·rcases List.mem_append.1 hy with hy | hy
  ·exact h.2 y hy
  ·obtain rfl := List.mem_singleton.1 hy; exact hx
theorem Fit.mono {n m : Nat} {l : List ISt} (h : Fit n l) (hm : n ≤ m) : Fit m l := ⟨Nat.le_trans h.1 hm, h.2⟩
theorem Fit.mk1 {n m : Nat} {k : Int} {a : S24} {e : Ex} {l l' : List ISt} (he : Tiny e) (h : Fit n l) (h' : Fit m l') (hn : n ≤ 2000) (hm : m ≤ 2000) : TinyS ⟨k, a, e, l, l'⟩ ∧ cntS ⟨k, a, e, l, l'⟩ ≤ 1 + n + m :=
 ⟨.mk _ he (Nat.le_trans h.len hn) (Nat.le_trans h'.len hm) h.2 h'.2, by rw [cntS_eq]; have h1 := h.1; have h2 := h'.1; dsimp only; omega⟩
theorem manyT_cnt (d : Nat) : ∀ l : List ISt, manyT d l ≤ (l.map cntS).sum := by
 induction d with
 | zero =>
  intro l
  rw [manyT]
  induction l with
  | nil => simp
  | cons a l ih => rw [List.map_cons, List.sum_cons, List.length_cons, cntS_eq]; omega
 | succ d ih =>
  intro l
  rw [manyT]
  induction l with
  | nil => simp
  | cons a l ihl =>
   simp only [List.map_cons, List.sum_cons, List.length_cons]
   rw [cntS_eq]
   have h1 := ih a.f3
   have h2 := ih a.f4
   omega
theorem tiny_ok {e : Ex} (h : Tiny e) : iexOk e := by
 induction h with
 | mk e hl _ ih => exact (iexOk_eq e).2 ⟨by omega, ih⟩
theorem TinyS.ok {s : ISt} (h : TinyS s) : istOk s := by
 induction h with
 | mk s he h3 h4 _ _ ih3 ih4 => exact (istOk_eq s).2 ⟨tiny_ok he, ⟨by omega, ih3⟩, ⟨by omega, ih4⟩⟩
theorem Fit.ok {n : Nat} {l : List ISt} (h : Fit n l) (hn : n ≤ 100000) : manyT 4 l ≤ 1048576 ∧ ∀ x ∈ l, istOk x :=
 ⟨by have := manyT_cnt 4 l; have := h.1; omega, fun x hx => (h.2 x hx).ok⟩
theorem Fit.set {n : Nat} {l : List ISt} (h : Fit n l) (i : Nat) (hi : i < l.length) (y : ISt) (hy : TinyS y) (hc : cntS y = cntS l[i]) : Fit n (l.set i y) := by
 refine ⟨?_, fun x hx => ?_⟩
 ·have : (l.set i y).map cntS = l.map cntS := by
   rw [List.map_set, hc]
   apply List.ext_getElem? 
   intro j
   rw [List.getElem?_set]
   split
   ·rename_i hij
    subst hij
    simp [hi]
   ·rfl
  rw [this]; exact h.1
 ·rcases List.mem_or_eq_of_mem_set hx with hx | rfl
  ·exact h.2 x hx
  ·exact hy
end Go.Proofs.YtendbgedpjcocaaGreatDoor.B
/- The law FnExactExprOk, whole. -/
namespace Go.Proofs.YtendbgedpjcocaaGreatDoor.B
theorem okCon : OkCon := fun e A c w hC hc => exprOk_any e A c w hC hc
end Go.Proofs.YtendbgedpjcocaaGreatDoor.B
/- impl's runner: a loop is done, a list is done. -/
namespace Go.Proofs.YtendbgedpjcocaaGreatDoor.B
open Go Go.RowKit Go.Shelf Go.Proofs.YtendbgedpjcocaaGreatDoorW.PrintWords Go.Proofs.YtendbgedpjcocaaGreatDoorW.PrintLast Go.Proofs.YtendbgedpjcocaaGreatDoorW.PrintMore
set_option linter.unusedVariables false

def AllCon (k : Nat) : Prop := ∀ (d : Nat) (l : List St), formT d l = true → ∀ (bs : List Int) (f : Int) (r : Res), runL k bs l f = some r → 0 ≤ f → f ≤ 100 → ∀ (a : Addr) (gr gm : Nat) (w0 w : World) (A : Option Addr) (c : Nat),
 Env w0 w gr gm a → RunAt w gr gm bs f → Kd.C stK w0 A l.length l → l.length ≤ c → Calls Tryz.prog 37 #[.pointer (some ⟨gr, 0, none⟩), .slice A l.length c] w (RunPost a gr gm r w)
theorem fits_run {d : Nat} {l : List St} (hl : formT d l = true) {k : Nat} {bs : List Int} {f : Int} {r : Res} (h : runL k bs l f = some r) (hf : 0 ≤ f) : Fits f r := by
 obtain ⟨r', hr, hF⟩ := run_total d l hl f bs hf
 rw [hr.one ⟨k, h⟩] at hF
 exact hF
theorem fits_step {d : Nat} {s : St} (hl : formT d [s] = true) {k : Nat} {bs : List Int} {f : Int} {r : Res} (h : stepR k bs s f = some r) (hf : 0 ≤ f) : Fits f r := by
 obtain ⟨r', hr, hF⟩ := run_total d [s] hl f bs hf
 rw [hr.one (Run.single.2 ⟨k, h⟩)] at hF
 exact hF
/-- A loop that goes on is a loop with a step less. -/
theorem again_step {k : Nat} {bs : List Int} {s : St} {f : Int} {r : Res} (h : runL k bs [s] f = some r) : ∃ k', k = k' + 1 ∧ stepR k' bs s f = some r := by
 cases k with
 | zero => rw [runL] at h; cases h
 | succ k =>
  refine ⟨k, rfl, ?_⟩
  rw [runL_cons] at h
  obtain ⟨r1, hr1, h⟩ := Option.bind_eq_some_iff.1 h
  by_cases hc : r1.2.1 = 0
  ·rw [if_pos hc] at h
   cases k with
   | zero => rw [runL] at h; cases h
   | succ k =>
    rw [runL_nil] at h
    injection h with h
    obtain ⟨b, c, f'⟩ := r1
    simp only at hc h
    subst hc
    rw [← h]; exact hr1
  ·rw [if_neg hc] at h
   injection h with h
   rw [← h]; exact hr1
theorem blk_ed {F : Nat → Prop} {w w' : World} {g t : Nat} {cs : Array Value} (h : w.heap[g]? = some (.cells cs t (0, 0))) (hE : Ed F w w') (hn : ¬ F g) : w'.heap[g]? = some (.cells cs t (0, 0)) := (hE.far g (blk_lt h) hn).trans h
set_option maxRecDepth 100000 in
set_option maxHeartbeats 8000000 in
theorem do_while (k : Nat) (hall : ∀ k', k' ≤ k → AllCon k') (d : Nat) (s : St) (h3 : s.f0 = 3) (he : formS 6 s.f2 = true) (hd : formT d s.f3 = true) (bs : List Int) (f : Int) (r : Res) (hr : stepR k bs s f = some r) (hf0 : 0 ≤ f) (hf1 : f ≤ 100)
  (a : Addr) (gr gm : Nat) (w0 w : World) (A : Option Addr) (c : Nat) (A8 : Option Addr) (c8 : Nat) (hN : Env w0 w gr gm a) (hR : RunAt w gr gm bs f) (hC : Kd.C exK w0 A s.f2.f3.length s.f2.f3) (hc : s.f2.f3.length ≤ c) (hC8 : Kd.C stK w0 A8 s.f3.length s.f3) (hc8 : s.f3.length ≤ c8) :
  Calls Tryz.prog 131 #[.agg #[.int .i64 s.f2.f0, .int .i64 s.f2.f1, .int .i64 s.f2.f2.f0, .int .i64 s.f2.f2.f1, .slice A s.f2.f3.length c, .slice A8 s.f3.length c8], .pointer (some ⟨gr, 0, none⟩)] w (RunPost a gr gm r w) := by
 have mixed : Tryz.prog.follows .mixedOrders = true := rfl
 obtain ⟨x, hx⟩ : ∃ x, x = s.f2 := ⟨_, rfl⟩
 obtain ⟨n8, hn8⟩ : ∃ n, n = s.f3.length := ⟨_, rfl⟩
 rw [← hx] at he hC hc ⊢
 rw [← hn8]
 obtain ⟨w1, hw1⟩ : ∃ W, W = w.alloc (.cells #[.int .i64 x.f0, .int .i64 x.f1, .int .i64 x.f2.f0, .int .i64 x.f2.f1, .slice A x.f3.length c, .slice A8 n8 c8] 128 (0, 0)) := ⟨_, rfl⟩
 have hB : Below w.heap.size w w1 := by rw [hw1]; exact (Below.refl _ _).alloc (Nat.le_refl _) _
 have hnb : ¬ Fm gr gm w.heap.size := by
  intro h
  rcases h with h | h
  ·have := blk_lt hR.r; omega
  ·have := blk_lt hR.m.b; omega
 have H1 := Aside0.mk (show Box w1 w.heap.size 128 #[.int .i64 x.f0, .int .i64 x.f1, .int .i64 x.f2.f0, .int .i64 x.f2.f1, .slice A x.f3.length c, .slice A8 n8 c8] ∧ RunAt w1 gr gm bs f ∧ Env w0 w1 gr gm a ∧ Ed (Fm gr gm) w w1 from
  ⟨by rw [hw1]; exact heap_alloc_new _ _, hR.below hB, hN.below hB, Ed.of_below hB⟩)
 have HE := Aside0.mk (And.intro he (And.intro hc (And.intro hC (And.intro hC8 (And.intro hc8 (And.intro hd (And.intro hx (And.intro hn8 (And.intro h3 (And.intro hnb hall))))))))))
 have HS := Aside0.mk (And.intro hr (And.intro hf0 hf1))
 clear hR hC hB he hc hC8 hc8 hd hN hr hf0 hf1 hall hx hn8 h3 hnb
 go_enter Tryz.func131, Tryz.ntmps131
 go_wp2_with fail
 rw [← hw1]
 clear hw1
 go_loopg [4] k (fun kq v4 W => ∃ (bs' : List Int) (f' : Int), v4 = .nilIface ∧ Aside0 (stepR kq bs' s f' = some r ∧ kq ≤ k ∧ 0 ≤ f' ∧ f' ≤ 100 ∧ Box W w.heap.size 128 #[.int .i64 x.f0, .int .i64 x.f1, .int .i64 x.f2.f0, .int .i64 x.f2.f1, .slice A x.f3.length c, .slice A8 n8 c8] ∧ RunAt W gr gm bs' f' ∧ Env w0 W gr gm a ∧ Ed (Fm gr gm) w W))
 case atStart => exact ⟨bs, f, rfl, ⟨HS.out.1, Nat.le_refl _, HS.out.2.1, HS.out.2.2, H1.out.1, H1.out.2.1, H1.out.2.2.1, H1.out.2.2.2⟩⟩
 case round =>
  obtain ⟨b', f', rfl, HR⟩ := hrel
  rename World => w2
  clear HS H1
  go_upto_region 1 with fail
  refine weaveB_ (fun W => Below w2.heap.size w2 W) (Lasts.below w2) (Below.refl _ _) [(7, 0), (8, 1), (9, 2), (10, 3), (11, 4), (12, 5), (13, 6), (14, 7)]
   [fun v _ => v = .pointer (some ⟨gr, 0, none⟩), fun v _ => v = .pointer (some ⟨gr, 0, none⟩), fun v _ => v = .pointer (some ⟨gr, 0, none⟩), fun v _ => v = .pointer (some ⟨gm, 0, none⟩), fun v _ => v = .pointer (some ⟨w.heap.size, 0, none⟩), fun v _ => v = eAgg x A c, fun v _ => v = .int .i64 (evalI b' x), fun v _ => v = .bool (evalI b' x != 0)]
   mixed (by kernel_rfl) ⟨fun _ => Lasts.const _, fun _ => Lasts.const _, fun _ => Lasts.const _, fun _ => Lasts.const _, fun _ => Lasts.const _, fun _ => Lasts.const _, fun _ => Lasts.const _, fun _ => Lasts.const _, trivial⟩ ?_ ?_
  ·refine ⟨?_, ?_, ?_, ?_, ?_, ?_, ?_, ?_, trivial⟩
   ·intro vs W hp hv b hs
    have t1 := (hs.oldtm 1 rfl).trans (show _ = some (Value.pointer (some ⟨gr, 0, none⟩)) from rfl)
    exact stepVal rfl (by go_simp) ⟨Below.refl _ _, rfl⟩
   ·intro vs W hp hv b hs
    have h0 : vs 0 = .pointer (some ⟨gr, 0, none⟩) := hv 0 (by decide)
    have t5 := (hs.tm 7 0 rfl).trans (congrArg some h0)
    exact stepVal rfl (by go_simp) ⟨Below.refl _ _, rfl⟩
   ·intro vs W hp hv b hs
    have h1 : vs 1 = .pointer (some ⟨gr, 0, none⟩) := hv 1 (by decide)
    have t6 := (hs.tm 8 1 rfl).trans (congrArg some h1)
    exact stepVal rfl (by go_simp) ⟨Below.refl _ _, rfl⟩
   ·intro vs W hp hv b hs
    have h2 : vs 2 = .pointer (some ⟨gr, 0, none⟩) := hv 2 (by decide)
    have t7 := (hs.tm 9 2 rfl).trans (congrArg some h2)
    have cr := (Box.cell (blk_below HR.out.2.2.2.2.2.1.r hp) 0 _ rfl).1
    exact stepVal rfl (by go_simp) ⟨Below.refl _ _, rfl⟩
   ·intro vs W hp hv b hs
    have t2 := (hs.oldtm 2 rfl).trans (show _ = some (Value.pointer (some ⟨w.heap.size, 0, none⟩)) from rfl)
    exact stepVal rfl (by go_simp) ⟨Below.refl _ _, rfl⟩
   ·intro vs W hp hv b hs
    have h4 : vs 4 = .pointer (some ⟨w.heap.size, 0, none⟩) := hv 4 (by decide)
    have t9 := (hs.tm 11 4 rfl).trans (congrArg some h4)
    have k := blk_below HR.out.2.2.2.2.1 hp
    have c0 := (Box.cell k 0 _ rfl).1
    have c1' := (Box.cell k 1 _ rfl).1
    have c2' := (Box.cell k 2 _ rfl).1
    have c3 := (Box.cell k 3 _ rfl).1
    have c4 := (Box.cell k 4 _ rfl).1
    exact stepVal rfl (by go_simp) ⟨Below.refl _ _, rfl⟩
   ·intro vs W hp hv b hs
    have h3 : vs 3 = .pointer (some ⟨gm, 0, none⟩) := hv 3 (by decide)
    have h5 : vs 5 = eAgg x A c := hv 5 (by decide)
    refine stepCall rfl Tryz.func49 (by kernel_rfl) rfl #[vs 3, vs 5] rfl (by simp [Act.eval, hs.tm 10 3 rfl, hs.tm 12 5 rfl]) (by rw [h3, h5]; exact reckon_at b' x HE.out.1 gm A c W (HR.out.2.2.2.2.2.1.m.below hp) (Kd.C_below (Kd.C_below HE.out.2.2.1 HR.out.2.2.2.2.2.2.1.b) hp) HE.out.2.1) ?_
    rintro e W' ⟨rfl, hb'⟩
    exact ⟨_, rfl, hb', rfl⟩
   ·intro vs W hp hv b hs
    have h6 : vs 6 = .int .i64 (evalI b' x) := hv 6 (by decide)
    refine stepCall rfl Tryz.func22 (by kernel_rfl) rfl #[vs 6] rfl (by simp [Act.eval, hs.tm 13 6 rfl]) (by rw [h6]; exact numOn_any _ W) ?_
    rintro e W' ⟨rfl, hb'⟩
    exact ⟨_, rfl, hb', rfl⟩
  ·intro vs W hp hv
   have h7 : vs 7 = .bool (evalI b' x != 0) := hv 7 (by decide)
   have HW := Aside0.mk (show RunAt W gr gm b' f' ∧ Env w0 W gr gm a ∧ Ed (Fm gr gm) w W ∧ Box W w.heap.size 128 #[.int .i64 x.f0, .int .i64 x.f1, .int .i64 x.f2.f0, .int .i64 x.f2.f1, .slice A x.f3.length c, .slice A8 n8 c8] from
    ⟨HR.out.2.2.2.2.2.1.below hp, HR.out.2.2.2.2.2.2.1.below hp, HR.out.2.2.2.2.2.2.2.trans (Ed.of_below hp), blk_below HR.out.2.2.2.2.1 hp⟩)
   have k5 := (Box.cell HW.out.2.2.2 5 _ rfl).1
   simp only [List.map_cons, List.map_nil, putL, Act.put, List.setIfInBounds_toArray, List.set_cons_zero, List.set_cons_succ, h7]
   clear hv hp h7
   have hst := HR.out.1
   unfold stepR at hst
   rw [if_neg (by have := HE.out.2.2.2.2.2.2.2.2.1; omega), if_pos HE.out.2.2.2.2.2.2.2.2.1, ← HE.out.2.2.2.2.2.2.1] at hst
   by_cases h0 : evalI b' x = 0
   ·rw [if_pos h0] at hst
    injection hst with hst
    have b0 : (evalI b' x != 0) = false := by simp [h0]
    have HF := Aside0.mk (show RunPost a gr gm r w (.returned .nilIface) W from by rw [← hst]; exact ⟨rfl, HW.out.1, HW.out.2.2.1⟩)
    clear h0 hst k5
    rw [b0]
    go_wp2
    go_ret
    exact HF.out
   ·rw [if_neg h0] at hst
    obtain ⟨r2, hr2, hst⟩ := Option.bind_eq_some_iff.1 hst
    have b0 : (evalI b' x != 0) = true := by simp [h0]
    have hF2 := fits_run HE.out.2.2.2.2.2.1 hr2 HR.out.2.2.1
    have HQ := Aside0.mk (HE.out.2.2.2.2.2.2.2.2.2.2 _ HR.out.2.1 d s.f3 HE.out.2.2.2.2.2.1 b' f' r2 hr2 HR.out.2.2.1 HR.out.2.2.2.1 a gr gm w0 W A8 c8 HW.out.2.1 HW.out.1 HE.out.2.2.2.1 HE.out.2.2.2.2.1)
    have HFT := Aside0.mk hF2
    have HST := Aside0.mk hst
    clear h0 hst hr2 hF2
    rw [b0]
    rw [← HE.out.2.2.2.2.2.2.2.1] at HQ
    go_wp2_with fail
    refine HQ.out.mono ?_
    rintro e W' ⟨rfl, hrr, hE⟩
    have H2 := Aside0.mk (show RunAt W' gr gm r2.1 r2.2.2 ∧ Env w0 W' gr gm a ∧ Ed (Fm gr gm) w W' ∧ Box W' w.heap.size 128 #[.int .i64 x.f0, .int .i64 x.f1, .int .i64 x.f2.f0, .int .i64 x.f2.f1, .slice A x.f3.length c, .slice A8 n8 c8] from
     ⟨hrr, HW.out.2.1.step hE, HW.out.2.2.1.trans hE, blk_ed HW.out.2.2.2 hE HE.out.2.2.2.2.2.2.2.2.2.1⟩)
    clear hrr hE HQ k5
    by_cases hc2 : r2.2.1 = 0
    ·have hst := HST.out
     rw [if_pos hc2] at hst
     rw [errOf, if_pos hc2]
     by_cases hl : r2.2.2 < 1
     ·rw [if_pos hl] at hst
      injection hst with hst
      have hz : r2.2.2 = 0 := by have := HFT.out.lo; omega
      have hR2 := H2.out.1
      rw [hz] at hR2
      have HF := Aside0.mk (show RunPost a gr gm r w (.returned (errOf a 1)) W' from by rw [← hst]; exact ⟨rfl, hR2, H2.out.2.2.1⟩)
      have HT := Aside0.mk (take_none gr gm r2.1 a W' hR2 H2.out.2.1.err)
      clear hst hl hz hR2 hc2
      go_wp2_with fail
      refine HT.out.mono ?_
      rintro e W'' ⟨rfl, rfl⟩
      have hne : errOf a 1 = .iface 156 (.pointer (some a)) := by rw [errOf, if_neg (by decide)]
      rw [hne]
      clear HT
      go_wp2
      go_ret
      have := HF.out
      rw [hne] at this
      exact this
     ·rw [if_neg hl] at hst
      obtain ⟨k', hk', hst'⟩ := again_step hst
      have HT := Aside0.mk (take_some gr gm H2.out.2.1.ne r2.1 r2.2.2 W' H2.out.1 (by omega) (by have h1 := HFT.out.hi; have h2 := HR.out.2.2.2.1; omega))
      have HK := Aside0.mk (And.intro hk' (And.intro hst' hl))
      clear hst hl hc2 hk' hst'
      go_wp2_with fail
      refine HT.out.mono ?_
      rintro e W'' ⟨rfl, hrr, hE⟩
      have H3 := Aside0.mk (show RunAt W'' gr gm r2.1 (r2.2.2 - 1) ∧ Env w0 W'' gr gm a ∧ Ed (Fm gr gm) w W'' ∧ Box W'' w.heap.size 128 #[.int .i64 x.f0, .int .i64 x.f1, .int .i64 x.f2.f0, .int .i64 x.f2.f1, .slice A x.f3.length c, .slice A8 n8 c8] from
       ⟨hrr, H2.out.2.1.step hE, H2.out.2.2.1.trans hE, blk_ed H2.out.2.2.2 hE HE.out.2.2.2.2.2.2.2.2.2.1⟩)
      clear hrr hE HT
      go_wp2_with fail
      go_roundg k'
      case measure => have := HK.out.1; omega
      case rel => exact ⟨r2.1, r2.2.2 - 1, rfl, ⟨HK.out.2.1, by have h1 := HK.out.1; have h2 := HR.out.2.1; omega, by have := HK.out.2.2; omega, by have h1 := HFT.out.hi; have h2 := HR.out.2.2.2.1; omega, H3.out.2.2.2, H3.out.1, H3.out.2.1, H3.out.2.2.1⟩⟩
    ·have hst := HST.out
     rw [if_neg hc2] at hst
     injection hst with hst
     have hne : errOf a r2.2.1 = .iface 156 (.pointer (some a)) := by rw [errOf, if_neg hc2]
     have HF := Aside0.mk (show RunPost a gr gm r w (.returned (.iface 156 (.pointer (some a)))) W' from by rw [← hst]; exact ⟨by rw [hne], H2.out.1, H2.out.2.2.1⟩)
     rw [hne]
     clear hst hc2 hne
     go_wp2
     go_ret
     exact HF.out
end Go.Proofs.YtendbgedpjcocaaGreatDoor.B
/- impl.ExprOf, in the print's form. -/
namespace Go.Proofs.YtendbgedpjcocaaGreatDoor.B
open Go.RowKit Go.Proofs.YtendbgedpjcocaaGreatDoorW.PrintWords Go.Proofs.YtendbgedpjcocaaGreatDoorW.PrintLast Go.Proofs.YtendbgedpjcocaaGreatDoorW.PrintMore
set_option linter.unusedVariables false

def impl_ExprOf.f (a0_0 : Int) (a0_1 : Int) (a0_2 : Int) (a0_3 : Int) (l0_4 : List (S27)) (l1_0 : List Int) (l1_1 : List Int) (l1_2 : List Int) : Option Int :=
 some (ofV ⟨a0_0, a0_1, ⟨a0_2, a0_3⟩, l0_4⟩ l1_0 l1_1 l1_2)
theorem impl_ExprOf.calls (a0_0 : Int) (a0_1 : Int) (a0_2 : Int) (a0_3 : Int) (A0_4 : Option Addr) (c0_4 : Nat) (l0_4 : List (S27)) (A1_0 : Option Addr) (c1_0 : Nat) (l1_0 : List Int) (A1_1 : Option Addr) (c1_1 : Nat) (l1_1 : List Int) (A1_2 : Option Addr) (c1_2 : Nat) (l1_2 : List Int) (r : Int) (w : World)
  (hr0_4 : Kd.C k27 w A0_4 l0_4.length l0_4) (hc0_4 : l0_4.length ≤ c0_4) (hr1_0 : Kd.C (Kd.int .i64) w A1_0 l1_0.length l1_0) (hc1_0 : l1_0.length ≤ c1_0) (hr1_1 : Kd.C (Kd.int .i64) w A1_1 l1_1.length l1_1) (hc1_1 : l1_1.length ≤ c1_1) (hr1_2 : Kd.C (Kd.int .i64) w A1_2 l1_2.length l1_2) (hc1_2 : l1_2.length ≤ c1_2)
  (h : impl_ExprOf.f a0_0 a0_1 a0_2 a0_3 l0_4 l1_0 l1_1 l1_2 = some r) :
  Calls Tryz.prog 19 #[.agg #[.int .i64 a0_0, .int .i64 a0_1, .int .i64 a0_2, .int .i64 a0_3, .slice A0_4 l0_4.length c0_4], .agg #[.slice A1_0 l1_0.length c1_0, .slice A1_1 l1_1.length c1_1, .slice A1_2 l1_2.length c1_2]] w fun e w' => e = .returned (.int .i64 r) ∧ Below w.heap.size w w' := by
 obtain rfl := Option.some.inj h
 exact exprOf_any okCon ⟨a0_0, a0_1, ⟨a0_2, a0_3⟩, l0_4⟩ A0_4 c0_4 l1_0 l1_1 l1_2 A1_0 A1_1 A1_2 c1_0 c1_1 c1_2 w hr0_4 hc0_4 hr1_0 hr1_1 hr1_2 hc1_0 hc1_1 hc1_2
end Go.Proofs.YtendbgedpjcocaaGreatDoor.B
/- impl.ExprOk, in the print's form. -/
namespace Go.Proofs.YtendbgedpjcocaaGreatDoor.B
open Go.RowKit Go.Proofs.YtendbgedpjcocaaGreatDoorW.PrintWords Go.Proofs.YtendbgedpjcocaaGreatDoorW.PrintLast Go.Proofs.YtendbgedpjcocaaGreatDoorW.PrintMore
set_option linter.unusedVariables false

end Go.Proofs.YtendbgedpjcocaaGreatDoor.B
/- What the specification and the program say of what is drawn, for every number of rounds that is great enough. -/
namespace Go.Proofs.YtendbgedpjcocaaGreatDoor.B
open Go.RowKit Go.Proofs.YtendbgedpjcocaaGreatDoorW.PrintWords Go.Proofs.YtendbgedpjcocaaGreatDoorW.PrintLast Go.Proofs.YtendbgedpjcocaaGreatDoorW.PrintMore
set_option linter.unusedVariables false

theorem ev_up {α : Type} {f : Nat → Option α} (h : ∀ k, LeO (f k) (f (k + 1))) {r : α} (hr : ∃ k, f k = some r) : ∃ K, ∀ k, K ≤ k → f k = some r := by
 obtain ⟨K, hK⟩ := hr
 exact ⟨K, fun k hk => up_le h hk hK⟩
theorem specMem_ev (m0 m1 m2 : List Int) (h : Mini m0 m1 m2) : ∃ K, ∀ k, K ≤ k → spec_MemOk.f k m0 m1 m2 = some (memOkL m0 m1 m2) :=
 ev_up (f := fun k => spec_MemOk.f k m0 m1 m2) (fun k => spec_MemOk.mono _ _ _ k) (memOk_spec m0 m1 m2 (by have := h.1; omega) (by have := h.2.1; omega) (by have := h.2.2; omega))
theorem implOf (e : Ex) (m0 m1 m2 : List Int) : impl_ExprOf.f e.f0 e.f1 e.f2.f0 e.f2.f1 e.f3 m0 m1 m2 = some (ofV e m0 m1 m2) := by rw [impl_ExprOf.f, ex_eta]
end Go.Proofs.YtendbgedpjcocaaGreatDoor.B
/- Trees and memories as values that are only read, and the functions over them. -/
namespace Go.Proofs.YtendbgedpjcocaaGreatDoor.B
open Go Go.RowKit Go.Proofs.YtendbgedpjcocaaGreatDoorW.PrintWords Go.Proofs.YtendbgedpjcocaaGreatDoorW.PrintLast Go.Proofs.YtendbgedpjcocaaGreatDoorW.PrintMore
set_option linter.unusedVariables false

/-- A tree's cells, a memory's cells. -/
def eA (x : Ex) (A : Option Addr) (c : Nat) : Array Value := #[.int .i64 x.f0, .int .i64 x.f1, .int .i64 x.f2.f0, .int .i64 x.f2.f1, .slice A x.f3.length c]
def mA (m : List Int × List Int × List Int) (p : (Option Addr × Nat) × (Option Addr × Nat) × (Option Addr × Nat)) : Array Value := #[.slice p.1.1 m.1.length p.1.2, .slice p.2.1.1 m.2.1.length p.2.1.2, .slice p.2.2.1 m.2.2.length p.2.2.2]
def mZ : Array Value := #[.slice none 0 0, .slice none 0 0, .slice none 0 0]
theorem eA_one (x : Ex) (A : Option Addr) (c : Nat) : (eA x A c).all (·.oneCell') = true := by simp [eA, Value.oneCell']
theorem mA_one (m : List Int × List Int × List Int) (p : (Option Addr × Nat) × (Option Addr × Nat) × (Option Addr × Nat)) : (mA m p).all (·.oneCell') = true := by simp [mA, Value.oneCell']
section
variable {ops : Array Oper} {rest : List Oper} {o : Oper} {a : Act} {Q : Exit → Act → World → Prop} {W : World}
theorem getE_ {N q : Tmp} {g : Nat} {x : Ex} {A : Option Addr} {c : Nat} (ho : o.op = .load 27 (.tmp q)) (hd : o.dst = some N) (hg : o.guard = none) (hx : a.eval (.tmp q) = .pointer (some ⟨g, 0, none⟩)) (hb : Box W g 27 (eA x A c))
  (h : wpList Tryz.prog ops Q rest (a.put (some N) (.agg (eA x A c))) W) : wpList Tryz.prog ops Q (o :: rest) a W := boxGet_ ho hd hg hx hb Tryz.underlying27 rfl (by kernel_rfl) h
theorem getM_ {N q : Tmp} {g : Nat} {m : List Int × List Int × List Int} {p : (Option Addr × Nat) × (Option Addr × Nat) × (Option Addr × Nat)} (ho : o.op = .load 30 (.tmp q)) (hd : o.dst = some N) (hg : o.guard = none) (hx : a.eval (.tmp q) = .pointer (some ⟨g, 0, none⟩)) (hb : Box W g 30 (mA m p))
  (h : wpList Tryz.prog ops Q rest (a.put (some N) (.agg (mA m p))) W) : wpList Tryz.prog ops Q (o :: rest) a W := boxGet_ ho hd hg hx hb Tryz.underlying30 rfl (by kernel_rfl) h
end
structure TVo (W : World) (ok : Nat → Prop) (x : Ex) (A : Option Addr) (c : Nat) : Prop where
 v : Kd.V k27 27 W 0 ok (.slice A x.f3.length c) x.f3
abbrev TV (W : World) (x : Ex) (A : Option Addr) (c : Nat) : Prop := TVo W (fun _ => True) x A c
theorem TV.ofN {W : World} {x : Ex} {B : Option Addr} {d base : Nat} {ok ok' : Nat → Prop} (h : Kd.N k27 27 W base ok (.slice B x.f3.length d) x.f3) (hok : ∀ k, ok k → ok' k) : TVo W ok' x B d := ⟨Kd.V_mono (Kd.N_V (base' := 0) h) hok⟩
theorem TV.last (x : Ex) (A : Option Addr) (c : Nat) : Lasts fun W => TV W x A c := fun _ _ hb h => ⟨Kd.V_below h.v hb⟩
theorem TVo.reads {W : World} {ok : Nat → Prop} {x : Ex} {A : Option Addr} {c : Nat} (h : TVo W ok x A c) : x.f3.length ≤ c ∧ Kd.C k27 W A x.f3.length x.f3 := (Kd.V_reads' h.v).2
structure MV (W : World) (m : List Int × List Int × List Int) (p : (Option Addr × Nat) × (Option Addr × Nat) × (Option Addr × Nat)) : Prop where
 l0 : m.1.length ≤ p.1.2
 c0 : Kd.C (Kd.int .i64) W p.1.1 m.1.length m.1
 l1 : m.2.1.length ≤ p.2.1.2
 c1 : Kd.C (Kd.int .i64) W p.2.1.1 m.2.1.length m.2.1
 l2 : m.2.2.length ≤ p.2.2.2
 c2 : Kd.C (Kd.int .i64) W p.2.2.1 m.2.2.length m.2.2
theorem MV.last (m : List Int × List Int × List Int) (p : (Option Addr × Nat) × (Option Addr × Nat) × (Option Addr × Nat)) : Lasts fun W => MV W m p := fun _ _ hb h => ⟨h.l0, Kd.C_below h.c0 hb, h.l1, Kd.C_below h.c1 hb, h.l2, Kd.C_below h.c2 hb⟩
def mOk (m : List Int × List Int × List Int) : Bool := memOkL m.1 m.2.1 m.2.2
def oV (x : Ex) (m : List Int × List Int × List Int) : Int := ofV x m.1 m.2.1 m.2.2

theorem implOf_any (x : Ex) (A : Option Addr) (c : Nat) (m : List Int × List Int × List Int) (p : (Option Addr × Nat) × (Option Addr × Nat) × (Option Addr × Nat)) (W : World) (h : TV W x A c) (hm : MV W m p) :
  Calls Tryz.prog 19 #[.agg (eA x A c), .agg (mA m p)] W fun e W' => e = .returned (.int .i64 (oV x m)) ∧ Below W.heap.size W W' :=
 impl_ExprOf.calls x.f0 x.f1 x.f2.f0 x.f2.f1 A c x.f3 _ _ m.1 _ _ m.2.1 _ _ m.2.2 _ W h.reads.2 h.reads.1 hm.c0 hm.l0 hm.c1 hm.l1 hm.c2 hm.l2 (implOf x m.1 m.2.1 m.2.2)
theorem specMem_any (m : List Int × List Int × List Int) (hn : Mini m.1 m.2.1 m.2.2) (p : (Option Addr × Nat) × (Option Addr × Nat) × (Option Addr × Nat)) (W : World) (hm : MV W m p) :
  Calls Tryz.prog 17 #[.agg (mA m p)] W fun e W' => e = .returned (.bool (mOk m)) ∧ Below W.heap.size W W' := by
 obtain ⟨K, hK⟩ := specMem_ev m.1 m.2.1 m.2.2 hn
 exact spec_MemOk.calls K _ _ m.1 _ _ m.2.1 _ _ m.2.2 _ W hm.c0 hm.l0 hm.c1 hm.l1 hm.c2 hm.l2 (hK K (Nat.le_refl _))
end Go.Proofs.YtendbgedpjcocaaGreatDoor.B
/- impl.StmtsOk, in the print's form. -/
namespace Go.Proofs.YtendbgedpjcocaaGreatDoor.B
open Go.RowKit Go.Shelf Go.Proofs.YtendbgedpjcocaaGreatDoorW.PrintWords Go.Proofs.YtendbgedpjcocaaGreatDoorW.PrintLast Go.Proofs.YtendbgedpjcocaaGreatDoorW.PrintMore
set_option linter.unusedVariables false

def impl_StmtsOk.f (l0 : List S35) : Option Bool := some (countL 4 l0 0).1
theorem impl_StmtsOk.calls (A0 : Option Addr) (c0 : Nat) (l0 : List S35) (r : Bool) (w : World) (hr0 : Kd.C k35 w A0 l0.length l0) (hc0 : l0.length ≤ c0) (h : impl_StmtsOk.f l0 = some r) :
  Calls Tryz.prog 36 #[.slice A0 l0.length c0] w fun e w' => e = .returned (.bool r) ∧ Below w.heap.size w w' := by
 obtain rfl := Option.some.inj h
 exact stmtsOk_of (fun e A c w hC hc => exprOk_any e A c w hC hc) A0 c0 l0 w hr0 hc0
end Go.Proofs.YtendbgedpjcocaaGreatDoor.B
/- impl.MemGet, in the print's form. -/
namespace Go.Proofs.YtendbgedpjcocaaGreatDoor.B
open Go.RowKit Go.Proofs.YtendbgedpjcocaaGreatDoorW.PrintWords Go.Proofs.YtendbgedpjcocaaGreatDoorW.PrintLast Go.Proofs.YtendbgedpjcocaaGreatDoorW.PrintMore
set_option linter.unusedVariables false

end Go.Proofs.YtendbgedpjcocaaGreatDoor.B
