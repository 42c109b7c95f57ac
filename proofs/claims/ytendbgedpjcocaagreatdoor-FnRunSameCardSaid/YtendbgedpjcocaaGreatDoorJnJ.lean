import Derived.Test.YtendbgedpjcocaaGreatDoorJnG
import Derived.Test.YtendbgedpjcocaaGreatDoorJnH
import Derived.Test.YtendbgedpjcocaaGreatDoorPkA
import Derived.Test.YtendbgedpjcocaaGreatDoorPkB
/- The specification's memory while statements are run: three rows of its own. -/
namespace Go.Proofs.YtendbgedpjcocaaGreatDoor.B
open Go Go.RowKit Go.Shelf Go.Lib Go.Proofs.YtendbgedpjcocaaGreatDoorW.PrintWords Go.Proofs.YtendbgedpjcocaaGreatDoorW.PrintLast Go.Proofs.YtendbgedpjcocaaGreatDoorW.PrintMore
set_option linter.unusedVariables false
/-- Elder blocks stay, but for rows of numbers. -/
structure KeepI (w w' : World) : Prop where
 size : w.heap.size ≤ w'.heap.size
 keep : ∀ (b : Nat) (cs : Array Value) (t : TypeId), t ≠ 3 → w.heap[b]? = some (.cells cs t (0, 0)) → w'.heap[b]? = some (.cells cs t (0, 0))
theorem KeepI.trans {w w1 w2 : World} (h : KeepI w w1) (k : KeepI w1 w2) : KeepI w w2 := ⟨Nat.le_trans h.size k.size, fun b cs t ht hb => k.keep b cs t ht (h.keep b cs t ht hb)⟩
theorem KeepI.of_below {w w1 : World} (h : Below w.heap.size w w1) : KeepI w w1 := ⟨h.size, fun b cs t _ hb => (h.block b (blk_lt hb)).trans hb⟩
theorem KeepI.put1 {w w1 w2 : World} {g : Nat} (h : KeepI w w1) (hp : Put1 g w1 w2) (hg : w.heap.size ≤ g) : KeepI w w2 :=
 ⟨by rw [hp.size]; exact h.size, fun b cs t ht hb => (hp.far b (fun e => by have := blk_lt hb; omega)).trans (h.keep b cs t ht hb)⟩
theorem eighteen (bs : List Int) (h : bs.length = 18) : ∃ b0 b1 b2 b3 b4 b5 b6 b7 b8 b9 b10 b11 b12 b13 b14 b15 b16 b17, bs = [b0, b1, b2, b3, b4, b5, b6, b7, b8, b9, b10, b11, b12, b13, b14, b15, b16, b17] := by
 match bs, h with
 | [b0, b1, b2, b3, b4, b5, b6, b7, b8, b9, b10, b11, b12, b13, b14, b15, b16, b17], _ => exact ⟨_, _, _, _, _, _, _, _, _, _, _, _, _, _, _, _, _, _, rfl⟩
theorem cut3_all (bs : List Int) (h : bs.length = 18) : (cut3 bs).1 ++ (cut3 bs).2.1 ++ (cut3 bs).2.2 = bs := by
 obtain ⟨b0, b1, b2, b3, b4, b5, b6, b7, b8, b9, b10, b11, b12, b13, b14, b15, b16, b17, rfl⟩ := eighteen bs h
 rfl
theorem cut3_len (bs : List Int) (h : bs.length = 18) : (cut3 bs).1.length = 6 ∧ (cut3 bs).2.1.length = 6 ∧ (cut3 bs).2.2.length = 6 := by
 obtain ⟨b0, b1, b2, b3, b4, b5, b6, b7, b8, b9, b10, b11, b12, b13, b14, b15, b16, b17, rfl⟩ := eighteen bs h
 exact ⟨rfl, rfl, rfl⟩
theorem own_blk {W : World} {base : Nat} {e : TypeId} {v : Value} {xs : List Value} (h : W.ownsRow base e 1 v 6 xs) : ∃ g cap, v = .slice (some ⟨g, 0, none⟩) 6 cap ∧ base ≤ g ∧ ∃ cells, W.heap[g]? = some (.cells cells e (0, 0)) := by
 rcases h.2 with ⟨_, h6⟩ | ⟨g, cap, cur, rfl, hg, hh, _⟩
 ·cases h6
 ·exact ⟨g, cap, rfl, hg, cur, hh⟩
theorem stepSkipB {P : Program} {ops : Array Oper} {o : Oper} {b : Act} {W W' : World} {Ψ : Value → World → Prop} (hw : Region.wanted o (yielded ops b.tmps) = true) (hrun : (execOp b.eval o).run P W = .ok .skip W') (h : Ψ undef W') : StepOK P ops o b W Ψ := fun K Q hK => by
 rw [if_pos hw]
 unfold Oper.wp
 rw [hrun]
 exact hK _ _ h
theorem numCutS_any (n : Int) (w : World) : Calls Tryz.prog 76 #[.int .i64 n] w fun e w' => e = .returned (.int .i64 (cutL n)) ∧ Below w.heap.size w w' :=
 (spec_NumCut.calls n (cutL n) w ((cut_eq n).trans (cutI n))).mono fun e w' h => ⟨h.1, by first | exact h.2 | exact h.2.below⟩
/-- What a put into one of three rows leaves. -/
structure PutTo (w0 w : World) (u0 u1 u2 : Value) (bs : List Int) (W : World) : Prop where
 b3 : Box W w.heap.size 30 #[u0, u1, u2]
 b6 : Box W (w.heap.size + 1 + 1) 30 mZ
 m : MemRows W w0.heap.size u0 u1 u2 bs
 b : Below w0.heap.size w0 W
 k : KeepI w W
theorem box_setCell {W : World} {b T g i : Nat} {cs : Array Value} {u : Value} (h : Box W b T cs) (hne : b ≠ g) : Box (W.setCell ⟨g, i, none⟩ u) b T cs := (Below.heap_setCell W _ _ b hne).trans h
theorem box_ne {W : World} {b T g : Nat} {cs cells : Array Value} {e : TypeId} (h : Box W b T cs) (hc : W.heap[g]? = some (.cells cells e (0, 0))) (hne : T ≠ e) : b ≠ g := by
 rintro rfl
 rw [h] at hc
 injection hc with hc
 injection hc with _ hc
 exact hne hc
theorem keep_setCell {w W : World} {g i : Nat} {cells : Array Value} {u : Value} (h : KeepI w W) (hc : W.heap[g]? = some (.cells cells 3 (0, 0))) : KeepI w (W.setCell ⟨g, i, none⟩ u) :=
 ⟨by simpa [World.setCell] using h.size, fun b cs t ht hb => (Below.heap_setCell W _ _ b (box_ne (h.keep b cs t ht hb) hc ht)).trans (h.keep b cs t ht hb)⟩
theorem cut_set1 (bs : List Int) (h : bs.length = 18) (a : Int) (n : Int) (ha : a = 0 ∨ a = 1 ∨ a = 2 ∨ a = 3 ∨ a = 4 ∨ a = 5) : (bs.set ((2 - 1) * 6 + a).toNat n).take 6 = bs.take 6 ∧ ((bs.set ((2 - 1) * 6 + a).toNat n).drop 6).take 6 = ((bs.drop 6).take 6).set a.toNat n ∧ ((bs.set ((2 - 1) * 6 + a).toNat n).drop 12).take 6 = (bs.drop 12).take 6 := by
 obtain ⟨b0, b1, b2, b3, b4, b5, b6, b7, b8, b9, b10, b11, b12, b13, b14, b15, b16, b17, rfl⟩ := eighteen bs h
 rcases ha with rfl | rfl | rfl | rfl | rfl | rfl <;> exact ⟨rfl, rfl, rfl⟩
theorem cut_set2 (bs : List Int) (h : bs.length = 18) (a : Int) (n : Int) (ha : a = 0 ∨ a = 1 ∨ a = 2 ∨ a = 3 ∨ a = 4 ∨ a = 5) : (bs.set ((3 - 1) * 6 + a).toNat n).take 6 = bs.take 6 ∧ ((bs.set ((3 - 1) * 6 + a).toNat n).drop 6).take 6 = (bs.drop 6).take 6 ∧ ((bs.set ((3 - 1) * 6 + a).toNat n).drop 12).take 6 = ((bs.drop 12).take 6).set a.toNat n := by
 obtain ⟨b0, b1, b2, b3, b4, b5, b6, b7, b8, b9, b10, b11, b12, b13, b14, b15, b16, b17, rfl⟩ := eighteen bs h
 rcases ha with rfl | rfl | rfl | rfl | rfl | rfl <;> exact ⟨rfl, rfl, rfl⟩
set_option maxRecDepth 100000 in
set_option maxHeartbeats 4000000 in
theorem put_at (bs : List Int) (h18 : bs.length = 18) (k a n : Int) (hp : putsL k a = true) (v0 v1 v2 : Value) (w0 w : World) (hB : Below w0.heap.size w0 w) (hR : MemRows w w0.heap.size v0 v1 v2 bs) :
  Calls Tryz.prog 70 #[.agg #[v0, v1, v2], .agg #[.int .i64 k, .int .i64 a], .int .i64 n] w fun e w' => ∃ u0 u1 u2, e = .returned (.agg #[u0, u1, u2]) ∧ MemRows w' w0.heap.size u0 u1 u2 (putB bs k a n) ∧ Below w0.heap.size w0 w' ∧ KeepI w w' := by
 have mixed : Tryz.prog.follows .mixedOrders = true := rfl
 have hk1 : k ≠ 1 := by
  intro e
  unfold putsL at hp
  rw [e] at hp
  simp at hp
 have hA : addrOkL k a = true := by unfold putsL at hp; simp only [Bool.and_eq_true] at hp; exact hp.1
 obtain ⟨hk, ha⟩ := addr_cases hA
 have hput : putB bs k a n = bs.set ((k - 1) * 6 + a).toNat (cutL n) := by rw [putB, if_pos hp]
 rw [hput]
 clear hput hp hA
 obtain ⟨g0, d0, rfl, hg0, _⟩ := own_blk hR.r0
 obtain ⟨g1, d1, rfl, hg1, _⟩ := own_blk hR.r1
 obtain ⟨g2, d2, rfl, hg2, _⟩ := own_blk hR.r2
 obtain ⟨w1, hw1⟩ : ∃ W, W = ((w.alloc (.cells #[.slice (some ⟨g0, 0, none⟩) 6 d0, .slice (some ⟨g1, 0, none⟩) 6 d1, .slice (some ⟨g2, 0, none⟩) 6 d2] 30 (0, 0))).alloc (.cells #[.int .i64 k, .int .i64 a] 24 (0, 0))).alloc (.cells #[.slice none 0 0, .slice none 0 0, .slice none 0 0] 30 (0, 0)) := ⟨_, rfl⟩
 obtain ⟨hs, k1, k2, k3, hB1⟩ := three_blk w (.cells #[.slice (some ⟨g0, 0, none⟩) 6 d0, .slice (some ⟨g1, 0, none⟩) 6 d1, .slice (some ⟨g2, 0, none⟩) 6 d2] 30 (0, 0)) (.cells #[.int .i64 k, .int .i64 a] 24 (0, 0)) (.cells #[.slice none 0 0, .slice none 0 0, .slice none 0 0] 30 (0, 0))
 rw [← hw1] at hs k1 k2 k3 hB1
 have H1 := Aside0.mk (show Box w1 w.heap.size 30 #[.slice (some ⟨g0, 0, none⟩) 6 d0, .slice (some ⟨g1, 0, none⟩) 6 d1, .slice (some ⟨g2, 0, none⟩) 6 d2] ∧ Box w1 (w.heap.size + 1) 24 #[.int .i64 k, .int .i64 a] ∧ Box w1 (w.heap.size + 1 + 1) 30 mZ ∧
   MemRows w1 w0.heap.size (.slice (some ⟨g0, 0, none⟩) 6 d0) (.slice (some ⟨g1, 0, none⟩) 6 d1) (.slice (some ⟨g2, 0, none⟩) 6 d2) bs ∧ Below w0.heap.size w0 w1 ∧ KeepI w w1 ∧ w0.heap.size ≤ g1 ∧ w0.heap.size ≤ g2 from
  ⟨k1, k2, k3, hR.below hB1, hB.trans (hB1.mono hB.size), KeepI.of_below hB1, hg1, hg2⟩)
 have HA := Aside0.mk (And.intro h18 ha)
 have c0 := (Box.cell k2 0 _ rfl).1
 have HW0 : w0.heap.size ≤ w.heap.size := hB.size
 clear hs k1 k2 k3 hB1 hR hB h18 ha hg0 hg1 hg2
 have fin : ∀ (bs' : List Int) (W : World), PutTo w0 w (.slice (some ⟨g0, 0, none⟩) 6 d0) (.slice (some ⟨g1, 0, none⟩) 6 d1) (.slice (some ⟨g2, 0, none⟩) 6 d2) bs' W → ∀ W', Box W' (w.heap.size + 1 + 1) 30 #[.slice (some ⟨g0, 0, none⟩) 6 d0, .slice (some ⟨g1, 0, none⟩) 6 d1, .slice (some ⟨g2, 0, none⟩) 6 d2] → Put1 (w.heap.size + 1 + 1) W W' →
   ∃ u0 u1 u2, Ending.returned (Value.agg #[.slice (some ⟨g0, 0, none⟩) 6 d0, .slice (some ⟨g1, 0, none⟩) 6 d1, .slice (some ⟨g2, 0, none⟩) 6 d2]) = .returned (.agg #[u0, u1, u2]) ∧ MemRows W' w0.heap.size u0 u1 u2 bs' ∧ Below w0.heap.size w0 W' ∧ KeepI w W' := by
  intro bs' W h W' _ hp
  have hs0 : w0.heap.size ≤ w.heap.size + 1 + 1 := by omega
  exact ⟨_, _, _, rfl, h.m.put1 h.b6 (by decide) hp, hp.below h.b hs0, h.k.put1 hp (by omega)⟩
 have HFI := Aside0.mk fin
 clear fin
 go_enter Tryz.func70, Tryz.ntmps70
 go_upto_region 1 with fail
 rw [← hw1]
 clear hw1
 rcases hk with rfl | rfl | rfl
 ·exact absurd rfl hk1
 ·go_upto_region 3 with fail
  refine weaveLast_ 7 rfl (fun W => Below w1.heap.size w1 W) (Lasts.below w1) (Below.refl _ _) [(11, 0), (12, 1), (13, 2), (14, 3), (15, 4), (16, 5), (17, 6)]
   [fun v _ => v = .pointer (some ⟨w.heap.size, 1, none⟩), fun v _ => v = .slice (some ⟨g1, 0, none⟩) 6 d1, fun v _ => v = .pointer (some ⟨w.heap.size + 1, 1, none⟩), fun v _ => v = .int .i64 a, fun v _ => v = .int .i64 n, fun v _ => v = .int .i64 (cutL n), fun v _ => v = .pointer (some ⟨g1, a.toNat, none⟩)]
   mixed (by kernel_rfl) ⟨fun _ => Lasts.const _, fun _ => Lasts.const _, fun _ => Lasts.const _, fun _ => Lasts.const _, fun _ => Lasts.const _, fun _ => Lasts.const _, fun _ => Lasts.const _, trivial⟩
   (by kernel_rfl) (by kernel_rfl) ?_ (fun _ W => PutTo w0 w (.slice (some ⟨g0, 0, none⟩) 6 d0) (.slice (some ⟨g1, 0, none⟩) 6 d1) (.slice (some ⟨g2, 0, none⟩) 6 d2) (bs.set ((2 - 1) * 6 + a).toNat (cutL n)) W) ?_ ?_
  ·refine ⟨?_, ?_, ?_, ?_, ?_, ?_, ?_, ?_, trivial⟩
   ·intro _ vs W hp hv b hs
    have t3 := (hs.oldtm 3 rfl).trans (show _ = some (Value.pointer (some ⟨w.heap.size, 0, none⟩)) from rfl)
    exact stepVal rfl (by go_simp) ⟨Below.refl _ _, rfl⟩
   ·intro _ vs W hp hv b hs
    have h0 : vs 0 = .pointer (some ⟨w.heap.size, 1, none⟩) := hv 0 (by decide)
    have t0 := (hs.tm 11 0 rfl).trans (congrArg some h0)
    have cm := (Box.cell (blk_below H1.out.1 hp) 1 _ rfl).1
    exact stepVal rfl (by go_simp) ⟨Below.refl _ _, rfl⟩
   ·intro _ vs W hp hv b hs
    have t4 := (hs.oldtm 4 rfl).trans (show _ = some (Value.pointer (some ⟨w.heap.size + 1, 0, none⟩)) from rfl)
    exact stepVal rfl (by go_simp) ⟨Below.refl _ _, rfl⟩
   ·intro _ vs W hp hv b hs
    have h2 : vs 2 = .pointer (some ⟨w.heap.size + 1, 1, none⟩) := hv 2 (by decide)
    have t2 := (hs.tm 13 2 rfl).trans (congrArg some h2)
    have cm := (Box.cell (blk_below H1.out.2.1 hp) 1 _ rfl).1
    exact stepVal rfl (by go_simp) ⟨Below.refl _ _, rfl⟩
   ·intro _ vs W hp hv b hs
    have t2 := (hs.oldtm 2 rfl).trans (show _ = some (Value.int .i64 n) from rfl)
    exact stepVal rfl (by go_simp) ⟨Below.refl _ _, rfl⟩
   ·intro _ vs W hp hv b hs
    have h4 : vs 4 = .int .i64 n := hv 4 (by decide)
    refine stepCall rfl Tryz.func76 (by kernel_rfl) rfl #[vs 4] rfl (by simp [Act.eval, hs.tm 15 4 rfl]) (by rw [h4]; exact numCutS_any n W) ?_
    rintro e W' ⟨rfl, hb'⟩
    exact ⟨_, rfl, hb', rfl⟩
   ·intro _ vs W hp hv b hs
    have h1 : vs 1 = .slice (some ⟨g1, 0, none⟩) 6 d1 := hv 1 (by decide)
    have h3 : vs 3 = .int .i64 a := hv 3 (by decide)
    have t1 := (hs.tm 12 1 rfl).trans (congrArg some h1)
    have t3 := (hs.tm 14 3 rfl).trans (congrArg some h3)
    have p0 : (0 ≤ a) = True := eq_true (by have := HA.out.2; omega)
    have p1 : (a < 6) = True := eq_true (by have := HA.out.2; omega)
    have p2 : a.toNat < 6 := by have := HA.out.2; omega
    exact stepVal (v := .pointer (some ⟨g1, a.toNat, none⟩)) rfl (by go_simp) ⟨Below.refl _ _, rfl⟩
   ·intro h
    exact absurd h (by decide)
  ·intro o ho vs W hp hv b hs
   obtain rfl := Option.some.inj ho
   have h5 : vs 5 = .int .i64 (cutL n) := hv 5 (by decide)
   have h6 : vs 6 = .pointer (some ⟨g1, a.toNat, none⟩) := hv 6 (by decide)
   have t5 := (hs.tm 16 5 rfl).trans (congrArg some h5)
   have t6 := (hs.tm 17 6 rfl).trans (congrArg some h6)
   have hm := H1.out.2.2.2.1.below hp
   have hat := own_at hm.r1 a (by have := HA.out.2; omega) (by have := HA.out.2; omega)
   have q0 := hat.1
   have q1 := hat.2
   refine stepSkipB (W' := W.setCell ⟨g1, a.toNat, none⟩ (.int .i64 (cutL n))) rfl (by go_simp) ?_
   obtain ⟨cells, hc⟩ := own_typed hm.r1 g1 rfl
   obtain ⟨e0, e1, e2⟩ := cut_set1 bs HA.out.1 a (cutL n) HA.out.2
   have b3 := blk_below H1.out.1 hp
   have b6 := blk_below H1.out.2.2.1 hp
   have hst := (own_store hm.r1 a (cutL n)).1
   refine ⟨box_setCell b3 (box_ne b3 hc (by decide)), box_setCell b6 (box_ne b6 hc (by decide)), ?_, ?_, keep_setCell (H1.out.2.2.2.2.2.1.trans (KeepI.of_below hp)) hc⟩
   ·exact ⟨by rw [e0]; exact own_setCell hm.r0 (fun e => hm.a01 g1 e.symm rfl) _, by rw [e1]; exact hst, by rw [e2]; exact own_setCell hm.r2 (fun e => hm.a12 g1 rfl e.symm) _, hm.a01, hm.a02, hm.a12⟩
   ·exact (H1.out.2.2.2.2.1.trans (hp.mono H1.out.2.2.2.2.1.size)).setCell (p := ⟨g1, a.toNat, none⟩) H1.out.2.2.2.2.2.2.1 _
  ·intro vs W hP
   have HP := Aside0.mk hP
   have lb := hP.b3
   have lb6 := hP.b6
   simp only [List.map_cons, List.map_nil, putL, Act.put, List.setIfInBounds_toArray, List.set_cons_zero, List.set_cons_succ]
   clear hP c0
   go_wp2_with (first | ((with_reducible refine gate_dst (N := 27) rfl ?_); refine boxGet_ rfl rfl rfl rfl lb Tryz.underlying30 rfl (by kernel_rfl) ?_) | (refine boxPut_ rfl rfl rfl rfl #[.slice (some ⟨g0, 0, none⟩) 6 d0, .slice (some ⟨g1, 0, none⟩) 6 d1, .slice (some ⟨g2, 0, none⟩) 6 d2] rfl lb6 rfl (by kernel_rfl) (by simp [Value.oneCell']) ?_; intro w7 hbx hput))
   refine bodyPost_ret (results_cell_row rfl _ _ (w.heap.size + 1 + 1) 30 #[.slice (some ⟨g0, 0, none⟩) 6 d0, .slice (some ⟨g1, 0, none⟩) 6 d1, .slice (some ⟨g2, 0, none⟩) 6 d2] (0, 0) _ rfl hbx Tryz.underlying30 rfl (by kernel_rfl)) rfl ?_
   exact HFI.out _ W HP.out w7 hbx hput
 ·go_upto_region 5 with fail
  refine weaveLast_ 7 rfl (fun W => Below w1.heap.size w1 W) (Lasts.below w1) (Below.refl _ _) [(20, 0), (21, 1), (22, 2), (23, 3), (24, 4), (25, 5), (26, 6)]
   [fun v _ => v = .pointer (some ⟨w.heap.size, 2, none⟩), fun v _ => v = .slice (some ⟨g2, 0, none⟩) 6 d2, fun v _ => v = .pointer (some ⟨w.heap.size + 1, 1, none⟩), fun v _ => v = .int .i64 a, fun v _ => v = .int .i64 n, fun v _ => v = .int .i64 (cutL n), fun v _ => v = .pointer (some ⟨g2, a.toNat, none⟩)]
   mixed (by kernel_rfl) ⟨fun _ => Lasts.const _, fun _ => Lasts.const _, fun _ => Lasts.const _, fun _ => Lasts.const _, fun _ => Lasts.const _, fun _ => Lasts.const _, fun _ => Lasts.const _, trivial⟩
   (by kernel_rfl) (by kernel_rfl) ?_ (fun _ W => PutTo w0 w (.slice (some ⟨g0, 0, none⟩) 6 d0) (.slice (some ⟨g1, 0, none⟩) 6 d1) (.slice (some ⟨g2, 0, none⟩) 6 d2) (bs.set ((3 - 1) * 6 + a).toNat (cutL n)) W) ?_ ?_
  ·refine ⟨?_, ?_, ?_, ?_, ?_, ?_, ?_, ?_, trivial⟩
   ·intro _ vs W hp hv b hs
    have t3 := (hs.oldtm 3 rfl).trans (show _ = some (Value.pointer (some ⟨w.heap.size, 0, none⟩)) from rfl)
    exact stepVal rfl (by go_simp) ⟨Below.refl _ _, rfl⟩
   ·intro _ vs W hp hv b hs
    have h0 : vs 0 = .pointer (some ⟨w.heap.size, 2, none⟩) := hv 0 (by decide)
    have t0 := (hs.tm 20 0 rfl).trans (congrArg some h0)
    have cm := (Box.cell (blk_below H1.out.1 hp) 2 _ rfl).1
    exact stepVal rfl (by go_simp) ⟨Below.refl _ _, rfl⟩
   ·intro _ vs W hp hv b hs
    have t4 := (hs.oldtm 4 rfl).trans (show _ = some (Value.pointer (some ⟨w.heap.size + 1, 0, none⟩)) from rfl)
    exact stepVal rfl (by go_simp) ⟨Below.refl _ _, rfl⟩
   ·intro _ vs W hp hv b hs
    have h2 : vs 2 = .pointer (some ⟨w.heap.size + 1, 1, none⟩) := hv 2 (by decide)
    have t2 := (hs.tm 22 2 rfl).trans (congrArg some h2)
    have cm := (Box.cell (blk_below H1.out.2.1 hp) 1 _ rfl).1
    exact stepVal rfl (by go_simp) ⟨Below.refl _ _, rfl⟩
   ·intro _ vs W hp hv b hs
    have t2 := (hs.oldtm 2 rfl).trans (show _ = some (Value.int .i64 n) from rfl)
    exact stepVal rfl (by go_simp) ⟨Below.refl _ _, rfl⟩
   ·intro _ vs W hp hv b hs
    have h4 : vs 4 = .int .i64 n := hv 4 (by decide)
    refine stepCall rfl Tryz.func76 (by kernel_rfl) rfl #[vs 4] rfl (by simp [Act.eval, hs.tm 24 4 rfl]) (by rw [h4]; exact numCutS_any n W) ?_
    rintro e W' ⟨rfl, hb'⟩
    exact ⟨_, rfl, hb', rfl⟩
   ·intro _ vs W hp hv b hs
    have h1 : vs 1 = .slice (some ⟨g2, 0, none⟩) 6 d2 := hv 1 (by decide)
    have h3 : vs 3 = .int .i64 a := hv 3 (by decide)
    have t1 := (hs.tm 21 1 rfl).trans (congrArg some h1)
    have t3 := (hs.tm 23 3 rfl).trans (congrArg some h3)
    have p0 : (0 ≤ a) = True := eq_true (by have := HA.out.2; omega)
    have p1 : (a < 6) = True := eq_true (by have := HA.out.2; omega)
    have p2 : a.toNat < 6 := by have := HA.out.2; omega
    exact stepVal (v := .pointer (some ⟨g2, a.toNat, none⟩)) rfl (by go_simp) ⟨Below.refl _ _, rfl⟩
   ·intro h
    exact absurd h (by decide)
  ·intro o ho vs W hp hv b hs
   obtain rfl := Option.some.inj ho
   have h5 : vs 5 = .int .i64 (cutL n) := hv 5 (by decide)
   have h6 : vs 6 = .pointer (some ⟨g2, a.toNat, none⟩) := hv 6 (by decide)
   have t5 := (hs.tm 25 5 rfl).trans (congrArg some h5)
   have t6 := (hs.tm 26 6 rfl).trans (congrArg some h6)
   have hm := H1.out.2.2.2.1.below hp
   have hat := own_at hm.r2 a (by have := HA.out.2; omega) (by have := HA.out.2; omega)
   have q0 := hat.1
   have q1 := hat.2
   refine stepSkipB (W' := W.setCell ⟨g2, a.toNat, none⟩ (.int .i64 (cutL n))) rfl (by go_simp) ?_
   obtain ⟨cells, hc⟩ := own_typed hm.r2 g2 rfl
   obtain ⟨e0, e1, e2⟩ := cut_set2 bs HA.out.1 a (cutL n) HA.out.2
   have b3 := blk_below H1.out.1 hp
   have b6 := blk_below H1.out.2.2.1 hp
   have hst := (own_store hm.r2 a (cutL n)).1
   refine ⟨box_setCell b3 (box_ne b3 hc (by decide)), box_setCell b6 (box_ne b6 hc (by decide)), ?_, ?_, keep_setCell (H1.out.2.2.2.2.2.1.trans (KeepI.of_below hp)) hc⟩
   ·exact ⟨by rw [e0]; exact own_setCell hm.r0 (fun e => hm.a02 g2 e.symm rfl) _, by rw [e1]; exact own_setCell hm.r1 (fun e => hm.a12 g2 e.symm rfl) _, by rw [e2]; exact hst, hm.a01, hm.a02, hm.a12⟩
   ·exact (H1.out.2.2.2.2.1.trans (hp.mono H1.out.2.2.2.2.1.size)).setCell (p := ⟨g2, a.toNat, none⟩) H1.out.2.2.2.2.2.2.2 _
  ·intro vs W hP
   have HP := Aside0.mk hP
   have lb := hP.b3
   have lb6 := hP.b6
   simp only [List.map_cons, List.map_nil, putL, Act.put, List.setIfInBounds_toArray, List.set_cons_zero, List.set_cons_succ]
   clear hP c0
   go_wp2_with (first | ((with_reducible refine gate_dst (N := 27) rfl ?_); refine boxGet_ rfl rfl rfl rfl lb Tryz.underlying30 rfl (by kernel_rfl) ?_) | (refine boxPut_ rfl rfl rfl rfl #[.slice (some ⟨g0, 0, none⟩) 6 d0, .slice (some ⟨g1, 0, none⟩) 6 d1, .slice (some ⟨g2, 0, none⟩) 6 d2] rfl lb6 rfl (by kernel_rfl) (by simp [Value.oneCell']) ?_; intro w7 hbx hput))
   refine bodyPost_ret (results_cell_row rfl _ _ (w.heap.size + 1 + 1) 30 #[.slice (some ⟨g0, 0, none⟩) 6 d0, .slice (some ⟨g1, 0, none⟩) 6 d1, .slice (some ⟨g2, 0, none⟩) 6 d2] (0, 0) _ rfl hbx Tryz.underlying30 rfl (by kernel_rfl)) rfl ?_
   exact HFI.out _ W HP.out w7 hbx hput
theorem of_at (bs : List Int) (h18 : bs.length = 18) (x : Ex) (he : formS 6 x = true) (A : Option Addr) (c : Nat) (v0 v1 v2 : Value) (base : Nat) (w : World) (hR : MemRows w base v0 v1 v2 bs) (hC : Kd.C exK w A x.f3.length x.f3) (hc : x.f3.length ≤ c) :
  Calls Tryz.prog 71 #[eAgg x A c, .agg #[v0, v1, v2]] w fun e w' => e = .returned (.int .i64 (evalI bs x)) ∧ Below w.heap.size w w' := by
 obtain ⟨l0, l1, l2⟩ := cut3_len bs h18
 obtain ⟨K, hK⟩ := of_spec (cut3 bs).1 (cut3 bs).2.1 (cut3 bs).2.2 l0 l1 l2 6 x he
 rw [cut3_all bs h18] at hK
 obtain ⟨q, hq, hM⟩ := MV.ofRows h18 hR
 rw [hq]
 exact spec_l3Of.calls K x.f0 x.f1 x.f2.f0 x.f2.f1 A c x.f3 _ _ (cut3 bs).1 _ _ (cut3 bs).2.1 _ _ (cut3 bs).2.2 _ w hC hc hM.c0 hM.l0 hM.c1 hM.l1 hM.c2 hM.l2 hK
theorem onS_any (n : Int) (w : World) : Calls Tryz.prog 73 #[.int .i64 n] w fun e w' => e = .returned (.bool (n != 0)) ∧ Below w.heap.size w w' :=
 (spec_NumOn.calls n (n != 0) w rfl).mono fun e w' h => ⟨h.1, h.2.below⟩
/-- append of six numbers onto a slice without room: a row of its own. -/
theorem append_base (A : Option Addr) (B : Addr) (c : Nat) (T : TypeId) (W : World) : (Builtin.append_ #[28, 28] T #[.slice A 0 0, .slice (some B) 6 c]).run Tryz.prog W = (Builtin.append_ #[28, 28] T #[.slice none 0 0, .slice (some B) 6 c]).run Tryz.prog W := by
 obtain ⟨i0, hi, hzz⟩ := Option.map_eq_some_iff.1 info3
 simp only [Prod.mk.injEq] at hzz
 obtain ⟨_, hz1, hz2⟩ := hzz
 have hn : ¬ (281474976710656 < Builtin.nextslicecap 6 0 * 8) := by decide
 have hl : ∀ (a : Addr) (w : World), (loadCells a 0).run Tryz.prog w = .ok #[] w := fun a w => by simp [loadCells, loadCellsFrom]
 cases A with
 | none => rfl
 | some a => simp [Builtin.append_, run_underlying Tryz.underlying28, sizeOf, typeInfo, hi, hz1, hz2, Builtin.lenOf, Builtin.firstCells, hn, hl, Result.andThen]
section
variable {ops : Array Oper} {o : Oper} {b : Act} {W : World} {Ψ : Value → World → Prop}
theorem stepLit0 {P : Program} (hw : Region.wanted o (yielded ops b.tmps) = true) {N : Tmp} (hrun : (execOp b.eval o).run P W = .ok (.value (.slice (some ⟨W.heap.size, 0, none⟩) 0 0)) (W.alloc (.cells #[] N)))
  (h : ∀ W' A, Below W.heap.size W W' → Ψ (.slice A 0 0) W') : StepOK P ops o b W Ψ := fun K Q hK =>
 event_step hw hrun (hK _ _ (h _ _ ((Below.refl _ _).alloc (Nat.le_refl _) _)))
theorem stepApp6 {s x : Operand} (hw : Region.wanted o (yielded ops b.tmps) = true) (ho : o.op = .call { callee := .builtin .append, args := #[s, x], argTypes := #[28, 28] }) {A B : Option Addr} {c : Nat} {zs : List Int}
  (hs : b.eval s = .slice A 0 0) (hx : b.eval x = .slice B 6 c) (hC : Kd.C (Kd.int .i64) W B 6 zs) :
  StepOK Tryz.prog ops o b W fun v W' => W'.ownsRow W.heap.size 3 1 v 6 (nums .i64 zs) ∧ Below W.heap.size W W' ∧ ∀ k, v.ownBlock = some k → W.heap.size ≤ k := by
 obtain ⟨hz, _, h3⟩ := hC
 obtain ⟨ad, rfl, hl⟩ := h3 (by decide)
 obtain ⟨i0, hi, hzz⟩ := Option.map_eq_some_iff.1 info3
 simp only [Prod.mk.injEq] at hzz
 obtain ⟨hz0, hz1, hz2⟩ := hzz
 have hnl : (nums .i64 zs).length = 6 := by simp [nums]; exact hz
 obtain ⟨v1, w1, hrun, h1, hg, _, hat⟩ := run_append_own_at (P := Tryz.prog) W W.heap.size 28 o.type 3 i0 (.int .i64 0) 1 8 Tryz.underlying28 hi hz0 hz1 hz2 rfl (by decide) (.slice none 0 0) 0 [] (World.ownsRow_nil W _ _ _) ad 6 c (nums .i64 zs) hnl
  (fun j u hj => by
   have hj6 : j < 6 := by have := (List.getElem?_eq_some_iff.1 hj).1; omega
   have hjz : j < zs.length := by omega
   obtain ⟨cl, hlen, hk, hc⟩ := hl j zs[j] (List.getElem?_eq_getElem hjz)
   have hk' : cl = [.int .i64 zs[j]] := hk
   have hu : u = .int .i64 zs[j] := by
    simp only [nums, List.getElem?_map, List.getElem?_eq_getElem hjz, Option.map_some, Option.some.injEq] at hj
    exact hj.symm
   have := hc 0 u (by rw [hk', hu]; rfl)
   simpa [show (Kd.int .i64).sz = 1 from rfl] using this) (fun u hu => by obtain ⟨n, _, rfl⟩ := List.mem_map.1 hu; rfl) (by decide) (by decide) (Nat.le_refl _)
 have hat' : v1.ownBlock = some W.heap.size := by
  rcases hat with hat | hat
  ·exfalso
   rcases h1.2 with ⟨rfl, h6⟩ | ⟨k, cap, cur, rfl, _⟩
   ·cases h6
   ·cases hat
  ·exact hat
 intro K Q hK
 rw [if_pos hw]
 unfold Oper.wp execOp
 simp only [ho, resolve, invoke, builtin, Sem.run_bind, Sem.run_pure, Result.andThen_ok, List.map_toArray, List.map_cons, List.map_nil, hs, hx, append_base, hrun]
 exact hK v1 w1 ⟨h1, (Below.refl _ _).grown hg (Nat.le_refl _) (fun k hk => by cases hk), fun k hk => by rw [hat'] at hk; injection hk with hk; omega⟩
end
set_option maxRecDepth 100000 in
set_option maxHeartbeats 4000000 in
theorem copy_at (m : Mem3) (p : Caps3) (h0 : m.1.length = 6) (h1 : m.2.1.length = 6) (h2 : m.2.2.length = 6) (w : World) (hM : MV w m p) :
  Calls Tryz.prog 40 #[.agg (mA m p)] w fun e w' => ∃ u0 u1 u2, e = .returned (.agg #[u0, u1, u2]) ∧ MemRows w' w.heap.size u0 u1 u2 (m.1 ++ m.2.1 ++ m.2.2) ∧ Below w.heap.size w w' := by
 have mixed : Tryz.prog.follows .mixedOrders = true := rfl
 obtain ⟨w1, hw1⟩ : ∃ W, W = (w.alloc (.cells (mA m p) 30 (0, 0))).alloc (.cells #[.slice none 0 0, .slice none 0 0, .slice none 0 0] 30 (0, 0)) := ⟨_, rfl⟩
 obtain ⟨hs, k1, k2, hB⟩ := two_blocks' w (.cells (mA m p) 30 (0, 0)) (.cells #[.slice none 0 0, .slice none 0 0, .slice none 0 0] 30 (0, 0))
 rw [← hw1] at hs k1 k2 hB
 have H1 := Aside0.mk (show Box w1 w.heap.size 30 (mA m p) ∧ Box w1 (w.heap.size + 1) 30 mZ ∧ Below w.heap.size w w1 from ⟨k1, k2, hB⟩)
 have HM := Aside0.mk hM
 have HL := Aside0.mk (And.intro h0 (And.intro h1 h2))
 have HB1 : Below w.heap.size w w1 := H1.out.2.2
 clear hs k1 k2 hB hM h0 h1 h2
 unfold mA at hw1
 unfold mA
 go_enter Tryz.func40, Tryz.ntmps40
 go_upto_region 1 with fail
 rw [← hw1]
 clear hw1
 refine weaveFresh_ [3, 7, 11] 12 rfl rfl (fun W => Below w1.heap.size w1 W) (Lasts.below w1) (Below.refl _ _) [(3, 0), (4, 1), (5, 2), (6, 3), (7, 4), (8, 5), (9, 6), (10, 7), (11, 8), (12, 9), (13, 10), (14, 11), (15, 12)]
  [fun v _ => ∃ A, v = .slice A 0 0, fun v _ => v = .pointer (some ⟨w.heap.size, 0, none⟩), fun v _ => v = .slice p.1.1 6 p.1.2, fun v W => W.ownsRow w1.heap.size 3 1 v 6 (nums .i64 m.1), fun v _ => ∃ A, v = .slice A 0 0, fun v _ => v = .pointer (some ⟨w.heap.size, 1, none⟩), fun v _ => v = .slice p.2.1.1 6 p.2.1.2, fun v W => W.ownsRow w1.heap.size 3 1 v 6 (nums .i64 m.2.1), fun v _ => ∃ A, v = .slice A 0 0, fun v _ => v = .pointer (some ⟨w.heap.size, 2, none⟩), fun v _ => v = .slice p.2.2.1 6 p.2.2.2, fun v W => W.ownsRow w1.heap.size 3 1 v 6 (nums .i64 m.2.2)]
  mixed (by kernel_rfl) ⟨fun _ _ _ _ h => h, fun _ => Lasts.const _, fun _ => Lasts.const _, fun _ _ _ hb h => pw_own_below h hb, fun _ _ _ _ h => h, fun _ => Lasts.const _, fun _ => Lasts.const _, fun _ _ _ hb h => pw_own_below h hb, fun _ _ _ _ h => h, fun _ => Lasts.const _, fun _ => Lasts.const _, fun _ _ _ hb h => pw_own_below h hb, trivial⟩
  (by kernel_rfl) (by kernel_rfl) (by kernel_rfl) ?_ ?_
  (fun v W => ∃ v0 v1 v2, v = .agg #[v0, v1, v2] ∧ MemRows W w1.heap.size v0 v1 v2 (m.1 ++ m.2.1 ++ m.2.2) ∧ Below w1.heap.size w1 W)
  (fun _ W => ∃ v0 v1 v2, Box W (w.heap.size + 1) 30 #[v0, v1, v2] ∧ MemRows W w1.heap.size v0 v1 v2 (m.1 ++ m.2.1 ++ m.2.2) ∧ Below w.heap.size w W) ?_ ?_ ?_
 ·refine ⟨?_, ?_, ?_, ?_, ?_, ?_, ?_, ?_, ?_, ?_, ?_, ?_, ?_, ?_, trivial⟩
  ·intro _ vs W hp hv b hs
   refine stepLit0 rfl (by go_simp; try rfl) fun W' A hb' => ⟨hb', ⟨A, rfl⟩, fun h => absurd h (by decide)⟩
  ·intro _ vs W hp hv b hs
   have t1 := (hs.oldtm 1 rfl).trans (show _ = some (Value.pointer (some ⟨w.heap.size, 0, none⟩)) from rfl)
   exact stepVal rfl (by go_simp) ⟨Below.refl _ _, rfl, fun h => absurd h (by decide)⟩
  ·intro _ vs W hp hv b hs
   have h1 : vs 1 = .pointer (some ⟨w.heap.size, 0, none⟩) := hv 1 (by decide)
   have t4 := (hs.tm 4 1 rfl).trans (congrArg some h1)
   have cl : W.cell? ⟨w.heap.size, 0, none⟩ = some (.slice p.1.1 6 p.1.2) := by rw [blk_cell (blk_below H1.out.1 hp), ← HL.out.1]; rfl
   exact stepVal rfl (by go_simp) ⟨Below.refl _ _, rfl, fun h => absurd h (by decide)⟩
  ·intro _ vs W hp hv b hs
   obtain ⟨A, h0⟩ : ∃ A, vs 0 = .slice A 0 0 := hv 0 (by decide)
   have h2 : vs 2 = .slice p.1.1 6 p.1.2 := hv 2 (by decide)
   have hC := Kd.C_below (Kd.C_below HM.out.c0 HB1) hp
   rw [HL.out.1] at hC
   exact (stepApp6 rfl rfl ((hs.ev 3 0 rfl).trans h0) ((hs.ev 5 2 rfl).trans h2) hC).mono fun v W' h => ⟨h.2.1, own_weaken h.1 hp.size, fun _ => h.2.2⟩
  ·intro _ vs W hp hv b hs
   refine stepLit0 rfl (by go_simp; try rfl) fun W' A hb' => ⟨hb', ⟨A, rfl⟩, fun h => absurd h (by decide)⟩
  ·intro _ vs W hp hv b hs
   have t1 := (hs.oldtm 1 rfl).trans (show _ = some (Value.pointer (some ⟨w.heap.size, 0, none⟩)) from rfl)
   exact stepVal rfl (by go_simp) ⟨Below.refl _ _, rfl, fun h => absurd h (by decide)⟩
  ·intro _ vs W hp hv b hs
   have h5 : vs 5 = .pointer (some ⟨w.heap.size, 1, none⟩) := hv 5 (by decide)
   have t8 := (hs.tm 8 5 rfl).trans (congrArg some h5)
   have cl : W.cell? ⟨w.heap.size, 1, none⟩ = some (.slice p.2.1.1 6 p.2.1.2) := by rw [blk_cell (blk_below H1.out.1 hp), ← HL.out.2.1]; rfl
   exact stepVal rfl (by go_simp) ⟨Below.refl _ _, rfl, fun h => absurd h (by decide)⟩
  ·intro _ vs W hp hv b hs
   obtain ⟨A, h4⟩ : ∃ A, vs 4 = .slice A 0 0 := hv 4 (by decide)
   have h6 : vs 6 = .slice p.2.1.1 6 p.2.1.2 := hv 6 (by decide)
   have hC := Kd.C_below (Kd.C_below HM.out.c1 HB1) hp
   rw [HL.out.2.1] at hC
   exact (stepApp6 rfl rfl ((hs.ev 7 4 rfl).trans h4) ((hs.ev 9 6 rfl).trans h6) hC).mono fun v W' h => ⟨h.2.1, own_weaken h.1 hp.size, fun _ => h.2.2⟩
  ·intro _ vs W hp hv b hs
   refine stepLit0 rfl (by go_simp; try rfl) fun W' A hb' => ⟨hb', ⟨A, rfl⟩, fun h => absurd h (by decide)⟩
  ·intro _ vs W hp hv b hs
   have t1 := (hs.oldtm 1 rfl).trans (show _ = some (Value.pointer (some ⟨w.heap.size, 0, none⟩)) from rfl)
   exact stepVal rfl (by go_simp) ⟨Below.refl _ _, rfl, fun h => absurd h (by decide)⟩
  ·intro _ vs W hp hv b hs
   have h9 : vs 9 = .pointer (some ⟨w.heap.size, 2, none⟩) := hv 9 (by decide)
   have t12 := (hs.tm 12 9 rfl).trans (congrArg some h9)
   have cl : W.cell? ⟨w.heap.size, 2, none⟩ = some (.slice p.2.2.1 6 p.2.2.2) := by rw [blk_cell (blk_below H1.out.1 hp), ← HL.out.2.2]; rfl
   exact stepVal rfl (by go_simp) ⟨Below.refl _ _, rfl, fun h => absurd h (by decide)⟩
  ·intro _ vs W hp hv b hs
   obtain ⟨A, h8⟩ : ∃ A, vs 8 = .slice A 0 0 := hv 8 (by decide)
   have h10 : vs 10 = .slice p.2.2.1 6 p.2.2.2 := hv 10 (by decide)
   have hC := Kd.C_below (Kd.C_below HM.out.c2 HB1) hp
   rw [HL.out.2.2] at hC
   exact (stepApp6 rfl rfl ((hs.ev 11 8 rfl).trans h8) ((hs.ev 13 10 rfl).trans h10) hC).mono fun v W' h => ⟨h.2.1, own_weaken h.1 hp.size, fun _ => h.2.2⟩
  ·intro h
   exact absurd h (by decide)
  ·intro h
   exact absurd h (by decide)
 ·intro j hj v W hF k hk
  simp only [List.mem_cons, List.mem_nil_iff, or_false] at hj
  rcases hj with rfl | rfl | rfl
  ·exact own_lt (show W.ownsRow w1.heap.size 3 1 v 6 (nums .i64 m.1) from hF) k hk
  ·exact own_lt (show W.ownsRow w1.heap.size 3 1 v 6 (nums .i64 m.2.1) from hF) k hk
  ·exact own_lt (show W.ownsRow w1.heap.size 3 1 v 6 (nums .i64 m.2.2) from hF) k hk
 ·intro o ho vs W hp hv hap b hs
  obtain rfl := Option.some.inj ho
  have h3 : W.ownsRow w1.heap.size 3 1 (vs 3) 6 (nums .i64 m.1) := hv 3 (by decide)
  have h7 : W.ownsRow w1.heap.size 3 1 (vs 7) 6 (nums .i64 m.2.1) := hv 7 (by decide)
  have h11 : W.ownsRow w1.heap.size 3 1 (vs 11) 6 (nums .i64 m.2.2) := hv 11 (by decide)
  have t6 := hs.tm 6 3 rfl
  have t10 := hs.tm 10 7 rfl
  have t14 := hs.tm 14 11 rfl
  have e0 : (m.1 ++ m.2.1 ++ m.2.2).take 6 = m.1 := by rw [List.append_assoc, List.take_append_of_le_length (by have := HL.out; omega), List.take_of_length_le (by have := HL.out; omega)]
  have e1 : ((m.1 ++ m.2.1 ++ m.2.2).drop 6).take 6 = m.2.1 := by
   rw [List.append_assoc, List.drop_append_of_le_length (by have := HL.out; omega), List.drop_of_length_le (by have := HL.out; omega), List.nil_append, List.take_append_of_le_length (by have := HL.out; omega), List.take_of_length_le (by have := HL.out; omega)]
  have e2 : ((m.1 ++ m.2.1 ++ m.2.2).drop 12).take 6 = m.2.2 := by
   have hl : (m.1 ++ m.2.1).length = 12 := by have := HL.out; simp; omega
   rw [List.drop_append_of_le_length (by omega), List.drop_of_length_le (by omega), List.nil_append, List.take_of_length_le (by have := HL.out; omega)]
  have HR := Aside0.mk (show MemRows W w1.heap.size (vs 3) (vs 7) (vs 11) (m.1 ++ m.2.1 ++ m.2.2) from ⟨by rw [e0]; exact h3, by rw [e1]; exact h7, by rw [e2]; exact h11, hap 3 (by decide) 7 (by decide) (by decide), hap 3 (by decide) 11 (by decide) (by decide), hap 7 (by decide) 11 (by decide) (by decide)⟩)
  obtain ⟨A0, d0, q0⟩ := own_slice h3
  obtain ⟨A1, d1, q1⟩ := own_slice h7
  obtain ⟨A2, d2, q2⟩ := own_slice h11
  clear e0 e1 e2
  generalize vs 3 = u0 at *
  generalize vs 7 = u1 at *
  generalize vs 11 = u2 at *
  subst q0 q1 q2
  exact stepVal (v := .agg #[.slice A0 6 d0, .slice A1 6 d1, .slice A2 6 d2]) rfl (by go_simp) ⟨_, _, _, rfl, HR.out, hp⟩
 ·intro o ho vs W hv b hs
  obtain rfl := Option.some.inj ho
  obtain ⟨v0, v1, v2, he, hR, hb⟩ := hv
  obtain ⟨A0, d0, e0⟩ := own_slice hR.r0
  obtain ⟨A1, d1, e1⟩ := own_slice hR.r1
  obtain ⟨A2, d2, e2⟩ := own_slice hR.r2
  subst e0 e1 e2
  have hbx := blk_below H1.out.2.1 hb
  refine stepPutB rfl rfl ((hs.old 2 rfl).trans rfl) #[.slice A0 6 d0, .slice A1 6 d1, .slice A2 6 d2] ((hs.ev 15 12 rfl).trans he) hbx rfl (by kernel_rfl) (by simp [Value.oneCell']) fun W' hbx' hput => ⟨_, _, _, hbx', hR.put1 hbx (by decide) hput, ?_⟩
  exact hput.below (HB1.trans (hb.mono HB1.size)) (Nat.le_succ _)
 ·rintro vs W ⟨v0, v1, v2, hbx, hR, hb⟩
  have HF := Aside0.mk (show MemRows W w.heap.size v0 v1 v2 (m.1 ++ m.2.1 ++ m.2.2) ∧ Below w.heap.size w W from ⟨hR.weaken HB1.size, hb⟩)
  have HX := Aside0.mk hbx
  simp only [List.map_cons, List.map_nil, putL, Act.put, List.setIfInBounds_toArray, List.set_cons_zero, List.set_cons_succ]
  clear hbx hR hb
  go_wp2
  refine bodyPost_ret (results_cell_row rfl _ _ (w.heap.size + 1) 30 #[v0, v1, v2] (0, 0) _ rfl HX.out Tryz.underlying30 rfl (by kernel_rfl)) rfl ?_
  exact ⟨v0, v1, v2, rfl, HF.out⟩
end Go.Proofs.YtendbgedpjcocaaGreatDoor.B
/- The specification's runner: a loop. -/
namespace Go.Proofs.YtendbgedpjcocaaGreatDoor.B
open Go Go.RowKit Go.Shelf Go.Proofs.YtendbgedpjcocaaGreatDoorW.PrintWords Go.Proofs.YtendbgedpjcocaaGreatDoorW.PrintLast Go.Proofs.YtendbgedpjcocaaGreatDoorW.PrintMore
set_option linter.unusedVariables false
structure SpEnv (w0 w : World) (v0 v1 v2 : Value) (bs : List Int) : Prop where
 m : MemRows w w0.heap.size v0 v1 v2 bs
 b : Below w0.heap.size w0 w
 n : bs.length = 18
theorem SpEnv.below {w0 w w' : World} {v0 v1 v2 : Value} {bs : List Int} (h : SpEnv w0 w v0 v1 v2 bs) (hb : Below w.heap.size w w') : SpEnv w0 w' v0 v1 v2 bs := ⟨h.m.below hb, h.b.trans (hb.mono h.b.size), h.n⟩
def SpPost (w0 : World) (r : Res) (w : World) (e : Ending) (w' : World) : Prop := ∃ u0 u1 u2, e = .returned (.tuple #[.agg #[u0, u1, u2], .int .i64 r.2.1, .int .i64 r.2.2]) ∧ SpEnv w0 w' u0 u1 u2 r.1 ∧ KeepI w w'
def SpCon (k : Nat) : Prop := ∀ (d : Nat) (l : List St), formT d l = true → ∀ (bs : List Int) (f : Int) (r : Res), runL k bs l f = some r → 0 ≤ f → f ≤ 100 → ∀ (w0 w : World) (v0 v1 v2 : Value) (A : Option Addr) (c : Nat), SpEnv w0 w v0 v1 v2 bs → Kd.C stK w0 A l.length l → l.length ≤ c →
 Calls Tryz.prog 39 #[.agg #[v0, v1, v2], .slice A l.length c, .int .i64 f] w (SpPost w0 r w)
/-- A runner's own two boxes: the memory at hand (as it was stored last), and what will be told. -/
structure SpBox (w0 w W : World) (n6 : Nat) (c0 c1 c2 v0 v1 v2 : Value) (bs : List Int) : Prop where
 e : SpEnv w0 W v0 v1 v2 bs
 b3 : Box W w.heap.size 30 #[c0, c1, c2]
 b6 : Box W n6 30 mZ
 k : KeepI w W
 ne : w.heap.size < n6
 lw : w0.heap.size ≤ w.heap.size
theorem SpBox.below {w0 w W W' : World} {n6 : Nat} {c0 c1 c2 v0 v1 v2 : Value} {bs : List Int} (h : SpBox w0 w W n6 c0 c1 c2 v0 v1 v2 bs) (hb : Below W.heap.size W W') : SpBox w0 w W' n6 c0 c1 c2 v0 v1 v2 bs :=
 ⟨h.e.below hb, blk_below h.b3 hb, blk_below h.b6 hb, h.k.trans (KeepI.of_below hb), h.ne, h.lw⟩
theorem SpBox.call {w0 w W W' : World} {n6 : Nat} {c0 c1 c2 v0 v1 v2 u0 u1 u2 : Value} {bs bs' : List Int} (h : SpBox w0 w W n6 c0 c1 c2 v0 v1 v2 bs) (he : SpEnv w0 W' u0 u1 u2 bs') (hk : KeepI W W') : SpBox w0 w W' n6 c0 c1 c2 u0 u1 u2 bs' :=
 ⟨he, hk.keep _ _ _ (by decide) h.b3, hk.keep _ _ _ (by decide) h.b6, h.k.trans hk, h.ne, h.lw⟩
theorem SpBox.put {w0 w W W' : World} {n6 : Nat} {c0 c1 c2 v0 v1 v2 : Value} {bs : List Int} (h : SpBox w0 w W n6 c0 c1 c2 v0 v1 v2 bs) (hb : Box W' w.heap.size 30 #[v0, v1, v2]) (hp : Put1 w.heap.size W W') : SpBox w0 w W' n6 v0 v1 v2 v0 v1 v2 bs :=
 ⟨⟨h.e.m.put1 h.b3 (by decide) hp, hp.below h.e.b h.lw, h.e.n⟩, hb, h.b6.put1 hp (by have := h.ne; omega), h.k.put1 hp (Nat.le_refl _), h.ne, h.lw⟩
theorem SpBox.out {w0 w W W' : World} {n6 : Nat} {c0 c1 c2 v0 v1 v2 : Value} {r : Res} (h : SpBox w0 w W n6 c0 c1 c2 v0 v1 v2 r.1) (hp : Put1 n6 W W') : SpPost w0 r w (.returned (.tuple #[.agg #[v0, v1, v2], .int .i64 r.2.1, .int .i64 r.2.2])) W' :=
 ⟨v0, v1, v2, rfl, ⟨h.e.m.put1 h.b6 (by decide) hp, hp.below h.e.b (by have := h.ne; have := h.lw; omega), h.e.n⟩, h.k.put1 hp (by have := h.ne; omega)⟩
abbrev stA (s : St) (A7 : Option Addr) (c7 : Nat) (A8 : Option Addr) (c8 : Nat) (A9 : Option Addr) (c9 : Nat) : Array Value :=
 #[.int .i64 s.f0, .int .i64 s.f1.f0, .int .i64 s.f1.f1, .int .i64 s.f2.f0, .int .i64 s.f2.f1, .int .i64 s.f2.f2.f0, .int .i64 s.f2.f2.f1, .slice A7 s.f2.f3.length c7, .slice A8 s.f3.length c8, .slice A9 s.f4.length c9]
set_option maxRecDepth 100000 in
set_option maxHeartbeats 8000000 in
theorem sp_while (k : Nat) (hall : ∀ k', k' ≤ k → SpCon k') (d : Nat) (s : St) (h3 : s.f0 = 3) (he : formS 6 s.f2 = true) (hd : formT d s.f3 = true) (bs : List Int) (f : Int) (r : Res) (hr : stepR k bs s f = some r) (hf0 : 0 ≤ f) (hf1 : f ≤ 100)
  (w0 w : World) (v0 v1 v2 : Value) (A7 : Option Addr) (c7 : Nat) (A8 : Option Addr) (c8 : Nat) (A9 : Option Addr) (c9 : Nat) (hN : SpEnv w0 w v0 v1 v2 bs) (hC : Kd.C exK w0 A7 s.f2.f3.length s.f2.f3) (hc : s.f2.f3.length ≤ c7) (hC8 : Kd.C stK w0 A8 s.f3.length s.f3) (hc8 : s.f3.length ≤ c8) :
  Calls Tryz.prog 72 #[.agg #[v0, v1, v2], .agg (stA s A7 c7 A8 c8 A9 c9), .int .i64 f] w (SpPost w0 r w) := by
 obtain ⟨g0, d0, rfl, _⟩ := own_blk hN.m.r0
 obtain ⟨g1, d1, rfl, _⟩ := own_blk hN.m.r1
 obtain ⟨g2, d2, rfl, _⟩ := own_blk hN.m.r2
 obtain ⟨w1, hw1⟩ : ∃ W, W = ((w.alloc (.cells #[.slice (some ⟨g0, 0, none⟩) 6 d0, .slice (some ⟨g1, 0, none⟩) 6 d1, .slice (some ⟨g2, 0, none⟩) 6 d2] 30 (0, 0))).alloc (.cells (stA s A7 c7 A8 c8 A9 c9) 35 (0, 0))).alloc (.cells #[.slice none 0 0, .slice none 0 0, .slice none 0 0] 30 (0, 0)) := ⟨_, rfl⟩
 obtain ⟨hs, k1, k2, k3, hB1⟩ := three_blk w (.cells #[.slice (some ⟨g0, 0, none⟩) 6 d0, .slice (some ⟨g1, 0, none⟩) 6 d1, .slice (some ⟨g2, 0, none⟩) 6 d2] 30 (0, 0)) (.cells (stA s A7 c7 A8 c8 A9 c9) 35 (0, 0)) (.cells #[.slice none 0 0, .slice none 0 0, .slice none 0 0] 30 (0, 0))
 rw [← hw1] at hs k1 k2 k3 hB1
 have H1 := Aside0.mk (show SpBox w0 w w1 (w.heap.size + 1 + 1) (.slice (some ⟨g0, 0, none⟩) 6 d0) (.slice (some ⟨g1, 0, none⟩) 6 d1) (.slice (some ⟨g2, 0, none⟩) 6 d2) (.slice (some ⟨g0, 0, none⟩) 6 d0) (.slice (some ⟨g1, 0, none⟩) 6 d1) (.slice (some ⟨g2, 0, none⟩) 6 d2) bs ∧ Box w1 (w.heap.size + 1) 35 (stA s A7 c7 A8 c8 A9 c9) from
  ⟨⟨hN.below hB1, k1, k3, KeepI.of_below hB1, by omega, hN.b.size⟩, k2⟩)
 have HE := Aside0.mk (And.intro he (And.intro hc (And.intro hC (And.intro hC8 (And.intro hc8 (And.intro hd (And.intro h3 hall)))))))
 have HS := Aside0.mk (And.intro hr (And.intro hf0 hf1))
 clear hs k1 k2 k3 hB1 hN hC hc hC8 hc8 hd he h3 hr hf0 hf1 hall
 unfold stA at hw1 ⊢
 go_enter Tryz.func72, Tryz.ntmps72
 go_upto_region 1 with fail
 rw [← hw1]
 clear hw1
 go_loopg [2] k (fun kq u2 W => ∃ (bs' : List Int) (f' : Int) (g0 d0 g1 d1 g2 d2 : Nat), u2 = .int .i64 f' ∧ Aside0 (stepR kq bs' s f' = some r ∧ kq ≤ k ∧ 0 ≤ f' ∧ f' ≤ 100 ∧ SpBox w0 w W (w.heap.size + 1 + 1) (.slice (some ⟨g0, 0, none⟩) 6 d0) (.slice (some ⟨g1, 0, none⟩) 6 d1) (.slice (some ⟨g2, 0, none⟩) 6 d2) (.slice (some ⟨g0, 0, none⟩) 6 d0) (.slice (some ⟨g1, 0, none⟩) 6 d1) (.slice (some ⟨g2, 0, none⟩) 6 d2) bs' ∧ Box W (w.heap.size + 1) 35 (stA s A7 c7 A8 c8 A9 c9)))
 case atStart => exact ⟨bs, f, g0, d0, g1, d1, g2, d2, rfl, ⟨HS.out.1, Nat.le_refl _, HS.out.2.1, HS.out.2.2, H1.out.1, H1.out.2⟩⟩
 case round =>
  clear HS H1
  obtain ⟨b', f', g0, d0, g1, d1, g2, d2, rfl, HR⟩ := hrel
  rename World => w2
  obtain ⟨x, hx⟩ : ∃ x, x = s.f2 := ⟨_, rfl⟩
  have m0 := (Box.cell HR.out.2.2.2.2.1.b3 0 (.slice (some ⟨g0, 0, none⟩) 6 d0) rfl).1
  have m1 := (Box.cell HR.out.2.2.2.2.1.b3 1 (.slice (some ⟨g1, 0, none⟩) 6 d1) rfl).1
  have m2 := (Box.cell HR.out.2.2.2.2.1.b3 2 (.slice (some ⟨g2, 0, none⟩) 6 d2) rfl).1
  have e3 := (Box.cell HR.out.2.2.2.2.2 3 (.int .i64 s.f2.f0) rfl).1
  have e4 := (Box.cell HR.out.2.2.2.2.2 4 (.int .i64 s.f2.f1) rfl).1
  have e5 := (Box.cell HR.out.2.2.2.2.2 5 (.int .i64 s.f2.f2.f0) rfl).1
  have e6 := (Box.cell HR.out.2.2.2.2.2 6 (.int .i64 s.f2.f2.f1) rfl).1
  have e7 := (Box.cell HR.out.2.2.2.2.2 7 (.slice A7 s.f2.f3.length c7) rfl).1
  rw [← hx] at e3 e4 e5 e6 e7
  have HX := Aside0.mk hx
  have HQ := Aside0.mk (of_at b' HR.out.2.2.2.2.1.e.n s.f2 HE.out.1 A7 c7 _ _ _ _ w2 HR.out.2.2.2.2.1.e.m (Kd.C_below HE.out.2.2.1 HR.out.2.2.2.2.1.e.b) HE.out.2.1)
  rw [← hx] at HQ
  clear hx
  go_wp2_with fail
  refine HQ.out.mono ?_
  clear HQ
  rintro e w3 ⟨rfl, hb3⟩
  have H3 := Aside0.mk (show SpBox w0 w w3 _ _ _ _ _ _ _ b' ∧ Box w3 (w.heap.size + 1) 35 (stA s A7 c7 A8 c8 A9 c9) from ⟨HR.out.2.2.2.2.1.below hb3, blk_below HR.out.2.2.2.2.2 hb3⟩)
  clear hb3 m0 m1 m2 e3 e4 e5 e6 e7
  go_wp2_with fail
  refine (onS_any _ w3).mono ?_
  rintro e w4 ⟨rfl, hb4⟩
  have H4 := Aside0.mk (show SpBox w0 w w4 _ _ _ _ _ _ _ b' ∧ Box w4 (w.heap.size + 1) 35 (stA s A7 c7 A8 c8 A9 c9) from ⟨H3.out.1.below hb4, blk_below H3.out.2 hb4⟩)
  clear hb4 H3
  have hst := HR.out.1
  unfold stepR at hst
  rw [if_neg (by have := HE.out.2.2.2.2.2.2.1; omega), if_pos HE.out.2.2.2.2.2.2.1, ← HX.out] at hst
  have m0 := (Box.cell H4.out.1.b3 0 (.slice (some ⟨g0, 0, none⟩) 6 d0) rfl).1
  have m1 := (Box.cell H4.out.1.b3 1 (.slice (some ⟨g1, 0, none⟩) 6 d1) rfl).1
  have m2 := (Box.cell H4.out.1.b3 2 (.slice (some ⟨g2, 0, none⟩) 6 d2) rfl).1
  by_cases h0 : evalI b' x = 0
  ·rw [if_pos h0] at hst
   injection hst with hst
   have b0 : (evalI b' x != 0) = false := by simp [h0]
   have HF := Aside0.mk (And.intro hst (H4.out.1))
   have lb6 := H4.out.1.b6
   clear h0 hst
   rw [b0]
   go_wp2_with (refine boxPut_ rfl rfl rfl rfl #[.slice (some ⟨g0, 0, none⟩) 6 d0, .slice (some ⟨g1, 0, none⟩) 6 d1, .slice (some ⟨g2, 0, none⟩) 6 d2] rfl lb6 rfl (by kernel_rfl) (by simp [Value.oneCell']) ?_; intro w7 hbx hput)
   refine bodyPost_ret (results_ctt rfl _ _ (w.heap.size + 1 + 1) 30 #[.slice (some ⟨g0, 0, none⟩) 6 d0, .slice (some ⟨g1, 0, none⟩) 6 d1, .slice (some ⟨g2, 0, none⟩) 6 d2] (0, 0) _ rfl hbx Tryz.underlying30 rfl (by kernel_rfl)) rfl ?_
   rw [← HF.out.1]
   exact SpBox.out (r := (b', 0, f')) HF.out.2 hput
  ·rw [if_neg h0] at hst
   obtain ⟨r2, hr2, hst⟩ := Option.bind_eq_some_iff.1 hst
   have b0 : (evalI b' x != 0) = true := by simp [h0]
   have hF2 := fits_run HE.out.2.2.2.2.2.1 hr2 HR.out.2.2.1
   have e8 := (Box.cell H4.out.2 8 (.slice A8 s.f3.length c8) rfl).1
   have HQ := Aside0.mk (HE.out.2.2.2.2.2.2.2 _ HR.out.2.1 d s.f3 HE.out.2.2.2.2.2.1 b' f' r2 hr2 HR.out.2.2.1 HR.out.2.2.2.1 w0 w4 _ _ _ A8 c8 H4.out.1.e HE.out.2.2.2.1 HE.out.2.2.2.2.1)
   have HFT := Aside0.mk hF2
   have HST := Aside0.mk hst
   clear h0 hst hr2 hF2
   rw [b0]
   go_wp2_with fail
   refine HQ.out.mono ?_
   clear HQ
   rintro e w5 ⟨u0, u1, u2, rfl, hE5, hK5⟩
   have H5 := Aside0.mk (show SpBox w0 w w5 _ _ _ _ u0 u1 u2 r2.1 ∧ Box w5 (w.heap.size + 1) 35 (stA s A7 c7 A8 c8 A9 c9) from ⟨H4.out.1.call hE5 hK5, hK5.keep _ _ _ (by decide) H4.out.2⟩)
   obtain ⟨g0', d0', rfl, _⟩ := own_blk hE5.m.r0
   obtain ⟨g1', d1', rfl, _⟩ := own_blk hE5.m.r1
   obtain ⟨g2', d2', rfl, _⟩ := own_blk hE5.m.r2
   clear hE5 hK5 m0 m1 m2 e8 H4
   go_upto_region 3 with fail
   obtain ⟨w6, hw6⟩ : ∃ W, W = w5.alloc (.cells #[.slice (some ⟨g0', 0, none⟩) 6 d0', .slice (some ⟨g1', 0, none⟩) 6 d1', .slice (some ⟨g2', 0, none⟩) 6 d2'] 30 (0, 0)) := ⟨_, rfl⟩
   rw [← hw6]
   have hb6 : Below w5.heap.size w5 w6 := by rw [hw6]; exact (Below.refl _ _).alloc (Nat.le_refl _) _
   have bx6 : Box w6 w5.heap.size 30 #[.slice (some ⟨g0', 0, none⟩) 6 d0', .slice (some ⟨g1', 0, none⟩) 6 d1', .slice (some ⟨g2', 0, none⟩) 6 d2'] := by rw [hw6]; exact heap_alloc_new _ _
   have H6 := Aside0.mk (show SpBox w0 w w6 _ _ _ _ _ _ _ r2.1 ∧ Box w6 (w.heap.size + 1) 35 (stA s A7 c7 A8 c8 A9 c9) from ⟨H5.out.1.below hb6, blk_below H5.out.2 hb6⟩)
   have n0 := (Box.cell bx6 0 (.slice (some ⟨g0', 0, none⟩) 6 d0') rfl).1
   have n1 := (Box.cell bx6 1 (.slice (some ⟨g1', 0, none⟩) 6 d1') rfl).1
   have n2 := (Box.cell bx6 2 (.slice (some ⟨g2', 0, none⟩) 6 d2') rfl).1
   have lb3 := H6.out.1.b3
   clear hw6 hb6 bx6 H5
   go_upto_region 4 with (refine boxPut_ rfl rfl rfl rfl #[.slice (some ⟨g0', 0, none⟩) 6 d0', .slice (some ⟨g1', 0, none⟩) 6 d1', .slice (some ⟨g2', 0, none⟩) 6 d2'] rfl lb3 rfl (by kernel_rfl) (by simp [Value.oneCell']) ?_; intro w7 hbx hput)
   have H7 := Aside0.mk (show SpBox w0 w w7 _ _ _ _ _ _ _ r2.1 ∧ Box w7 (w.heap.size + 1) 35 (stA s A7 c7 A8 c8 A9 c9) from ⟨H6.out.1.put hbx hput, H6.out.2.put1 hput (by omega)⟩)
   have m0 := (Box.cell H7.out.1.b3 0 (.slice (some ⟨g0', 0, none⟩) 6 d0') rfl).1
   have m1 := (Box.cell H7.out.1.b3 1 (.slice (some ⟨g1', 0, none⟩) 6 d1') rfl).1
   have m2 := (Box.cell H7.out.1.b3 2 (.slice (some ⟨g2', 0, none⟩) 6 d2') rfl).1
   have lb6 := H7.out.1.b6
   clear hbx hput n0 n1 n2 lb3 H6
   have hst := HST.out
   by_cases hc2 : r2.2.1 = 0
   ·rw [if_pos hc2] at hst
    have bc : (r2.2.1 != 0) = false := by simp [hc2]
    by_cases hl : r2.2.2 < 1
    ·rw [if_pos hl] at hst
     injection hst with hst
     have bl : decide (r2.2.2 < 1) = true := decide_eq_true hl
     have HF := Aside0.mk hst
     clear hst hl hc2
     go_wp2_with (refine boxPut_ rfl rfl rfl rfl #[.slice (some ⟨g0', 0, none⟩) 6 d0', .slice (some ⟨g1', 0, none⟩) 6 d1', .slice (some ⟨g2', 0, none⟩) 6 d2'] rfl lb6 rfl (by kernel_rfl) (by simp [Value.oneCell']) ?_; intro w8 hbx hput)
     refine bodyPost_ret (results_ctt rfl _ _ (w.heap.size + 1 + 1) 30 #[.slice (some ⟨g0', 0, none⟩) 6 d0', .slice (some ⟨g1', 0, none⟩) 6 d1', .slice (some ⟨g2', 0, none⟩) 6 d2'] (0, 0) _ rfl hbx Tryz.underlying30 rfl (by kernel_rfl)) rfl ?_
     rw [← HF.out]
     exact SpBox.out (r := (r2.1, 1, 0)) H7.out.1 hput
    ·rw [if_neg hl] at hst
     obtain ⟨k', hk', hst'⟩ := again_step hst
     have bl : decide (r2.2.2 < 1) = false := decide_eq_false hl
     have wf : IntKind.i64.wrap (r2.2.2 - 1) = r2.2.2 - 1 := by rw [IntKind.wrap_i64]; have h1 := HFT.out.lo; have h2 := HFT.out.hi; have h3 := HR.out.2.2.2.1; omega
     have HK := Aside0.mk (And.intro hk' (And.intro hst' hl))
     clear hst hl hc2 hk' hst' lb6
     go_wp2_with fail
     go_roundg k'
     case measure => have := HK.out.1; omega
     case rel => exact ⟨r2.1, r2.2.2 - 1, g0', d0', g1', d1', g2', d2', by first | rfl | exact congrArg (Value.int .i64) wf, ⟨HK.out.2.1, by have h1 := HK.out.1; have h2 := HR.out.2.1; omega, by have := HK.out.2.2; omega, by have h1 := HFT.out.hi; have h2 := HR.out.2.2.2.1; omega, H7.out.1, H7.out.2⟩⟩
   ·rw [if_neg hc2] at hst
    injection hst with hst
    have bc : (r2.2.1 != 0) = true := by simp [hc2]
    have HF := Aside0.mk hst
    clear hst hc2
    go_wp2_with (refine boxPut_ rfl rfl rfl rfl #[.slice (some ⟨g0', 0, none⟩) 6 d0', .slice (some ⟨g1', 0, none⟩) 6 d1', .slice (some ⟨g2', 0, none⟩) 6 d2'] rfl lb6 rfl (by kernel_rfl) (by simp [Value.oneCell']) ?_; intro w8 hbx hput)
    refine bodyPost_ret (results_ctt rfl _ _ (w.heap.size + 1 + 1) 30 #[.slice (some ⟨g0', 0, none⟩) 6 d0', .slice (some ⟨g1', 0, none⟩) 6 d1', .slice (some ⟨g2', 0, none⟩) 6 d2'] (0, 0) _ rfl hbx Tryz.underlying30 rfl (by kernel_rfl)) rfl ?_
    rw [← HF.out]
    exact SpBox.out (r := r2) H7.out.1 hput
end Go.Proofs.YtendbgedpjcocaaGreatDoor.B
/- The specification's runner: a list (printed by mkspl.py). -/
namespace Go.Proofs.YtendbgedpjcocaaGreatDoor.B
open Go Go.RowKit Go.Shelf Go.Proofs.YtendbgedpjcocaaGreatDoorW.PrintWords Go.Proofs.YtendbgedpjcocaaGreatDoorW.PrintLast Go.Proofs.YtendbgedpjcocaaGreatDoorW.PrintMore
set_option linter.unusedVariables false
set_option maxRecDepth 100000 in
set_option maxHeartbeats 16000000 in
theorem sp_con (k : Nat) : SpCon k := by
 induction k using Nat.strongRecOn with
 | _ k ih =>
 intro d l hl bs f r hr hf0 hf1 w0 w v0 v1 v2 A c hN hC hc
 have mixed : Tryz.prog.follows .mixedOrders = true := rfl
 have hmax : l.length ≤ 9223372036854775807 := by have := hC.2.1; omega
 obtain ⟨g0, d0, rfl, _⟩ := own_blk hN.m.r0
 obtain ⟨g1, d1, rfl, _⟩ := own_blk hN.m.r1
 obtain ⟨g2, d2, rfl, _⟩ := own_blk hN.m.r2
 obtain ⟨w1, hw1⟩ : ∃ W, W = (w.alloc (.cells #[.slice (some ⟨g0, 0, none⟩) 6 d0, .slice (some ⟨g1, 0, none⟩) 6 d1, .slice (some ⟨g2, 0, none⟩) 6 d2] 30 (0, 0))).alloc (.cells #[.slice none 0 0, .slice none 0 0, .slice none 0 0] 30 (0, 0)) := ⟨_, rfl⟩
 obtain ⟨hs, k1, k2, hB1⟩ := two_blocks' w (.cells #[.slice (some ⟨g0, 0, none⟩) 6 d0, .slice (some ⟨g1, 0, none⟩) 6 d1, .slice (some ⟨g2, 0, none⟩) 6 d2] 30 (0, 0)) (.cells #[.slice none 0 0, .slice none 0 0, .slice none 0 0] 30 (0, 0))
 rw [← hw1] at hs k1 k2 hB1
 have H1 := Aside0.mk (show SpBox w0 w w1 (w.heap.size + 1) (.slice (some ⟨g0, 0, none⟩) 6 d0) (.slice (some ⟨g1, 0, none⟩) 6 d1) (.slice (some ⟨g2, 0, none⟩) 6 d2) (.slice (some ⟨g0, 0, none⟩) 6 d0) (.slice (some ⟨g1, 0, none⟩) 6 d1) (.slice (some ⟨g2, 0, none⟩) 6 d2) bs from ⟨hN.below hB1, k1, k2, KeepI.of_below hB1, by omega, hN.b.size⟩)
 have HI := Aside0.mk (And.intro hl (And.intro hC (And.intro hc (And.intro hmax ih))))
 have HS := Aside0.mk (And.intro hr (And.intro hf0 hf1))
 clear hs k1 k2 hB1 hl hr hf0 hf1 hN hC hc ih hmax
 go_enter Tryz.func39, Tryz.ntmps39
 go_upto_region 1 with fail
 rw [← hw1]
 clear hw1
 go_wp2
 go_loopg [2, 9] k (fun kq u2 u9 W => ∃ (j : Nat) (bs' : List Int) (f' : Int) (g0 d0 g1 d1 g2 d2 : Nat), u2 = .int .i64 f' ∧ u9 = .int .i64 j ∧ Aside0 (runL kq bs' (l.drop j) f' = some r ∧ j ≤ l.length ∧ kq ≤ k ∧ 0 ≤ f' ∧ f' ≤ 100 ∧ SpBox w0 w W (w.heap.size + 1) (.slice (some ⟨g0, 0, none⟩) 6 d0) (.slice (some ⟨g1, 0, none⟩) 6 d1) (.slice (some ⟨g2, 0, none⟩) 6 d2) (.slice (some ⟨g0, 0, none⟩) 6 d0) (.slice (some ⟨g1, 0, none⟩) 6 d1) (.slice (some ⟨g2, 0, none⟩) 6 d2) bs'))
 case atStart => exact ⟨0, bs, f, g0, d0, g1, d1, g2, d2, rfl, rfl, ⟨HS.out.1, Nat.zero_le _, Nat.le_refl _, HS.out.2.1, HS.out.2.2, H1.out⟩⟩
 case round =>
  clear HS H1
  obtain ⟨j, b', f', g0, d0, g1, d1, g2, d2, rfl, rfl, HR⟩ := hrel
  rename World => w2
  cases gk with
  | zero => have := HR.out.1; rw [runL] at this; cases this
  | succ k1 =>
  by_cases hj : j < l.length
  ·obtain ⟨ad, A7, c7, A8, c8, A9, c9, hA, e0, e1, e2, e3, e4, e5, e6, e7, e8, e9, hl7, hi7, hl8, hi8, hl9, hi9⟩ := at_T35 HI.out.2.1 (j : Int) (by omega) (by omega)
   cases hA
   have hkid : rd_T35 l (j : Int) = l[j] := by simp [rd_T35, hj]
   have hb := HR.out.2.2.2.2.2.e.b
   replace e0 := (hb.cell (World.block_lt_of_cell? w0 _ e0)).trans e0
   replace e1 := (hb.cell (World.block_lt_of_cell? w0 _ e1)).trans e1
   replace e2 := (hb.cell (World.block_lt_of_cell? w0 _ e2)).trans e2
   replace e3 := (hb.cell (World.block_lt_of_cell? w0 _ e3)).trans e3
   replace e4 := (hb.cell (World.block_lt_of_cell? w0 _ e4)).trans e4
   replace e5 := (hb.cell (World.block_lt_of_cell? w0 _ e5)).trans e5
   replace e6 := (hb.cell (World.block_lt_of_cell? w0 _ e6)).trans e6
   replace e7 := (hb.cell (World.block_lt_of_cell? w0 _ e7)).trans e7
   replace e8 := (hb.cell (World.block_lt_of_cell? w0 _ e8)).trans e8
   replace e9 := (hb.cell (World.block_lt_of_cell? w0 _ e9)).trans e9
   rw [hkid] at e0 e1 e2 e3 e4 e5 e6 e7 e8 e9 hl7 hi7 hl8 hi8 hl9 hi9
   simp only [Int.toNat_natCast] at e0 e1 e2 e3 e4 e5 e6 e7 e8 e9
   have hdr : l.drop j = l[j] :: l.drop (j + 1) := List.drop_eq_getElem_cons hj
   obtain ⟨x, hx⟩ : ∃ x, x = l[j] := ⟨_, rfl⟩
   rw [← hx] at e0 e1 e2 e3 e4 e5 e6 e7 e8 e9 hl7 hi7 hl8 hi8 hl9 hi9 hdr
   have hfd := form_drop l j HI.out.1
   have hrun := HR.out.1
   rw [hdr] at hfd hrun
   rw [runL_cons] at hrun
   obtain ⟨r1, hr1, hrun⟩ := Option.bind_eq_some_iff.1 hrun
   obtain ⟨d', hd', hh, h3, h4, _⟩ := form_cons hfd
   have hF1 := fits_step (form_one hfd) hr1 HR.out.2.2.2.1
   have HX := Aside0.mk (And.intro hj (And.intro hrun hF1))
   have HST := Aside0.mk hr1
   have HH := Aside0.mk (And.intro (form_of_head hh) (And.intro hh (And.intro h3 h4)))
   have HLO := Aside0.mk (fun k' (hk' : k' ≤ k1) => HI.out.2.2.2.2 k' (by have := HR.out.2.2.1; omega))
   have HC := Aside0.mk (And.intro hi7 (And.intro hl7 (And.intro hi8 (And.intro hl8 (And.intro hi9 hl9)))))
   clear hb hkid hx hi7 hl7 hi8 hl8 hi9 hl9 hdr hfd hrun hr1 hd' hh h3 h4 hF1
   go_upto_region 5 with (fail)
   obtain ⟨w3, hw3⟩ : ∃ W, W = w2.alloc (.cells (stA x A7 c7 A8 c8 A9 c9) 35 (0, 0)) := ⟨_, rfl⟩
   have hb3 : Below w2.heap.size w2 w3 := by rw [hw3]; exact (Below.refl _ _).alloc (Nat.le_refl _) _
   have j1 : Box w3 w2.heap.size 35 (stA x A7 c7 A8 c8 A9 c9) := by rw [hw3]; exact heap_alloc_new _ _
   unfold stA at hw3
   rw [← hw3]
   have H3 := Aside0.mk (show SpBox w0 w w3 _ _ _ _ _ _ _ b' ∧ Box w3 w2.heap.size 35 (stA x A7 c7 A8 c8 A9 c9) from ⟨HR.out.2.2.2.2.2.below hb3, j1⟩)
   clear e0 e1 e2 e3 e4 e5 e6 e7 e8 e9 hw3 hb3 j1
   have m0 := (Box.cell H3.out.1.b3 0 (.slice (some ⟨g0, 0, none⟩) 6 d0) rfl).1
   have m1 := (Box.cell H3.out.1.b3 1 (.slice (some ⟨g1, 0, none⟩) 6 d1) rfl).1
   have m2 := (Box.cell H3.out.1.b3 2 (.slice (some ⟨g2, 0, none⟩) 6 d2) rfl).1
   have e0 := (Box.cell H3.out.2 0 (.int .i64 x.f0) rfl).1
   have e1 := (Box.cell H3.out.2 1 (.int .i64 x.f1.f0) rfl).1
   have e2 := (Box.cell H3.out.2 2 (.int .i64 x.f1.f1) rfl).1
   have e3 := (Box.cell H3.out.2 3 (.int .i64 x.f2.f0) rfl).1
   have e4 := (Box.cell H3.out.2 4 (.int .i64 x.f2.f1) rfl).1
   have e5 := (Box.cell H3.out.2 5 (.int .i64 x.f2.f2.f0) rfl).1
   have e6 := (Box.cell H3.out.2 6 (.int .i64 x.f2.f2.f1) rfl).1
   have e7 := (Box.cell H3.out.2 7 (.slice A7 x.f2.f3.length c7) rfl).1
   have e8 := (Box.cell H3.out.2 8 (.slice A8 x.f3.length c8) rfl).1
   have e9 := (Box.cell H3.out.2 9 (.slice A9 x.f4.length c9) rfl).1
   by_cases h1 : x.f0 = 1
   ·skip
    have hset : r1 = (putB b' x.f1.f0 x.f1.f1 (evalI b' x.f2), 0, f') := by
     have := HST.out
     rw [stepR, if_pos h1] at this
     exact (Option.some.inj this).symm
    have hputs : putsL x.f1.f0 x.f1.f1 = true := by
     have := HH.out.2.1
     unfold headSt plainL at this
     rw [if_pos h1] at this
     simp only [Bool.and_eq_true] at this
     exact this.1.1
    have HP := Aside0.mk (And.intro hputs hset)
    have b1 : (x.f0 == 1) = true := by simp [h1]
    clear h1 hset hputs
    go_upto_region 8 with fail
    clear m0 m1 m2 e0 e1 e2 e3 e4 e5 e6 e7 e8 e9
    refine weaveTail_ 7 rfl (fun W => Below w3.heap.size w3 W) (Lasts.below w3) (Below.refl _ _) [(35, 0), (36, 1), (37, 2), (38, 3), (39, 4), (40, 5), (41, 6), (42, 7)]
     [fun v _ => v = .agg #[.slice (some ⟨g0, 0, none⟩) 6 d0, .slice (some ⟨g1, 0, none⟩) 6 d1, .slice (some ⟨g2, 0, none⟩) 6 d2], fun v _ => v = .pointer (some ⟨w2.heap.size, 1, none⟩), fun v _ => v = .agg #[.int .i64 x.f1.f0, .int .i64 x.f1.f1], fun v _ => v = .pointer (some ⟨w2.heap.size, 3, none⟩), fun v _ => v = eAgg x.f2 A7 c7, fun v _ => v = .agg #[.slice (some ⟨g0, 0, none⟩) 6 d0, .slice (some ⟨g1, 0, none⟩) 6 d1, .slice (some ⟨g2, 0, none⟩) 6 d2], fun v _ => v = .int .i64 (evalI b' x.f2)]
     mixed (by kernel_rfl) ⟨fun _ => Lasts.const _, fun _ => Lasts.const _, fun _ => Lasts.const _, fun _ => Lasts.const _, fun _ => Lasts.const _, fun _ => Lasts.const _, fun _ => Lasts.const _, trivial⟩
     (by kernel_rfl) (by kernel_rfl) (by kernel_rfl) ?_
     (fun v W => ∃ (g0' d0' g1' d1' g2' d2' : Nat), v = .agg #[.slice (some ⟨g0', 0, none⟩) 6 d0', .slice (some ⟨g1', 0, none⟩) 6 d1', .slice (some ⟨g2', 0, none⟩) 6 d2'] ∧ SpBox w0 w W (w.heap.size + 1) (.slice (some ⟨g0, 0, none⟩) 6 d0) (.slice (some ⟨g1, 0, none⟩) 6 d1) (.slice (some ⟨g2, 0, none⟩) 6 d2) (.slice (some ⟨g0', 0, none⟩) 6 d0') (.slice (some ⟨g1', 0, none⟩) 6 d1') (.slice (some ⟨g2', 0, none⟩) 6 d2') r1.1)
     (fun _ W => ∃ (g0' d0' g1' d1' g2' d2' : Nat), SpBox w0 w W (w.heap.size + 1) (.slice (some ⟨g0', 0, none⟩) 6 d0') (.slice (some ⟨g1', 0, none⟩) 6 d1') (.slice (some ⟨g2', 0, none⟩) 6 d2') (.slice (some ⟨g0', 0, none⟩) 6 d0') (.slice (some ⟨g1', 0, none⟩) 6 d1') (.slice (some ⟨g2', 0, none⟩) 6 d2') r1.1) ?_ ?_ ?_
    ·refine ⟨?_, ?_, ?_, ?_, ?_, ?_, ?_, ?_, ?_, trivial⟩
     ·intro _ vs W hp hv b hs
      exact stepGet rfl rfl ((hs.old 3 rfl).trans rfl) (blk_below H3.out.1.b3 hp) Tryz.underlying30 rfl (by kernel_rfl) ⟨Below.refl _ _, rfl⟩
     ·intro _ vs W hp hv b hs
      have t10 := (hs.oldtm 10 rfl).trans (show _ = some (Value.pointer (some ⟨w2.heap.size, 0, none⟩)) from rfl)
      exact stepVal rfl (by go_simp) ⟨Below.refl _ _, rfl⟩
     ·intro _ vs W hp hv b hs
      have h1 : vs 1 = .pointer (some ⟨w2.heap.size, 1, none⟩) := hv 1 (by decide)
      have t36 := (hs.tm 36 1 rfl).trans (congrArg some h1)
      have k := blk_below H3.out.2 hp
      have c1 := (Box.cell k 1 (.int .i64 x.f1.f0) rfl).1
      have c2 := (Box.cell k 2 (.int .i64 x.f1.f1) rfl).1
      exact stepVal rfl (by go_simp) ⟨Below.refl _ _, rfl⟩
     ·intro _ vs W hp hv b hs
      have t10 := (hs.oldtm 10 rfl).trans (show _ = some (Value.pointer (some ⟨w2.heap.size, 0, none⟩)) from rfl)
      exact stepVal rfl (by go_simp) ⟨Below.refl _ _, rfl⟩
     ·intro _ vs W hp hv b hs
      have h3 : vs 3 = .pointer (some ⟨w2.heap.size, 3, none⟩) := hv 3 (by decide)
      have t38 := (hs.tm 38 3 rfl).trans (congrArg some h3)
      have k := blk_below H3.out.2 hp
      have c3 := (Box.cell k 3 (.int .i64 x.f2.f0) rfl).1
      have c4 := (Box.cell k 4 (.int .i64 x.f2.f1) rfl).1
      have c5 := (Box.cell k 5 (.int .i64 x.f2.f2.f0) rfl).1
      have c6 := (Box.cell k 6 (.int .i64 x.f2.f2.f1) rfl).1
      have c7' := (Box.cell k 7 (.slice A7 x.f2.f3.length c7) rfl).1
      exact stepVal rfl (by go_simp) ⟨Below.refl _ _, rfl⟩
     ·intro _ vs W hp hv b hs
      exact stepGet rfl rfl ((hs.old 3 rfl).trans rfl) (blk_below H3.out.1.b3 hp) Tryz.underlying30 rfl (by kernel_rfl) ⟨Below.refl _ _, rfl⟩
     ·intro _ vs W hp hv b hs
      have h4 : vs 4 = eAgg x.f2 A7 c7 := hv 4 (by decide)
      have h5 : vs 5 = .agg #[.slice (some ⟨g0, 0, none⟩) 6 d0, .slice (some ⟨g1, 0, none⟩) 6 d1, .slice (some ⟨g2, 0, none⟩) 6 d2] := hv 5 (by decide)
      have he := H3.out.1.below hp
      refine stepCall rfl Tryz.func71 (by kernel_rfl) rfl #[vs 4, vs 5] rfl (by simp [Act.eval, hs.tm 39 4 rfl, hs.tm 40 5 rfl]) (by rw [h4, h5]; exact of_at b' he.e.n x.f2 HH.out.1 A7 c7 _ _ _ _ W he.e.m (Kd.C_below HC.out.1 he.e.b) HC.out.2.1) ?_
      rintro e W' ⟨rfl, hb'⟩
      exact ⟨_, rfl, hb', rfl⟩
     ·intro h
      exact absurd h (by decide)
     ·intro h
      exact absurd h (by decide)
    ·intro o ho vs W hp hv b hs
     obtain rfl := Option.some.inj ho
     have h0 : vs 0 = .agg #[.slice (some ⟨g0, 0, none⟩) 6 d0, .slice (some ⟨g1, 0, none⟩) 6 d1, .slice (some ⟨g2, 0, none⟩) 6 d2] := hv 0 (by decide)
     have h2 : vs 2 = .agg #[.int .i64 x.f1.f0, .int .i64 x.f1.f1] := hv 2 (by decide)
     have h6 : vs 6 = .int .i64 (evalI b' x.f2) := hv 6 (by decide)
     have he := H3.out.1.below hp
     refine stepCall rfl Tryz.func70 (by kernel_rfl) rfl #[vs 0, vs 2, vs 6] rfl (by simp [Act.eval, hs.tm 35 0 rfl, hs.tm 37 2 rfl, hs.tm 41 6 rfl]) (by rw [h0, h2, h6]; exact put_at b' he.e.n x.f1.f0 x.f1.f1 _ HP.out.1 _ _ _ w0 W he.e.b he.e.m) ?_
     rintro e W' ⟨u0, u1, u2, rfl, hm, hb', hk'⟩
     obtain ⟨g0', d0', rfl, _⟩ := own_blk hm.r0
     obtain ⟨g1', d1', rfl, _⟩ := own_blk hm.r1
     obtain ⟨g2', d2', rfl, _⟩ := own_blk hm.r2
     exact ⟨_, rfl, g0', d0', g1', d1', g2', d2', rfl, he.call (by rw [HP.out.2]; exact ⟨hm, hb', by rw [putB_len]; exact he.e.n⟩) hk'⟩
    ·intro o ho vs W hv b hs
     obtain rfl := Option.some.inj ho
     obtain ⟨g0', d0', g1', d1', g2', d2', he, hS⟩ := hv
     exact stepPutB rfl rfl ((hs.old 3 rfl).trans rfl) #[.slice (some ⟨g0', 0, none⟩) 6 d0', .slice (some ⟨g1', 0, none⟩) 6 d1', .slice (some ⟨g2', 0, none⟩) 6 d2'] ((hs.ev 42 7 rfl).trans he) hS.b3 rfl (by kernel_rfl) (by simp [Value.oneCell']) fun W' hbx' hput => ⟨g0', d0', g1', d1', g2', d2', hS.put hbx' hput⟩
    ·rintro vs W ⟨g0', d0', g1', d1', g2', d2', hS⟩
     have HZ := Aside0.mk hS
     simp only [List.map_cons, List.map_nil, putL, Act.put, List.setIfInBounds_toArray, List.set_cons_zero, List.set_cons_succ]
     clear hS
     have hr1 : r1.2.1 = 0 ∧ r1.2.2 = f' := by rw [HP.out.2]; exact ⟨rfl, rfl⟩
     have hrun := HX.out.2.1
     rw [if_pos hr1.1, hr1.2] at hrun
     have HN := Aside0.mk (And.intro hrun hr1.2)
     clear hr1 hrun
     go_wp2_with fail
     go_roundg k1
     case measure => have := HR.out.2.2.1; omega
     case rel => exact ⟨j + 1, r1.1, f', g0', d0', g1', d1', g2', d2', rfl, congrArg (Value.int .i64) (by rw [wrap_in (by omega) (by have := HI.out.2.2.2.1; have := HX.out.1; omega)]; omega), ⟨HN.out.1, HX.out.1, by have := HR.out.2.2.1; omega, HR.out.2.2.2.1, HR.out.2.2.2.2.1, HZ.out⟩⟩
   ·by_cases h3 : x.f0 = 3
    ·skip
     have b1 : (x.f0 == 1) = false := beq_false_of_ne h1
     have b3 : (x.f0 == 3) = true := by simp [h3]
     have HQ := Aside0.mk (sp_while k1 HLO.out d' x h3 HH.out.1 HH.out.2.2.1 b' f' r1 HST.out HR.out.2.2.2.1 HR.out.2.2.2.2.1 w0 w3 _ _ _ A7 c7 A8 c8 A9 c9 H3.out.1.e HC.out.1 HC.out.2.1 HC.out.2.2.1 HC.out.2.2.2.1)
     clear h1 h3
     go_wp2_with fail
     refine HQ.out.mono ?_
     clear HQ
     rintro e w5 ⟨u0, u1, u2, rfl, hE5, hK5⟩
     have H5 := Aside0.mk (H3.out.1.call hE5 hK5)
     obtain ⟨g0', d0', rfl, _⟩ := own_blk hE5.m.r0
     obtain ⟨g1', d1', rfl, _⟩ := own_blk hE5.m.r1
     obtain ⟨g2', d2', rfl, _⟩ := own_blk hE5.m.r2
     have lb3 := H5.out.b3
     clear hE5 hK5 m0 m1 m2 e0 e1 e2 e3 e4 e5 e6 e7 e8 e9
     go_upto_region 13 with (refine boxPut_ rfl rfl rfl rfl #[.slice (some ⟨g0', 0, none⟩) 6 d0', .slice (some ⟨g1', 0, none⟩) 6 d1', .slice (some ⟨g2', 0, none⟩) 6 d2'] rfl lb3 rfl (by kernel_rfl) (by simp [Value.oneCell']) ?_; intro w7 hbx hput)
     have HZ := Aside0.mk (H5.out.put hbx hput)
     clear hbx hput lb3 H5
     have lb6 := HZ.out.b6
     have m0 := (Box.cell HZ.out.b3 0 (.slice (some ⟨g0', 0, none⟩) 6 d0') rfl).1
     have m1 := (Box.cell HZ.out.b3 1 (.slice (some ⟨g1', 0, none⟩) 6 d1') rfl).1
     have m2 := (Box.cell HZ.out.b3 2 (.slice (some ⟨g2', 0, none⟩) 6 d2') rfl).1
     by_cases hc1 : r1.2.1 = 0
     ·have hrun := HX.out.2.1
      rw [if_pos hc1] at hrun
      have bc : (r1.2.1 != 0) = false := by simp [hc1]
      have HN := Aside0.mk hrun
      clear hc1 hrun lb6
      go_wp2_with fail
      go_roundg k1
      case measure => have := HR.out.2.2.1; omega
      case rel => exact ⟨j + 1, r1.1, r1.2.2, g0', d0', g1', d1', g2', d2', rfl, congrArg (Value.int .i64) (by rw [wrap_in (by omega) (by have := HI.out.2.2.2.1; have := HX.out.1; omega)]; omega), ⟨HN.out, HX.out.1, by have := HR.out.2.2.1; omega, HX.out.2.2.lo, by have h1 := HX.out.2.2.hi; have h2 := HR.out.2.2.2.2.1; omega, HZ.out⟩⟩
     ·have hrun := HX.out.2.1
      rw [if_neg hc1] at hrun
      injection hrun with hrun
      have bc : (r1.2.1 != 0) = true := by simp [hc1]
      have HF := Aside0.mk hrun
      clear hc1 hrun
      go_wp2_with (refine boxPut_ rfl rfl rfl rfl #[.slice (some ⟨g0', 0, none⟩) 6 d0', .slice (some ⟨g1', 0, none⟩) 6 d1', .slice (some ⟨g2', 0, none⟩) 6 d2'] rfl lb6 rfl (by kernel_rfl) (by simp [Value.oneCell']) ?_; intro w8 hbx hput)
      refine bodyPost_ret (results_ctt rfl _ _ (w.heap.size + 1) 30 #[.slice (some ⟨g0', 0, none⟩) 6 d0', .slice (some ⟨g1', 0, none⟩) 6 d1', .slice (some ⟨g2', 0, none⟩) 6 d2'] (0, 0) _ rfl hbx Tryz.underlying30 rfl (by kernel_rfl)) rfl ?_
      rw [← HF.out]
      exact SpBox.out (r := r1) HZ.out hput
    ·skip
     have b1 : (x.f0 == 1) = false := beq_false_of_ne h1
     have b3 : (x.f0 == 3) = false := beq_false_of_ne h3
     have HQ := Aside0.mk (of_at b' H3.out.1.e.n x.f2 HH.out.1 A7 c7 _ _ _ _ w3 H3.out.1.e.m (Kd.C_below HC.out.1 H3.out.1.e.b) HC.out.2.1)
     go_wp2_with fail
     refine HQ.out.mono ?_
     clear HQ
     rintro e w4 ⟨rfl, hb4⟩
     have H4 := Aside0.mk (show SpBox w0 w w4 _ _ _ _ _ _ _ b' ∧ Box w4 w2.heap.size 35 (stA x A7 c7 A8 c8 A9 c9) from ⟨H3.out.1.below hb4, blk_below H3.out.2 hb4⟩)
     clear hb4 m0 m1 m2 e0 e1 e2 e3 e4 e5 e6 e7 e8 e9
     go_wp2_with fail
     refine (onS_any _ w4).mono ?_
     rintro e w6 ⟨rfl, hb6⟩
     have H6 := Aside0.mk (show SpBox w0 w w6 _ _ _ _ _ _ _ b' ∧ Box w6 w2.heap.size 35 (stA x A7 c7 A8 c8 A9 c9) from ⟨H4.out.1.below hb6, blk_below H4.out.2 hb6⟩)
     clear hb6 H4
     have m0 := (Box.cell H6.out.1.b3 0 (.slice (some ⟨g0, 0, none⟩) 6 d0) rfl).1
     have m1 := (Box.cell H6.out.1.b3 1 (.slice (some ⟨g1, 0, none⟩) 6 d1) rfl).1
     have m2 := (Box.cell H6.out.1.b3 2 (.slice (some ⟨g2, 0, none⟩) 6 d2) rfl).1
     have e0 := (Box.cell H6.out.2 0 (.int .i64 x.f0) rfl).1
     have e1 := (Box.cell H6.out.2 1 (.int .i64 x.f1.f0) rfl).1
     have e2 := (Box.cell H6.out.2 2 (.int .i64 x.f1.f1) rfl).1
     have e3 := (Box.cell H6.out.2 3 (.int .i64 x.f2.f0) rfl).1
     have e4 := (Box.cell H6.out.2 4 (.int .i64 x.f2.f1) rfl).1
     have e5 := (Box.cell H6.out.2 5 (.int .i64 x.f2.f2.f0) rfl).1
     have e6 := (Box.cell H6.out.2 6 (.int .i64 x.f2.f2.f1) rfl).1
     have e7 := (Box.cell H6.out.2 7 (.slice A7 x.f2.f3.length c7) rfl).1
     have e8 := (Box.cell H6.out.2 8 (.slice A8 x.f3.length c8) rfl).1
     have e9 := (Box.cell H6.out.2 9 (.slice A9 x.f4.length c9) rfl).1
     by_cases h0 : evalI b' x.f2 = 0
     ·have b0 : (evalI b' x.f2 != 0) = false := by simp [h0]
      rw [b0]
      have hst := HST.out
      rw [stepR, if_neg h1, if_neg h3, if_pos h0] at hst
      have HS2 := Aside0.mk hst
      clear hst
      have HQ := Aside0.mk (HLO.out _ (Nat.le_refl _) d' x.f4 HH.out.2.2.2 b' f' r1 HS2.out HR.out.2.2.2.1 HR.out.2.2.2.2.1 w0 w6 _ _ _ A9 c9 H6.out.1.e HC.out.2.2.2.2.1 HC.out.2.2.2.2.2)
      clear h0 h1 h3
      go_wp2_with fail
      refine HQ.out.mono ?_
      clear HQ
      rintro e w5 ⟨u0, u1, u2, rfl, hE5, hK5⟩
      have H5 := Aside0.mk (H6.out.1.call hE5 hK5)
      obtain ⟨g0', d0', rfl, _⟩ := own_blk hE5.m.r0
      obtain ⟨g1', d1', rfl, _⟩ := own_blk hE5.m.r1
      obtain ⟨g2', d2', rfl, _⟩ := own_blk hE5.m.r2
      have lb3 := H5.out.b3
      clear hE5 hK5 m0 m1 m2 e0 e1 e2 e3 e4 e5 e6 e7 e8 e9
      go_upto_region 13 with (refine boxPut_ rfl rfl rfl rfl #[.slice (some ⟨g0', 0, none⟩) 6 d0', .slice (some ⟨g1', 0, none⟩) 6 d1', .slice (some ⟨g2', 0, none⟩) 6 d2'] rfl lb3 rfl (by kernel_rfl) (by simp [Value.oneCell']) ?_; intro w7 hbx hput)
      have HZ := Aside0.mk (H5.out.put hbx hput)
      clear hbx hput lb3 H5
      have lb6 := HZ.out.b6
      have m0 := (Box.cell HZ.out.b3 0 (.slice (some ⟨g0', 0, none⟩) 6 d0') rfl).1
      have m1 := (Box.cell HZ.out.b3 1 (.slice (some ⟨g1', 0, none⟩) 6 d1') rfl).1
      have m2 := (Box.cell HZ.out.b3 2 (.slice (some ⟨g2', 0, none⟩) 6 d2') rfl).1
      by_cases hc1 : r1.2.1 = 0
      ·have hrun := HX.out.2.1
       rw [if_pos hc1] at hrun
       have bc : (r1.2.1 != 0) = false := by simp [hc1]
       have HN := Aside0.mk hrun
       clear hc1 hrun lb6
       go_wp2_with fail
       go_roundg k1
       case measure => have := HR.out.2.2.1; omega
       case rel => exact ⟨j + 1, r1.1, r1.2.2, g0', d0', g1', d1', g2', d2', rfl, congrArg (Value.int .i64) (by rw [wrap_in (by omega) (by have := HI.out.2.2.2.1; have := HX.out.1; omega)]; omega), ⟨HN.out, HX.out.1, by have := HR.out.2.2.1; omega, HX.out.2.2.lo, by have h1 := HX.out.2.2.hi; have h2 := HR.out.2.2.2.2.1; omega, HZ.out⟩⟩
      ·have hrun := HX.out.2.1
       rw [if_neg hc1] at hrun
       injection hrun with hrun
       have bc : (r1.2.1 != 0) = true := by simp [hc1]
       have HF := Aside0.mk hrun
       clear hc1 hrun
       go_wp2_with (refine boxPut_ rfl rfl rfl rfl #[.slice (some ⟨g0', 0, none⟩) 6 d0', .slice (some ⟨g1', 0, none⟩) 6 d1', .slice (some ⟨g2', 0, none⟩) 6 d2'] rfl lb6 rfl (by kernel_rfl) (by simp [Value.oneCell']) ?_; intro w8 hbx hput)
       refine bodyPost_ret (results_ctt rfl _ _ (w.heap.size + 1) 30 #[.slice (some ⟨g0', 0, none⟩) 6 d0', .slice (some ⟨g1', 0, none⟩) 6 d1', .slice (some ⟨g2', 0, none⟩) 6 d2'] (0, 0) _ rfl hbx Tryz.underlying30 rfl (by kernel_rfl)) rfl ?_
       rw [← HF.out]
       exact SpBox.out (r := r1) HZ.out hput
     ·have b0 : (evalI b' x.f2 != 0) = true := by simp [h0]
      rw [b0]
      have hst := HST.out
      rw [stepR, if_neg h1, if_neg h3, if_neg h0] at hst
      have HS2 := Aside0.mk hst
      clear hst
      have HQ := Aside0.mk (HLO.out _ (Nat.le_refl _) d' x.f3 HH.out.2.2.1 b' f' r1 HS2.out HR.out.2.2.2.1 HR.out.2.2.2.2.1 w0 w6 _ _ _ A8 c8 H6.out.1.e HC.out.2.2.1 HC.out.2.2.2.1)
      clear h0 h1 h3
      go_wp2_with fail
      refine HQ.out.mono ?_
      clear HQ
      rintro e w5 ⟨u0, u1, u2, rfl, hE5, hK5⟩
      have H5 := Aside0.mk (H6.out.1.call hE5 hK5)
      obtain ⟨g0', d0', rfl, _⟩ := own_blk hE5.m.r0
      obtain ⟨g1', d1', rfl, _⟩ := own_blk hE5.m.r1
      obtain ⟨g2', d2', rfl, _⟩ := own_blk hE5.m.r2
      have lb3 := H5.out.b3
      clear hE5 hK5 m0 m1 m2 e0 e1 e2 e3 e4 e5 e6 e7 e8 e9
      go_upto_region 13 with (refine boxPut_ rfl rfl rfl rfl #[.slice (some ⟨g0', 0, none⟩) 6 d0', .slice (some ⟨g1', 0, none⟩) 6 d1', .slice (some ⟨g2', 0, none⟩) 6 d2'] rfl lb3 rfl (by kernel_rfl) (by simp [Value.oneCell']) ?_; intro w7 hbx hput)
      have HZ := Aside0.mk (H5.out.put hbx hput)
      clear hbx hput lb3 H5
      have lb6 := HZ.out.b6
      have m0 := (Box.cell HZ.out.b3 0 (.slice (some ⟨g0', 0, none⟩) 6 d0') rfl).1
      have m1 := (Box.cell HZ.out.b3 1 (.slice (some ⟨g1', 0, none⟩) 6 d1') rfl).1
      have m2 := (Box.cell HZ.out.b3 2 (.slice (some ⟨g2', 0, none⟩) 6 d2') rfl).1
      by_cases hc1 : r1.2.1 = 0
      ·have hrun := HX.out.2.1
       rw [if_pos hc1] at hrun
       have bc : (r1.2.1 != 0) = false := by simp [hc1]
       have HN := Aside0.mk hrun
       clear hc1 hrun lb6
       go_wp2_with fail
       go_roundg k1
       case measure => have := HR.out.2.2.1; omega
       case rel => exact ⟨j + 1, r1.1, r1.2.2, g0', d0', g1', d1', g2', d2', rfl, congrArg (Value.int .i64) (by rw [wrap_in (by omega) (by have := HI.out.2.2.2.1; have := HX.out.1; omega)]; omega), ⟨HN.out, HX.out.1, by have := HR.out.2.2.1; omega, HX.out.2.2.lo, by have h1 := HX.out.2.2.hi; have h2 := HR.out.2.2.2.2.1; omega, HZ.out⟩⟩
      ·have hrun := HX.out.2.1
       rw [if_neg hc1] at hrun
       injection hrun with hrun
       have bc : (r1.2.1 != 0) = true := by simp [hc1]
       have HF := Aside0.mk hrun
       clear hc1 hrun
       go_wp2_with (refine boxPut_ rfl rfl rfl rfl #[.slice (some ⟨g0', 0, none⟩) 6 d0', .slice (some ⟨g1', 0, none⟩) 6 d1', .slice (some ⟨g2', 0, none⟩) 6 d2'] rfl lb6 rfl (by kernel_rfl) (by simp [Value.oneCell']) ?_; intro w8 hbx hput)
       refine bodyPost_ret (results_ctt rfl _ _ (w.heap.size + 1) 30 #[.slice (some ⟨g0', 0, none⟩) 6 d0', .slice (some ⟨g1', 0, none⟩) 6 d1', .slice (some ⟨g2', 0, none⟩) 6 d2'] (0, 0) _ rfl hbx Tryz.underlying30 rfl (by kernel_rfl)) rfl ?_
       rw [← HF.out]
       exact SpBox.out (r := r1) HZ.out hput
  ·have hjl : l.drop j = [] := List.drop_of_length_le (by omega)
   have hrun := HR.out.1
   rw [hjl, runL_nil] at hrun
   injection hrun with hrun
   have HF := Aside0.mk hrun
   have lb6 := HR.out.2.2.2.2.2.b6
   have m0 := (Box.cell HR.out.2.2.2.2.2.b3 0 (.slice (some ⟨g0, 0, none⟩) 6 d0) rfl).1
   have m1 := (Box.cell HR.out.2.2.2.2.2.b3 1 (.slice (some ⟨g1, 0, none⟩) 6 d1) rfl).1
   have m2 := (Box.cell HR.out.2.2.2.2.2.b3 2 (.slice (some ⟨g2, 0, none⟩) 6 d2) rfl).1
   clear hjl hrun
   go_wp2_with (refine boxPut_ rfl rfl rfl rfl #[.slice (some ⟨g0, 0, none⟩) 6 d0, .slice (some ⟨g1, 0, none⟩) 6 d1, .slice (some ⟨g2, 0, none⟩) 6 d2] rfl lb6 rfl (by kernel_rfl) (by simp [Value.oneCell']) ?_; intro w8 hbx hput)
   refine bodyPost_ret (results_ctt rfl _ _ (w.heap.size + 1) 30 #[.slice (some ⟨g0, 0, none⟩) 6 d0, .slice (some ⟨g1, 0, none⟩) 6 d1, .slice (some ⟨g2, 0, none⟩) 6 d2] (0, 0) _ rfl hbx Tryz.underlying30 rfl (by kernel_rfl)) rfl ?_
   rw [← HF.out]
   exact SpBox.out (r := (b', 0, f')) HR.out.2.2.2.2.2 hput
end Go.Proofs.YtendbgedpjcocaaGreatDoor.B
