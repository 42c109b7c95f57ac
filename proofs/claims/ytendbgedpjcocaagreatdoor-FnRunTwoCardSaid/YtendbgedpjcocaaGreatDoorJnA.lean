import Derived.Test.YtendbgedpjcocaaGreatDoorJnB
import Derived.Test.YtendbgedpjcocaaGreatDoorRows
import Derived.LaidMore
import Derived.LaidLaws
import Derived.Stop.LaidErr
import Derived.MakeChecks
import Derived.Test.YtendbgedpjcocaaGreatDoorJnJ
import Derived.Test.YtendbgedpjcocaaGreatDoorJnD
import Derived.Test.YtendbgedpjcocaaGreatDoorJnE
import Derived.Test.YtendbgedpjcocaaGreatDoorPkC
import Derived.Test.YtendbgedpjcocaaGreatDoorJnI
import Derived.Test.YtendbgedpjcocaaGreatDoorJnH
import Derived.Test.YtendbgedpjcocaaGreatDoorPkB
/- What the row lists of errLong gives the walks. -/
namespace Go.Proofs.YtendbgedpjcocaaGreatDoor.B
open Go Go.RowKit Go.Proofs.YtendbgedpjcocaaGreatDoorW.PrintWords Go.Proofs.YtendbgedpjcocaaGreatDoorW.PrintLast Go.Proofs.YtendbgedpjcocaaGreatDoorW.PrintMore
set_option linter.unusedVariables false
theorem star_err : "*" ++ "errors.errorString" = "*errors.errorString" := by decide +kernel
theorem row_err (u : TypeId) (hu : Tryz.prog.typeName? 3 u = some "*errors.errorString") : u = 156 :=
 typeName_ptr_named (nm := "errors.errorString") (by rw [star_err]; kernel_rfl) (by kernel_rfl) (by decide) u (by rw [star_err]; exact hu)
theorem tab_of_laid {W : World} (h : laidMetH Tryz.prog [("loop.example/stopgate/impl.errLong", Rows.laid_loop_example_stopgate_impl_errLong)] W) : ∃ a, ErrAt W a := by
 rw [MakeChecks.laidMetH_plain _ _ _ (by kernel_rfl)] at h
 have hg : Tryz.prog.globalNamed "loop.example/stopgate/impl.errLong" = some 0 := by kernel_rfl
 obtain ⟨a, s, hv, -, -, -⟩ := laid_sentinel h hg (by kernel_rfl) Tryz.underlying71 row_err Tryz.underlying156 Tryz.underlying185 rfl rfl Tryz.underlying9 (by kernel_rfl) (by kernel_rfl)
 exact ⟨a, by have h0 := World.var?_cell hg hv 0; simpa [ErrAt] using h0⟩
end Go.Proofs.YtendbgedpjcocaaGreatDoor.B
/- The specification's runner: a loop. -/
namespace Go.Proofs.YtendbgedpjcocaaGreatDoor.B
open Go Go.RowKit Go.Shelf Go.Proofs.YtendbgedpjcocaaGreatDoorW.PrintWords Go.Proofs.YtendbgedpjcocaaGreatDoorW.PrintLast Go.Proofs.YtendbgedpjcocaaGreatDoorW.PrintMore
set_option linter.unusedVariables false
structure SpEnv (w0 w : World) (v0 v1 v2 : Value) (bs : List Int) : Prop where
 m : MemRows w w0.heap.size v0 v1 v2 bs
 b : Below w0.heap.size w0 w
 n : bs.length = 18
theorem SpEnv.below {w0 w w' : World} {v0 v1 v2 : Value} {bs : List Int} (h : SpEnv w0 w v0 v1 v2 bs) (hb : Below w.heap.size w w') : SpEnv w0 w' v0 v1 v2 bs := ⟨h.m.below hb, h.b.trans (hb.mono h.b.size), h.n⟩
def SpPost (w0 : World) (r : Res) (w : World) (e : Ending) (w' : World) : Prop := ∃ u0 u1 u2, e = .returned (.tuple #[.agg #[u0, u1, u2], .int .i64 r.2.1, .int .i64 r.2.2]) ∧ SpEnv w0 w' u0 u1 u2 r.1 ∧ KeepI w w'
def SpCon (k : Nat) : Prop := ∀ (d : Nat) (l : List St), formT d l = true → ∀ (bs : List Int) (f : Int) (r : Res), runL k bs l f = some r → 0 ≤ f → f ≤ 100 → ∀ (w0 w : World) (v0 v1 v2 : Value) (A : Option Addr) (c : Nat), SpEnv w0 w v0 v1 v2 bs → Kd.C stK w0 A l.length l → l.length ≤ c →
 Calls Tryz.prog 39 #[.agg #[v0, v1, v2], .slice A l.length c, .int .i64 f] w (SpPost w0 r w)
/-- A runner's own two boxes: the memory at hand (as it was stored last), and what will be told. -/
structure SpBox (w0 w W : World) (n6 : Nat) (c0 c1 c2 v0 v1 v2 : Value) (bs : List Int) : Prop where
 e : SpEnv w0 W v0 v1 v2 bs
 b3 : Box W w.heap.size 30 #[c0, c1, c2]
 b6 : Box W n6 30 mZ
 k : KeepI w W
 ne : w.heap.size < n6
 lw : w0.heap.size ≤ w.heap.size
theorem SpBox.below {w0 w W W' : World} {n6 : Nat} {c0 c1 c2 v0 v1 v2 : Value} {bs : List Int} (h : SpBox w0 w W n6 c0 c1 c2 v0 v1 v2 bs) (hb : Below W.heap.size W W') : SpBox w0 w W' n6 c0 c1 c2 v0 v1 v2 bs :=
 ⟨h.e.below hb, blk_below h.b3 hb, blk_below h.b6 hb, h.k.trans (KeepI.of_below hb), h.ne, h.lw⟩
theorem SpBox.call {w0 w W W' : World} {n6 : Nat} {c0 c1 c2 v0 v1 v2 u0 u1 u2 : Value} {bs bs' : List Int} (h : SpBox w0 w W n6 c0 c1 c2 v0 v1 v2 bs) (he : SpEnv w0 W' u0 u1 u2 bs') (hk : KeepI W W') : SpBox w0 w W' n6 c0 c1 c2 u0 u1 u2 bs' :=
 ⟨he, hk.keep _ _ _ (by decide) h.b3, hk.keep _ _ _ (by decide) h.b6, h.k.trans hk, h.ne, h.lw⟩
theorem SpBox.put {w0 w W W' : World} {n6 : Nat} {c0 c1 c2 v0 v1 v2 : Value} {bs : List Int} (h : SpBox w0 w W n6 c0 c1 c2 v0 v1 v2 bs) (hb : Box W' w.heap.size 30 #[v0, v1, v2]) (hp : Put1 w.heap.size W W') : SpBox w0 w W' n6 v0 v1 v2 v0 v1 v2 bs :=
 ⟨⟨h.e.m.put1 h.b3 (by decide) hp, hp.below h.e.b h.lw, h.e.n⟩, hb, h.b6.put1 hp (by have := h.ne; omega), h.k.put1 hp (Nat.le_refl _), h.ne, h.lw⟩
theorem SpBox.out {w0 w W W' : World} {n6 : Nat} {c0 c1 c2 v0 v1 v2 : Value} {r : Res} (h : SpBox w0 w W n6 c0 c1 c2 v0 v1 v2 r.1) (hp : Put1 n6 W W') : SpPost w0 r w (.returned (.tuple #[.agg #[v0, v1, v2], .int .i64 r.2.1, .int .i64 r.2.2])) W' :=
 ⟨v0, v1, v2, rfl, ⟨h.e.m.put1 h.b6 (by decide) hp, hp.below h.e.b (by have := h.ne; have := h.lw; omega), h.e.n⟩, h.k.put1 hp (by have := h.ne; omega)⟩
abbrev stA (s : St) (A7 : Option Addr) (c7 : Nat) (A8 : Option Addr) (c8 : Nat) (A9 : Option Addr) (c9 : Nat) : Array Value :=
 #[.int .i64 s.f0, .int .i64 s.f1.f0, .int .i64 s.f1.f1, .int .i64 s.f2.f0, .int .i64 s.f2.f1, .int .i64 s.f2.f2.f0, .int .i64 s.f2.f2.f1, .slice A7 s.f2.f3.length c7, .slice A8 s.f3.length c8, .slice A9 s.f4.length c9]
set_option maxRecDepth 100000 in
set_option maxHeartbeats 8000000 in
theorem sp_while (k : Nat) (hall : ∀ k', k' ≤ k → SpCon k') (d : Nat) (s : St) (h3 : s.f0 = 3) (he : formS 6 s.f2 = true) (hd : formT d s.f3 = true) (bs : List Int) (f : Int) (r : Res) (hr : stepR k bs s f = some r) (hf0 : 0 ≤ f) (hf1 : f ≤ 100)
  (w0 w : World) (v0 v1 v2 : Value) (A7 : Option Addr) (c7 : Nat) (A8 : Option Addr) (c8 : Nat) (A9 : Option Addr) (c9 : Nat) (hN : SpEnv w0 w v0 v1 v2 bs) (hC : Kd.C exK w0 A7 s.f2.f3.length s.f2.f3) (hc : s.f2.f3.length ≤ c7) (hC8 : Kd.C stK w0 A8 s.f3.length s.f3) (hc8 : s.f3.length ≤ c8) :
  Calls Tryz.prog 72 #[.agg #[v0, v1, v2], .agg (stA s A7 c7 A8 c8 A9 c9), .int .i64 f] w (SpPost w0 r w) := by
 obtain ⟨g0, d0, rfl, _⟩ := own_blk hN.m.r0
 obtain ⟨g1, d1, rfl, _⟩ := own_blk hN.m.r1
 obtain ⟨g2, d2, rfl, _⟩ := own_blk hN.m.r2
 obtain ⟨w1, hw1⟩ : ∃ W, W = ((w.alloc (.cells #[.slice (some ⟨g0, 0, none⟩) 6 d0, .slice (some ⟨g1, 0, none⟩) 6 d1, .slice (some ⟨g2, 0, none⟩) 6 d2] 30 (0, 0))).alloc (.cells (stA s A7 c7 A8 c8 A9 c9) 35 (0, 0))).alloc (.cells #[.slice none 0 0, .slice none 0 0, .slice none 0 0] 30 (0, 0)) := ⟨_, rfl⟩
 obtain ⟨hs, k1, k2, k3, hB1⟩ := three_blk w (.cells #[.slice (some ⟨g0, 0, none⟩) 6 d0, .slice (some ⟨g1, 0, none⟩) 6 d1, .slice (some ⟨g2, 0, none⟩) 6 d2] 30 (0, 0)) (.cells (stA s A7 c7 A8 c8 A9 c9) 35 (0, 0)) (.cells #[.slice none 0 0, .slice none 0 0, .slice none 0 0] 30 (0, 0))
 rw [← hw1] at hs k1 k2 k3 hB1
 have H1 := Aside0.mk (show SpBox w0 w w1 (w.heap.size + 1 + 1) (.slice (some ⟨g0, 0, none⟩) 6 d0) (.slice (some ⟨g1, 0, none⟩) 6 d1) (.slice (some ⟨g2, 0, none⟩) 6 d2) (.slice (some ⟨g0, 0, none⟩) 6 d0) (.slice (some ⟨g1, 0, none⟩) 6 d1) (.slice (some ⟨g2, 0, none⟩) 6 d2) bs ∧ Box w1 (w.heap.size + 1) 35 (stA s A7 c7 A8 c8 A9 c9) from
  ⟨⟨hN.below hB1, k1, k3, KeepI.of_below hB1, by omega, hN.b.size⟩, k2⟩)
 have HE := Aside0.mk (And.intro he (And.intro hc (And.intro hC (And.intro hC8 (And.intro hc8 (And.intro hd (And.intro h3 hall)))))))
 have HS := Aside0.mk (And.intro hr (And.intro hf0 hf1))
 clear hs k1 k2 k3 hB1 hN hC hc hC8 hc8 hd he h3 hr hf0 hf1 hall
 unfold stA at hw1 ⊢
 go_enter Tryz.func72, Tryz.ntmps72
 go_upto_region 1 with fail
 rw [← hw1]
 clear hw1
 go_loopg [2] k (fun kq u2 W => ∃ (bs' : List Int) (f' : Int) (g0 d0 g1 d1 g2 d2 : Nat), u2 = .int .i64 f' ∧ Aside0 (stepR kq bs' s f' = some r ∧ kq ≤ k ∧ 0 ≤ f' ∧ f' ≤ 100 ∧ SpBox w0 w W (w.heap.size + 1 + 1) (.slice (some ⟨g0, 0, none⟩) 6 d0) (.slice (some ⟨g1, 0, none⟩) 6 d1) (.slice (some ⟨g2, 0, none⟩) 6 d2) (.slice (some ⟨g0, 0, none⟩) 6 d0) (.slice (some ⟨g1, 0, none⟩) 6 d1) (.slice (some ⟨g2, 0, none⟩) 6 d2) bs' ∧ Box W (w.heap.size + 1) 35 (stA s A7 c7 A8 c8 A9 c9)))
 case atStart => exact ⟨bs, f, g0, d0, g1, d1, g2, d2, rfl, ⟨HS.out.1, Nat.le_refl _, HS.out.2.1, HS.out.2.2, H1.out.1, H1.out.2⟩⟩
 case round =>
  clear HS H1
  obtain ⟨b', f', g0, d0, g1, d1, g2, d2, rfl, HR⟩ := hrel
  rename World => w2
  obtain ⟨x, hx⟩ : ∃ x, x = s.f2 := ⟨_, rfl⟩
  have m0 := (Box.cell HR.out.2.2.2.2.1.b3 0 (.slice (some ⟨g0, 0, none⟩) 6 d0) rfl).1
  have m1 := (Box.cell HR.out.2.2.2.2.1.b3 1 (.slice (some ⟨g1, 0, none⟩) 6 d1) rfl).1
  have m2 := (Box.cell HR.out.2.2.2.2.1.b3 2 (.slice (some ⟨g2, 0, none⟩) 6 d2) rfl).1
  have e3 := (Box.cell HR.out.2.2.2.2.2 3 (.int .i64 s.f2.f0) rfl).1
  have e4 := (Box.cell HR.out.2.2.2.2.2 4 (.int .i64 s.f2.f1) rfl).1
  have e5 := (Box.cell HR.out.2.2.2.2.2 5 (.int .i64 s.f2.f2.f0) rfl).1
  have e6 := (Box.cell HR.out.2.2.2.2.2 6 (.int .i64 s.f2.f2.f1) rfl).1
  have e7 := (Box.cell HR.out.2.2.2.2.2 7 (.slice A7 s.f2.f3.length c7) rfl).1
  rw [← hx] at e3 e4 e5 e6 e7
  have HX := Aside0.mk hx
  have HQ := Aside0.mk (of_at b' HR.out.2.2.2.2.1.e.n s.f2 HE.out.1 A7 c7 _ _ _ _ w2 HR.out.2.2.2.2.1.e.m (Kd.C_below HE.out.2.2.1 HR.out.2.2.2.2.1.e.b) HE.out.2.1)
  rw [← hx] at HQ
  clear hx
  go_wp2_with fail
  refine HQ.out.mono ?_
  clear HQ
  rintro e w3 ⟨rfl, hb3⟩
  have H3 := Aside0.mk (show SpBox w0 w w3 _ _ _ _ _ _ _ b' ∧ Box w3 (w.heap.size + 1) 35 (stA s A7 c7 A8 c8 A9 c9) from ⟨HR.out.2.2.2.2.1.below hb3, blk_below HR.out.2.2.2.2.2 hb3⟩)
  clear hb3 m0 m1 m2 e3 e4 e5 e6 e7
  go_wp2_with fail
  refine (onS_any _ w3).mono ?_
  rintro e w4 ⟨rfl, hb4⟩
  have H4 := Aside0.mk (show SpBox w0 w w4 _ _ _ _ _ _ _ b' ∧ Box w4 (w.heap.size + 1) 35 (stA s A7 c7 A8 c8 A9 c9) from ⟨H3.out.1.below hb4, blk_below H3.out.2 hb4⟩)
  clear hb4 H3
  have hst := HR.out.1
  unfold stepR at hst
  rw [if_neg (by have := HE.out.2.2.2.2.2.2.1; omega), if_pos HE.out.2.2.2.2.2.2.1, ← HX.out] at hst
  have m0 := (Box.cell H4.out.1.b3 0 (.slice (some ⟨g0, 0, none⟩) 6 d0) rfl).1
  have m1 := (Box.cell H4.out.1.b3 1 (.slice (some ⟨g1, 0, none⟩) 6 d1) rfl).1
  have m2 := (Box.cell H4.out.1.b3 2 (.slice (some ⟨g2, 0, none⟩) 6 d2) rfl).1
  by_cases h0 : evalI b' x = 0
  ·rw [if_pos h0] at hst
   injection hst with hst
   have b0 : (evalI b' x != 0) = false := by simp [h0]
   have HF := Aside0.mk (And.intro hst (H4.out.1))
   have lb6 := H4.out.1.b6
   clear h0 hst
   rw [b0]
   go_wp2_with (refine boxPut_ rfl rfl rfl rfl #[.slice (some ⟨g0, 0, none⟩) 6 d0, .slice (some ⟨g1, 0, none⟩) 6 d1, .slice (some ⟨g2, 0, none⟩) 6 d2] rfl lb6 rfl (by kernel_rfl) (by simp [Value.oneCell']) ?_; intro w7 hbx hput)
   refine bodyPost_ret (results_ctt rfl _ _ (w.heap.size + 1 + 1) 30 #[.slice (some ⟨g0, 0, none⟩) 6 d0, .slice (some ⟨g1, 0, none⟩) 6 d1, .slice (some ⟨g2, 0, none⟩) 6 d2] (0, 0) _ rfl hbx Tryz.underlying30 rfl (by kernel_rfl)) rfl ?_
   rw [← HF.out.1]
   exact SpBox.out (r := (b', 0, f')) HF.out.2 hput
  ·rw [if_neg h0] at hst
   obtain ⟨r2, hr2, hst⟩ := Option.bind_eq_some_iff.1 hst
   have b0 : (evalI b' x != 0) = true := by simp [h0]
   have hF2 := fits_run HE.out.2.2.2.2.2.1 hr2 HR.out.2.2.1
   have e8 := (Box.cell H4.out.2 8 (.slice A8 s.f3.length c8) rfl).1
   have HQ := Aside0.mk (HE.out.2.2.2.2.2.2.2 _ HR.out.2.1 d s.f3 HE.out.2.2.2.2.2.1 b' f' r2 hr2 HR.out.2.2.1 HR.out.2.2.2.1 w0 w4 _ _ _ A8 c8 H4.out.1.e HE.out.2.2.2.1 HE.out.2.2.2.2.1)
   have HFT := Aside0.mk hF2
   have HST := Aside0.mk hst
   clear h0 hst hr2 hF2
   rw [b0]
   go_wp2_with fail
   refine HQ.out.mono ?_
   clear HQ
   rintro e w5 ⟨u0, u1, u2, rfl, hE5, hK5⟩
   have H5 := Aside0.mk (show SpBox w0 w w5 _ _ _ _ u0 u1 u2 r2.1 ∧ Box w5 (w.heap.size + 1) 35 (stA s A7 c7 A8 c8 A9 c9) from ⟨H4.out.1.call hE5 hK5, hK5.keep _ _ _ (by decide) H4.out.2⟩)
   obtain ⟨g0', d0', rfl, _⟩ := own_blk hE5.m.r0
   obtain ⟨g1', d1', rfl, _⟩ := own_blk hE5.m.r1
   obtain ⟨g2', d2', rfl, _⟩ := own_blk hE5.m.r2
   clear hE5 hK5 m0 m1 m2 e8 H4
   go_upto_region 3 with fail
   obtain ⟨w6, hw6⟩ : ∃ W, W = w5.alloc (.cells #[.slice (some ⟨g0', 0, none⟩) 6 d0', .slice (some ⟨g1', 0, none⟩) 6 d1', .slice (some ⟨g2', 0, none⟩) 6 d2'] 30 (0, 0)) := ⟨_, rfl⟩
   rw [← hw6]
   have hb6 : Below w5.heap.size w5 w6 := by rw [hw6]; exact (Below.refl _ _).alloc (Nat.le_refl _) _
   have bx6 : Box w6 w5.heap.size 30 #[.slice (some ⟨g0', 0, none⟩) 6 d0', .slice (some ⟨g1', 0, none⟩) 6 d1', .slice (some ⟨g2', 0, none⟩) 6 d2'] := by rw [hw6]; exact heap_alloc_new _ _
   have H6 := Aside0.mk (show SpBox w0 w w6 _ _ _ _ _ _ _ r2.1 ∧ Box w6 (w.heap.size + 1) 35 (stA s A7 c7 A8 c8 A9 c9) from ⟨H5.out.1.below hb6, blk_below H5.out.2 hb6⟩)
   have n0 := (Box.cell bx6 0 (.slice (some ⟨g0', 0, none⟩) 6 d0') rfl).1
   have n1 := (Box.cell bx6 1 (.slice (some ⟨g1', 0, none⟩) 6 d1') rfl).1
   have n2 := (Box.cell bx6 2 (.slice (some ⟨g2', 0, none⟩) 6 d2') rfl).1
   have lb3 := H6.out.1.b3
   clear hw6 hb6 bx6 H5
   go_upto_region 4 with (refine boxPut_ rfl rfl rfl rfl #[.slice (some ⟨g0', 0, none⟩) 6 d0', .slice (some ⟨g1', 0, none⟩) 6 d1', .slice (some ⟨g2', 0, none⟩) 6 d2'] rfl lb3 rfl (by kernel_rfl) (by simp [Value.oneCell']) ?_; intro w7 hbx hput)
   have H7 := Aside0.mk (show SpBox w0 w w7 _ _ _ _ _ _ _ r2.1 ∧ Box w7 (w.heap.size + 1) 35 (stA s A7 c7 A8 c8 A9 c9) from ⟨H6.out.1.put hbx hput, H6.out.2.put1 hput (by omega)⟩)
   have m0 := (Box.cell H7.out.1.b3 0 (.slice (some ⟨g0', 0, none⟩) 6 d0') rfl).1
   have m1 := (Box.cell H7.out.1.b3 1 (.slice (some ⟨g1', 0, none⟩) 6 d1') rfl).1
   have m2 := (Box.cell H7.out.1.b3 2 (.slice (some ⟨g2', 0, none⟩) 6 d2') rfl).1
   have lb6 := H7.out.1.b6
   clear hbx hput n0 n1 n2 lb3 H6
   have hst := HST.out
   by_cases hc2 : r2.2.1 = 0
   ·rw [if_pos hc2] at hst
    have bc : (r2.2.1 != 0) = false := by simp [hc2]
    by_cases hl : r2.2.2 < 1
    ·rw [if_pos hl] at hst
     injection hst with hst
     have bl : decide (r2.2.2 < 1) = true := decide_eq_true hl
     have HF := Aside0.mk hst
     clear hst hl hc2
     go_wp2_with (refine boxPut_ rfl rfl rfl rfl #[.slice (some ⟨g0', 0, none⟩) 6 d0', .slice (some ⟨g1', 0, none⟩) 6 d1', .slice (some ⟨g2', 0, none⟩) 6 d2'] rfl lb6 rfl (by kernel_rfl) (by simp [Value.oneCell']) ?_; intro w8 hbx hput)
     refine bodyPost_ret (results_ctt rfl _ _ (w.heap.size + 1 + 1) 30 #[.slice (some ⟨g0', 0, none⟩) 6 d0', .slice (some ⟨g1', 0, none⟩) 6 d1', .slice (some ⟨g2', 0, none⟩) 6 d2'] (0, 0) _ rfl hbx Tryz.underlying30 rfl (by kernel_rfl)) rfl ?_
     rw [← HF.out]
     exact SpBox.out (r := (r2.1, 1, 0)) H7.out.1 hput
    ·rw [if_neg hl] at hst
     obtain ⟨k', hk', hst'⟩ := again_step hst
     have bl : decide (r2.2.2 < 1) = false := decide_eq_false hl
     have wf : IntKind.i64.wrap (r2.2.2 - 1) = r2.2.2 - 1 := by rw [IntKind.wrap_i64]; have h1 := HFT.out.lo; have h2 := HFT.out.hi; have h3 := HR.out.2.2.2.1; omega
     have HK := Aside0.mk (And.intro hk' (And.intro hst' hl))
     clear hst hl hc2 hk' hst' lb6
     go_wp2_with fail
     go_roundg k'
     case measure => have := HK.out.1; omega
     case rel => exact ⟨r2.1, r2.2.2 - 1, g0', d0', g1', d1', g2', d2', by first | rfl | exact congrArg (Value.int .i64) wf, ⟨HK.out.2.1, by have h1 := HK.out.1; have h2 := HR.out.2.1; omega, by have := HK.out.2.2; omega, by have h1 := HFT.out.hi; have h2 := HR.out.2.2.2.1; omega, H7.out.1, H7.out.2⟩⟩
   ·rw [if_neg hc2] at hst
    injection hst with hst
    have bc : (r2.2.1 != 0) = true := by simp [hc2]
    have HF := Aside0.mk hst
    clear hst hc2
    go_wp2_with (refine boxPut_ rfl rfl rfl rfl #[.slice (some ⟨g0', 0, none⟩) 6 d0', .slice (some ⟨g1', 0, none⟩) 6 d1', .slice (some ⟨g2', 0, none⟩) 6 d2'] rfl lb6 rfl (by kernel_rfl) (by simp [Value.oneCell']) ?_; intro w8 hbx hput)
    refine bodyPost_ret (results_ctt rfl _ _ (w.heap.size + 1 + 1) 30 #[.slice (some ⟨g0', 0, none⟩) 6 d0', .slice (some ⟨g1', 0, none⟩) 6 d1', .slice (some ⟨g2', 0, none⟩) 6 d2'] (0, 0) _ rfl hbx Tryz.underlying30 rfl (by kernel_rfl)) rfl ?_
    rw [← HF.out]
    exact SpBox.out (r := r2) H7.out.1 hput
end Go.Proofs.YtendbgedpjcocaaGreatDoor.B
/- The specification's runner: a list (printed by mkspl.py). -/
namespace Go.Proofs.YtendbgedpjcocaaGreatDoor.B
open Go Go.RowKit Go.Shelf Go.Proofs.YtendbgedpjcocaaGreatDoorW.PrintWords Go.Proofs.YtendbgedpjcocaaGreatDoorW.PrintLast Go.Proofs.YtendbgedpjcocaaGreatDoorW.PrintMore
set_option linter.unusedVariables false
set_option maxRecDepth 100000 in
set_option maxHeartbeats 16000000 in
theorem sp_con (k : Nat) : SpCon k := by
 induction k using Nat.strongRecOn with
 | _ k ih =>
 intro d l hl bs f r hr hf0 hf1 w0 w v0 v1 v2 A c hN hC hc
 have mixed : Tryz.prog.follows .mixedOrders = true := rfl
 have hmax : l.length ≤ 9223372036854775807 := by have := hC.2.1; omega
 obtain ⟨g0, d0, rfl, _⟩ := own_blk hN.m.r0
 obtain ⟨g1, d1, rfl, _⟩ := own_blk hN.m.r1
 obtain ⟨g2, d2, rfl, _⟩ := own_blk hN.m.r2
 obtain ⟨w1, hw1⟩ : ∃ W, W = (w.alloc (.cells #[.slice (some ⟨g0, 0, none⟩) 6 d0, .slice (some ⟨g1, 0, none⟩) 6 d1, .slice (some ⟨g2, 0, none⟩) 6 d2] 30 (0, 0))).alloc (.cells #[.slice none 0 0, .slice none 0 0, .slice none 0 0] 30 (0, 0)) := ⟨_, rfl⟩
 obtain ⟨hs, k1, k2, hB1⟩ := two_blocks' w (.cells #[.slice (some ⟨g0, 0, none⟩) 6 d0, .slice (some ⟨g1, 0, none⟩) 6 d1, .slice (some ⟨g2, 0, none⟩) 6 d2] 30 (0, 0)) (.cells #[.slice none 0 0, .slice none 0 0, .slice none 0 0] 30 (0, 0))
 rw [← hw1] at hs k1 k2 hB1
 have H1 := Aside0.mk (show SpBox w0 w w1 (w.heap.size + 1) (.slice (some ⟨g0, 0, none⟩) 6 d0) (.slice (some ⟨g1, 0, none⟩) 6 d1) (.slice (some ⟨g2, 0, none⟩) 6 d2) (.slice (some ⟨g0, 0, none⟩) 6 d0) (.slice (some ⟨g1, 0, none⟩) 6 d1) (.slice (some ⟨g2, 0, none⟩) 6 d2) bs from ⟨hN.below hB1, k1, k2, KeepI.of_below hB1, by omega, hN.b.size⟩)
 have HI := Aside0.mk (And.intro hl (And.intro hC (And.intro hc (And.intro hmax ih))))
 have HS := Aside0.mk (And.intro hr (And.intro hf0 hf1))
 clear hs k1 k2 hB1 hl hr hf0 hf1 hN hC hc ih hmax
 go_enter Tryz.func39, Tryz.ntmps39
 go_upto_region 1 with fail
 rw [← hw1]
 clear hw1
 go_wp2
 go_loopg [2, 9] k (fun kq u2 u9 W => ∃ (j : Nat) (bs' : List Int) (f' : Int) (g0 d0 g1 d1 g2 d2 : Nat), u2 = .int .i64 f' ∧ u9 = .int .i64 j ∧ Aside0 (runL kq bs' (l.drop j) f' = some r ∧ j ≤ l.length ∧ kq ≤ k ∧ 0 ≤ f' ∧ f' ≤ 100 ∧ SpBox w0 w W (w.heap.size + 1) (.slice (some ⟨g0, 0, none⟩) 6 d0) (.slice (some ⟨g1, 0, none⟩) 6 d1) (.slice (some ⟨g2, 0, none⟩) 6 d2) (.slice (some ⟨g0, 0, none⟩) 6 d0) (.slice (some ⟨g1, 0, none⟩) 6 d1) (.slice (some ⟨g2, 0, none⟩) 6 d2) bs'))
 case atStart => exact ⟨0, bs, f, g0, d0, g1, d1, g2, d2, rfl, rfl, ⟨HS.out.1, Nat.zero_le _, Nat.le_refl _, HS.out.2.1, HS.out.2.2, H1.out⟩⟩
 case round =>
  clear HS H1
  obtain ⟨j, b', f', g0, d0, g1, d1, g2, d2, rfl, rfl, HR⟩ := hrel
  rename World => w2
  cases gk with
  | zero => have := HR.out.1; rw [runL] at this; cases this
  | succ k1 =>
  by_cases hj : j < l.length
  ·obtain ⟨ad, A7, c7, A8, c8, A9, c9, hA, e0, e1, e2, e3, e4, e5, e6, e7, e8, e9, hl7, hi7, hl8, hi8, hl9, hi9⟩ := at_T35 HI.out.2.1 (j : Int) (by omega) (by omega)
   cases hA
   have hkid : rd_T35 l (j : Int) = l[j] := by simp [rd_T35, hj]
   have hb := HR.out.2.2.2.2.2.e.b
   replace e0 := (hb.cell (World.block_lt_of_cell? w0 _ e0)).trans e0
   replace e1 := (hb.cell (World.block_lt_of_cell? w0 _ e1)).trans e1
   replace e2 := (hb.cell (World.block_lt_of_cell? w0 _ e2)).trans e2
   replace e3 := (hb.cell (World.block_lt_of_cell? w0 _ e3)).trans e3
   replace e4 := (hb.cell (World.block_lt_of_cell? w0 _ e4)).trans e4
   replace e5 := (hb.cell (World.block_lt_of_cell? w0 _ e5)).trans e5
   replace e6 := (hb.cell (World.block_lt_of_cell? w0 _ e6)).trans e6
   replace e7 := (hb.cell (World.block_lt_of_cell? w0 _ e7)).trans e7
   replace e8 := (hb.cell (World.block_lt_of_cell? w0 _ e8)).trans e8
   replace e9 := (hb.cell (World.block_lt_of_cell? w0 _ e9)).trans e9
   rw [hkid] at e0 e1 e2 e3 e4 e5 e6 e7 e8 e9 hl7 hi7 hl8 hi8 hl9 hi9
   simp only [Int.toNat_natCast] at e0 e1 e2 e3 e4 e5 e6 e7 e8 e9
   have hdr : l.drop j = l[j] :: l.drop (j + 1) := List.drop_eq_getElem_cons hj
   obtain ⟨x, hx⟩ : ∃ x, x = l[j] := ⟨_, rfl⟩
   rw [← hx] at e0 e1 e2 e3 e4 e5 e6 e7 e8 e9 hl7 hi7 hl8 hi8 hl9 hi9 hdr
   have hfd := form_drop l j HI.out.1
   have hrun := HR.out.1
   rw [hdr] at hfd hrun
   rw [runL_cons] at hrun
   obtain ⟨r1, hr1, hrun⟩ := Option.bind_eq_some_iff.1 hrun
   obtain ⟨d', hd', hh, h3, h4, _⟩ := form_cons hfd
   have hF1 := fits_step (form_one hfd) hr1 HR.out.2.2.2.1
   have HX := Aside0.mk (And.intro hj (And.intro hrun hF1))
   have HST := Aside0.mk hr1
   have HH := Aside0.mk (And.intro (form_of_head hh) (And.intro hh (And.intro h3 h4)))
   have HLO := Aside0.mk (fun k' (hk' : k' ≤ k1) => HI.out.2.2.2.2 k' (by have := HR.out.2.2.1; omega))
   have HC := Aside0.mk (And.intro hi7 (And.intro hl7 (And.intro hi8 (And.intro hl8 (And.intro hi9 hl9)))))
   clear hb hkid hx hi7 hl7 hi8 hl8 hi9 hl9 hdr hfd hrun hr1 hd' hh h3 h4 hF1
   go_upto_region 5 with (fail)
   obtain ⟨w3, hw3⟩ : ∃ W, W = w2.alloc (.cells (stA x A7 c7 A8 c8 A9 c9) 35 (0, 0)) := ⟨_, rfl⟩
   have hb3 : Below w2.heap.size w2 w3 := by rw [hw3]; exact (Below.refl _ _).alloc (Nat.le_refl _) _
   have j1 : Box w3 w2.heap.size 35 (stA x A7 c7 A8 c8 A9 c9) := by rw [hw3]; exact heap_alloc_new _ _
   unfold stA at hw3
   rw [← hw3]
   have H3 := Aside0.mk (show SpBox w0 w w3 _ _ _ _ _ _ _ b' ∧ Box w3 w2.heap.size 35 (stA x A7 c7 A8 c8 A9 c9) from ⟨HR.out.2.2.2.2.2.below hb3, j1⟩)
   clear e0 e1 e2 e3 e4 e5 e6 e7 e8 e9 hw3 hb3 j1
   have m0 := (Box.cell H3.out.1.b3 0 (.slice (some ⟨g0, 0, none⟩) 6 d0) rfl).1
   have m1 := (Box.cell H3.out.1.b3 1 (.slice (some ⟨g1, 0, none⟩) 6 d1) rfl).1
   have m2 := (Box.cell H3.out.1.b3 2 (.slice (some ⟨g2, 0, none⟩) 6 d2) rfl).1
   have e0 := (Box.cell H3.out.2 0 (.int .i64 x.f0) rfl).1
   have e1 := (Box.cell H3.out.2 1 (.int .i64 x.f1.f0) rfl).1
   have e2 := (Box.cell H3.out.2 2 (.int .i64 x.f1.f1) rfl).1
   have e3 := (Box.cell H3.out.2 3 (.int .i64 x.f2.f0) rfl).1
   have e4 := (Box.cell H3.out.2 4 (.int .i64 x.f2.f1) rfl).1
   have e5 := (Box.cell H3.out.2 5 (.int .i64 x.f2.f2.f0) rfl).1
   have e6 := (Box.cell H3.out.2 6 (.int .i64 x.f2.f2.f1) rfl).1
   have e7 := (Box.cell H3.out.2 7 (.slice A7 x.f2.f3.length c7) rfl).1
   have e8 := (Box.cell H3.out.2 8 (.slice A8 x.f3.length c8) rfl).1
   have e9 := (Box.cell H3.out.2 9 (.slice A9 x.f4.length c9) rfl).1
   by_cases h1 : x.f0 = 1
   ·skip
    have hset : r1 = (putB b' x.f1.f0 x.f1.f1 (evalI b' x.f2), 0, f') := by
     have := HST.out
     rw [stepR, if_pos h1] at this
     exact (Option.some.inj this).symm
    have hputs : putsL x.f1.f0 x.f1.f1 = true := by
     have := HH.out.2.1
     unfold headSt plainL at this
     rw [if_pos h1] at this
     simp only [Bool.and_eq_true] at this
     exact this.1.1
    have HP := Aside0.mk (And.intro hputs hset)
    have b1 : (x.f0 == 1) = true := by simp [h1]
    clear h1 hset hputs
    go_upto_region 8 with fail
    clear m0 m1 m2 e0 e1 e2 e3 e4 e5 e6 e7 e8 e9
    refine weaveTail_ 7 rfl (fun W => Below w3.heap.size w3 W) (Lasts.below w3) (Below.refl _ _) [(35, 0), (36, 1), (37, 2), (38, 3), (39, 4), (40, 5), (41, 6), (42, 7)]
     [fun v _ => v = .agg #[.slice (some ⟨g0, 0, none⟩) 6 d0, .slice (some ⟨g1, 0, none⟩) 6 d1, .slice (some ⟨g2, 0, none⟩) 6 d2], fun v _ => v = .pointer (some ⟨w2.heap.size, 1, none⟩), fun v _ => v = .agg #[.int .i64 x.f1.f0, .int .i64 x.f1.f1], fun v _ => v = .pointer (some ⟨w2.heap.size, 3, none⟩), fun v _ => v = eAgg x.f2 A7 c7, fun v _ => v = .agg #[.slice (some ⟨g0, 0, none⟩) 6 d0, .slice (some ⟨g1, 0, none⟩) 6 d1, .slice (some ⟨g2, 0, none⟩) 6 d2], fun v _ => v = .int .i64 (evalI b' x.f2)]
     mixed (by kernel_rfl) ⟨fun _ => Lasts.const _, fun _ => Lasts.const _, fun _ => Lasts.const _, fun _ => Lasts.const _, fun _ => Lasts.const _, fun _ => Lasts.const _, fun _ => Lasts.const _, trivial⟩
     (by kernel_rfl) (by kernel_rfl) (by kernel_rfl) ?_
     (fun v W => ∃ (g0' d0' g1' d1' g2' d2' : Nat), v = .agg #[.slice (some ⟨g0', 0, none⟩) 6 d0', .slice (some ⟨g1', 0, none⟩) 6 d1', .slice (some ⟨g2', 0, none⟩) 6 d2'] ∧ SpBox w0 w W (w.heap.size + 1) (.slice (some ⟨g0, 0, none⟩) 6 d0) (.slice (some ⟨g1, 0, none⟩) 6 d1) (.slice (some ⟨g2, 0, none⟩) 6 d2) (.slice (some ⟨g0', 0, none⟩) 6 d0') (.slice (some ⟨g1', 0, none⟩) 6 d1') (.slice (some ⟨g2', 0, none⟩) 6 d2') r1.1)
     (fun _ W => ∃ (g0' d0' g1' d1' g2' d2' : Nat), SpBox w0 w W (w.heap.size + 1) (.slice (some ⟨g0', 0, none⟩) 6 d0') (.slice (some ⟨g1', 0, none⟩) 6 d1') (.slice (some ⟨g2', 0, none⟩) 6 d2') (.slice (some ⟨g0', 0, none⟩) 6 d0') (.slice (some ⟨g1', 0, none⟩) 6 d1') (.slice (some ⟨g2', 0, none⟩) 6 d2') r1.1) ?_ ?_ ?_
    ·refine ⟨?_, ?_, ?_, ?_, ?_, ?_, ?_, ?_, ?_, trivial⟩
     ·intro _ vs W hp hv b hs
      exact stepGet rfl rfl ((hs.old 3 rfl).trans rfl) (blk_below H3.out.1.b3 hp) Tryz.underlying30 rfl (by kernel_rfl) ⟨Below.refl _ _, rfl⟩
     ·intro _ vs W hp hv b hs
      have t10 := (hs.oldtm 10 rfl).trans (show _ = some (Value.pointer (some ⟨w2.heap.size, 0, none⟩)) from rfl)
      exact stepVal rfl (by go_simp) ⟨Below.refl _ _, rfl⟩
     ·intro _ vs W hp hv b hs
      have h1 : vs 1 = .pointer (some ⟨w2.heap.size, 1, none⟩) := hv 1 (by decide)
      have t36 := (hs.tm 36 1 rfl).trans (congrArg some h1)
      have k := blk_below H3.out.2 hp
      have c1 := (Box.cell k 1 (.int .i64 x.f1.f0) rfl).1
      have c2 := (Box.cell k 2 (.int .i64 x.f1.f1) rfl).1
      exact stepVal rfl (by go_simp) ⟨Below.refl _ _, rfl⟩
     ·intro _ vs W hp hv b hs
      have t10 := (hs.oldtm 10 rfl).trans (show _ = some (Value.pointer (some ⟨w2.heap.size, 0, none⟩)) from rfl)
      exact stepVal rfl (by go_simp) ⟨Below.refl _ _, rfl⟩
     ·intro _ vs W hp hv b hs
      have h3 : vs 3 = .pointer (some ⟨w2.heap.size, 3, none⟩) := hv 3 (by decide)
      have t38 := (hs.tm 38 3 rfl).trans (congrArg some h3)
      have k := blk_below H3.out.2 hp
      have c3 := (Box.cell k 3 (.int .i64 x.f2.f0) rfl).1
      have c4 := (Box.cell k 4 (.int .i64 x.f2.f1) rfl).1
      have c5 := (Box.cell k 5 (.int .i64 x.f2.f2.f0) rfl).1
      have c6 := (Box.cell k 6 (.int .i64 x.f2.f2.f1) rfl).1
      have c7' := (Box.cell k 7 (.slice A7 x.f2.f3.length c7) rfl).1
      exact stepVal rfl (by go_simp) ⟨Below.refl _ _, rfl⟩
     ·intro _ vs W hp hv b hs
      exact stepGet rfl rfl ((hs.old 3 rfl).trans rfl) (blk_below H3.out.1.b3 hp) Tryz.underlying30 rfl (by kernel_rfl) ⟨Below.refl _ _, rfl⟩
     ·intro _ vs W hp hv b hs
      have h4 : vs 4 = eAgg x.f2 A7 c7 := hv 4 (by decide)
      have h5 : vs 5 = .agg #[.slice (some ⟨g0, 0, none⟩) 6 d0, .slice (some ⟨g1, 0, none⟩) 6 d1, .slice (some ⟨g2, 0, none⟩) 6 d2] := hv 5 (by decide)
      have he := H3.out.1.below hp
      refine stepCall rfl Tryz.func71 (by kernel_rfl) rfl #[vs 4, vs 5] rfl (by simp [Act.eval, hs.tm 39 4 rfl, hs.tm 40 5 rfl]) (by rw [h4, h5]; exact of_at b' he.e.n x.f2 HH.out.1 A7 c7 _ _ _ _ W he.e.m (Kd.C_below HC.out.1 he.e.b) HC.out.2.1) ?_
      rintro e W' ⟨rfl, hb'⟩
      exact ⟨_, rfl, hb', rfl⟩
     ·intro h
      exact absurd h (by decide)
     ·intro h
      exact absurd h (by decide)
    ·intro o ho vs W hp hv b hs
     obtain rfl := Option.some.inj ho
     have h0 : vs 0 = .agg #[.slice (some ⟨g0, 0, none⟩) 6 d0, .slice (some ⟨g1, 0, none⟩) 6 d1, .slice (some ⟨g2, 0, none⟩) 6 d2] := hv 0 (by decide)
     have h2 : vs 2 = .agg #[.int .i64 x.f1.f0, .int .i64 x.f1.f1] := hv 2 (by decide)
     have h6 : vs 6 = .int .i64 (evalI b' x.f2) := hv 6 (by decide)
     have he := H3.out.1.below hp
     refine stepCall rfl Tryz.func70 (by kernel_rfl) rfl #[vs 0, vs 2, vs 6] rfl (by simp [Act.eval, hs.tm 35 0 rfl, hs.tm 37 2 rfl, hs.tm 41 6 rfl]) (by rw [h0, h2, h6]; exact put_at b' he.e.n x.f1.f0 x.f1.f1 _ HP.out.1 _ _ _ w0 W he.e.b he.e.m) ?_
     rintro e W' ⟨u0, u1, u2, rfl, hm, hb', hk'⟩
     obtain ⟨g0', d0', rfl, _⟩ := own_blk hm.r0
     obtain ⟨g1', d1', rfl, _⟩ := own_blk hm.r1
     obtain ⟨g2', d2', rfl, _⟩ := own_blk hm.r2
     exact ⟨_, rfl, g0', d0', g1', d1', g2', d2', rfl, he.call (by rw [HP.out.2]; exact ⟨hm, hb', by rw [putB_len]; exact he.e.n⟩) hk'⟩
    ·intro o ho vs W hv b hs
     obtain rfl := Option.some.inj ho
     obtain ⟨g0', d0', g1', d1', g2', d2', he, hS⟩ := hv
     exact stepPutB rfl rfl ((hs.old 3 rfl).trans rfl) #[.slice (some ⟨g0', 0, none⟩) 6 d0', .slice (some ⟨g1', 0, none⟩) 6 d1', .slice (some ⟨g2', 0, none⟩) 6 d2'] ((hs.ev 42 7 rfl).trans he) hS.b3 rfl (by kernel_rfl) (by simp [Value.oneCell']) fun W' hbx' hput => ⟨g0', d0', g1', d1', g2', d2', hS.put hbx' hput⟩
    ·rintro vs W ⟨g0', d0', g1', d1', g2', d2', hS⟩
     have HZ := Aside0.mk hS
     simp only [List.map_cons, List.map_nil, putL, Act.put, List.setIfInBounds_toArray, List.set_cons_zero, List.set_cons_succ]
     clear hS
     have hr1 : r1.2.1 = 0 ∧ r1.2.2 = f' := by rw [HP.out.2]; exact ⟨rfl, rfl⟩
     have hrun := HX.out.2.1
     rw [if_pos hr1.1, hr1.2] at hrun
     have HN := Aside0.mk (And.intro hrun hr1.2)
     clear hr1 hrun
     go_wp2_with fail
     go_roundg k1
     case measure => have := HR.out.2.2.1; omega
     case rel => exact ⟨j + 1, r1.1, f', g0', d0', g1', d1', g2', d2', rfl, congrArg (Value.int .i64) (by rw [wrap_in (by omega) (by have := HI.out.2.2.2.1; have := HX.out.1; omega)]; omega), ⟨HN.out.1, HX.out.1, by have := HR.out.2.2.1; omega, HR.out.2.2.2.1, HR.out.2.2.2.2.1, HZ.out⟩⟩
   ·by_cases h3 : x.f0 = 3
    ·skip
     have b1 : (x.f0 == 1) = false := beq_false_of_ne h1
     have b3 : (x.f0 == 3) = true := by simp [h3]
     have HQ := Aside0.mk (sp_while k1 HLO.out d' x h3 HH.out.1 HH.out.2.2.1 b' f' r1 HST.out HR.out.2.2.2.1 HR.out.2.2.2.2.1 w0 w3 _ _ _ A7 c7 A8 c8 A9 c9 H3.out.1.e HC.out.1 HC.out.2.1 HC.out.2.2.1 HC.out.2.2.2.1)
     clear h1 h3
     go_wp2_with fail
     refine HQ.out.mono ?_
     clear HQ
     rintro e w5 ⟨u0, u1, u2, rfl, hE5, hK5⟩
     have H5 := Aside0.mk (H3.out.1.call hE5 hK5)
     obtain ⟨g0', d0', rfl, _⟩ := own_blk hE5.m.r0
     obtain ⟨g1', d1', rfl, _⟩ := own_blk hE5.m.r1
     obtain ⟨g2', d2', rfl, _⟩ := own_blk hE5.m.r2
     have lb3 := H5.out.b3
     clear hE5 hK5 m0 m1 m2 e0 e1 e2 e3 e4 e5 e6 e7 e8 e9
     go_upto_region 13 with (refine boxPut_ rfl rfl rfl rfl #[.slice (some ⟨g0', 0, none⟩) 6 d0', .slice (some ⟨g1', 0, none⟩) 6 d1', .slice (some ⟨g2', 0, none⟩) 6 d2'] rfl lb3 rfl (by kernel_rfl) (by simp [Value.oneCell']) ?_; intro w7 hbx hput)
     have HZ := Aside0.mk (H5.out.put hbx hput)
     clear hbx hput lb3 H5
     have lb6 := HZ.out.b6
     have m0 := (Box.cell HZ.out.b3 0 (.slice (some ⟨g0', 0, none⟩) 6 d0') rfl).1
     have m1 := (Box.cell HZ.out.b3 1 (.slice (some ⟨g1', 0, none⟩) 6 d1') rfl).1
     have m2 := (Box.cell HZ.out.b3 2 (.slice (some ⟨g2', 0, none⟩) 6 d2') rfl).1
     by_cases hc1 : r1.2.1 = 0
     ·have hrun := HX.out.2.1
      rw [if_pos hc1] at hrun
      have bc : (r1.2.1 != 0) = false := by simp [hc1]
      have HN := Aside0.mk hrun
      clear hc1 hrun lb6
      go_wp2_with fail
      go_roundg k1
      case measure => have := HR.out.2.2.1; omega
      case rel => exact ⟨j + 1, r1.1, r1.2.2, g0', d0', g1', d1', g2', d2', rfl, congrArg (Value.int .i64) (by rw [wrap_in (by omega) (by have := HI.out.2.2.2.1; have := HX.out.1; omega)]; omega), ⟨HN.out, HX.out.1, by have := HR.out.2.2.1; omega, HX.out.2.2.lo, by have h1 := HX.out.2.2.hi; have h2 := HR.out.2.2.2.2.1; omega, HZ.out⟩⟩
     ·have hrun := HX.out.2.1
      rw [if_neg hc1] at hrun
      injection hrun with hrun
      have bc : (r1.2.1 != 0) = true := by simp [hc1]
      have HF := Aside0.mk hrun
      clear hc1 hrun
      go_wp2_with (refine boxPut_ rfl rfl rfl rfl #[.slice (some ⟨g0', 0, none⟩) 6 d0', .slice (some ⟨g1', 0, none⟩) 6 d1', .slice (some ⟨g2', 0, none⟩) 6 d2'] rfl lb6 rfl (by kernel_rfl) (by simp [Value.oneCell']) ?_; intro w8 hbx hput)
      refine bodyPost_ret (results_ctt rfl _ _ (w.heap.size + 1) 30 #[.slice (some ⟨g0', 0, none⟩) 6 d0', .slice (some ⟨g1', 0, none⟩) 6 d1', .slice (some ⟨g2', 0, none⟩) 6 d2'] (0, 0) _ rfl hbx Tryz.underlying30 rfl (by kernel_rfl)) rfl ?_
      rw [← HF.out]
      exact SpBox.out (r := r1) HZ.out hput
    ·skip
     have b1 : (x.f0 == 1) = false := beq_false_of_ne h1
     have b3 : (x.f0 == 3) = false := beq_false_of_ne h3
     have HQ := Aside0.mk (of_at b' H3.out.1.e.n x.f2 HH.out.1 A7 c7 _ _ _ _ w3 H3.out.1.e.m (Kd.C_below HC.out.1 H3.out.1.e.b) HC.out.2.1)
     go_wp2_with fail
     refine HQ.out.mono ?_
     clear HQ
     rintro e w4 ⟨rfl, hb4⟩
     have H4 := Aside0.mk (show SpBox w0 w w4 _ _ _ _ _ _ _ b' ∧ Box w4 w2.heap.size 35 (stA x A7 c7 A8 c8 A9 c9) from ⟨H3.out.1.below hb4, blk_below H3.out.2 hb4⟩)
     clear hb4 m0 m1 m2 e0 e1 e2 e3 e4 e5 e6 e7 e8 e9
     go_wp2_with fail
     refine (onS_any _ w4).mono ?_
     rintro e w6 ⟨rfl, hb6⟩
     have H6 := Aside0.mk (show SpBox w0 w w6 _ _ _ _ _ _ _ b' ∧ Box w6 w2.heap.size 35 (stA x A7 c7 A8 c8 A9 c9) from ⟨H4.out.1.below hb6, blk_below H4.out.2 hb6⟩)
     clear hb6 H4
     have m0 := (Box.cell H6.out.1.b3 0 (.slice (some ⟨g0, 0, none⟩) 6 d0) rfl).1
     have m1 := (Box.cell H6.out.1.b3 1 (.slice (some ⟨g1, 0, none⟩) 6 d1) rfl).1
     have m2 := (Box.cell H6.out.1.b3 2 (.slice (some ⟨g2, 0, none⟩) 6 d2) rfl).1
     have e0 := (Box.cell H6.out.2 0 (.int .i64 x.f0) rfl).1
     have e1 := (Box.cell H6.out.2 1 (.int .i64 x.f1.f0) rfl).1
     have e2 := (Box.cell H6.out.2 2 (.int .i64 x.f1.f1) rfl).1
     have e3 := (Box.cell H6.out.2 3 (.int .i64 x.f2.f0) rfl).1
     have e4 := (Box.cell H6.out.2 4 (.int .i64 x.f2.f1) rfl).1
     have e5 := (Box.cell H6.out.2 5 (.int .i64 x.f2.f2.f0) rfl).1
     have e6 := (Box.cell H6.out.2 6 (.int .i64 x.f2.f2.f1) rfl).1
     have e7 := (Box.cell H6.out.2 7 (.slice A7 x.f2.f3.length c7) rfl).1
     have e8 := (Box.cell H6.out.2 8 (.slice A8 x.f3.length c8) rfl).1
     have e9 := (Box.cell H6.out.2 9 (.slice A9 x.f4.length c9) rfl).1
     by_cases h0 : evalI b' x.f2 = 0
     ·have b0 : (evalI b' x.f2 != 0) = false := by simp [h0]
      rw [b0]
      have hst := HST.out
      rw [stepR, if_neg h1, if_neg h3, if_pos h0] at hst
      have HS2 := Aside0.mk hst
      clear hst
      have HQ := Aside0.mk (HLO.out _ (Nat.le_refl _) d' x.f4 HH.out.2.2.2 b' f' r1 HS2.out HR.out.2.2.2.1 HR.out.2.2.2.2.1 w0 w6 _ _ _ A9 c9 H6.out.1.e HC.out.2.2.2.2.1 HC.out.2.2.2.2.2)
      clear h0 h1 h3
      go_wp2_with fail
      refine HQ.out.mono ?_
      clear HQ
      rintro e w5 ⟨u0, u1, u2, rfl, hE5, hK5⟩
      have H5 := Aside0.mk (H6.out.1.call hE5 hK5)
      obtain ⟨g0', d0', rfl, _⟩ := own_blk hE5.m.r0
      obtain ⟨g1', d1', rfl, _⟩ := own_blk hE5.m.r1
      obtain ⟨g2', d2', rfl, _⟩ := own_blk hE5.m.r2
      have lb3 := H5.out.b3
      clear hE5 hK5 m0 m1 m2 e0 e1 e2 e3 e4 e5 e6 e7 e8 e9
      go_upto_region 13 with (refine boxPut_ rfl rfl rfl rfl #[.slice (some ⟨g0', 0, none⟩) 6 d0', .slice (some ⟨g1', 0, none⟩) 6 d1', .slice (some ⟨g2', 0, none⟩) 6 d2'] rfl lb3 rfl (by kernel_rfl) (by simp [Value.oneCell']) ?_; intro w7 hbx hput)
      have HZ := Aside0.mk (H5.out.put hbx hput)
      clear hbx hput lb3 H5
      have lb6 := HZ.out.b6
      have m0 := (Box.cell HZ.out.b3 0 (.slice (some ⟨g0', 0, none⟩) 6 d0') rfl).1
      have m1 := (Box.cell HZ.out.b3 1 (.slice (some ⟨g1', 0, none⟩) 6 d1') rfl).1
      have m2 := (Box.cell HZ.out.b3 2 (.slice (some ⟨g2', 0, none⟩) 6 d2') rfl).1
      by_cases hc1 : r1.2.1 = 0
      ·have hrun := HX.out.2.1
       rw [if_pos hc1] at hrun
       have bc : (r1.2.1 != 0) = false := by simp [hc1]
       have HN := Aside0.mk hrun
       clear hc1 hrun lb6
       go_wp2_with fail
       go_roundg k1
       case measure => have := HR.out.2.2.1; omega
       case rel => exact ⟨j + 1, r1.1, r1.2.2, g0', d0', g1', d1', g2', d2', rfl, congrArg (Value.int .i64) (by rw [wrap_in (by omega) (by have := HI.out.2.2.2.1; have := HX.out.1; omega)]; omega), ⟨HN.out, HX.out.1, by have := HR.out.2.2.1; omega, HX.out.2.2.lo, by have h1 := HX.out.2.2.hi; have h2 := HR.out.2.2.2.2.1; omega, HZ.out⟩⟩
      ·have hrun := HX.out.2.1
       rw [if_neg hc1] at hrun
       injection hrun with hrun
       have bc : (r1.2.1 != 0) = true := by simp [hc1]
       have HF := Aside0.mk hrun
       clear hc1 hrun
       go_wp2_with (refine boxPut_ rfl rfl rfl rfl #[.slice (some ⟨g0', 0, none⟩) 6 d0', .slice (some ⟨g1', 0, none⟩) 6 d1', .slice (some ⟨g2', 0, none⟩) 6 d2'] rfl lb6 rfl (by kernel_rfl) (by simp [Value.oneCell']) ?_; intro w8 hbx hput)
       refine bodyPost_ret (results_ctt rfl _ _ (w.heap.size + 1) 30 #[.slice (some ⟨g0', 0, none⟩) 6 d0', .slice (some ⟨g1', 0, none⟩) 6 d1', .slice (some ⟨g2', 0, none⟩) 6 d2'] (0, 0) _ rfl hbx Tryz.underlying30 rfl (by kernel_rfl)) rfl ?_
       rw [← HF.out]
       exact SpBox.out (r := r1) HZ.out hput
     ·have b0 : (evalI b' x.f2 != 0) = true := by simp [h0]
      rw [b0]
      have hst := HST.out
      rw [stepR, if_neg h1, if_neg h3, if_neg h0] at hst
      have HS2 := Aside0.mk hst
      clear hst
      have HQ := Aside0.mk (HLO.out _ (Nat.le_refl _) d' x.f3 HH.out.2.2.1 b' f' r1 HS2.out HR.out.2.2.2.1 HR.out.2.2.2.2.1 w0 w6 _ _ _ A8 c8 H6.out.1.e HC.out.2.2.1 HC.out.2.2.2.1)
      clear h0 h1 h3
      go_wp2_with fail
      refine HQ.out.mono ?_
      clear HQ
      rintro e w5 ⟨u0, u1, u2, rfl, hE5, hK5⟩
      have H5 := Aside0.mk (H6.out.1.call hE5 hK5)
      obtain ⟨g0', d0', rfl, _⟩ := own_blk hE5.m.r0
      obtain ⟨g1', d1', rfl, _⟩ := own_blk hE5.m.r1
      obtain ⟨g2', d2', rfl, _⟩ := own_blk hE5.m.r2
      have lb3 := H5.out.b3
      clear hE5 hK5 m0 m1 m2 e0 e1 e2 e3 e4 e5 e6 e7 e8 e9
      go_upto_region 13 with (refine boxPut_ rfl rfl rfl rfl #[.slice (some ⟨g0', 0, none⟩) 6 d0', .slice (some ⟨g1', 0, none⟩) 6 d1', .slice (some ⟨g2', 0, none⟩) 6 d2'] rfl lb3 rfl (by kernel_rfl) (by simp [Value.oneCell']) ?_; intro w7 hbx hput)
      have HZ := Aside0.mk (H5.out.put hbx hput)
      clear hbx hput lb3 H5
      have lb6 := HZ.out.b6
      have m0 := (Box.cell HZ.out.b3 0 (.slice (some ⟨g0', 0, none⟩) 6 d0') rfl).1
      have m1 := (Box.cell HZ.out.b3 1 (.slice (some ⟨g1', 0, none⟩) 6 d1') rfl).1
      have m2 := (Box.cell HZ.out.b3 2 (.slice (some ⟨g2', 0, none⟩) 6 d2') rfl).1
      by_cases hc1 : r1.2.1 = 0
      ·have hrun := HX.out.2.1
       rw [if_pos hc1] at hrun
       have bc : (r1.2.1 != 0) = false := by simp [hc1]
       have HN := Aside0.mk hrun
       clear hc1 hrun lb6
       go_wp2_with fail
       go_roundg k1
       case measure => have := HR.out.2.2.1; omega
       case rel => exact ⟨j + 1, r1.1, r1.2.2, g0', d0', g1', d1', g2', d2', rfl, congrArg (Value.int .i64) (by rw [wrap_in (by omega) (by have := HI.out.2.2.2.1; have := HX.out.1; omega)]; omega), ⟨HN.out, HX.out.1, by have := HR.out.2.2.1; omega, HX.out.2.2.lo, by have h1 := HX.out.2.2.hi; have h2 := HR.out.2.2.2.2.1; omega, HZ.out⟩⟩
      ·have hrun := HX.out.2.1
       rw [if_neg hc1] at hrun
       injection hrun with hrun
       have bc : (r1.2.1 != 0) = true := by simp [hc1]
       have HF := Aside0.mk hrun
       clear hc1 hrun
       go_wp2_with (refine boxPut_ rfl rfl rfl rfl #[.slice (some ⟨g0', 0, none⟩) 6 d0', .slice (some ⟨g1', 0, none⟩) 6 d1', .slice (some ⟨g2', 0, none⟩) 6 d2'] rfl lb6 rfl (by kernel_rfl) (by simp [Value.oneCell']) ?_; intro w8 hbx hput)
       refine bodyPost_ret (results_ctt rfl _ _ (w.heap.size + 1) 30 #[.slice (some ⟨g0', 0, none⟩) 6 d0', .slice (some ⟨g1', 0, none⟩) 6 d1', .slice (some ⟨g2', 0, none⟩) 6 d2'] (0, 0) _ rfl hbx Tryz.underlying30 rfl (by kernel_rfl)) rfl ?_
       rw [← HF.out]
       exact SpBox.out (r := r1) HZ.out hput
  ·have hjl : l.drop j = [] := List.drop_of_length_le (by omega)
   have hrun := HR.out.1
   rw [hjl, runL_nil] at hrun
   injection hrun with hrun
   have HF := Aside0.mk hrun
   have lb6 := HR.out.2.2.2.2.2.b6
   have m0 := (Box.cell HR.out.2.2.2.2.2.b3 0 (.slice (some ⟨g0, 0, none⟩) 6 d0) rfl).1
   have m1 := (Box.cell HR.out.2.2.2.2.2.b3 1 (.slice (some ⟨g1, 0, none⟩) 6 d1) rfl).1
   have m2 := (Box.cell HR.out.2.2.2.2.2.b3 2 (.slice (some ⟨g2, 0, none⟩) 6 d2) rfl).1
   clear hjl hrun
   go_wp2_with (refine boxPut_ rfl rfl rfl rfl #[.slice (some ⟨g0, 0, none⟩) 6 d0, .slice (some ⟨g1, 0, none⟩) 6 d1, .slice (some ⟨g2, 0, none⟩) 6 d2] rfl lb6 rfl (by kernel_rfl) (by simp [Value.oneCell']) ?_; intro w8 hbx hput)
   refine bodyPost_ret (results_ctt rfl _ _ (w.heap.size + 1) 30 #[.slice (some ⟨g0, 0, none⟩) 6 d0, .slice (some ⟨g1, 0, none⟩) 6 d1, .slice (some ⟨g2, 0, none⟩) 6 d2] (0, 0) _ rfl hbx Tryz.underlying30 rfl (by kernel_rfl)) rfl ?_
   rw [← HF.out]
   exact SpBox.out (r := (b', 0, f')) HR.out.2.2.2.2.2 hput
end Go.Proofs.YtendbgedpjcocaaGreatDoor.B
/- spec.StmtsRun says what impl.StmtsRun says. -/
namespace Go.Proofs.YtendbgedpjcocaaGreatDoor.B
open Go Go.RowKit Go.Shelf Go.Proofs.YtendbgedpjcocaaGreatDoorW.PrintWords Go.Proofs.YtendbgedpjcocaaGreatDoorW.PrintLast Go.Proofs.YtendbgedpjcocaaGreatDoorW.PrintMore
set_option linter.unusedVariables false
/-- Statements that the specification's own StmtsOk comes to an end of. -/
def StFit (l : List St) : Prop := manyT 4 l ≤ 1048576 ∧ ∀ s ∈ l, istOk s
theorem stOkS_any (l : List St) (hl : StFit l) (A : Option Addr) (c : Nat) (w : World) (hC : Kd.C stK w A l.length l) (hc : l.length ≤ c) : Calls Tryz.prog 16 #[.slice A l.length c] w fun e w' => e = .returned (.bool (stOkL l)) ∧ Below w.heap.size w w' := by
 obtain ⟨K, hK⟩ := spec_stOk l hl.1 hl.2
 exact spec_StmtsOk.calls K A c l _ w hC hc (hK K (Nat.le_refl _))
theorem mOk_len {m : Mem3} (h : mOk m = true) : m.1.length = 6 ∧ m.2.1.length = 6 ∧ m.2.2.length = 6 := by
 unfold mOk memOkL at h
 simp only [Bool.and_eq_true] at h
 exact ⟨listOk_len h.1, listOk_len h.2.1, listOk_len h.2.2⟩
set_option maxRecDepth 100000 in
set_option maxHeartbeats 8000000 in
theorem spRun_any (m : Mem3) (hm : Mini m.1 m.2.1 m.2.2) (l : List St) (hl : StFit l) (f : Int) (p : Caps3) (A : Option Addr) (c : Nat) (w : World) (hM : MV w m p) (hC : Kd.C stK w A l.length l) (hc : l.length ≤ c) :
  Calls Tryz.prog 12 #[.agg (mA m p), .slice A l.length c, .int .i64 f] w fun e w' => ∃ q : Caps3, e = .returned (.tuple #[.agg (mA (stRunV m l f).1 q), .int .i64 (stRunV m l f).2.1, .int .i64 (stRunV m l f).2.2]) ∧ MV w' (stRunV m l f).1 q ∧ Below w.heap.size w w' := by
 obtain ⟨w1, hw1⟩ : ∃ W, W = (w.alloc (.cells (mA m p) 30 (0, 0))).alloc (.cells #[.slice none 0 0, .slice none 0 0, .slice none 0 0] 30 (0, 0)) := ⟨_, rfl⟩
 obtain ⟨hs, k1, k2, hB⟩ := two_blocks' w (.cells (mA m p) 30 (0, 0)) (.cells #[.slice none 0 0, .slice none 0 0, .slice none 0 0] 30 (0, 0))
 rw [← hw1] at hs k1 k2 hB
 have H1 := Aside0.mk (show Box w1 w.heap.size 30 (mA m p) ∧ Box w1 (w.heap.size + 1) 30 mZ ∧ Below w.heap.size w w1 ∧ MV w m p ∧ Kd.C stK w A l.length l ∧ l.length ≤ c from ⟨k1, k2, hB, hM, hC, hc⟩)
 clear hs k1 k2 hB hM hC hc
 unfold mA at hw1
 unfold mA
 obtain ⟨V, hV⟩ : ∃ V, V = stRunV m l f := ⟨_, rfl⟩
 rw [← hV]
 have HV0 := Aside0.mk hV
 clear hV
 have leave : ∀ W : World, Below w.heap.size w W → runOk m l f = false → ∃ q : Caps3, (Ending.returned (.tuple #[.agg mZ, .int .i64 2, .int .i64 0])) = .returned (.tuple #[.agg (mA V.1 q), .int .i64 V.2.1, .int .i64 V.2.2]) ∧ MV W V.1 q ∧ Below w.heap.size w W := by
  intro W hW h
  have e : V = (([], [], []), 2, 0) := by rw [HV0.out, stRunV, h]; rfl
  rw [e]
  exact ⟨((none, 0), (none, 0), (none, 0)), rfl, mV_none W, hW⟩
 have HL := Aside0.mk leave
 clear leave
 go_enter Tryz.func12, Tryz.ntmps12
 go_upto_region 1 with fail
 rw [← hw1]
 clear hw1
 have lb0 := H1.out.1
 go_wp2_with ((with_reducible refine gate_dst (N := 9) rfl ?_); refine getM_ rfl rfl rfl rfl lb0 ?_)
 clear lb0
 obtain ⟨b1, hb1⟩ : ∃ b, b = mOk m := ⟨_, rfl⟩
 refine (specMem_any m hm p w1 (MV.last _ _ _ _ H1.out.2.2.1 H1.out.2.2.2.1)).mono ?_
 rw [← hb1]
 rintro e w2 ⟨rfl, hb2⟩
 have B1 := Aside0.mk hb1
 have H2 := Aside0.mk (show Box w2 w.heap.size 30 (mA m p) ∧ Box w2 (w.heap.size + 1) 30 mZ ∧ Below w.heap.size w w2 from ⟨blk_below H1.out.1 hb2, blk_below H1.out.2.1 hb2, H1.out.2.2.1.trans (hb2.mono H1.out.2.2.1.size)⟩)
 clear hb2 hb1
 have lb := H2.out.2.1
 cases b1 with
 | false =>
  have HV := Aside0.mk (show runOk m l f = false by unfold runOk; rw [← B1.out]; rfl)
  go_wp2_with (refine boxPut_ rfl rfl rfl rfl mZ rfl lb rfl (by kernel_rfl) (by simp [mZ, Value.oneCell']) ?_; intro w4 hbx hput)
  refine bodyPost_ret (results_ctt rfl _ _ (w.heap.size + 1) 30 mZ (0, 0) _ rfl hbx Tryz.underlying30 rfl (by kernel_rfl)) rfl ?_
  exact HL.out w4 (hput.below H2.out.2.2 (Nat.le_succ _)) HV.out
 | true =>
  clear lb
  go_wp2_with fail
  refine (stOkS_any l hl A c w2 (Kd.C_below H1.out.2.2.2.2.1 H2.out.2.2) H1.out.2.2.2.2.2).mono ?_
  rintro e w3 ⟨rfl, hb3⟩
  have H3 := Aside0.mk (show Box w3 w.heap.size 30 (mA m p) ∧ Box w3 (w.heap.size + 1) 30 mZ ∧ Below w.heap.size w w3 from ⟨blk_below H2.out.1 hb3, blk_below H2.out.2.1 hb3, H2.out.2.2.trans (hb3.mono H2.out.2.2.size)⟩)
  clear hb3
  obtain ⟨ok, hok⟩ : ∃ ok, ok = stOkL l := ⟨_, rfl⟩
  rw [← hok]
  have HO := Aside0.mk hok
  clear hok
  have lb := H3.out.2.1
  cases ok with
  | false =>
   have HV := Aside0.mk (show runOk m l f = false by unfold runOk; rw [← HO.out]; simp)
   go_wp2_with (refine boxPut_ rfl rfl rfl rfl mZ rfl lb rfl (by kernel_rfl) (by simp [mZ, Value.oneCell']) ?_; intro w4 hbx hput)
   refine bodyPost_ret (results_ctt rfl _ _ (w.heap.size + 1) 30 mZ (0, 0) _ rfl hbx Tryz.underlying30 rfl (by kernel_rfl)) rfl ?_
   exact HL.out w4 (hput.below H3.out.2.2 (Nat.le_succ _)) HV.out
  | true =>
   by_cases h0 : f < 0
   ·have HV := Aside0.mk (show runOk m l f = false by unfold runOk; rw [decide_eq_false (by omega : ¬ (0 ≤ f ∧ f ≤ 100))]; simp)
    have b0 : decide (f < 0) = true := decide_eq_true h0
    go_wp2_with (refine boxPut_ rfl rfl rfl rfl mZ rfl lb rfl (by kernel_rfl) (by simp [mZ, Value.oneCell']) ?_; intro w4 hbx hput)
    refine bodyPost_ret (results_ctt rfl _ _ (w.heap.size + 1) 30 mZ (0, 0) _ rfl hbx Tryz.underlying30 rfl (by kernel_rfl)) rfl ?_
    exact HL.out w4 (hput.below H3.out.2.2 (Nat.le_succ _)) HV.out
   have b0 : decide (f < 0) = false := decide_eq_false h0
   by_cases h1 : 100 < f
   ·have HV := Aside0.mk (show runOk m l f = false by unfold runOk; rw [decide_eq_false (by omega : ¬ (0 ≤ f ∧ f ≤ 100))]; simp)
    have b1 : decide (100 < f) = true := decide_eq_true h1
    go_wp2_with (refine boxPut_ rfl rfl rfl rfl mZ rfl lb rfl (by kernel_rfl) (by simp [mZ, Value.oneCell']) ?_; intro w4 hbx hput)
    refine bodyPost_ret (results_ctt rfl _ _ (w.heap.size + 1) 30 mZ (0, 0) _ rfl hbx Tryz.underlying30 rfl (by kernel_rfl)) rfl ?_
    exact HL.out w4 (hput.below H3.out.2.2 (Nat.le_succ _)) HV.out
   have b1 : decide (100 < f) = false := decide_eq_false h1
   have hok : runOk m l f = true := by
    unfold runOk
    rw [← B1.out, ← HO.out, decide_eq_true (by omega : 0 ≤ f ∧ f ≤ 100)]; rfl
   obtain ⟨n0, n1, n2⟩ := mOk_len B1.out.symm
   obtain ⟨⟨kk, hk⟩, hF⟩ := runR_run HO.out.symm (m.1 ++ m.2.1 ++ m.2.2) (show 0 ≤ f by omega)
   obtain ⟨r, hr⟩ : ∃ r, r = runR (m.1 ++ m.2.1 ++ m.2.2) l f := ⟨_, rfl⟩
   have he : V = (cut3 r.1, r.2.1, r.2.2) := by rw [HV0.out, stRunV, hok, hr]; rfl
   rw [← hr] at hk hF
   have HVV := Aside0.mk he
   have HF := Aside0.mk (And.intro hk (And.intro (show 0 ≤ f by omega) (And.intro (show f ≤ 100 by omega) (show (m.1 ++ m.2.1 ++ m.2.2).length = 18 by simp only [List.length_append]; omega))))
   have HFO := Aside0.mk (stOk_form HO.out.symm)
   have HN := Aside0.mk (And.intro n0 (And.intro n1 n2))
   have lb0 := H3.out.1
   clear hok hk hF hr he h0 h1 lb HL n0 n1 n2
   go_wp2_with ((with_reducible refine gate_dst (N := 26) rfl ?_); refine getM_ rfl rfl rfl rfl lb0 ?_)
   clear lb0
   refine (copy_at m p HN.out.1 HN.out.2.1 HN.out.2.2 w3 (MV.last _ _ _ _ H3.out.2.2 H1.out.2.2.2.1)).mono ?_
   rintro e w4 ⟨u0, u1, u2, rfl, hR4, hb4⟩
   have hB4 : Below w.heap.size w w4 := H3.out.2.2.trans (hb4.mono H3.out.2.2.size)
   have H4 := Aside0.mk (show Box w4 (w.heap.size + 1) 30 mZ ∧ SpEnv w w4 u0 u1 u2 (m.1 ++ m.2.1 ++ m.2.2) from ⟨blk_below H3.out.2.1 hb4, ⟨hR4.weaken H3.out.2.2.size, hB4, HF.out.2.2.2⟩⟩)
   have HA := Aside0.mk (sp_con kk 4 l HFO.out (m.1 ++ m.2.1 ++ m.2.2) f r HF.out.1 HF.out.2.1 HF.out.2.2.1 w w4 u0 u1 u2 A c H4.out.2 H1.out.2.2.2.2.1 H1.out.2.2.2.2.2)
   clear hR4 hb4 hB4
   go_wp2_with fail
   refine HA.out.mono ?_
   clear HA
   rintro e w5 ⟨z0, z1, z2, rfl, hE5, hK5⟩
   obtain ⟨g0, d0, rfl, _⟩ := own_blk hE5.m.r0
   obtain ⟨g1, d1, rfl, _⟩ := own_blk hE5.m.r1
   obtain ⟨g2, d2, rfl, _⟩ := own_blk hE5.m.r2
   have lb := hK5.keep _ _ _ (by decide) H4.out.1
   have H5 := Aside0.mk hE5
   clear hE5 hK5
   go_wp2_with (refine boxPut_ rfl rfl rfl rfl #[.slice (some ⟨g0, 0, none⟩) 6 d0, .slice (some ⟨g1, 0, none⟩) 6 d1, .slice (some ⟨g2, 0, none⟩) 6 d2] rfl lb rfl (by kernel_rfl) (by simp [Value.oneCell']) ?_; intro w7 hbx hput)
   refine bodyPost_ret (results_ctt rfl _ _ (w.heap.size + 1) 30 #[.slice (some ⟨g0, 0, none⟩) 6 d0, .slice (some ⟨g1, 0, none⟩) 6 d1, .slice (some ⟨g2, 0, none⟩) 6 d2] (0, 0) _ rfl hbx Tryz.underlying30 rfl (by kernel_rfl)) rfl ?_
   obtain ⟨q, hq, hMV⟩ := MV.ofRows H5.out.n (H5.out.m.put1 lb (by decide) hput)
   rw [HVV.out, hq]
   exact ⟨q, rfl, hMV, hput.below H5.out.b (Nat.le_succ _)⟩
end Go.Proofs.YtendbgedpjcocaaGreatDoor.B
/- The run group's words: memories told apart, a number put, the draws, statements as they are read. -/
namespace Go.Proofs.YtendbgedpjcocaaGreatDoor.B
open Go Go.RowKit Go.Shelf Go.Proofs.YtendbgedpjcocaaGreatDoorW.PrintWords Go.Proofs.YtendbgedpjcocaaGreatDoorW.PrintLast Go.Proofs.YtendbgedpjcocaaGreatDoorW.PrintMore
set_option linter.unusedVariables false
theorem eqL_loop (a b : List Int) (h : a.length = b.length) (hl : a.length ≤ 1000) : ∀ (n j : Nat), n + j = a.length → ∃ K, ∀ k, K ≤ k → slices_Equal_int_int.l0 k a b (a.length : Int) (j : Int) = some (decide (a.drop j = b.drop j)) := by
 intro n
 induction n with
 | zero =>
  intro j hj
  refine ⟨1, fun k hk => ?_⟩
  obtain ⟨k', rfl⟩ : ∃ k', k = k' + 1 := ⟨k - 1, by omega⟩
  rw [slices_Equal_int_int.l0, if_neg (by omega), List.drop_eq_nil_of_le (by omega), List.drop_eq_nil_of_le (by omega)]
  simp
 | succ n ih =>
  intro j hj
  obtain ⟨K, hK⟩ := ih (j + 1) (by omega)
  refine ⟨K + 1, fun k hk => ?_⟩
  obtain ⟨k', rfl⟩ : ∃ k', k = k' + 1 := ⟨k - 1, by omega⟩
  have h1 : j < a.length := by omega
  have h2 : j < b.length := by omega
  have := hK k' (by omega)
  rw [slices_Equal_int_int.l0, if_pos (by omega), if_pos (by omega), if_pos (by omega), if_pos (by omega), show wrap64 ((j : Int) + 1) = ((j + 1 : Nat) : Int) by unfold wrap64; omega, this]
  rw [List.drop_eq_getElem_cons h1, List.drop_eq_getElem_cons h2]
  have e1 : rd a (j : Int) = a[j] := by simp [rd, h1]
  have e2 : rd b (j : Int) = b[j] := by simp [rd, h2]
  rw [e1, e2]
  by_cases he : a[j] = b[j]
  ·rw [if_pos he]
   congr 1
   rw [decide_eq_decide]
   exact ⟨fun h' => by rw [he, h'], fun h' => (List.cons.inj h').2⟩
  ·rw [if_neg he]
   congr 1
   symm
   rw [decide_eq_false_iff_not]
   intro h'
   exact he (List.cons.inj h').1
theorem eqL_ends (a b : List Int) (hl : a.length ≤ 1000) : ∃ K, ∀ k, K ≤ k → slices_Equal_int_int.f k a b = some (decide (a = b)) := by
 by_cases h : a.length = b.length
 ·obtain ⟨K, hK⟩ := eqL_loop a b h hl a.length 0 (by omega)
  refine ⟨K, fun k hk => ?_⟩
  rw [slices_Equal_int_int.f, if_pos (by omega)]
  have := hK k hk
  simpa using this
 ·refine ⟨0, fun k _ => ?_⟩
  rw [slices_Equal_int_int.f, if_neg (by omega)]
  congr 1
  symm
  rw [decide_eq_false_iff_not]
  rintro rfl
  exact h rfl
/-- Two memories are the same. -/
def sameV (m n : Mem3) : Bool := decide (m.1 = n.1) && (decide (m.2.1 = n.2.1) && decide (m.2.2 = n.2.2))
theorem sameV_refl (m : Mem3) : sameV m m = true := by simp [sameV]
def ShortM (m : Mem3) : Prop := m.1.length ≤ 1000 ∧ m.2.1.length ≤ 1000 ∧ m.2.2.length ≤ 1000
theorem same_any (m n : Mem3) (hs : ShortM m) (p q : Caps3) (w : World) (hm : MV w m p) (hn : MV w n q) : Calls Tryz.prog 14 #[.agg (mA m p), .agg (mA n q)] w fun e w' => e = .returned (.bool (sameV m n)) ∧ Below w.heap.size w w' := by
 obtain ⟨K0, h0⟩ := eqL_ends m.1 n.1 hs.1
 obtain ⟨K1, h1⟩ := eqL_ends m.2.1 n.2.1 hs.2.1
 obtain ⟨K2, h2⟩ := eqL_ends m.2.2 n.2.2 hs.2.2
 refine impl_MemSame.calls (K0 + K1 + K2) _ _ m.1 _ _ m.2.1 _ _ m.2.2 _ _ n.1 _ _ n.2.1 _ _ n.2.2 (sameV m n) w hm.c0 hm.l0 hm.c1 hm.l1 hm.c2 hm.l2 hn.c0 hn.l0 hn.c1 hn.l1 hn.c2 hn.l2 ?_
 rw [impl_MemSame.f, h0 _ (by omega), h1 _ (by omega), h2 _ (by omega)]
 unfold sameV
 by_cases e0 : m.1 = n.1 <;> by_cases e1 : m.2.1 = n.2.1 <;> simp [e0, e1]
/-- A list of statements as a value that is only read. -/
structure LV (W : World) (l : List St) (A : Option Addr) (c : Nat) : Prop where
 v : Kd.V stK 35 W 0 (fun _ => True) (.slice A l.length c) l
theorem LV.last (l : List St) (A : Option Addr) (c : Nat) : Lasts fun W => LV W l A c := fun _ _ hb h => ⟨Kd.V_below h.v hb⟩
theorem LV.reads {W : World} {l : List St} {A : Option Addr} {c : Nat} (h : LV W l A c) : l.length ≤ c ∧ Kd.C stK W A l.length l := (Kd.V_reads' h.v).2
end Go.Proofs.YtendbgedpjcocaaGreatDoor.B
/- What is drawn, told by its size alone: the reader, and a budget for its place. -/
namespace Go.Proofs.YtendbgedpjcocaaGreatDoor.B
open Go Go.RowKit Go.Shelf Go.Proofs.YtendbgedpjcocaaGreatDoorW.PrintWords Go.Proofs.YtendbgedpjcocaaGreatDoorW.PrintLast Go.Proofs.YtendbgedpjcocaaGreatDoorW.PrintMore
set_option linter.unusedVariables false
/-- The reader at block g, with N steps at least left; elder blocks of wb are as they were but for it. -/
structure At (w0 wb : World) (g : Nat) (s : List Int) (N : Nat) (W : World) : Prop where
 q : ∃ q : Int, 0 ≤ q ∧ q + N ≤ 1099000000000 ∧ IsS93 w0 W g s q
 b : Below w0.heap.size w0 W
 k : KeepBut wb W g none
 lt : g < wb.heap.size
 by_ : Bytes s
 sl : s.length ≤ 2000
section
variable {w0 wb W W' : World} {g N M c : Nat} {s : List Int}
theorem At.below (h : At w0 wb g s N W) (hb : Below W.heap.size W W') : At w0 wb g s N W' := by
 obtain ⟨q, q0, q1, hq⟩ := h.q
 exact ⟨⟨q, q0, q1, hq.below hb⟩, h.b.trans (hb.mono h.b.size), h.k.trans (KeepBut.of_below hb g none) (.inl rfl), h.lt, h.by_, h.sl⟩
theorem At.low (h : At w0 wb g s N W) (hb : Below wb.heap.size W W') : At w0 wb g s N W' := by
 obtain ⟨q, q0, q1, A, c, h1, h2, h3⟩ := h.q
 exact ⟨⟨q, q0, q1, A, c, (hb.block g h.lt).trans h1, h2, h3⟩, h.b.trans (hb.mono (Nat.le_of_lt (Nat.lt_of_le_of_lt h2 h.lt))), ⟨Nat.le_trans h.k.1 hb.size, fun i hi hg hr => (hb.block i hi).trans (h.k.2 i hi hg hr)⟩, h.lt, h.by_, h.sl⟩
theorem At.less (h : At w0 wb g s N W) (hn : M ≤ N) : At w0 wb g s M W := by
 obtain ⟨q, q0, q1, hq⟩ := h.q
 exact ⟨⟨q, q0, by omega, hq⟩, h.b, h.k, h.lt, h.by_, h.sl⟩
theorem At.here (h : At w0 wb g s N W) : At w0 W g s N W := ⟨h.q, h.b, KeepBut.refl W g none, Nat.lt_of_lt_of_le h.lt h.k.1, h.by_, h.sl⟩
/-- Back to the elder world. -/
theorem At.over (h : At w0 W g s N W') (k : At w0 wb g s M W) : At w0 wb g s N W' := ⟨h.q, h.b, k.k.trans h.k (.inl rfl), k.lt, h.by_, h.sl⟩
theorem At.after (h : At w0 wb g s (N + c) W) {q p : Int} (hq : 0 ≤ q) (hn : q + (N + c : Nat) ≤ 1099000000000) (hp : q ≤ p) (hpc : p ≤ q + c) (hi : IsS93 w0 W' g s p) (hb : Below w0.heap.size w0 W') (hk : KeepBut W W' g none) : At w0 wb g s N W' :=
 ⟨⟨p, by omega, by omega, hi⟩, hb, h.k.trans hk (.inl rfl), h.lt, h.by_, h.sl⟩
theorem At.put1 (h : At w0 wb g s N W) {b : Nat} (hp : Put1 b W W') (hbg : wb.heap.size ≤ b) : At w0 wb g s N W' := by
 obtain ⟨q, q0, q1, A, c, h1, h2, h3⟩ := h.q
 have hw : w0.heap.size ≤ wb.heap.size := Nat.le_of_lt (Nat.lt_of_le_of_lt h2 h.lt)
 exact ⟨⟨q, q0, q1, A, c, (hp.far g (by have := h.lt; omega)).trans h1, h2, h3⟩, hp.below h.b (by omega), ⟨by rw [hp.size]; exact h.k.1, fun i hi hg hr => (hp.far i (by omega)).trans (h.k.2 i hi hg hr)⟩, h.lt, h.by_, h.sl⟩
theorem At.lt' (h : At w0 wb g s N W) : g < W.heap.size := Nat.lt_of_lt_of_le h.lt h.k.1
theorem At.fresh (h : At w0 wb g s N W) : ∀ k, wb.heap.size ≤ k → k ≠ g := fun k hk => by have := h.lt; omega
theorem kb_below (hb : Below W.heap.size W W') : KeepBut W W' g none := KeepBut.of_below hb g none
theorem Box.keep {T : TypeId} {cs : Array Value} {b : Nat} (h : Box W b T cs) (hk : KeepBut W W' g none) (hb : b ≠ g) : Box W' b T cs := hk.blk h hb (by simp)
theorem TVo.keep {ok : Nat → Prop} {x : Ex} {A : Option Addr} {d : Nat} (h : TVo W ok x A d) (hk : KeepBut W W' g none) (hok : ∀ k, ok k → k ≠ g) : TVo W' ok x A d := ⟨Kd.V_keep h.v hk hok⟩
theorem TVo.mono {ok ok' : Nat → Prop} {x : Ex} {A : Option Addr} {d : Nat} (h : TVo W ok x A d) (hok : ∀ k, ok k → ok' k) : TVo W ok' x A d := ⟨Kd.V_mono h.v hok⟩
/-- A list of statements, read alone. -/
structure LVo (W : World) (ok : Nat → Prop) (l : List St) (A : Option Addr) (d : Nat) : Prop where
 v : Kd.V stK 35 W 0 ok (.slice A l.length d) l
theorem LVo.keep {ok : Nat → Prop} {l : List St} {A : Option Addr} {d : Nat} (h : LVo W ok l A d) (hk : KeepBut W W' g none) (hok : ∀ k, ok k → k ≠ g) : LVo W' ok l A d := ⟨Kd.V_keep h.v hk hok⟩
theorem LVo.mono {ok ok' : Nat → Prop} {l : List St} {A : Option Addr} {d : Nat} (h : LVo W ok l A d) (hok : ∀ k, ok k → ok' k) : LVo W ok' l A d := ⟨Kd.V_mono h.v hok⟩
theorem LVo.nil (W : World) (ok : Nat → Prop) : LVo W ok [] none 0 := ⟨Kd.V_nil _ _ _ _ _⟩
theorem LVo.reads {ok : Nat → Prop} {l : List St} {A : Option Addr} {d : Nat} (h : LVo W ok l A d) : l.length ≤ d ∧ Kd.C stK W A l.length l := (Kd.V_reads' h.v).2
theorem stLitO_F (k a b : Int) (x : Ex) (B : Option Addr) (d : Nat) (l3 : List St) (A3 : Option Addr) (c3 : Nat) (l4 : List St) (A4 : Option Addr) (c4 : Nat) (W : World) (ok : Nat → Prop) (h : TVo W ok x B d) (h3 : LVo W ok l3 A3 c3) (h4 : LVo W ok l4 A4 c4) :
  Kd.FK stK W ok (⟨k, ⟨a, b⟩, x, l3, l4⟩ : St) [.int .i64 k, .int .i64 a, .int .i64 b, .int .i64 x.f0, .int .i64 x.f1, .int .i64 x.f2.f0, .int .i64 x.f2.f1, .slice B x.f3.length d, .slice A3 l3.length c3, .slice A4 l4.length c4] :=
 k35_mkF W _ (⟨k, ⟨a, b⟩, x, l3, l4⟩ : St) h.reads.1 (Kd.V_F h.v) h3.reads.1 (Kd.V_F h3.v) h4.reads.1 (Kd.V_F h4.v)
theorem pick_dr (h : At w0 wb g s (N + 1) W) (n : Int) (h1 : 1 ≤ n) (h2 : n < 2147483648) : Calls Tryz.prog 61 #[.pointer (some ⟨g, 0, none⟩), .int .i64 n] W fun e W' => ∃ r, e = .returned (.int .i64 r) ∧ 0 ≤ r ∧ r < n ∧ At w0 wb g s N W' ∧ KeepBut W W' g none := by
 obtain ⟨q, q0, q1, hq⟩ := h.q
 obtain ⟨r, r0, r1, hr⟩ := pick_total s h.by_ h.sl q n q0 (by omega) h1 h2
 refine (spec_l12Rd_pick.calls 1 g s q n r (q + 1) w0 W hq h.b (hr 0)).mono ?_
 rintro e W' ⟨rfl, hi, hb, hk⟩
 exact ⟨r, rfl, r0, r1, h.after q0 q1 (by omega) (by omega) hi hb hk, hk⟩
theorem num_dr (h : At w0 wb g s (N + 1) W) (l : List Int) (h1 : 1 ≤ l.length) (h2 : l.length < 1000) (A : Option Addr) (d : Nat) (hC : Kd.C (Kd.int .i64) W A l.length l) (hd : l.length ≤ d) (hA : ∀ ad, A = some ad → 0 < l.length → ad.block ≠ g) :
  Calls Tryz.prog 51 #[.pointer (some ⟨g, 0, none⟩), .slice A l.length d] W fun e W' => ∃ r, e = .returned (.int .i64 r) ∧ r ∈ l ∧ At w0 wb g s N W' ∧ KeepBut W W' g none := by
 obtain ⟨q, q0, q1, hq⟩ := h.q
 obtain ⟨r, r0, hr⟩ := num_total s h.by_ h.sl q q0 (by omega) l h1 h2
 refine (spec_l12Rd_num.calls 1 g s q A d l r (q + 1) w0 W hq h.b hC hd hA (hr 0)).mono ?_
 rintro e W' ⟨rfl, hi, hb, hk⟩
 exact ⟨r, rfl, r0, h.after q0 q1 (by omega) (by omega) hi hb hk, hk⟩
theorem to_dr (h : At w0 wb g s (N + 2) W) : Calls Tryz.prog 84 #[.pointer (some ⟨g, 0, none⟩)] W fun e W' => ∃ a b, e = .returned (.agg #[.int .i64 a, .int .i64 b]) ∧ At w0 wb g s N W' ∧ KeepBut W W' g none := by
 obtain ⟨q, q0, q1, hq⟩ := h.q
 obtain ⟨r, r0, r1, hr⟩ := pick_total s h.by_ h.sl q 2 q0 (by omega) (by omega) (by omega)
 obtain ⟨t, t0, t1, ht⟩ := pick_total s h.by_ h.sl (q + 1) 3 (by omega) (by omega) (by omega) (by omega)
 refine (spec_l2To.calls 1 g s q (wrap64 (2 + r)) t (q + 1 + 1) w0 W hq h.b ?_).mono ?_
 ·rw [spec_l2To.f, hr 0]
  simp only [Option.bind_some]
  rw [ht 0]; rfl
 rintro e W' ⟨rfl, hi, hb, hk⟩
 exact ⟨_, _, rfl, h.after q0 q1 (by omega) (by omega) hi hb hk, hk⟩
theorem addrBent_dr' (h : At w0 wb g s (N + 10) W) : Calls Tryz.prog 42 #[.pointer (some ⟨g, 0, none⟩)] W fun e W' => ∃ a b, e = .returned (.agg #[.int .i64 a, .int .i64 b]) ∧ At w0 wb g s N W' ∧ KeepBut W W' g none := by
 obtain ⟨q, q0, q1, hq⟩ := h.q
 obtain ⟨a, b, p, p0, p1, hr⟩ := addrBent_total s h.by_ h.sl q q0 (by omega)
 refine (spec_l2AddrBent.calls 1 g s q a b p w0 W hq h.b (hr 0)).mono ?_
 rintro e W' ⟨rfl, hi, hb, hk⟩
 exact ⟨_, _, rfl, h.after q0 q1 (by omega) (by omega) hi hb hk, hk⟩
theorem addrBent_dr (h : At w0 wb g s (N + 1000000) W) : Calls Tryz.prog 42 #[.pointer (some ⟨g, 0, none⟩)] W fun e W' => ∃ a b, e = .returned (.agg #[.int .i64 a, .int .i64 b]) ∧ At w0 wb g s N W' ∧ KeepBut W W' g none := addrBent_dr' (h.less (by omega))
theorem expr_dr (d : Nat) (hd : d ≤ 10) (h : At w0 wb g s (N + 100000) W) : Calls Tryz.prog 83 #[.pointer (some ⟨g, 0, none⟩), .int .i64 d] W fun e W' => ∃ (x : Ex) (A : Option Addr) (c : Nat), e = .returned (.agg #[.int .i64 x.f0, .int .i64 x.f1, .int .i64 x.f2.f0, .int .i64 x.f2.f1, .slice A x.f3.length c]) ∧ Tiny x ∧ TVo W' (fun k => W.heap.size ≤ k) x A c ∧ At w0 wb g s N W' ∧ KeepBut W W' g none := by
 obtain ⟨q, q0, q1, hq⟩ := h.q
 have hb := bnd_le d hd
 obtain ⟨x, p, k, hx, p0, p1, hr⟩ := expr_total s h.by_ h.sl d hd q q0 (by omega)
 refine (spec_l3Expr.calls k g s q d x.f0 x.f1 x.f2.f0 x.f2.f1 x.f3 p w0 W hq h.b hr).mono ?_
 rintro e W' ⟨v, rfl, hR, hi, hb, hk⟩
 have hN := Kd.R_N (Kd.R_bound hR)
 obtain ⟨B, c, rfl⟩ := Kd.N_slice hN
 exact ⟨x, B, c, rfl, hx, TV.ofN hN fun k hk => hk.2.1, h.after q0 q1 (by omega) (by omega) hi hb hk, hk⟩
end
end Go.Proofs.YtendbgedpjcocaaGreatDoor.B
/- A region that draws its order and calls on the reader at block g. -/
namespace Go.Proofs.YtendbgedpjcocaaGreatDoor.B
open Go Go.RowKit Go.Proofs.YtendbgedpjcocaaGreatDoorW.PrintWords Go.Proofs.YtendbgedpjcocaaGreatDoorW.PrintLast Go.Proofs.YtendbgedpjcocaaGreatDoorW.PrintMore
set_option linter.unusedVariables false
def LastK (g : Nat) (p : World → Prop) : Prop := ∀ W W', KeepBut W W' g none → p W → p W'
theorem LastK.const (g : Nat) (p : Prop) : LastK g fun _ => p := fun _ _ _ h => h
def LastAllK (g : Nat) : List (Value → World → Prop) → Prop
 | [] => True
 | F :: r => (∀ v, LastK g (F v)) ∧ LastAllK g r
theorem FAt.lastK {g : Nat} : ∀ (Fs : List (Value → World → Prop)), LastAllK g Fs → ∀ i v a b, KeepBut a b g none → FAt Fs i v a → FAt Fs i v b
 | [], _, _, _, _, _, _, _ => trivial
 | F :: r, h, 0, v, a, b, hb, hf => h.1 v a b hb hf
 | F :: r, h, i + 1, v, a, b, hb, hf => FAt.lastK r h.2 i v a b hb hf
section
variable {P : Program} {ops : Array Oper} {Q : Exit → Act → World → Prop}
abbrev StepsK (P : Program) (ops : Array Oper) (g m : Nat) (a0 : Act) (ds : List (Tmp × Nat)) (Fs : List (Value → World → Prop)) (p : (Nat → Bool) → World → Prop) : Prop :=
 OpsAll (fun i o => i < m → ∀ l vs W, p l W → l i = false → (∀ j ∈ waitsOn o, FAt Fs j (vs j) W) → ∀ b, Sees a0 ds o vs b → StepOK P ops o b W fun v W' => KeepBut W W' g none ∧ p (fun j => j == i || l j) W' ∧ FAt Fs i v W') ops.toList 0
/-- The last operation, behind all others, does whatever it does. -/
theorem weaveK_ {id : Nat} {a0 : Act} {w : World} (g m : Nat) (hm1 : ops.size = m + 1) (p : (Nat → Bool) → World → Prop) (h0 : p (fun _ => false) w.drew) (ds : List (Tmp × Nat)) (Fs : List (Value → World → Prop)) (hm : P.follows .mixedOrders = true) (hB : weaveB ops ds = true) (hF : LastAllK g Fs)
  (hall : (match ops[m]? with | some o => (List.range m).all fun j => (reachW ops m (waitsOn o)).contains j | none => false) = true)
  (hwait : ((List.range m).all fun i => match ops[i]? with | some o => (waitsOn o).all fun j => decide (j < m) | none => true) = true)
  (hstep : StepsK P ops g m a0 ds Fs p)
  (Ψ : (Nat → Value) → World → Prop) (hlast : ∀ o, ops[m]? = some o → ∀ l vs W, (∀ j, j < m → l j = true) → p l W → (∀ j, j < m → FAt Fs j (vs j) W) → ∀ b, Sees a0 ds o vs b → StepOK P ops o b W fun v W' => Ψ (fun j => if j = m then v else vs j) W')
  (hend : ∀ (vs : Nat → Value) W, Ψ vs W → Q .normal (putL a0 (ds.map fun q => (q.1, vs q.2))) W) : (Code.region id ops true).wp P Q a0 w := by
 refine weave (fun l vs W => (∀ (i : Nat) (o : Oper), ops[i]? = some o → l i = true → ∀ j ∈ waitsOn o, l j = true) ∧ (l m = false → p l W ∧ ∀ j, j < m → l j = true → FAt Fs j (vs j) W) ∧ (l m = true → Ψ vs W)) ds hm hB ?_ ?_ ?_
 ·exact ⟨(fun _ _ _ h => absurd h (by simp)), (fun _ => ⟨h0, (fun _ _ h => absurd h (by simp))⟩), (fun h => absurd h (by simp))⟩
 ·intro i o ho l vs W ⟨hc, hI, _⟩ hli hw b hsee
  have hlt := (Array.getElem?_eq_some_iff.1 ho).1
  obtain ⟨om, hom⟩ : ∃ o, ops[m]? = some o := ⟨ops[m], by simp [show m < ops.size by omega]⟩
  have hbelow : (∀ j ∈ waitsOn om, l j = true) → ∀ j, j < m → l j = true := fun hh j hj => by
   rw [hom] at hall
   exact reachW_all hc m _ hh j (by simpa using List.all_eq_true.1 hall j (List.mem_range.2 hj))
  have hdc : ∀ (i' : Nat) (o' : Oper), ops[i']? = some o' → (i' == i || l i') = true → ∀ j ∈ waitsOn o', (j == i || l j) = true := by
   intro i' o' ho' hh j hj
   by_cases hii : i' = i
   ·subst hii
    have : o' = o := Option.some.inj (ho'.symm.trans ho)
    subst this
    simp [hw j hj]
   ·have : l i' = true := by simpa [hii] using hh
    simp [hc i' o' ho' this j hj]
  by_cases hin : i < m
  ·have hlm : l m = false := by
    cases hq : l m with
    | false => rfl
    | true => rw [hbelow (hc m om hom hq) i hin] at hli; cases hli
   obtain ⟨h1, h2⟩ := hI hlm
   have hst := OpsAll.at ops.toList 0 hstep i o (by rw [Array.getElem?_toList]; exact ho)
   rw [Nat.zero_add] at hst
   have hmi : (m == i) = false := by simp; omega
   intro K Q' hK
   refine hst hin l vs W h1 hli (fun j hj => ?_) b hsee K Q' fun v W' hv => hK v W' ⟨hdc, fun _ => ⟨hv.2.1, fun j hj hlj => ?_⟩, fun hh => by simp [hmi, hlm] at hh⟩
   ·have hjm : j < m := by
     have := List.all_eq_true.1 hwait i (List.mem_range.2 hin)
     rw [ho] at this
     simpa using List.all_eq_true.1 this j hj
    exact h2 j hjm (hw j hj)
   ·by_cases hji : j = i
    ·subst hji
     simpa using hv.2.2
    ·simp only [hji, if_false]
     exact FAt.lastK Fs hF j _ _ _ hv.1 (h2 j hj (by simpa [hji] using hlj))
  ·have him : i = m := by omega
   subst him
   obtain ⟨h1, h2⟩ := hI hli
   have : o = om := Option.some.inj (ho.symm.trans hom)
   subst this
   have hl := hbelow hw
   intro K Q' hK
   exact hlast o ho l vs W hl h1 (fun j hj => h2 j hj (hl j hj)) b hsee K Q' fun v W' hv => hK v W' ⟨hdc, fun hh => by simp at hh, fun _ => hv⟩
 ·intro l vs W hl hI
  exact hend vs W (hI.2.2 (hl m (by omega)))
/-- Operation m, behind all before it, and the last one, behind it, do whatever they do; those between (late) are plain and come at any time. -/
theorem weaveKT_ {id : Nat} {a0 : Act} {w : World} (g m z : Nat) (hz1 : ops.size = z + 1) (hmz : m < z) (late : List (Nat × Value)) (hlate : ((List.range z).all fun j => decide (j ≤ m) || late.any fun q => q.1 == j) = true) (hlate2 : (late.all fun q => decide (m < q.1) && decide (q.1 < z)) = true)
  (p : (Nat → Bool) → World → Prop) (h0 : p (fun _ => false) w.drew) (ds : List (Tmp × Nat)) (Fs : List (Value → World → Prop)) (hm : P.follows .mixedOrders = true) (hB : weaveB ops ds = true) (hF : LastAllK g Fs)
  (hall : (match ops[m]? with | some o => (List.range m).all fun j => (reachW ops m (waitsOn o)).contains j | none => false) = true)
  (hall2 : (match ops[z]? with | some o => (waitsOn o).contains m && late.all fun q => (waitsOn o).contains q.1 | none => false) = true)
  (hwait : ((List.range m).all fun i => match ops[i]? with | some o => (waitsOn o).all fun j => decide (j < m) | none => true) = true)
  (hstep : StepsK P ops g m a0 ds Fs p)
  (hpure : ∀ q ∈ late, ∀ o, ops[q.1]? = some o → ∀ vs W b, Sees a0 ds o vs b → StepOK P ops o b W fun v W' => W' = W ∧ v = q.2) (hone : (late.map (·.1)).Nodup)
  (Ψ Φ : Value → World → Prop) (hlast : ∀ o, ops[m]? = some o → ∀ l vs W, (∀ j, j < m → l j = true) → p l W → (∀ j, j < m → FAt Fs j (vs j) W) → ∀ b, Sees a0 ds o vs b → StepOK P ops o b W Ψ)
  (hlast2 : ∀ o, ops[z]? = some o → ∀ vs W, Ψ (vs m) W → (∀ q ∈ late, vs q.1 = q.2) → ∀ b, Sees a0 ds o vs b → StepOK P ops o b W Φ)
  (hend : ∀ (vs : Nat → Value) W, Φ (vs z) W → Q .normal (putL a0 (ds.map fun q => (q.1, vs q.2))) W) : (Code.region id ops true).wp P Q a0 w := by
 refine weave (fun l vs W => (∀ (i : Nat) (o : Oper), ops[i]? = some o → l i = true → ∀ j ∈ waitsOn o, l j = true) ∧ (∀ q ∈ late, l q.1 = true → vs q.1 = q.2) ∧ (l m = false → p (fun j => decide (j < m) && l j) W ∧ ∀ j, j < m → l j = true → FAt Fs j (vs j) W) ∧ (l m = true → l z = false → Ψ (vs m) W) ∧ (l z = true → Φ (vs z) W)) ds hm hB ?_ ?_ ?_
 ·refine ⟨(fun _ _ _ h => absurd h (by simp)), (fun _ _ h => absurd h (by simp)), (fun _ => ⟨?_, (fun _ _ h => absurd h (by simp))⟩), (fun h => absurd h (by simp)), (fun h => absurd h (by simp))⟩
  simpa using h0
 ·intro i o ho l vs W ⟨hc, hL, hI, hJ, _⟩ hli hw b hsee
  have hlt := (Array.getElem?_eq_some_iff.1 ho).1
  obtain ⟨om, hom⟩ : ∃ o, ops[m]? = some o := ⟨ops[m], by simp [show m < ops.size by omega]⟩
  obtain ⟨oz, hoz⟩ : ∃ o, ops[z]? = some o := ⟨ops[z], by simp [show z < ops.size by omega]⟩
  have hbelow : (∀ j ∈ waitsOn om, l j = true) → ∀ j, j < m → l j = true := fun hh j hj => by
   rw [hom] at hall
   exact reachW_all hc m _ hh j (by simpa using List.all_eq_true.1 hall j (List.mem_range.2 hj))
  rw [hoz] at hall2
  simp only [Bool.and_eq_true] at hall2
  have hzm : l z = true → l m = true := fun hh => hc _ _ hoz hh m (by simpa using hall2.1)
  have hdc : ∀ (i' : Nat) (o' : Oper), ops[i']? = some o' → (i' == i || l i') = true → ∀ j ∈ waitsOn o', (j == i || l j) = true := by
   intro i' o' ho' hh j hj
   by_cases hii : i' = i
   ·subst hii
    have : o' = o := Option.some.inj (ho'.symm.trans ho)
    subst this
    simp [hw j hj]
   ·have : l i' = true := by simpa [hii] using hh
    simp [hc i' o' ho' this j hj]
  by_cases hin : i < m
  ·have hlm : l m = false := by
    cases hq : l m with
    | false => rfl
    | true => rw [hbelow (hc m om hom hq) i hin] at hli; cases hli
   have hlz : l z = false := by
    cases hq : l z with
    | false => rfl
    | true => rw [hzm hq] at hlm; cases hlm
   obtain ⟨h1, h2⟩ := hI hlm
   have hst := OpsAll.at ops.toList 0 hstep i o (by rw [Array.getElem?_toList]; exact ho)
   rw [Nat.zero_add] at hst
   have hmi : (m == i) = false := by simp; omega
   have hzi : (z == i) = false := by simp; omega
   have hfe : (fun j => j == i || (decide (j < m) && l j)) = (fun j => decide (j < m) && (j == i || l j)) := by
    funext j
    by_cases hji : j = i
    ·subst hji; simp [hin]
    ·have hb : (j == i) = false := by simp [hji]
     simp [hb]
   intro K Q' hK
   refine hst hin _ vs W h1 (by simp [hli]) (fun j hj => ?_) b hsee K Q' fun v W' hv => hK v W' ⟨hdc, fun q hq hlq => ?_, fun _ => ⟨by rw [← hfe]; exact hv.2.1, fun j hj hlj => ?_⟩, fun hh => by simp [hmi, hlm] at hh, fun hh => by simp [hzi, hlz] at hh⟩
   ·have hjm : j < m := by
     have := List.all_eq_true.1 hwait i (List.mem_range.2 hin)
     rw [ho] at this
     simpa using List.all_eq_true.1 this j hj
    exact h2 j hjm (hw j hj)
   ·have hq1 := List.all_eq_true.1 hlate2 q hq
    simp only [Bool.and_eq_true, decide_eq_true_eq] at hq1
    have hqi : q.1 ≠ i := by omega
    exact (if_neg hqi).trans (hL q hq (by simpa [hqi] using hlq))
   ·by_cases hji : j = i
    ·subst hji
     simpa using hv.2.2
    ·simp only [hji, if_false]
     exact FAt.lastK Fs hF j _ _ _ hv.1 (h2 j hj (by simpa [hji] using hlj))
  ·by_cases him : i = m
   ·subst him
    have hlz : l z = false := by
     cases hq : l z with
     | false => rfl
     | true => rw [hzm hq] at hli; cases hli
    have : o = om := Option.some.inj (ho.symm.trans hom)
    subst this
    obtain ⟨h1, h2⟩ := hI hli
    have hl := hbelow hw
    have hzi : (z == i) = false := by simp; omega
    intro K Q' hK
    refine hlast o ho _ vs W (fun j hj => by simp [hj, hl j hj]) h1 (fun j hj => h2 j hj (hl j hj)) b hsee K Q' fun v W' hv => hK v W' ⟨hdc, fun q hq hlq => ?_, fun hh => by simp at hh, fun _ _ => by simpa using hv, fun hh => by simp [hzi, hlz] at hh⟩
    have hq1 := List.all_eq_true.1 hlate2 q hq
    simp only [Bool.and_eq_true, decide_eq_true_eq] at hq1
    have hqi : q.1 ≠ i := by omega
    exact (if_neg hqi).trans (hL q hq (by simpa [hqi] using hlq))
   ·by_cases hiz : i = z
    ·subst hiz
     have : o = oz := Option.some.inj (ho.symm.trans hoz)
     subst this
     have hlm : l m = true := hw m (by simpa using hall2.1)
     intro K Q' hK
     refine hlast2 o ho vs W (hJ hlm hli) (fun q hq => hL q hq (hw q.1 (by simpa using List.all_eq_true.1 hall2.2 q hq))) b hsee K Q' fun v W' hv => hK v W' ⟨hdc, fun q hq hlq => ?_, fun hh => by simp [hlm] at hh, fun _ hh => by simp at hh, fun _ => by simpa using hv⟩
     have hq1 := List.all_eq_true.1 hlate2 q hq
     simp only [Bool.and_eq_true, decide_eq_true_eq] at hq1
     have hqi : q.1 ≠ i := by omega
     exact (if_neg hqi).trans (hL q hq (by simpa [hqi] using hlq))
    ·have hi1 := List.all_eq_true.1 hlate i (List.mem_range.2 (by omega))
     simp only [Bool.or_eq_true, decide_eq_true_eq, List.any_eq_true, beq_iff_eq] at hi1
     obtain ⟨q, hq, rfl⟩ : ∃ q ∈ late, q.1 = i := by
      rcases hi1 with hi1 | hi1
      ·omega
      ·exact hi1
     have hq1 := List.all_eq_true.1 hlate2 q hq
     simp only [Bool.and_eq_true, decide_eq_true_eq] at hq1
     have hmi : (m == q.1) = false := by simp; omega
     have hzi : (z == q.1) = false := by simp; omega
     have hfe : (fun j => decide (j < m) && l j) = (fun j => decide (j < m) && (j == q.1 || l j)) := by
      funext j
      by_cases hji : j = q.1
      ·subst hji; simp [show ¬ q.1 < m by omega]
      ·have hb : (j == q.1) = false := by simp [hji]
       simp [hb]
     intro K Q' hK
     refine hpure q hq o ho vs W b hsee K Q' fun v W' hv => hK v W' ?_
     obtain ⟨rfl, rfl⟩ := hv
     refine ⟨hdc, fun r hr hlr => ?_, fun hh => ?_, fun hh hh2 => ?_, fun hh => ?_⟩
     ·by_cases hrq : r.1 = q.1
      ·have : ∀ L : List (Nat × Value), (L.map (·.1)).Nodup → q ∈ L → r ∈ L → q.2 = r.2 := by
        intro L hn h1 h2
        induction L with
        | nil => cases h1
        | cons a L ih =>
         rw [List.map_cons, List.nodup_cons] at hn
         rcases List.mem_cons.1 h1 with e1 | e1 <;> rcases List.mem_cons.1 h2 with e2 | e2
         ·rw [e1, e2]
         ·exact absurd (List.mem_map.2 ⟨r, e2, by rw [hrq, e1]⟩) hn.1
         ·exact absurd (List.mem_map.2 ⟨q, e1, by rw [← hrq, e2]⟩) hn.1
         ·exact ih hn.2 e1 e2
       exact (if_pos hrq).trans (this late hone hq hr)
      ·exact (if_neg hrq).trans (hL r hr (by simpa [hrq] using hlr))
     ·have hlm : l m = false := by simpa [hmi] using hh
      obtain ⟨h1, h2⟩ := hI hlm
      refine ⟨by rw [← hfe]; exact h1, fun j hj hlj => ?_⟩
      have hjq : j ≠ q.1 := by omega
      simp only [hjq, if_false]
      exact h2 j hj (by simpa [hjq] using hlj)
     ·have hlm : l m = true := by simpa [hmi] using hh
      have hlz : l z = false := by simpa [hzi] using hh2
      have : m ≠ q.1 := by omega
      simp only [this, if_false]
      exact hJ hlm hlz
     ·have hlz : l z = true := by simpa [hzi] using hh
      have := hc _ _ hoz hlz q.1 (by simpa using List.all_eq_true.1 hall2.2 q hq)
      rw [hli] at this
      cases this
 ·intro l vs W hl hI
  exact hend vs W (hI.2.2.2.2 (hl z (by omega)))
end
section
variable {P : Program} {ops : Array Oper} {o : Oper} {b : Act} {W : World} {Ψ : Value → World → Prop}
/-- A box is made. -/
theorem stepBox {cs : Array Value} {T : TypeId} (hw : Region.wanted o (yielded ops b.tmps) = true) (hrun : (execOp b.eval o).run P W = .ok (.value (.pointer (some ⟨W.heap.size, 0, none⟩))) (W.alloc (.cells cs T (0, 0))))
  (h : ∀ W' q, W.heap.size ≤ q → Box W' q T cs → Below W.heap.size W W' → Ψ (.pointer (some ⟨q, 0, none⟩)) W') : StepOK P ops o b W Ψ := fun K Q hK =>
 event_step hw hrun (hK _ _ (h _ _ (Nat.le_refl _) (blk_new W _) (below_alloc (Below.refl _ _) _)))
end
end Go.Proofs.YtendbgedpjcocaaGreatDoor.B
/- impl.MemPut. -/
namespace Go.Proofs.YtendbgedpjcocaaGreatDoor.B
open Go Go.RowKit Go.Shelf Go.Proofs.YtendbgedpjcocaaGreatDoorW.PrintWords Go.Proofs.YtendbgedpjcocaaGreatDoorW.PrintLast Go.Proofs.YtendbgedpjcocaaGreatDoorW.PrintMore
set_option linter.unusedVariables false
end Go.Proofs.YtendbgedpjcocaaGreatDoor.B
/- The run group's facts: contracts with their results named, plain facts about runs. -/
namespace Go.Proofs.YtendbgedpjcocaaGreatDoor.B
open Go Go.RowKit Go.Shelf Go.Proofs.YtendbgedpjcocaaGreatDoorW.PrintWords Go.Proofs.YtendbgedpjcocaaGreatDoorW.PrintLast Go.Proofs.YtendbgedpjcocaaGreatDoorW.PrintMore
set_option linter.unusedVariables false
theorem ErrAt.lasts (a : Addr) : Lasts fun W => ErrAt W a := fun _ _ hb h => h.below hb
theorem runI_any {m : Mem3} {l : List St} {f : Int} {X : Mem3} {v r : Int} (hV : stRunV m l f = (X, v, r)) (p : Caps3) (A : Option Addr) (c : Nat) (a : Addr) (w : World) (hE : ErrAt w a) (hM : MV w m p) (hL : LV w l A c) :
  Calls Tryz.prog 11 #[.agg (mA m p), .slice A l.length c, .int .i64 f] w fun e w' => ∃ q : Caps3, e = .returned (.tuple #[.agg (mA X q), .int .i64 v, .int .i64 r]) ∧ MV w' X q ∧ Below w.heap.size w w' := by
 have h := stRun_any m l f p A c a w hE hM hL.reads.2 hL.reads.1
 rw [hV] at h
 exact h
theorem runS_any {m : Mem3} {l : List St} {f : Int} {X : Mem3} {v r : Int} (hV : stRunV m l f = (X, v, r)) (hm : Mini m.1 m.2.1 m.2.2) (hl : StFit l) (p : Caps3) (A : Option Addr) (c : Nat) (w : World) (hM : MV w m p) (hL : LV w l A c) :
  Calls Tryz.prog 12 #[.agg (mA m p), .slice A l.length c, .int .i64 f] w fun e w' => ∃ q : Caps3, e = .returned (.tuple #[.agg (mA X q), .int .i64 v, .int .i64 r]) ∧ MV w' X q ∧ Below w.heap.size w w' := by
 have h := spRun_any m hm l hl f p A c w hM hL.reads.2 hL.reads.1
 rw [hV] at h
 exact h
theorem okS_any (l : List St) (hl : StFit l) (A : Option Addr) (c : Nat) (w : World) (hL : LV w l A c) : Calls Tryz.prog 16 #[.slice A l.length c] w fun e w' => e = .returned (.bool (stOkL l)) ∧ Below w.heap.size w w' :=
 stOkS_any l hl A c w hL.reads.2 hL.reads.1
theorem cut3_short (bs : List Int) : ShortM (cut3 bs) := by
 refine ⟨?_, ?_, ?_⟩ <;> (simp [cut3]; try omega)
theorem runV_short {m : Mem3} {l : List St} {f : Int} {X : Mem3} {v r : Int} (hV : stRunV m l f = (X, v, r)) : ShortM X := by
 unfold stRunV at hV
 split at hV
 ·obtain rfl := (Prod.mk.inj hV).1
  exact cut3_short _
 ·obtain rfl := (Prod.mk.inj hV).1
  exact ⟨by simp, by simp, by simp⟩
/-- What a run says, told apart. -/
theorem runV_cases {m : Mem3} {l : List St} {f : Int} {X : Mem3} {v r : Int} (hV : stRunV m l f = (X, v, r)) : (runOk m l f = true ∧ ∃ bs, X = cut3 bs ∧ Run (m.1 ++ m.2.1 ++ m.2.2) l f (bs, v, r) ∧ Fits f (bs, v, r)) ∨ (runOk m l f = false ∧ X = ([], [], []) ∧ v = 2 ∧ r = 0) := by
 unfold stRunV at hV
 split at hV
 ·rename_i h
  have h' := h
  unfold runOk at h'
  simp only [Bool.and_eq_true, decide_eq_true_eq] at h'
  obtain ⟨h1, h2⟩ := runR_run h'.1.2 (m.1 ++ m.2.1 ++ m.2.2) h'.2.1
  simp only [Prod.mk.injEq] at hV
  obtain ⟨rfl, rfl, rfl⟩ := hV
  exact .inl ⟨h, _, rfl, h1, h2⟩
 ·rename_i h
  simp only [Prod.mk.injEq] at hV
  obtain ⟨rfl, rfl, rfl⟩ := hV
  exact .inr ⟨by simpa using h, rfl, rfl, rfl⟩
theorem runOk_of {m : Mem3} {l : List St} {f : Int} (h : runOk m l f = true) : mOk m = true ∧ stOkL l = true ∧ 0 ≤ f ∧ f ≤ 100 := by
 unfold runOk at h
 simp only [Bool.and_eq_true, decide_eq_true_eq] at h
 exact ⟨h.1.1, h.1.2, h.2.1, h.2.2⟩
theorem runOk_mk {m : Mem3} {l : List St} {f : Int} (h1 : mOk m = true) (h2 : stOkL l = true) (h3 : 0 ≤ f) (h4 : f ≤ 100) : runOk m l f = true := by
 unfold runOk
 rw [h1, h2, decide_eq_true ⟨h3, h4⟩]; rfl
end Go.Proofs.YtendbgedpjcocaaGreatDoor.B
