import Derived.Test.YtendbgedpjcocaaGreatDoorJnI
import Derived.Test.YtendbgedpjcocaaGreatDoorB0
import Derived.Test.YtendbgedpjcocaaGreatDoorSq
import Derived.Test.YtendbgedpjcocaaGreatDoorPkB
import Derived.Test.YtendbgedpjcocaaGreatDoorJnG
import Derived.Test.YtendbgedpjcocaaGreatDoorPkA
import Derived.Test.YtendbgedpjcocaaGreatDoorJnH
import Derived.Test.YtendbgedpjcocaaGreatDoorJnE
/- spec.MemOpen, in the print's form. -/
namespace Go.Proofs.YtendbgedpjcocaaGreatDoor.B
open Go Go.RowKit Go.Shelf Go.Proofs.YtendbgedpjcocaaGreatDoorW.PrintWords Go.Proofs.YtendbgedpjcocaaGreatDoorW.PrintLast Go.Proofs.YtendbgedpjcocaaGreatDoorW.PrintMore
set_option linter.unusedVariables false
theorem R_own1 {w : World} {base : Nat} {ok : Nat → Prop} {v : Value} {xs : List Int} (h : Kd.R (Kd.int .i64) 3 w base ok v xs) (n : Nat) (hn : n = xs.length) : w.ownsRow base 3 1 v n (nums .i64 xs) := by
 subst hn
 obtain ⟨_, inner, ho, hr⟩ := h
 rw [Kd.reps_encs hr] at ho
 exact ho
section
variable {ops : Array Oper} {o : Oper} {b : Act} {W : World} {Ψ : Value → World → Prop}
theorem StepOK.mono {P : Program} {Φ : Value → World → Prop} (h : StepOK P ops o b W Ψ) (hm : ∀ v W', Ψ v W' → Φ v W') : StepOK P ops o b W Φ := fun K Q hK => h K Q fun v W' hv => hK v W' (hm v W' hv)
theorem stepMake6 {x y : Operand} {N : Tmp} (hw : Region.wanted o (yielded ops b.tmps) = true) (hd : o.dst = some N) (ho : o.op = .makeSlice 28 x y) (hx : b.eval x = .int .i64 6) (hy : b.eval y = .int .i64 6) :
  StepOK Tryz.prog ops o b W fun v W' => W'.ownsRow W.heap.size 3 1 v 6 (nums .i64 (List.replicate 6 0)) ∧ Below W.heap.size W W' ∧ ∀ k, v.ownBlock = some k → W.heap.size ≤ k := fun K Q hK =>
 Kd.R_make_step (Kd.int .i64) W.heap.size 3 hw hd 28 x y ho 6 hx hy Tryz.underlying28 (.int .i64 0) 8 info3 rfl (by decide) (by omega) 0 (ok := fun _ => True) (okp := fun _ => True) rfl (fun _ hk => hk) trivial (by decide) (by decide) (Below.refl _ _) (Nat.le_refl _)
  (fun v1 w1 hR hb _ hat => hK v1 w1 ⟨R_own1 hR 6 rfl, hb, fun k hk => by obtain ⟨g, hg, hle⟩ := hat; rw [hg] at hk; injection hk with hk; omega⟩)
end
set_option maxRecDepth 100000 in
set_option maxHeartbeats 4000000 in
theorem open_any (w : World) : Calls Tryz.prog 91 #[] w fun e w' => ∃ v0 v1 v2, e = .returned (.agg #[v0, v1, v2]) ∧ MemRows w' w.heap.size v0 v1 v2 (List.replicate 18 0) ∧ Below w.heap.size w w' := by
 have mixed : Tryz.prog.follows .mixedOrders = true := rfl
 obtain ⟨w1, hw1⟩ : ∃ W, W = w.alloc (.cells #[.slice none 0 0, .slice none 0 0, .slice none 0 0] 30 (0, 0)) := ⟨_, rfl⟩
 have HB1 : Below w.heap.size w w1 := by rw [hw1]; exact (Below.refl _ _).alloc (Nat.le_refl _) _
 have H1 := Aside0.mk (show Box w1 w.heap.size 30 #[.slice none 0 0, .slice none 0 0, .slice none 0 0] from by rw [hw1]; exact heap_alloc_new _ _)
 go_enter Tryz.func91, Tryz.ntmps91
 go_upto_region 1 with fail
 rw [← hw1]
 clear hw1
 refine weaveFresh_ [0, 1, 2] 3 rfl rfl (fun W => Below w1.heap.size w1 W) (Lasts.below w1) (Below.refl _ _) [(1, 0), (2, 1), (3, 2), (4, 3)]
  [fun v W => W.ownsRow w1.heap.size 3 1 v 6 (nums .i64 (List.replicate 6 0)), fun v W => W.ownsRow w1.heap.size 3 1 v 6 (nums .i64 (List.replicate 6 0)), fun v W => W.ownsRow w1.heap.size 3 1 v 6 (nums .i64 (List.replicate 6 0))]
  mixed (by kernel_rfl) ⟨fun _ _ _ hb h => pw_own_below h hb, fun _ _ _ hb h => pw_own_below h hb, fun _ _ _ hb h => pw_own_below h hb, trivial⟩
  (by kernel_rfl) (by kernel_rfl) (by kernel_rfl) ?_ ?_
  (fun v W => ∃ v0 v1 v2, v = .agg #[v0, v1, v2] ∧ MemRows W w1.heap.size v0 v1 v2 (List.replicate 18 0) ∧ Below w1.heap.size w1 W)
  (fun _ W => ∃ v0 v1 v2, Box W w.heap.size 30 #[v0, v1, v2] ∧ MemRows W w1.heap.size v0 v1 v2 (List.replicate 18 0) ∧ Below w.heap.size w W) ?_ ?_ ?_
 ·refine ⟨?_, ?_, ?_, ?_, ?_, trivial⟩
  ·intro _ vs W hp hv b hs
   exact (stepMake6 rfl rfl rfl rfl rfl).mono fun v W' h => ⟨h.2.1, own_weaken h.1 hp.size, fun _ => h.2.2⟩
  ·intro _ vs W hp hv b hs
   exact (stepMake6 rfl rfl rfl rfl rfl).mono fun v W' h => ⟨h.2.1, own_weaken h.1 hp.size, fun _ => h.2.2⟩
  ·intro _ vs W hp hv b hs
   exact (stepMake6 rfl rfl rfl rfl rfl).mono fun v W' h => ⟨h.2.1, own_weaken h.1 hp.size, fun _ => h.2.2⟩
  ·intro h
   exact absurd h (by decide)
  ·intro h
   exact absurd h (by decide)
 ·intro j hj v W hF k hk
  simp only [List.mem_cons, List.mem_nil_iff, or_false] at hj
  rcases hj with rfl | rfl | rfl <;> exact own_lt (show W.ownsRow w1.heap.size 3 1 v 6 (nums .i64 (List.replicate 6 0)) from hF) k hk
 ·intro o ho vs W hp hv hap b hs
  obtain rfl := Option.some.inj ho
  have h0 : W.ownsRow w1.heap.size 3 1 (vs 0) 6 (nums .i64 (List.replicate 6 0)) := hv 0 (by decide)
  have h1 : W.ownsRow w1.heap.size 3 1 (vs 1) 6 (nums .i64 (List.replicate 6 0)) := hv 1 (by decide)
  have h2 : W.ownsRow w1.heap.size 3 1 (vs 2) 6 (nums .i64 (List.replicate 6 0)) := hv 2 (by decide)
  have t1 := hs.tm 1 0 rfl
  have t2 := hs.tm 2 1 rfl
  have t3 := hs.tm 3 2 rfl
  have HR := Aside0.mk (show MemRows W w1.heap.size (vs 0) (vs 1) (vs 2) (List.replicate 18 0) from ⟨h0, h1, h2, hap 0 (by decide) 1 (by decide) (by decide), hap 0 (by decide) 2 (by decide) (by decide), hap 1 (by decide) 2 (by decide) (by decide)⟩)
  obtain ⟨A0, d0, q0⟩ := own_slice h0
  obtain ⟨A1, d1, q1⟩ := own_slice h1
  obtain ⟨A2, d2, q2⟩ := own_slice h2
  generalize vs 0 = u0 at *
  generalize vs 1 = u1 at *
  generalize vs 2 = u2 at *
  subst q0 q1 q2
  exact stepVal (v := .agg #[.slice A0 6 d0, .slice A1 6 d1, .slice A2 6 d2]) rfl (by go_simp) ⟨_, _, _, rfl, HR.out, hp⟩
 ·intro o ho vs W hv b hs
  obtain rfl := Option.some.inj ho
  obtain ⟨v0, v1, v2, he, hR, hb⟩ := hv
  obtain ⟨A0, d0, e0⟩ := own_slice hR.r0
  obtain ⟨A1, d1, e1⟩ := own_slice hR.r1
  obtain ⟨A2, d2, e2⟩ := own_slice hR.r2
  subst e0 e1 e2
  have hbx := blk_below H1.out hb
  refine stepPutB rfl rfl ((hs.old 0 rfl).trans rfl) #[.slice A0 6 d0, .slice A1 6 d1, .slice A2 6 d2] ((hs.ev 4 3 rfl).trans he) hbx rfl (by kernel_rfl) (by simp [Value.oneCell']) fun W' hbx' hput => ⟨_, _, _, hbx', hR.put1 hbx (by decide) hput, ?_⟩
  exact hput.below (HB1.trans (hb.mono HB1.size)) (Nat.le_refl _)
 ·rintro vs W ⟨v0, v1, v2, hbx, hR, hb⟩
  have HF := Aside0.mk (show MemRows W w.heap.size v0 v1 v2 (List.replicate 18 0) ∧ Below w.heap.size w W from ⟨hR.weaken HB1.size, hb⟩)
  have HX := Aside0.mk hbx
  simp only [List.map_cons, List.map_nil, putL, Act.put, List.setIfInBounds_toArray, List.set_cons_zero, List.set_cons_succ]
  clear hbx hR hb
  go_wp2
  refine bodyPost_ret (results_cell_row rfl _ _ w.heap.size 30 #[v0, v1, v2] (0, 0) _ rfl HX.out Tryz.underlying30 rfl (by kernel_rfl)) rfl ?_
  exact ⟨v0, v1, v2, rfl, HF.out⟩
end Go.Proofs.YtendbgedpjcocaaGreatDoor.B
/- The draw of a memory ends: three lists of six. -/
namespace Go.Proofs.YtendbgedpjcocaaGreatDoor.B
open Go.RowKit Go.Proofs.YtendbgedpjcocaaGreatDoorW.PrintWords Go.Proofs.YtendbgedpjcocaaGreatDoorW.PrintLast Go.Proofs.YtendbgedpjcocaaGreatDoorW.PrintMore
set_option linter.unusedVariables false

end Go.Proofs.YtendbgedpjcocaaGreatDoor.B
/- The draws of what may be bent end: an expression, a memory, both. -/
namespace Go.Proofs.YtendbgedpjcocaaGreatDoor.B
open Go.RowKit Go.Proofs.YtendbgedpjcocaaGreatDoorW.PrintWords Go.Proofs.YtendbgedpjcocaaGreatDoorW.PrintLast Go.Proofs.YtendbgedpjcocaaGreatDoorW.PrintMore
set_option linter.unusedVariables false

/-- Three lists that are short. -/
def Mini (l0 l1 l2 : List Int) : Prop := l0.length ≤ 7 ∧ l1.length ≤ 7 ∧ l2.length ≤ 7
end Go.Proofs.YtendbgedpjcocaaGreatDoor.B
/- impl's runner: one statement is done. -/
namespace Go.Proofs.YtendbgedpjcocaaGreatDoor.B
open Go Go.RowKit Go.Shelf Go.Proofs.YtendbgedpjcocaaGreatDoorW.PrintWords Go.Proofs.YtendbgedpjcocaaGreatDoorW.PrintLast Go.Proofs.YtendbgedpjcocaaGreatDoorW.PrintMore
set_option linter.unusedVariables false

theorem meth_do1 (v : Value) : ∀ w, (method 299 124 v "loop.example/stopgate/impl.do").run Tryz.prog w = .ok (125, v) w := fun _ => by kernel_rfl
theorem meth_do2 (v : Value) : ∀ w, (method 299 126 v "loop.example/stopgate/impl.do").run Tryz.prog w = .ok (128, v) w := fun _ => by kernel_rfl
theorem meth_do3 (v : Value) : ∀ w, (method 299 128 v "loop.example/stopgate/impl.do").run Tryz.prog w = .ok (131, v) w := fun _ => by kernel_rfl
theorem Ed.mono {F F' : Nat → Prop} {w w' : World} (h : Ed F w w') (hF : ∀ b, F b → F' b) : Ed F' w w' :=
 ⟨h.os, h.tape, h.output, h.size, fun i hi hn => h.far i hi (fun hf => hn (hF i hf)), fun i cs t hf hc => by
  by_cases hq : F i
  ·exact h.near i cs t hq hc
  ·exact ⟨cs, (h.far i (blk_lt hc) hq).trans hc, rfl, fun _ => .inl rfl⟩⟩
/-- What running leaves behind. -/
def RunPost (a : Addr) (gr gm : Nat) (r : Res) (w : World) (e : Ending) (w' : World) : Prop := e = .returned (errOf a r.2.1) ∧ RunAt w' gr gm r.1 r.2.2 ∧ Ed (Fm gr gm) w w'
/-- Where a run stands: younger than the lists that it does. -/
structure Env (w0 w : World) (gr gm : Nat) (a : Addr) : Prop where
 lr : w0.heap.size ≤ gr
 lm : w0.heap.size ≤ gm
 ne : gr ≠ gm
 er : ErrAt w0 a
 b : Below w0.heap.size w0 w
theorem Env.step {w0 w w' : World} {gr gm : Nat} {a : Addr} (h : Env w0 w gr gm a) (hE : Ed (Fm gr gm) w w') : Env w0 w' gr gm a :=
 ⟨h.lr, h.lm, h.ne, h.er, h.b.trans (hE.below (fun b hb => by rcases hb with rfl | rfl; exact h.lr; exact h.lm) h.b.size)⟩
theorem Env.below {w0 w w' : World} {gr gm : Nat} {a : Addr} (h : Env w0 w gr gm a) (hb : Below w.heap.size w w') : Env w0 w' gr gm a := h.step (Ed.of_below hb)
theorem Env.err {w0 w : World} {gr gm : Nat} {a : Addr} (h : Env w0 w gr gm a) : ErrAt w a := h.er.below h.b
abbrev eCells (x : Ex) (A : Option Addr) (c : Nat) : List Value := [.int .i64 x.f0, .int .i64 x.f1, .int .i64 x.f2.f0, .int .i64 x.f2.f1, .slice A x.f3.length c]
abbrev eAgg (x : Ex) (A : Option Addr) (c : Nat) : Value := .agg #[.int .i64 x.f0, .int .i64 x.f1, .int .i64 x.f2.f0, .int .i64 x.f2.f1, .slice A x.f3.length c]
theorem reckon_at (bs : List Int) (x : Ex) (he : formS 6 x = true) (g : Nat) (A : Option Addr) (c : Nat) (w : World) (hm : MemAt w g bs) (hC : Kd.C exK w A x.f3.length x.f3) (hc : x.f3.length ≤ c) :
  Calls Tryz.prog 49 #[.pointer (some ⟨g, 0, none⟩), eAgg x A c] w fun e w' => e = .returned (.int .i64 (evalI bs x)) ∧ Below w.heap.size w w' := by
 have h := reckon_any bs 6 x he g A c w hm hC hc
 simp only [List.append_toArray, List.nil_append, List.cons_append] at h
 exact h
set_option maxRecDepth 100000 in
set_option maxHeartbeats 4000000 in
theorem do_set (bs : List Int) (p q f : Int) (x : Ex) (he : formS 6 x = true) (a : Addr) (gr gm : Nat) (hne : gr ≠ gm) (A : Option Addr) (c : Nat) (w : World) (hR : RunAt w gr gm bs f) (hC : Kd.C exK w A x.f3.length x.f3) (hc : x.f3.length ≤ c) :
  Calls Tryz.prog 125 #[.agg #[.int .i64 p, .int .i64 q, .int .i64 x.f0, .int .i64 x.f1, .int .i64 x.f2.f0, .int .i64 x.f2.f1, .slice A x.f3.length c], .pointer (some ⟨gr, 0, none⟩)] w (RunPost a gr gm (putB bs p q (evalI bs x), 0, f) w) := by
 have mixed : Tryz.prog.follows .mixedOrders = true := rfl
 obtain ⟨w1, hw1⟩ : ∃ W, W = w.alloc (.cells #[.int .i64 p, .int .i64 q, .int .i64 x.f0, .int .i64 x.f1, .int .i64 x.f2.f0, .int .i64 x.f2.f1, .slice A x.f3.length c] 124 (0, 0)) := ⟨_, rfl⟩
 have hB : Below w.heap.size w w1 := by rw [hw1]; exact (Below.refl _ _).alloc (Nat.le_refl _) _
 have H1 := Aside0.mk (show Box w1 w.heap.size 124 #[.int .i64 p, .int .i64 q, .int .i64 x.f0, .int .i64 x.f1, .int .i64 x.f2.f0, .int .i64 x.f2.f1, .slice A x.f3.length c] ∧ RunAt w1 gr gm bs f ∧ Kd.C exK w1 A x.f3.length x.f3 ∧ Below w.heap.size w w1 ∧ gr ≠ gm from
  ⟨by rw [hw1]; exact heap_alloc_new _ _, hR.below hB, Kd.C_below hC hB, hB, hne⟩)
 have HE := Aside0.mk (And.intro he hc)
 clear hR hC hB hne he hc
 go_enter Tryz.func125, Tryz.ntmps125
 go_upto_region 1 with fail
 rw [← hw1]
 clear hw1
 refine weaveLast_ 13 rfl (fun W => Below w1.heap.size w1 W) (Lasts.below w1) (Below.refl _ _) [(5, 0), (6, 1), (7, 2), (8, 3), (9, 4), (10, 5), (11, 6), (12, 7), (13, 8), (14, 9), (15, 10), (16, 11), (17, 12), (18, 13)]
  [fun v _ => v = .pointer (some ⟨gr, 0, none⟩), fun v _ => v = .pointer (some ⟨gr, 0, none⟩), fun v _ => v = .pointer (some ⟨gr, 0, none⟩), fun v _ => v = .pointer (some ⟨gm, 0, none⟩), fun v _ => v = .pointer (some ⟨w.heap.size, 0, none⟩), fun v _ => v = .agg #[.int .i64 p, .int .i64 q],
   fun v _ => v = .pointer (some ⟨gr, 0, none⟩), fun v _ => v = .pointer (some ⟨gr, 0, none⟩), fun v _ => v = .pointer (some ⟨gr, 0, none⟩), fun v _ => v = .pointer (some ⟨gm, 0, none⟩), fun v _ => v = .pointer (some ⟨w.heap.size, 2, none⟩), fun v _ => v = eAgg x A c, fun v _ => v = .int .i64 (evalI bs x), fun _ _ => True]
  mixed (by kernel_rfl) ⟨fun _ => Lasts.const _, fun _ => Lasts.const _, fun _ => Lasts.const _, fun _ => Lasts.const _, fun _ => Lasts.const _, fun _ => Lasts.const _, fun _ => Lasts.const _, fun _ => Lasts.const _, fun _ => Lasts.const _, fun _ => Lasts.const _, fun _ => Lasts.const _, fun _ => Lasts.const _, fun _ => Lasts.const _, fun _ => Lasts.const _, trivial⟩
  (by kernel_rfl) (by kernel_rfl) ?_ (fun v W => v = .tuple #[] ∧ MemAt W gm (putB bs p q (evalI bs x)) ∧ Ed (fun b => b = gm) w1 W) ?_ ?_
 ·refine ⟨?_, ?_, ?_, ?_, ?_, ?_, ?_, ?_, ?_, ?_, ?_, ?_, ?_, ?_, trivial⟩
  ·intro _ vs W hp hv b hs
   have t1 := (hs.oldtm 1 rfl).trans (show _ = some (Value.pointer (some ⟨gr, 0, none⟩)) from rfl)
   exact stepVal rfl (by go_simp) ⟨Below.refl _ _, rfl⟩
  ·intro _ vs W hp hv b hs
   have h0 : vs 0 = .pointer (some ⟨gr, 0, none⟩) := hv 0 (by decide)
   have t5 := (hs.tm 5 0 rfl).trans (congrArg some h0)
   exact stepVal rfl (by go_simp) ⟨Below.refl _ _, rfl⟩
  ·intro _ vs W hp hv b hs
   have h1 : vs 1 = .pointer (some ⟨gr, 0, none⟩) := hv 1 (by decide)
   have t6 := (hs.tm 6 1 rfl).trans (congrArg some h1)
   exact stepVal rfl (by go_simp) ⟨Below.refl _ _, rfl⟩
  ·intro _ vs W hp hv b hs
   have h2 : vs 2 = .pointer (some ⟨gr, 0, none⟩) := hv 2 (by decide)
   have t7 := (hs.tm 7 2 rfl).trans (congrArg some h2)
   have cr := (Box.cell (blk_below H1.out.2.1.r hp) 0 _ rfl).1
   exact stepVal rfl (by go_simp) ⟨Below.refl _ _, rfl⟩
  ·intro _ vs W hp hv b hs
   have t2 := (hs.oldtm 2 rfl).trans (show _ = some (Value.pointer (some ⟨w.heap.size, 0, none⟩)) from rfl)
   exact stepVal rfl (by go_simp) ⟨Below.refl _ _, rfl⟩
  ·intro _ vs W hp hv b hs
   have h4 : vs 4 = .pointer (some ⟨w.heap.size, 0, none⟩) := hv 4 (by decide)
   have t9 := (hs.tm 9 4 rfl).trans (congrArg some h4)
   have k := blk_below H1.out.1 hp
   have c0 := (Box.cell k 0 _ rfl).1
   have c1 := (Box.cell k 1 _ rfl).1
   exact stepVal rfl (by go_simp) ⟨Below.refl _ _, rfl⟩
  ·intro _ vs W hp hv b hs
   have t1 := (hs.oldtm 1 rfl).trans (show _ = some (Value.pointer (some ⟨gr, 0, none⟩)) from rfl)
   exact stepVal rfl (by go_simp) ⟨Below.refl _ _, rfl⟩
  ·intro _ vs W hp hv b hs
   have h6 : vs 6 = .pointer (some ⟨gr, 0, none⟩) := hv 6 (by decide)
   have t11 := (hs.tm 11 6 rfl).trans (congrArg some h6)
   exact stepVal rfl (by go_simp) ⟨Below.refl _ _, rfl⟩
  ·intro _ vs W hp hv b hs
   have h7 : vs 7 = .pointer (some ⟨gr, 0, none⟩) := hv 7 (by decide)
   have t12 := (hs.tm 12 7 rfl).trans (congrArg some h7)
   exact stepVal rfl (by go_simp) ⟨Below.refl _ _, rfl⟩
  ·intro _ vs W hp hv b hs
   have h8 : vs 8 = .pointer (some ⟨gr, 0, none⟩) := hv 8 (by decide)
   have t13 := (hs.tm 13 8 rfl).trans (congrArg some h8)
   have cr := (Box.cell (blk_below H1.out.2.1.r hp) 0 _ rfl).1
   exact stepVal rfl (by go_simp) ⟨Below.refl _ _, rfl⟩
  ·intro _ vs W hp hv b hs
   have t2 := (hs.oldtm 2 rfl).trans (show _ = some (Value.pointer (some ⟨w.heap.size, 0, none⟩)) from rfl)
   exact stepVal rfl (by go_simp) ⟨Below.refl _ _, rfl⟩
  ·intro _ vs W hp hv b hs
   have h10 : vs 10 = .pointer (some ⟨w.heap.size, 2, none⟩) := hv 10 (by decide)
   have t15 := (hs.tm 15 10 rfl).trans (congrArg some h10)
   have k := blk_below H1.out.1 hp
   have c2 := (Box.cell k 2 _ rfl).1
   have c3 := (Box.cell k 3 _ rfl).1
   have c4 := (Box.cell k 4 _ rfl).1
   have c5 := (Box.cell k 5 _ rfl).1
   have c6 := (Box.cell k 6 _ rfl).1
   exact stepVal rfl (by go_simp) ⟨Below.refl _ _, rfl⟩
  ·intro _ vs W hp hv b hs
   have h9 : vs 9 = .pointer (some ⟨gm, 0, none⟩) := hv 9 (by decide)
   have h11 : vs 11 = eAgg x A c := hv 11 (by decide)
   refine stepCall rfl Tryz.func49 (by kernel_rfl) rfl #[vs 9, vs 11] rfl (by simp [Act.eval, hs.tm 14 9 rfl, hs.tm 16 11 rfl]) (by rw [h9, h11]; exact reckon_at bs x HE.out.1 gm A c W (H1.out.2.1.m.below hp) (Kd.C_below H1.out.2.2.1 hp) HE.out.2) ?_
   rintro e W' ⟨rfl, hb'⟩
   exact ⟨_, rfl, hb', rfl⟩
  ·intro h
   exact absurd h (by decide)
 ·intro o ho vs W hp hv b hs
  obtain rfl := Option.some.inj ho
  have h3 : vs 3 = .pointer (some ⟨gm, 0, none⟩) := hv 3 (by decide)
  have h5 : vs 5 = .agg #[.int .i64 p, .int .i64 q] := hv 5 (by decide)
  have h12 : vs 12 = .int .i64 (evalI bs x) := hv 12 (by decide)
  refine stepCall rfl Tryz.func46 (by kernel_rfl) rfl #[vs 3, vs 5, vs 12] rfl (by simp [Act.eval, hs.tm 8 3 rfl, hs.tm 10 5 rfl, hs.tm 17 12 rfl]) (by rw [h3, h5, h12]; exact put_any (fun b => b = gm) gm rfl bs p q _ W (H1.out.2.1.m.below hp)) ?_
  rintro e W' ⟨rfl, hm, hE⟩
  exact ⟨_, rfl, rfl, hm, (Ed.of_below hp).trans hE⟩
 ·rintro vs W ⟨_, hm, hE⟩
  have HF := Aside0.mk (show RunPost a gr gm (putB bs p q (evalI bs x), 0, f) w (.returned .nilIface) W from
   ⟨rfl, ⟨hm, (hE.far gr (blk_lt H1.out.2.1.r) H1.out.2.2.2.2).trans H1.out.2.1.r⟩, (Ed.of_below H1.out.2.2.2.1).trans (hE.mono fun b hb => .inr hb)⟩)
  simp only [List.map_cons, List.map_nil, putL, Act.put, List.setIfInBounds_toArray, List.set_cons_zero, List.set_cons_succ]
  clear hm hE
  go_wp2
  go_ret
  exact HF.out
set_option maxRecDepth 100000 in
set_option maxHeartbeats 4000000 in
theorem do_if (bs : List Int) (f : Int) (x : Ex) (he : formS 6 x = true) (r : Res) (a : Addr) (gr gm : Nat) (A : Option Addr) (c n1 n2 : Nat) (A1 : Option Addr) (c1 : Nat) (A2 : Option Addr) (c2 : Nat) (w : World) (hR : RunAt w gr gm bs f) (hC : Kd.C exK w A x.f3.length x.f3) (hc : x.f3.length ≤ c)
  (h1 : evalI bs x ≠ 0 → ∀ W, Below w.heap.size w W → RunAt W gr gm bs f → Calls Tryz.prog 37 #[.pointer (some ⟨gr, 0, none⟩), .slice A1 n1 c1] W (RunPost a gr gm r W))
  (h2 : evalI bs x = 0 → ∀ W, Below w.heap.size w W → RunAt W gr gm bs f → Calls Tryz.prog 37 #[.pointer (some ⟨gr, 0, none⟩), .slice A2 n2 c2] W (RunPost a gr gm r W)) :
  Calls Tryz.prog 128 #[.agg #[.int .i64 x.f0, .int .i64 x.f1, .int .i64 x.f2.f0, .int .i64 x.f2.f1, .slice A x.f3.length c, .slice A1 n1 c1, .slice A2 n2 c2], .pointer (some ⟨gr, 0, none⟩)] w (RunPost a gr gm r w) := by
 have mixed : Tryz.prog.follows .mixedOrders = true := rfl
 obtain ⟨w1, hw1⟩ : ∃ W, W = w.alloc (.cells #[.int .i64 x.f0, .int .i64 x.f1, .int .i64 x.f2.f0, .int .i64 x.f2.f1, .slice A x.f3.length c, .slice A1 n1 c1, .slice A2 n2 c2] 126 (0, 0)) := ⟨_, rfl⟩
 have hB : Below w.heap.size w w1 := by rw [hw1]; exact (Below.refl _ _).alloc (Nat.le_refl _) _
 have H1 := Aside0.mk (show Box w1 w.heap.size 126 #[.int .i64 x.f0, .int .i64 x.f1, .int .i64 x.f2.f0, .int .i64 x.f2.f1, .slice A x.f3.length c, .slice A1 n1 c1, .slice A2 n2 c2] ∧ RunAt w1 gr gm bs f ∧ Kd.C exK w1 A x.f3.length x.f3 ∧ Below w.heap.size w w1 from
  ⟨by rw [hw1]; exact heap_alloc_new _ _, hR.below hB, Kd.C_below hC hB, hB⟩)
 have HE := Aside0.mk (And.intro he hc)
 have HC := Aside0.mk (And.intro h1 h2)
 clear hR hC hB he hc h1 h2
 go_enter Tryz.func128, Tryz.ntmps128
 go_upto_region 1 with fail
 rw [← hw1]
 clear hw1
 refine weaveB_ (fun W => Below w1.heap.size w1 W) (Lasts.below w1) (Below.refl _ _) [(5, 0), (6, 1), (7, 2), (8, 3), (9, 4), (10, 5), (11, 6), (12, 7)]
  [fun v _ => v = .pointer (some ⟨gr, 0, none⟩), fun v _ => v = .pointer (some ⟨gr, 0, none⟩), fun v _ => v = .pointer (some ⟨gr, 0, none⟩), fun v _ => v = .pointer (some ⟨gm, 0, none⟩), fun v _ => v = .pointer (some ⟨w.heap.size, 0, none⟩), fun v _ => v = eAgg x A c, fun v _ => v = .int .i64 (evalI bs x), fun v _ => v = .bool (evalI bs x != 0)]
  mixed (by kernel_rfl) ⟨fun _ => Lasts.const _, fun _ => Lasts.const _, fun _ => Lasts.const _, fun _ => Lasts.const _, fun _ => Lasts.const _, fun _ => Lasts.const _, fun _ => Lasts.const _, fun _ => Lasts.const _, trivial⟩ ?_ ?_
 ·refine ⟨?_, ?_, ?_, ?_, ?_, ?_, ?_, ?_, trivial⟩
  ·intro vs W hp hv b hs
   have t1 := (hs.oldtm 1 rfl).trans (show _ = some (Value.pointer (some ⟨gr, 0, none⟩)) from rfl)
   exact stepVal rfl (by go_simp) ⟨Below.refl _ _, rfl⟩
  ·intro vs W hp hv b hs
   have h0 : vs 0 = .pointer (some ⟨gr, 0, none⟩) := hv 0 (by decide)
   have t5 := (hs.tm 5 0 rfl).trans (congrArg some h0)
   exact stepVal rfl (by go_simp) ⟨Below.refl _ _, rfl⟩
  ·intro vs W hp hv b hs
   have h1 : vs 1 = .pointer (some ⟨gr, 0, none⟩) := hv 1 (by decide)
   have t6 := (hs.tm 6 1 rfl).trans (congrArg some h1)
   exact stepVal rfl (by go_simp) ⟨Below.refl _ _, rfl⟩
  ·intro vs W hp hv b hs
   have h2 : vs 2 = .pointer (some ⟨gr, 0, none⟩) := hv 2 (by decide)
   have t7 := (hs.tm 7 2 rfl).trans (congrArg some h2)
   have cr := (Box.cell (blk_below H1.out.2.1.r hp) 0 _ rfl).1
   exact stepVal rfl (by go_simp) ⟨Below.refl _ _, rfl⟩
  ·intro vs W hp hv b hs
   have t2 := (hs.oldtm 2 rfl).trans (show _ = some (Value.pointer (some ⟨w.heap.size, 0, none⟩)) from rfl)
   exact stepVal rfl (by go_simp) ⟨Below.refl _ _, rfl⟩
  ·intro vs W hp hv b hs
   have h4 : vs 4 = .pointer (some ⟨w.heap.size, 0, none⟩) := hv 4 (by decide)
   have t9 := (hs.tm 9 4 rfl).trans (congrArg some h4)
   have k := blk_below H1.out.1 hp
   have c0 := (Box.cell k 0 _ rfl).1
   have c1' := (Box.cell k 1 _ rfl).1
   have c2' := (Box.cell k 2 _ rfl).1
   have c3 := (Box.cell k 3 _ rfl).1
   have c4 := (Box.cell k 4 _ rfl).1
   exact stepVal rfl (by go_simp) ⟨Below.refl _ _, rfl⟩
  ·intro vs W hp hv b hs
   have h3 : vs 3 = .pointer (some ⟨gm, 0, none⟩) := hv 3 (by decide)
   have h5 : vs 5 = eAgg x A c := hv 5 (by decide)
   refine stepCall rfl Tryz.func49 (by kernel_rfl) rfl #[vs 3, vs 5] rfl (by simp [Act.eval, hs.tm 8 3 rfl, hs.tm 10 5 rfl]) (by rw [h3, h5]; exact reckon_at bs x HE.out.1 gm A c W (H1.out.2.1.m.below hp) (Kd.C_below H1.out.2.2.1 hp) HE.out.2) ?_
   rintro e W' ⟨rfl, hb'⟩
   exact ⟨_, rfl, hb', rfl⟩
  ·intro vs W hp hv b hs
   have h6 : vs 6 = .int .i64 (evalI bs x) := hv 6 (by decide)
   refine stepCall rfl Tryz.func22 (by kernel_rfl) rfl #[vs 6] rfl (by simp [Act.eval, hs.tm 11 6 rfl]) (by rw [h6]; exact numOn_any _ W) ?_
   rintro e W' ⟨rfl, hb'⟩
   exact ⟨_, rfl, hb', rfl⟩
 ·intro vs W hp hv
  have h7 : vs 7 = .bool (evalI bs x != 0) := hv 7 (by decide)
  have HW := Aside0.mk (show Below w.heap.size w W ∧ RunAt W gr gm bs f from ⟨H1.out.2.2.2.trans (hp.mono H1.out.2.2.2.size), H1.out.2.1.below hp⟩)
  have k := blk_below H1.out.1 hp
  have k5 := (Box.cell k 5 _ rfl).1
  have k6 := (Box.cell k 6 _ rfl).1
  simp only [List.map_cons, List.map_nil, putL, Act.put, List.setIfInBounds_toArray, List.set_cons_zero, List.set_cons_succ, h7]
  clear hv hp h7 k
  by_cases h0 : evalI bs x = 0
  ·have b0 : (evalI bs x != 0) = false := by simp [h0]
   have HQ := Aside0.mk (HC.out.2 h0 W HW.out.1 HW.out.2)
   clear h0
   rw [b0]
   go_wp2_with fail
   refine HQ.out.mono ?_
   rintro e W' ⟨rfl, hr, hE⟩
   have HF := Aside0.mk (show RunPost a gr gm r w (.returned (errOf a r.2.1)) W' from ⟨rfl, hr, (Ed.of_below HW.out.1).trans hE⟩)
   clear hr hE HQ k5 k6
   generalize errOf a r.2.1 = ev at HF ⊢
   go_wp2
   go_ret
   exact HF.out
  ·have b0 : (evalI bs x != 0) = true := by simp [h0]
   have HQ := Aside0.mk (HC.out.1 h0 W HW.out.1 HW.out.2)
   clear h0
   rw [b0]
   go_wp2_with fail
   refine HQ.out.mono ?_
   rintro e W' ⟨rfl, hr, hE⟩
   have HF := Aside0.mk (show RunPost a gr gm r w (.returned (errOf a r.2.1)) W' from ⟨rfl, hr, (Ed.of_below HW.out.1).trans hE⟩)
   clear hr hE HQ k5 k6
   generalize errOf a r.2.1 = ev at HF ⊢
   go_wp2
   go_ret
   exact HF.out
end Go.Proofs.YtendbgedpjcocaaGreatDoor.B
/- impl's runner: a loop is done, a list is done. -/
namespace Go.Proofs.YtendbgedpjcocaaGreatDoor.B
open Go Go.RowKit Go.Shelf Go.Proofs.YtendbgedpjcocaaGreatDoorW.PrintWords Go.Proofs.YtendbgedpjcocaaGreatDoorW.PrintLast Go.Proofs.YtendbgedpjcocaaGreatDoorW.PrintMore
set_option linter.unusedVariables false

def AllCon (k : Nat) : Prop := ∀ (d : Nat) (l : List St), formT d l = true → ∀ (bs : List Int) (f : Int) (r : Res), runL k bs l f = some r → 0 ≤ f → f ≤ 100 → ∀ (a : Addr) (gr gm : Nat) (w0 w : World) (A : Option Addr) (c : Nat),
 Env w0 w gr gm a → RunAt w gr gm bs f → Kd.C stK w0 A l.length l → l.length ≤ c → Calls Tryz.prog 37 #[.pointer (some ⟨gr, 0, none⟩), .slice A l.length c] w (RunPost a gr gm r w)
theorem fits_run {d : Nat} {l : List St} (hl : formT d l = true) {k : Nat} {bs : List Int} {f : Int} {r : Res} (h : runL k bs l f = some r) (hf : 0 ≤ f) : Fits f r := by
 obtain ⟨r', hr, hF⟩ := run_total d l hl f bs hf
 rw [hr.one ⟨k, h⟩] at hF
 exact hF
theorem fits_step {d : Nat} {s : St} (hl : formT d [s] = true) {k : Nat} {bs : List Int} {f : Int} {r : Res} (h : stepR k bs s f = some r) (hf : 0 ≤ f) : Fits f r := by
 obtain ⟨r', hr, hF⟩ := run_total d [s] hl f bs hf
 rw [hr.one (Run.single.2 ⟨k, h⟩)] at hF
 exact hF
/-- A loop that goes on is a loop with a step less. -/
theorem again_step {k : Nat} {bs : List Int} {s : St} {f : Int} {r : Res} (h : runL k bs [s] f = some r) : ∃ k', k = k' + 1 ∧ stepR k' bs s f = some r := by
 cases k with
 | zero => rw [runL] at h; cases h
 | succ k =>
  refine ⟨k, rfl, ?_⟩
  rw [runL_cons] at h
  obtain ⟨r1, hr1, h⟩ := Option.bind_eq_some_iff.1 h
  by_cases hc : r1.2.1 = 0
  ·rw [if_pos hc] at h
   cases k with
   | zero => rw [runL] at h; cases h
   | succ k =>
    rw [runL_nil] at h
    injection h with h
    obtain ⟨b, c, f'⟩ := r1
    simp only at hc h
    subst hc
    rw [← h]; exact hr1
  ·rw [if_neg hc] at h
   injection h with h
   rw [← h]; exact hr1
theorem blk_ed {F : Nat → Prop} {w w' : World} {g t : Nat} {cs : Array Value} (h : w.heap[g]? = some (.cells cs t (0, 0))) (hE : Ed F w w') (hn : ¬ F g) : w'.heap[g]? = some (.cells cs t (0, 0)) := (hE.far g (blk_lt h) hn).trans h
set_option maxRecDepth 100000 in
set_option maxHeartbeats 8000000 in
theorem do_while (k : Nat) (hall : ∀ k', k' ≤ k → AllCon k') (d : Nat) (s : St) (h3 : s.f0 = 3) (he : formS 6 s.f2 = true) (hd : formT d s.f3 = true) (bs : List Int) (f : Int) (r : Res) (hr : stepR k bs s f = some r) (hf0 : 0 ≤ f) (hf1 : f ≤ 100)
  (a : Addr) (gr gm : Nat) (w0 w : World) (A : Option Addr) (c : Nat) (A8 : Option Addr) (c8 : Nat) (hN : Env w0 w gr gm a) (hR : RunAt w gr gm bs f) (hC : Kd.C exK w0 A s.f2.f3.length s.f2.f3) (hc : s.f2.f3.length ≤ c) (hC8 : Kd.C stK w0 A8 s.f3.length s.f3) (hc8 : s.f3.length ≤ c8) :
  Calls Tryz.prog 131 #[.agg #[.int .i64 s.f2.f0, .int .i64 s.f2.f1, .int .i64 s.f2.f2.f0, .int .i64 s.f2.f2.f1, .slice A s.f2.f3.length c, .slice A8 s.f3.length c8], .pointer (some ⟨gr, 0, none⟩)] w (RunPost a gr gm r w) := by
 have mixed : Tryz.prog.follows .mixedOrders = true := rfl
 obtain ⟨x, hx⟩ : ∃ x, x = s.f2 := ⟨_, rfl⟩
 obtain ⟨n8, hn8⟩ : ∃ n, n = s.f3.length := ⟨_, rfl⟩
 rw [← hx] at he hC hc ⊢
 rw [← hn8]
 obtain ⟨w1, hw1⟩ : ∃ W, W = w.alloc (.cells #[.int .i64 x.f0, .int .i64 x.f1, .int .i64 x.f2.f0, .int .i64 x.f2.f1, .slice A x.f3.length c, .slice A8 n8 c8] 128 (0, 0)) := ⟨_, rfl⟩
 have hB : Below w.heap.size w w1 := by rw [hw1]; exact (Below.refl _ _).alloc (Nat.le_refl _) _
 have hnb : ¬ Fm gr gm w.heap.size := by
  intro h
  rcases h with h | h
  ·have := blk_lt hR.r; omega
  ·have := blk_lt hR.m.b; omega
 have H1 := Aside0.mk (show Box w1 w.heap.size 128 #[.int .i64 x.f0, .int .i64 x.f1, .int .i64 x.f2.f0, .int .i64 x.f2.f1, .slice A x.f3.length c, .slice A8 n8 c8] ∧ RunAt w1 gr gm bs f ∧ Env w0 w1 gr gm a ∧ Ed (Fm gr gm) w w1 from
  ⟨by rw [hw1]; exact heap_alloc_new _ _, hR.below hB, hN.below hB, Ed.of_below hB⟩)
 have HE := Aside0.mk (And.intro he (And.intro hc (And.intro hC (And.intro hC8 (And.intro hc8 (And.intro hd (And.intro hx (And.intro hn8 (And.intro h3 (And.intro hnb hall))))))))))
 have HS := Aside0.mk (And.intro hr (And.intro hf0 hf1))
 clear hR hC hB he hc hC8 hc8 hd hN hr hf0 hf1 hall hx hn8 h3 hnb
 go_enter Tryz.func131, Tryz.ntmps131
 go_wp2_with fail
 rw [← hw1]
 clear hw1
 go_loopg [4] k (fun kq v4 W => ∃ (bs' : List Int) (f' : Int), v4 = .nilIface ∧ Aside0 (stepR kq bs' s f' = some r ∧ kq ≤ k ∧ 0 ≤ f' ∧ f' ≤ 100 ∧ Box W w.heap.size 128 #[.int .i64 x.f0, .int .i64 x.f1, .int .i64 x.f2.f0, .int .i64 x.f2.f1, .slice A x.f3.length c, .slice A8 n8 c8] ∧ RunAt W gr gm bs' f' ∧ Env w0 W gr gm a ∧ Ed (Fm gr gm) w W))
 case atStart => exact ⟨bs, f, rfl, ⟨HS.out.1, Nat.le_refl _, HS.out.2.1, HS.out.2.2, H1.out.1, H1.out.2.1, H1.out.2.2.1, H1.out.2.2.2⟩⟩
 case round =>
  obtain ⟨b', f', rfl, HR⟩ := hrel
  rename World => w2
  clear HS H1
  go_upto_region 1 with fail
  refine weaveB_ (fun W => Below w2.heap.size w2 W) (Lasts.below w2) (Below.refl _ _) [(7, 0), (8, 1), (9, 2), (10, 3), (11, 4), (12, 5), (13, 6), (14, 7)]
   [fun v _ => v = .pointer (some ⟨gr, 0, none⟩), fun v _ => v = .pointer (some ⟨gr, 0, none⟩), fun v _ => v = .pointer (some ⟨gr, 0, none⟩), fun v _ => v = .pointer (some ⟨gm, 0, none⟩), fun v _ => v = .pointer (some ⟨w.heap.size, 0, none⟩), fun v _ => v = eAgg x A c, fun v _ => v = .int .i64 (evalI b' x), fun v _ => v = .bool (evalI b' x != 0)]
   mixed (by kernel_rfl) ⟨fun _ => Lasts.const _, fun _ => Lasts.const _, fun _ => Lasts.const _, fun _ => Lasts.const _, fun _ => Lasts.const _, fun _ => Lasts.const _, fun _ => Lasts.const _, fun _ => Lasts.const _, trivial⟩ ?_ ?_
  ·refine ⟨?_, ?_, ?_, ?_, ?_, ?_, ?_, ?_, trivial⟩
   ·intro vs W hp hv b hs
    have t1 := (hs.oldtm 1 rfl).trans (show _ = some (Value.pointer (some ⟨gr, 0, none⟩)) from rfl)
    exact stepVal rfl (by go_simp) ⟨Below.refl _ _, rfl⟩
   ·intro vs W hp hv b hs
    have h0 : vs 0 = .pointer (some ⟨gr, 0, none⟩) := hv 0 (by decide)
    have t5 := (hs.tm 7 0 rfl).trans (congrArg some h0)
    exact stepVal rfl (by go_simp) ⟨Below.refl _ _, rfl⟩
   ·intro vs W hp hv b hs
    have h1 : vs 1 = .pointer (some ⟨gr, 0, none⟩) := hv 1 (by decide)
    have t6 := (hs.tm 8 1 rfl).trans (congrArg some h1)
    exact stepVal rfl (by go_simp) ⟨Below.refl _ _, rfl⟩
   ·intro vs W hp hv b hs
    have h2 : vs 2 = .pointer (some ⟨gr, 0, none⟩) := hv 2 (by decide)
    have t7 := (hs.tm 9 2 rfl).trans (congrArg some h2)
    have cr := (Box.cell (blk_below HR.out.2.2.2.2.2.1.r hp) 0 _ rfl).1
    exact stepVal rfl (by go_simp) ⟨Below.refl _ _, rfl⟩
   ·intro vs W hp hv b hs
    have t2 := (hs.oldtm 2 rfl).trans (show _ = some (Value.pointer (some ⟨w.heap.size, 0, none⟩)) from rfl)
    exact stepVal rfl (by go_simp) ⟨Below.refl _ _, rfl⟩
   ·intro vs W hp hv b hs
    have h4 : vs 4 = .pointer (some ⟨w.heap.size, 0, none⟩) := hv 4 (by decide)
    have t9 := (hs.tm 11 4 rfl).trans (congrArg some h4)
    have k := blk_below HR.out.2.2.2.2.1 hp
    have c0 := (Box.cell k 0 _ rfl).1
    have c1' := (Box.cell k 1 _ rfl).1
    have c2' := (Box.cell k 2 _ rfl).1
    have c3 := (Box.cell k 3 _ rfl).1
    have c4 := (Box.cell k 4 _ rfl).1
    exact stepVal rfl (by go_simp) ⟨Below.refl _ _, rfl⟩
   ·intro vs W hp hv b hs
    have h3 : vs 3 = .pointer (some ⟨gm, 0, none⟩) := hv 3 (by decide)
    have h5 : vs 5 = eAgg x A c := hv 5 (by decide)
    refine stepCall rfl Tryz.func49 (by kernel_rfl) rfl #[vs 3, vs 5] rfl (by simp [Act.eval, hs.tm 10 3 rfl, hs.tm 12 5 rfl]) (by rw [h3, h5]; exact reckon_at b' x HE.out.1 gm A c W (HR.out.2.2.2.2.2.1.m.below hp) (Kd.C_below (Kd.C_below HE.out.2.2.1 HR.out.2.2.2.2.2.2.1.b) hp) HE.out.2.1) ?_
    rintro e W' ⟨rfl, hb'⟩
    exact ⟨_, rfl, hb', rfl⟩
   ·intro vs W hp hv b hs
    have h6 : vs 6 = .int .i64 (evalI b' x) := hv 6 (by decide)
    refine stepCall rfl Tryz.func22 (by kernel_rfl) rfl #[vs 6] rfl (by simp [Act.eval, hs.tm 13 6 rfl]) (by rw [h6]; exact numOn_any _ W) ?_
    rintro e W' ⟨rfl, hb'⟩
    exact ⟨_, rfl, hb', rfl⟩
  ·intro vs W hp hv
   have h7 : vs 7 = .bool (evalI b' x != 0) := hv 7 (by decide)
   have HW := Aside0.mk (show RunAt W gr gm b' f' ∧ Env w0 W gr gm a ∧ Ed (Fm gr gm) w W ∧ Box W w.heap.size 128 #[.int .i64 x.f0, .int .i64 x.f1, .int .i64 x.f2.f0, .int .i64 x.f2.f1, .slice A x.f3.length c, .slice A8 n8 c8] from
    ⟨HR.out.2.2.2.2.2.1.below hp, HR.out.2.2.2.2.2.2.1.below hp, HR.out.2.2.2.2.2.2.2.trans (Ed.of_below hp), blk_below HR.out.2.2.2.2.1 hp⟩)
   have k5 := (Box.cell HW.out.2.2.2 5 _ rfl).1
   simp only [List.map_cons, List.map_nil, putL, Act.put, List.setIfInBounds_toArray, List.set_cons_zero, List.set_cons_succ, h7]
   clear hv hp h7
   have hst := HR.out.1
   unfold stepR at hst
   rw [if_neg (by have := HE.out.2.2.2.2.2.2.2.2.1; omega), if_pos HE.out.2.2.2.2.2.2.2.2.1, ← HE.out.2.2.2.2.2.2.1] at hst
   by_cases h0 : evalI b' x = 0
   ·rw [if_pos h0] at hst
    injection hst with hst
    have b0 : (evalI b' x != 0) = false := by simp [h0]
    have HF := Aside0.mk (show RunPost a gr gm r w (.returned .nilIface) W from by rw [← hst]; exact ⟨rfl, HW.out.1, HW.out.2.2.1⟩)
    clear h0 hst k5
    rw [b0]
    go_wp2
    go_ret
    exact HF.out
   ·rw [if_neg h0] at hst
    obtain ⟨r2, hr2, hst⟩ := Option.bind_eq_some_iff.1 hst
    have b0 : (evalI b' x != 0) = true := by simp [h0]
    have hF2 := fits_run HE.out.2.2.2.2.2.1 hr2 HR.out.2.2.1
    have HQ := Aside0.mk (HE.out.2.2.2.2.2.2.2.2.2.2 _ HR.out.2.1 d s.f3 HE.out.2.2.2.2.2.1 b' f' r2 hr2 HR.out.2.2.1 HR.out.2.2.2.1 a gr gm w0 W A8 c8 HW.out.2.1 HW.out.1 HE.out.2.2.2.1 HE.out.2.2.2.2.1)
    have HFT := Aside0.mk hF2
    have HST := Aside0.mk hst
    clear h0 hst hr2 hF2
    rw [b0]
    rw [← HE.out.2.2.2.2.2.2.2.1] at HQ
    go_wp2_with fail
    refine HQ.out.mono ?_
    rintro e W' ⟨rfl, hrr, hE⟩
    have H2 := Aside0.mk (show RunAt W' gr gm r2.1 r2.2.2 ∧ Env w0 W' gr gm a ∧ Ed (Fm gr gm) w W' ∧ Box W' w.heap.size 128 #[.int .i64 x.f0, .int .i64 x.f1, .int .i64 x.f2.f0, .int .i64 x.f2.f1, .slice A x.f3.length c, .slice A8 n8 c8] from
     ⟨hrr, HW.out.2.1.step hE, HW.out.2.2.1.trans hE, blk_ed HW.out.2.2.2 hE HE.out.2.2.2.2.2.2.2.2.2.1⟩)
    clear hrr hE HQ k5
    by_cases hc2 : r2.2.1 = 0
    ·have hst := HST.out
     rw [if_pos hc2] at hst
     rw [errOf, if_pos hc2]
     by_cases hl : r2.2.2 < 1
     ·rw [if_pos hl] at hst
      injection hst with hst
      have hz : r2.2.2 = 0 := by have := HFT.out.lo; omega
      have hR2 := H2.out.1
      rw [hz] at hR2
      have HF := Aside0.mk (show RunPost a gr gm r w (.returned (errOf a 1)) W' from by rw [← hst]; exact ⟨rfl, hR2, H2.out.2.2.1⟩)
      have HT := Aside0.mk (take_none gr gm r2.1 a W' hR2 H2.out.2.1.err)
      clear hst hl hz hR2 hc2
      go_wp2_with fail
      refine HT.out.mono ?_
      rintro e W'' ⟨rfl, rfl⟩
      have hne : errOf a 1 = .iface 156 (.pointer (some a)) := by rw [errOf, if_neg (by decide)]
      rw [hne]
      clear HT
      go_wp2
      go_ret
      have := HF.out
      rw [hne] at this
      exact this
     ·rw [if_neg hl] at hst
      obtain ⟨k', hk', hst'⟩ := again_step hst
      have HT := Aside0.mk (take_some gr gm H2.out.2.1.ne r2.1 r2.2.2 W' H2.out.1 (by omega) (by have h1 := HFT.out.hi; have h2 := HR.out.2.2.2.1; omega))
      have HK := Aside0.mk (And.intro hk' (And.intro hst' hl))
      clear hst hl hc2 hk' hst'
      go_wp2_with fail
      refine HT.out.mono ?_
      rintro e W'' ⟨rfl, hrr, hE⟩
      have H3 := Aside0.mk (show RunAt W'' gr gm r2.1 (r2.2.2 - 1) ∧ Env w0 W'' gr gm a ∧ Ed (Fm gr gm) w W'' ∧ Box W'' w.heap.size 128 #[.int .i64 x.f0, .int .i64 x.f1, .int .i64 x.f2.f0, .int .i64 x.f2.f1, .slice A x.f3.length c, .slice A8 n8 c8] from
       ⟨hrr, H2.out.2.1.step hE, H2.out.2.2.1.trans hE, blk_ed H2.out.2.2.2 hE HE.out.2.2.2.2.2.2.2.2.2.1⟩)
      clear hrr hE HT
      go_wp2_with fail
      go_roundg k'
      case measure => have := HK.out.1; omega
      case rel => exact ⟨r2.1, r2.2.2 - 1, rfl, ⟨HK.out.2.1, by have h1 := HK.out.1; have h2 := HR.out.2.1; omega, by have := HK.out.2.2; omega, by have h1 := HFT.out.hi; have h2 := HR.out.2.2.2.1; omega, H3.out.2.2.2, H3.out.1, H3.out.2.1, H3.out.2.2.1⟩⟩
    ·have hst := HST.out
     rw [if_neg hc2] at hst
     injection hst with hst
     have hne : errOf a r2.2.1 = .iface 156 (.pointer (some a)) := by rw [errOf, if_neg hc2]
     have HF := Aside0.mk (show RunPost a gr gm r w (.returned (.iface 156 (.pointer (some a)))) W' from by rw [← hst]; exact ⟨by rw [hne], H2.out.1, H2.out.2.2.1⟩)
     rw [hne]
     clear hst hc2 hne
     go_wp2
     go_ret
     exact HF.out
end Go.Proofs.YtendbgedpjcocaaGreatDoor.B
/- impl.ExprOf, in the print's form. -/
namespace Go.Proofs.YtendbgedpjcocaaGreatDoor.B
open Go.RowKit Go.Proofs.YtendbgedpjcocaaGreatDoorW.PrintWords Go.Proofs.YtendbgedpjcocaaGreatDoorW.PrintLast Go.Proofs.YtendbgedpjcocaaGreatDoorW.PrintMore
set_option linter.unusedVariables false

end Go.Proofs.YtendbgedpjcocaaGreatDoor.B
/- What the specification and the program say of what is drawn, for every number of rounds that is great enough. -/
namespace Go.Proofs.YtendbgedpjcocaaGreatDoor.B
open Go.RowKit Go.Proofs.YtendbgedpjcocaaGreatDoorW.PrintWords Go.Proofs.YtendbgedpjcocaaGreatDoorW.PrintLast Go.Proofs.YtendbgedpjcocaaGreatDoorW.PrintMore
set_option linter.unusedVariables false

theorem ev_up {α : Type} {f : Nat → Option α} (h : ∀ k, LeO (f k) (f (k + 1))) {r : α} (hr : ∃ k, f k = some r) : ∃ K, ∀ k, K ≤ k → f k = some r := by
 obtain ⟨K, hK⟩ := hr
 exact ⟨K, fun k hk => up_le h hk hK⟩
theorem specMem_ev (m0 m1 m2 : List Int) (h : Mini m0 m1 m2) : ∃ K, ∀ k, K ≤ k → spec_MemOk.f k m0 m1 m2 = some (memOkL m0 m1 m2) :=
 ev_up (f := fun k => spec_MemOk.f k m0 m1 m2) (fun k => spec_MemOk.mono _ _ _ k) (memOk_spec m0 m1 m2 (by have := h.1; omega) (by have := h.2.1; omega) (by have := h.2.2; omega))
end Go.Proofs.YtendbgedpjcocaaGreatDoor.B
/- Trees and memories as values that are only read, and the functions over them. -/
namespace Go.Proofs.YtendbgedpjcocaaGreatDoor.B
open Go Go.RowKit Go.Proofs.YtendbgedpjcocaaGreatDoorW.PrintWords Go.Proofs.YtendbgedpjcocaaGreatDoorW.PrintLast Go.Proofs.YtendbgedpjcocaaGreatDoorW.PrintMore
set_option linter.unusedVariables false

/-- A tree's cells, a memory's cells. -/
def eA (x : Ex) (A : Option Addr) (c : Nat) : Array Value := #[.int .i64 x.f0, .int .i64 x.f1, .int .i64 x.f2.f0, .int .i64 x.f2.f1, .slice A x.f3.length c]
def mA (m : List Int × List Int × List Int) (p : (Option Addr × Nat) × (Option Addr × Nat) × (Option Addr × Nat)) : Array Value := #[.slice p.1.1 m.1.length p.1.2, .slice p.2.1.1 m.2.1.length p.2.1.2, .slice p.2.2.1 m.2.2.length p.2.2.2]
def mZ : Array Value := #[.slice none 0 0, .slice none 0 0, .slice none 0 0]
theorem mA_one (m : List Int × List Int × List Int) (p : (Option Addr × Nat) × (Option Addr × Nat) × (Option Addr × Nat)) : (mA m p).all (·.oneCell') = true := by simp [mA, Value.oneCell']
section
variable {ops : Array Oper} {rest : List Oper} {o : Oper} {a : Act} {Q : Exit → Act → World → Prop} {W : World}
theorem getM_ {N q : Tmp} {g : Nat} {m : List Int × List Int × List Int} {p : (Option Addr × Nat) × (Option Addr × Nat) × (Option Addr × Nat)} (ho : o.op = .load 30 (.tmp q)) (hd : o.dst = some N) (hg : o.guard = none) (hx : a.eval (.tmp q) = .pointer (some ⟨g, 0, none⟩)) (hb : Box W g 30 (mA m p))
  (h : wpList Tryz.prog ops Q rest (a.put (some N) (.agg (mA m p))) W) : wpList Tryz.prog ops Q (o :: rest) a W := boxGet_ ho hd hg hx hb Tryz.underlying30 rfl (by kernel_rfl) h
end
structure TVo (W : World) (ok : Nat → Prop) (x : Ex) (A : Option Addr) (c : Nat) : Prop where
 v : Kd.V k27 27 W 0 ok (.slice A x.f3.length c) x.f3
abbrev TV (W : World) (x : Ex) (A : Option Addr) (c : Nat) : Prop := TVo W (fun _ => True) x A c
theorem TV.ofN {W : World} {x : Ex} {B : Option Addr} {d base : Nat} {ok ok' : Nat → Prop} (h : Kd.N k27 27 W base ok (.slice B x.f3.length d) x.f3) (hok : ∀ k, ok k → ok' k) : TVo W ok' x B d := ⟨Kd.V_mono (Kd.N_V (base' := 0) h) hok⟩
theorem TVo.reads {W : World} {ok : Nat → Prop} {x : Ex} {A : Option Addr} {c : Nat} (h : TVo W ok x A c) : x.f3.length ≤ c ∧ Kd.C k27 W A x.f3.length x.f3 := (Kd.V_reads' h.v).2
structure MV (W : World) (m : List Int × List Int × List Int) (p : (Option Addr × Nat) × (Option Addr × Nat) × (Option Addr × Nat)) : Prop where
 l0 : m.1.length ≤ p.1.2
 c0 : Kd.C (Kd.int .i64) W p.1.1 m.1.length m.1
 l1 : m.2.1.length ≤ p.2.1.2
 c1 : Kd.C (Kd.int .i64) W p.2.1.1 m.2.1.length m.2.1
 l2 : m.2.2.length ≤ p.2.2.2
 c2 : Kd.C (Kd.int .i64) W p.2.2.1 m.2.2.length m.2.2
theorem MV.last (m : List Int × List Int × List Int) (p : (Option Addr × Nat) × (Option Addr × Nat) × (Option Addr × Nat)) : Lasts fun W => MV W m p := fun _ _ hb h => ⟨h.l0, Kd.C_below h.c0 hb, h.l1, Kd.C_below h.c1 hb, h.l2, Kd.C_below h.c2 hb⟩
def mOk (m : List Int × List Int × List Int) : Bool := memOkL m.1 m.2.1 m.2.2
theorem specMem_any (m : List Int × List Int × List Int) (hn : Mini m.1 m.2.1 m.2.2) (p : (Option Addr × Nat) × (Option Addr × Nat) × (Option Addr × Nat)) (W : World) (hm : MV W m p) :
  Calls Tryz.prog 17 #[.agg (mA m p)] W fun e W' => e = .returned (.bool (mOk m)) ∧ Below W.heap.size W W' := by
 obtain ⟨K, hK⟩ := specMem_ev m.1 m.2.1 m.2.2 hn
 exact spec_MemOk.calls K _ _ m.1 _ _ m.2.1 _ _ m.2.2 _ W hm.c0 hm.l0 hm.c1 hm.l1 hm.c2 hm.l2 (hK K (Nat.le_refl _))
end Go.Proofs.YtendbgedpjcocaaGreatDoor.B
/- impl.StmtsOk, in the print's form. -/
namespace Go.Proofs.YtendbgedpjcocaaGreatDoor.B
open Go.RowKit Go.Shelf Go.Proofs.YtendbgedpjcocaaGreatDoorW.PrintWords Go.Proofs.YtendbgedpjcocaaGreatDoorW.PrintLast Go.Proofs.YtendbgedpjcocaaGreatDoorW.PrintMore
set_option linter.unusedVariables false

def impl_StmtsOk.f (l0 : List S35) : Option Bool := some (countL 4 l0 0).1
theorem impl_StmtsOk.calls (A0 : Option Addr) (c0 : Nat) (l0 : List S35) (r : Bool) (w : World) (hr0 : Kd.C k35 w A0 l0.length l0) (hc0 : l0.length ≤ c0) (h : impl_StmtsOk.f l0 = some r) :
  Calls Tryz.prog 36 #[.slice A0 l0.length c0] w fun e w' => e = .returned (.bool r) ∧ Below w.heap.size w w' := by
 obtain rfl := Option.some.inj h
 exact stmtsOk_of (fun e A c w hC hc => exprOk_any e A c w hC hc) A0 c0 l0 w hr0 hc0
end Go.Proofs.YtendbgedpjcocaaGreatDoor.B
/- impl.MemGet, in the print's form. -/
namespace Go.Proofs.YtendbgedpjcocaaGreatDoor.B
open Go.RowKit Go.Proofs.YtendbgedpjcocaaGreatDoorW.PrintWords Go.Proofs.YtendbgedpjcocaaGreatDoorW.PrintLast Go.Proofs.YtendbgedpjcocaaGreatDoorW.PrintMore
set_option linter.unusedVariables false

end Go.Proofs.YtendbgedpjcocaaGreatDoor.B
