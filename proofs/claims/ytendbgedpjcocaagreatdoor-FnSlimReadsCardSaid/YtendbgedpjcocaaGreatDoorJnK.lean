import Derived.Test.YtendbgedpjcocaaGreatDoorJnD
import Derived.Test.YtendbgedpjcocaaGreatDoorJnE
import Derived.Test.YtendbgedpjcocaaGreatDoorPkA
import Derived.Test.YtendbgedpjcocaaGreatDoorB0
import Derived.Test.YtendbgedpjcocaaGreatDoorSq
import Derived.Test.YtendbgedpjcocaaGreatDoorJnF
import Derived.Test.YtendbgedpjcocaaGreatDoorJnG
import Derived.Test.YtendbgedpjcocaaGreatDoorJnA
import Derived.Test.YtendbgedpjcocaaGreatDoorPkB
/- The specification's memory while statements are run: three rows of its own. -/
namespace Go.Proofs.YtendbgedpjcocaaGreatDoor.B
open Go Go.RowKit Go.Shelf Go.Lib Go.Proofs.YtendbgedpjcocaaGreatDoorW.PrintWords Go.Proofs.YtendbgedpjcocaaGreatDoorW.PrintLast Go.Proofs.YtendbgedpjcocaaGreatDoorW.PrintMore
set_option linter.unusedVariables false
/-- Elder blocks stay, but for rows of numbers. -/
structure KeepI (w w' : World) : Prop where
 size : w.heap.size ≤ w'.heap.size
 keep : ∀ (b : Nat) (cs : Array Value) (t : TypeId), t ≠ 3 → w.heap[b]? = some (.cells cs t (0, 0)) → w'.heap[b]? = some (.cells cs t (0, 0))
theorem own_blk {W : World} {base : Nat} {e : TypeId} {v : Value} {xs : List Value} (h : W.ownsRow base e 1 v 6 xs) : ∃ g cap, v = .slice (some ⟨g, 0, none⟩) 6 cap ∧ base ≤ g ∧ ∃ cells, W.heap[g]? = some (.cells cells e (0, 0)) := by
 rcases h.2 with ⟨_, h6⟩ | ⟨g, cap, cur, rfl, hg, hh, _⟩
 ·cases h6
 ·exact ⟨g, cap, rfl, hg, cur, hh⟩
theorem stepSkipB {P : Program} {ops : Array Oper} {o : Oper} {b : Act} {W W' : World} {Ψ : Value → World → Prop} (hw : Region.wanted o (yielded ops b.tmps) = true) (hrun : (execOp b.eval o).run P W = .ok .skip W') (h : Ψ undef W') : StepOK P ops o b W Ψ := fun K Q hK => by
 rw [if_pos hw]
 unfold Oper.wp
 rw [hrun]
 exact hK _ _ h
/-- What a put into one of three rows leaves. -/
structure PutTo (w0 w : World) (u0 u1 u2 : Value) (bs : List Int) (W : World) : Prop where
 b3 : Box W w.heap.size 30 #[u0, u1, u2]
 b6 : Box W (w.heap.size + 1 + 1) 30 mZ
 m : MemRows W w0.heap.size u0 u1 u2 bs
 b : Below w0.heap.size w0 W
 k : KeepI w W
section
variable {ops : Array Oper} {o : Oper} {b : Act} {W : World} {Ψ : Value → World → Prop}
end
end Go.Proofs.YtendbgedpjcocaaGreatDoor.B
/- The specification's runner: a loop. -/
namespace Go.Proofs.YtendbgedpjcocaaGreatDoor.B
open Go Go.RowKit Go.Shelf Go.Proofs.YtendbgedpjcocaaGreatDoorW.PrintWords Go.Proofs.YtendbgedpjcocaaGreatDoorW.PrintLast Go.Proofs.YtendbgedpjcocaaGreatDoorW.PrintMore
set_option linter.unusedVariables false
structure SpEnv (w0 w : World) (v0 v1 v2 : Value) (bs : List Int) : Prop where
 m : MemRows w w0.heap.size v0 v1 v2 bs
 b : Below w0.heap.size w0 w
 n : bs.length = 18
/-- A runner's own two boxes: the memory at hand (as it was stored last), and what will be told. -/
structure SpBox (w0 w W : World) (n6 : Nat) (c0 c1 c2 v0 v1 v2 : Value) (bs : List Int) : Prop where
 e : SpEnv w0 W v0 v1 v2 bs
 b3 : Box W w.heap.size 30 #[c0, c1, c2]
 b6 : Box W n6 30 mZ
 k : KeepI w W
 ne : w.heap.size < n6
 lw : w0.heap.size ≤ w.heap.size
abbrev stA (s : St) (A7 : Option Addr) (c7 : Nat) (A8 : Option Addr) (c8 : Nat) (A9 : Option Addr) (c9 : Nat) : Array Value :=
 #[.int .i64 s.f0, .int .i64 s.f1.f0, .int .i64 s.f1.f1, .int .i64 s.f2.f0, .int .i64 s.f2.f1, .int .i64 s.f2.f2.f0, .int .i64 s.f2.f2.f1, .slice A7 s.f2.f3.length c7, .slice A8 s.f3.length c8, .slice A9 s.f4.length c9]
end Go.Proofs.YtendbgedpjcocaaGreatDoor.B
/- The specification's runner: a list (printed by mkspl.py). -/
namespace Go.Proofs.YtendbgedpjcocaaGreatDoor.B
open Go Go.RowKit Go.Shelf Go.Proofs.YtendbgedpjcocaaGreatDoorW.PrintWords Go.Proofs.YtendbgedpjcocaaGreatDoorW.PrintLast Go.Proofs.YtendbgedpjcocaaGreatDoorW.PrintMore
set_option linter.unusedVariables false
end Go.Proofs.YtendbgedpjcocaaGreatDoor.B
/- spec.StmtsRun says what impl.StmtsRun says. -/
namespace Go.Proofs.YtendbgedpjcocaaGreatDoor.B
open Go Go.RowKit Go.Shelf Go.Proofs.YtendbgedpjcocaaGreatDoorW.PrintWords Go.Proofs.YtendbgedpjcocaaGreatDoorW.PrintLast Go.Proofs.YtendbgedpjcocaaGreatDoorW.PrintMore
set_option linter.unusedVariables false
/-- Statements that the specification's own StmtsOk comes to an end of. -/
def StFit (l : List St) : Prop := manyT 4 l ≤ 1048576 ∧ ∀ s ∈ l, istOk s
theorem stOkS_any (l : List St) (hl : StFit l) (A : Option Addr) (c : Nat) (w : World) (hC : Kd.C stK w A l.length l) (hc : l.length ≤ c) : Calls Tryz.prog 16 #[.slice A l.length c] w fun e w' => e = .returned (.bool (stOkL l)) ∧ Below w.heap.size w w' := by
 obtain ⟨K, hK⟩ := spec_stOk l hl.1 hl.2
 exact spec_StmtsOk.calls K A c l _ w hC hc (hK K (Nat.le_refl _))
end Go.Proofs.YtendbgedpjcocaaGreatDoor.B
/- impl.MemGet, in the print's form. -/
namespace Go.Proofs.YtendbgedpjcocaaGreatDoor.B
open Go.RowKit Go.Proofs.YtendbgedpjcocaaGreatDoorW.PrintWords Go.Proofs.YtendbgedpjcocaaGreatDoorW.PrintLast Go.Proofs.YtendbgedpjcocaaGreatDoorW.PrintMore
set_option linter.unusedVariables false

def memGetV (l0 l1 l2 : List Int) (k a : Int) : Int := if memOkL l0 l1 l2 then getL (l0 ++ l1 ++ l2) k a else 0
set_option maxRecDepth 100000 in
set_option maxHeartbeats 4000000 in
theorem memGet_any (l0 l1 l2 : List Int) (k a : Int) (A0 A1 A2 : Option Addr) (c0 c1 c2 : Nat) (w : World)
  (h0 : Kd.C (Kd.int .i64) w A0 l0.length l0) (h1 : Kd.C (Kd.int .i64) w A1 l1.length l1) (h2 : Kd.C (Kd.int .i64) w A2 l2.length l2) (m0 : l0.length ≤ c0) (m1 : l1.length ≤ c1) (m2 : l2.length ≤ c2) :
  Calls Tryz.prog 31 #[.agg #[.slice A0 l0.length c0, .slice A1 l1.length c1, .slice A2 l2.length c2], .agg #[.int .i64 k, .int .i64 a]] w fun en w' => en = .returned (.int .i64 (memGetV l0 l1 l2 k a)) ∧ Below w.heap.size w w' := by
 obtain ⟨hs, k1, k2, hB0⟩ := two_blocks' w (.cells #[.slice A0 l0.length c0, .slice A1 l1.length c1, .slice A2 l2.length c2] 30 (0, 0)) (.cells #[.int .i64 k, .int .i64 a] 24 (0, 0))
 have HK := Aside0.mk (And.intro k2 hB0)
 have HM := Aside0.mk (fun (W : World) (h : Below w.heap.size w W) => readMem_any l0 l1 l2 A0 A1 A2 c0 c1 c2 W (Kd.C_below h0 h) (Kd.C_below h1 h) (Kd.C_below h2 h) m0 m1 m2)
 clear hs k1 k2 hB0 h0 h1 h2 m0 m1 m2
 go_enter Tryz.func31, Tryz.ntmps31
 go_wp2_with fail
 refine (HM.out _ HK.out.2).mono ?_
 rintro en w1 ⟨hr, hb1⟩
 have HB1 := Aside0.mk (HK.out.2.trans (hb1.mono HK.out.2.size))
 have k1 := (hb1.block _ (blk_lt HK.out.1)).trans HK.out.1
 clear hb1 HM HK
 have q0 : w1.cell? ⟨w.heap.size + 1, 0, none⟩ = some (.int .i64 k) := by rw [blk_cell k1]; rfl
 have q1 : w1.cell? ⟨w.heap.size + 1, 1, none⟩ = some (.int .i64 a) := by rw [blk_cell k1]; rfl
 clear k1
 rcases hr with ⟨hv, g, rfl, hm⟩ | ⟨hv, rfl⟩
 ·have HV := Aside0.mk (show memOkL l0 l1 l2 = true from hv)
  have HM := Aside0.mk hm
  clear hv hm
  go_wp2_with fail
  refine (get_any g (l0 ++ l1 ++ l2) k a w1 HM.out).mono ?_
  rintro en w2 ⟨rfl, hb2⟩
  have HB2 := Aside0.mk (HB1.out.trans (hb2.mono HB1.out.size))
  clear hb2 q0 q1
  go_wp2
  go_ret
  exact ⟨by rw [memGetV, HV.out, List.append_assoc]; rfl, HB2.out⟩
 ·have HV := Aside0.mk (show memOkL l0 l1 l2 = false from hv)
  clear hv q0 q1
  go_wp2
  go_ret
  exact ⟨by rw [memGetV, HV.out]; rfl, HB1.out⟩
end Go.Proofs.YtendbgedpjcocaaGreatDoor.B
/- The run group's words: memories told apart, a number put, the draws, statements as they are read. -/
namespace Go.Proofs.YtendbgedpjcocaaGreatDoor.B
open Go Go.RowKit Go.Shelf Go.Proofs.YtendbgedpjcocaaGreatDoorW.PrintWords Go.Proofs.YtendbgedpjcocaaGreatDoorW.PrintLast Go.Proofs.YtendbgedpjcocaaGreatDoorW.PrintMore
set_option linter.unusedVariables false
/-- A memory with a number put. -/
def putV (m : Mem3) (k a n : Int) : Mem3 := if mOk m = true then cut3 (putB (m.1 ++ m.2.1 ++ m.2.2) k a n) else ([], [], [])
/-- A list of statements as a value that is only read. -/
structure LV (W : World) (l : List St) (A : Option Addr) (c : Nat) : Prop where
 v : Kd.V stK 35 W 0 (fun _ => True) (.slice A l.length c) l
theorem LV.last (l : List St) (A : Option Addr) (c : Nat) : Lasts fun W => LV W l A c := fun _ _ hb h => ⟨Kd.V_below h.v hb⟩
theorem LV.reads {W : World} {l : List St} {A : Option Addr} {c : Nat} (h : LV W l A c) : l.length ≤ c ∧ Kd.C stK W A l.length l := (Kd.V_reads' h.v).2
end Go.Proofs.YtendbgedpjcocaaGreatDoor.B
/- What is drawn, told by its size alone: the reader, and a budget for its place. -/
namespace Go.Proofs.YtendbgedpjcocaaGreatDoor.B
open Go Go.RowKit Go.Shelf Go.Proofs.YtendbgedpjcocaaGreatDoorW.PrintWords Go.Proofs.YtendbgedpjcocaaGreatDoorW.PrintLast Go.Proofs.YtendbgedpjcocaaGreatDoorW.PrintMore
set_option linter.unusedVariables false
/-- The reader at block g, with N steps at least left; elder blocks of wb are as they were but for it. -/
structure At (w0 wb : World) (g : Nat) (s : List Int) (N : Nat) (W : World) : Prop where
 q : ∃ q : Int, 0 ≤ q ∧ q + N ≤ 1099000000000 ∧ IsS93 w0 W g s q
 b : Below w0.heap.size w0 W
 k : KeepBut wb W g none
 lt : g < wb.heap.size
 by_ : Bytes s
 sl : s.length ≤ 2000
section
variable {w0 wb W W' : World} {g N M c : Nat} {s : List Int}
theorem At.below (h : At w0 wb g s N W) (hb : Below W.heap.size W W') : At w0 wb g s N W' := by
 obtain ⟨q, q0, q1, hq⟩ := h.q
 exact ⟨⟨q, q0, q1, hq.below hb⟩, h.b.trans (hb.mono h.b.size), h.k.trans (KeepBut.of_below hb g none) (.inl rfl), h.lt, h.by_, h.sl⟩
theorem At.low (h : At w0 wb g s N W) (hb : Below wb.heap.size W W') : At w0 wb g s N W' := by
 obtain ⟨q, q0, q1, A, c, h1, h2, h3⟩ := h.q
 exact ⟨⟨q, q0, q1, A, c, (hb.block g h.lt).trans h1, h2, h3⟩, h.b.trans (hb.mono (Nat.le_of_lt (Nat.lt_of_le_of_lt h2 h.lt))), ⟨Nat.le_trans h.k.1 hb.size, fun i hi hg hr => (hb.block i hi).trans (h.k.2 i hi hg hr)⟩, h.lt, h.by_, h.sl⟩
theorem At.less (h : At w0 wb g s N W) (hn : M ≤ N) : At w0 wb g s M W := by
 obtain ⟨q, q0, q1, hq⟩ := h.q
 exact ⟨⟨q, q0, by omega, hq⟩, h.b, h.k, h.lt, h.by_, h.sl⟩
theorem At.here (h : At w0 wb g s N W) : At w0 W g s N W := ⟨h.q, h.b, KeepBut.refl W g none, Nat.lt_of_lt_of_le h.lt h.k.1, h.by_, h.sl⟩
/-- Back to the elder world. -/
theorem At.over (h : At w0 W g s N W') (k : At w0 wb g s M W) : At w0 wb g s N W' := ⟨h.q, h.b, k.k.trans h.k (.inl rfl), k.lt, h.by_, h.sl⟩
theorem At.after (h : At w0 wb g s (N + c) W) {q p : Int} (hq : 0 ≤ q) (hn : q + (N + c : Nat) ≤ 1099000000000) (hp : q ≤ p) (hpc : p ≤ q + c) (hi : IsS93 w0 W' g s p) (hb : Below w0.heap.size w0 W') (hk : KeepBut W W' g none) : At w0 wb g s N W' :=
 ⟨⟨p, by omega, by omega, hi⟩, hb, h.k.trans hk (.inl rfl), h.lt, h.by_, h.sl⟩
theorem At.put1 (h : At w0 wb g s N W) {b : Nat} (hp : Put1 b W W') (hbg : wb.heap.size ≤ b) : At w0 wb g s N W' := by
 obtain ⟨q, q0, q1, A, c, h1, h2, h3⟩ := h.q
 have hw : w0.heap.size ≤ wb.heap.size := Nat.le_of_lt (Nat.lt_of_le_of_lt h2 h.lt)
 exact ⟨⟨q, q0, q1, A, c, (hp.far g (by have := h.lt; omega)).trans h1, h2, h3⟩, hp.below h.b (by omega), ⟨by rw [hp.size]; exact h.k.1, fun i hi hg hr => (hp.far i (by omega)).trans (h.k.2 i hi hg hr)⟩, h.lt, h.by_, h.sl⟩
theorem At.lt' (h : At w0 wb g s N W) : g < W.heap.size := Nat.lt_of_lt_of_le h.lt h.k.1
theorem At.fresh (h : At w0 wb g s N W) : ∀ k, wb.heap.size ≤ k → k ≠ g := fun k hk => by have := h.lt; omega
theorem kb_below (hb : Below W.heap.size W W') : KeepBut W W' g none := KeepBut.of_below hb g none
theorem Box.keep {T : TypeId} {cs : Array Value} {b : Nat} (h : Box W b T cs) (hk : KeepBut W W' g none) (hb : b ≠ g) : Box W' b T cs := hk.blk h hb (by simp)
theorem TVo.keep {ok : Nat → Prop} {x : Ex} {A : Option Addr} {d : Nat} (h : TVo W ok x A d) (hk : KeepBut W W' g none) (hok : ∀ k, ok k → k ≠ g) : TVo W' ok x A d := ⟨Kd.V_keep h.v hk hok⟩
theorem TVo.mono {ok ok' : Nat → Prop} {x : Ex} {A : Option Addr} {d : Nat} (h : TVo W ok x A d) (hok : ∀ k, ok k → ok' k) : TVo W ok' x A d := ⟨Kd.V_mono h.v hok⟩
/-- A list of statements, read alone. -/
structure LVo (W : World) (ok : Nat → Prop) (l : List St) (A : Option Addr) (d : Nat) : Prop where
 v : Kd.V stK 35 W 0 ok (.slice A l.length d) l
theorem LVo.keep {ok : Nat → Prop} {l : List St} {A : Option Addr} {d : Nat} (h : LVo W ok l A d) (hk : KeepBut W W' g none) (hok : ∀ k, ok k → k ≠ g) : LVo W' ok l A d := ⟨Kd.V_keep h.v hk hok⟩
theorem LVo.mono {ok ok' : Nat → Prop} {l : List St} {A : Option Addr} {d : Nat} (h : LVo W ok l A d) (hok : ∀ k, ok k → ok' k) : LVo W ok' l A d := ⟨Kd.V_mono h.v hok⟩
theorem LVo.nil (W : World) (ok : Nat → Prop) : LVo W ok [] none 0 := ⟨Kd.V_nil _ _ _ _ _⟩
theorem LVo.reads {ok : Nat → Prop} {l : List St} {A : Option Addr} {d : Nat} (h : LVo W ok l A d) : l.length ≤ d ∧ Kd.C stK W A l.length l := (Kd.V_reads' h.v).2
theorem stLitO_F (k a b : Int) (x : Ex) (B : Option Addr) (d : Nat) (l3 : List St) (A3 : Option Addr) (c3 : Nat) (l4 : List St) (A4 : Option Addr) (c4 : Nat) (W : World) (ok : Nat → Prop) (h : TVo W ok x B d) (h3 : LVo W ok l3 A3 c3) (h4 : LVo W ok l4 A4 c4) :
  Kd.FK stK W ok (⟨k, ⟨a, b⟩, x, l3, l4⟩ : St) [.int .i64 k, .int .i64 a, .int .i64 b, .int .i64 x.f0, .int .i64 x.f1, .int .i64 x.f2.f0, .int .i64 x.f2.f1, .slice B x.f3.length d, .slice A3 l3.length c3, .slice A4 l4.length c4] :=
 k35_mkF W _ (⟨k, ⟨a, b⟩, x, l3, l4⟩ : St) h.reads.1 (Kd.V_F h.v) h3.reads.1 (Kd.V_F h3.v) h4.reads.1 (Kd.V_F h4.v)
theorem pick_dr (h : At w0 wb g s (N + 1) W) (n : Int) (h1 : 1 ≤ n) (h2 : n < 2147483648) : Calls Tryz.prog 61 #[.pointer (some ⟨g, 0, none⟩), .int .i64 n] W fun e W' => ∃ r, e = .returned (.int .i64 r) ∧ 0 ≤ r ∧ r < n ∧ At w0 wb g s N W' ∧ KeepBut W W' g none := by
 obtain ⟨q, q0, q1, hq⟩ := h.q
 obtain ⟨r, r0, r1, hr⟩ := pick_total s h.by_ h.sl q n q0 (by omega) h1 h2
 refine (spec_l12Rd_pick.calls 1 g s q n r (q + 1) w0 W hq h.b (hr 0)).mono ?_
 rintro e W' ⟨rfl, hi, hb, hk⟩
 exact ⟨r, rfl, r0, r1, h.after q0 q1 (by omega) (by omega) hi hb hk, hk⟩
theorem num_dr (h : At w0 wb g s (N + 1) W) (l : List Int) (h1 : 1 ≤ l.length) (h2 : l.length < 1000) (A : Option Addr) (d : Nat) (hC : Kd.C (Kd.int .i64) W A l.length l) (hd : l.length ≤ d) (hA : ∀ ad, A = some ad → 0 < l.length → ad.block ≠ g) :
  Calls Tryz.prog 51 #[.pointer (some ⟨g, 0, none⟩), .slice A l.length d] W fun e W' => ∃ r, e = .returned (.int .i64 r) ∧ r ∈ l ∧ At w0 wb g s N W' ∧ KeepBut W W' g none := by
 obtain ⟨q, q0, q1, hq⟩ := h.q
 obtain ⟨r, r0, hr⟩ := num_total s h.by_ h.sl q q0 (by omega) l h1 h2
 refine (spec_l12Rd_num.calls 1 g s q A d l r (q + 1) w0 W hq h.b hC hd hA (hr 0)).mono ?_
 rintro e W' ⟨rfl, hi, hb, hk⟩
 exact ⟨r, rfl, r0, h.after q0 q1 (by omega) (by omega) hi hb hk, hk⟩
theorem to_dr (h : At w0 wb g s (N + 2) W) : Calls Tryz.prog 84 #[.pointer (some ⟨g, 0, none⟩)] W fun e W' => ∃ a b, e = .returned (.agg #[.int .i64 a, .int .i64 b]) ∧ At w0 wb g s N W' ∧ KeepBut W W' g none := by
 obtain ⟨q, q0, q1, hq⟩ := h.q
 obtain ⟨r, r0, r1, hr⟩ := pick_total s h.by_ h.sl q 2 q0 (by omega) (by omega) (by omega)
 obtain ⟨t, t0, t1, ht⟩ := pick_total s h.by_ h.sl (q + 1) 3 (by omega) (by omega) (by omega) (by omega)
 refine (spec_l2To.calls 1 g s q (wrap64 (2 + r)) t (q + 1 + 1) w0 W hq h.b ?_).mono ?_
 ·rw [spec_l2To.f, hr 0]
  simp only [Option.bind_some]
  rw [ht 0]; rfl
 rintro e W' ⟨rfl, hi, hb, hk⟩
 exact ⟨_, _, rfl, h.after q0 q1 (by omega) (by omega) hi hb hk, hk⟩
theorem addrBent_dr' (h : At w0 wb g s (N + 10) W) : Calls Tryz.prog 42 #[.pointer (some ⟨g, 0, none⟩)] W fun e W' => ∃ a b, e = .returned (.agg #[.int .i64 a, .int .i64 b]) ∧ At w0 wb g s N W' ∧ KeepBut W W' g none := by
 obtain ⟨q, q0, q1, hq⟩ := h.q
 obtain ⟨a, b, p, p0, p1, hr⟩ := addrBent_total s h.by_ h.sl q q0 (by omega)
 refine (spec_l2AddrBent.calls 1 g s q a b p w0 W hq h.b (hr 0)).mono ?_
 rintro e W' ⟨rfl, hi, hb, hk⟩
 exact ⟨_, _, rfl, h.after q0 q1 (by omega) (by omega) hi hb hk, hk⟩
theorem addrBent_dr (h : At w0 wb g s (N + 1000000) W) : Calls Tryz.prog 42 #[.pointer (some ⟨g, 0, none⟩)] W fun e W' => ∃ a b, e = .returned (.agg #[.int .i64 a, .int .i64 b]) ∧ At w0 wb g s N W' ∧ KeepBut W W' g none := addrBent_dr' (h.less (by omega))
theorem expr_dr (d : Nat) (hd : d ≤ 10) (h : At w0 wb g s (N + 100000) W) : Calls Tryz.prog 83 #[.pointer (some ⟨g, 0, none⟩), .int .i64 d] W fun e W' => ∃ (x : Ex) (A : Option Addr) (c : Nat), e = .returned (.agg #[.int .i64 x.f0, .int .i64 x.f1, .int .i64 x.f2.f0, .int .i64 x.f2.f1, .slice A x.f3.length c]) ∧ Tiny x ∧ TVo W' (fun k => W.heap.size ≤ k) x A c ∧ At w0 wb g s N W' ∧ KeepBut W W' g none := by
 obtain ⟨q, q0, q1, hq⟩ := h.q
 have hb := bnd_le d hd
 obtain ⟨x, p, k, hx, p0, p1, hr⟩ := expr_total s h.by_ h.sl d hd q q0 (by omega)
 refine (spec_l3Expr.calls k g s q d x.f0 x.f1 x.f2.f0 x.f2.f1 x.f3 p w0 W hq h.b hr).mono ?_
 rintro e W' ⟨v, rfl, hR, hi, hb, hk⟩
 have hN := Kd.R_N (Kd.R_bound hR)
 obtain ⟨B, c, rfl⟩ := Kd.N_slice hN
 exact ⟨x, B, c, rfl, hx, TV.ofN hN fun k hk => hk.2.1, h.after q0 q1 (by omega) (by omega) hi hb hk, hk⟩
end
end Go.Proofs.YtendbgedpjcocaaGreatDoor.B
/- A region that draws its order and calls on the reader at block g. -/
namespace Go.Proofs.YtendbgedpjcocaaGreatDoor.B
open Go Go.RowKit Go.Proofs.YtendbgedpjcocaaGreatDoorW.PrintWords Go.Proofs.YtendbgedpjcocaaGreatDoorW.PrintLast Go.Proofs.YtendbgedpjcocaaGreatDoorW.PrintMore
set_option linter.unusedVariables false
def LastK (g : Nat) (p : World → Prop) : Prop := ∀ W W', KeepBut W W' g none → p W → p W'
theorem LastK.const (g : Nat) (p : Prop) : LastK g fun _ => p := fun _ _ _ h => h
def LastAllK (g : Nat) : List (Value → World → Prop) → Prop
 | [] => True
 | F :: r => (∀ v, LastK g (F v)) ∧ LastAllK g r
theorem FAt.lastK {g : Nat} : ∀ (Fs : List (Value → World → Prop)), LastAllK g Fs → ∀ i v a b, KeepBut a b g none → FAt Fs i v a → FAt Fs i v b
 | [], _, _, _, _, _, _, _ => trivial
 | F :: r, h, 0, v, a, b, hb, hf => h.1 v a b hb hf
 | F :: r, h, i + 1, v, a, b, hb, hf => FAt.lastK r h.2 i v a b hb hf
section
variable {P : Program} {ops : Array Oper} {Q : Exit → Act → World → Prop}
abbrev StepsK (P : Program) (ops : Array Oper) (g m : Nat) (a0 : Act) (ds : List (Tmp × Nat)) (Fs : List (Value → World → Prop)) (p : (Nat → Bool) → World → Prop) : Prop :=
 OpsAll (fun i o => i < m → ∀ l vs W, p l W → l i = false → (∀ j ∈ waitsOn o, FAt Fs j (vs j) W) → ∀ b, Sees a0 ds o vs b → StepOK P ops o b W fun v W' => KeepBut W W' g none ∧ p (fun j => j == i || l j) W' ∧ FAt Fs i v W') ops.toList 0
/-- The last operation, behind all others, does whatever it does. -/
theorem weaveK_ {id : Nat} {a0 : Act} {w : World} (g m : Nat) (hm1 : ops.size = m + 1) (p : (Nat → Bool) → World → Prop) (h0 : p (fun _ => false) w.drew) (ds : List (Tmp × Nat)) (Fs : List (Value → World → Prop)) (hm : P.follows .mixedOrders = true) (hB : weaveB ops ds = true) (hF : LastAllK g Fs)
  (hall : (match ops[m]? with | some o => (List.range m).all fun j => (reachW ops m (waitsOn o)).contains j | none => false) = true)
  (hwait : ((List.range m).all fun i => match ops[i]? with | some o => (waitsOn o).all fun j => decide (j < m) | none => true) = true)
  (hstep : StepsK P ops g m a0 ds Fs p)
  (Ψ : (Nat → Value) → World → Prop) (hlast : ∀ o, ops[m]? = some o → ∀ l vs W, (∀ j, j < m → l j = true) → p l W → (∀ j, j < m → FAt Fs j (vs j) W) → ∀ b, Sees a0 ds o vs b → StepOK P ops o b W fun v W' => Ψ (fun j => if j = m then v else vs j) W')
  (hend : ∀ (vs : Nat → Value) W, Ψ vs W → Q .normal (putL a0 (ds.map fun q => (q.1, vs q.2))) W) : (Code.region id ops true).wp P Q a0 w := by
 refine weave (fun l vs W => (∀ (i : Nat) (o : Oper), ops[i]? = some o → l i = true → ∀ j ∈ waitsOn o, l j = true) ∧ (l m = false → p l W ∧ ∀ j, j < m → l j = true → FAt Fs j (vs j) W) ∧ (l m = true → Ψ vs W)) ds hm hB ?_ ?_ ?_
 ·exact ⟨(fun _ _ _ h => absurd h (by simp)), (fun _ => ⟨h0, (fun _ _ h => absurd h (by simp))⟩), (fun h => absurd h (by simp))⟩
 ·intro i o ho l vs W ⟨hc, hI, _⟩ hli hw b hsee
  have hlt := (Array.getElem?_eq_some_iff.1 ho).1
  obtain ⟨om, hom⟩ : ∃ o, ops[m]? = some o := ⟨ops[m], by simp [show m < ops.size by omega]⟩
  have hbelow : (∀ j ∈ waitsOn om, l j = true) → ∀ j, j < m → l j = true := fun hh j hj => by
   rw [hom] at hall
   exact reachW_all hc m _ hh j (by simpa using List.all_eq_true.1 hall j (List.mem_range.2 hj))
  have hdc : ∀ (i' : Nat) (o' : Oper), ops[i']? = some o' → (i' == i || l i') = true → ∀ j ∈ waitsOn o', (j == i || l j) = true := by
   intro i' o' ho' hh j hj
   by_cases hii : i' = i
   ·subst hii
    have : o' = o := Option.some.inj (ho'.symm.trans ho)
    subst this
    simp [hw j hj]
   ·have : l i' = true := by simpa [hii] using hh
    simp [hc i' o' ho' this j hj]
  by_cases hin : i < m
  ·have hlm : l m = false := by
    cases hq : l m with
    | false => rfl
    | true => rw [hbelow (hc m om hom hq) i hin] at hli; cases hli
   obtain ⟨h1, h2⟩ := hI hlm
   have hst := OpsAll.at ops.toList 0 hstep i o (by rw [Array.getElem?_toList]; exact ho)
   rw [Nat.zero_add] at hst
   have hmi : (m == i) = false := by simp; omega
   intro K Q' hK
   refine hst hin l vs W h1 hli (fun j hj => ?_) b hsee K Q' fun v W' hv => hK v W' ⟨hdc, fun _ => ⟨hv.2.1, fun j hj hlj => ?_⟩, fun hh => by simp [hmi, hlm] at hh⟩
   ·have hjm : j < m := by
     have := List.all_eq_true.1 hwait i (List.mem_range.2 hin)
     rw [ho] at this
     simpa using List.all_eq_true.1 this j hj
    exact h2 j hjm (hw j hj)
   ·by_cases hji : j = i
    ·subst hji
     simpa using hv.2.2
    ·simp only [hji, if_false]
     exact FAt.lastK Fs hF j _ _ _ hv.1 (h2 j hj (by simpa [hji] using hlj))
  ·have him : i = m := by omega
   subst him
   obtain ⟨h1, h2⟩ := hI hli
   have : o = om := Option.some.inj (ho.symm.trans hom)
   subst this
   have hl := hbelow hw
   intro K Q' hK
   exact hlast o ho l vs W hl h1 (fun j hj => h2 j hj (hl j hj)) b hsee K Q' fun v W' hv => hK v W' ⟨hdc, fun hh => by simp at hh, fun _ => hv⟩
 ·intro l vs W hl hI
  exact hend vs W (hI.2.2 (hl m (by omega)))
/-- Operation m, behind all before it, and the last one, behind it, do whatever they do; those between (late) are plain and come at any time. -/
theorem weaveKT_ {id : Nat} {a0 : Act} {w : World} (g m z : Nat) (hz1 : ops.size = z + 1) (hmz : m < z) (late : List (Nat × Value)) (hlate : ((List.range z).all fun j => decide (j ≤ m) || late.any fun q => q.1 == j) = true) (hlate2 : (late.all fun q => decide (m < q.1) && decide (q.1 < z)) = true)
  (p : (Nat → Bool) → World → Prop) (h0 : p (fun _ => false) w.drew) (ds : List (Tmp × Nat)) (Fs : List (Value → World → Prop)) (hm : P.follows .mixedOrders = true) (hB : weaveB ops ds = true) (hF : LastAllK g Fs)
  (hall : (match ops[m]? with | some o => (List.range m).all fun j => (reachW ops m (waitsOn o)).contains j | none => false) = true)
  (hall2 : (match ops[z]? with | some o => (waitsOn o).contains m && late.all fun q => (waitsOn o).contains q.1 | none => false) = true)
  (hwait : ((List.range m).all fun i => match ops[i]? with | some o => (waitsOn o).all fun j => decide (j < m) | none => true) = true)
  (hstep : StepsK P ops g m a0 ds Fs p)
  (hpure : ∀ q ∈ late, ∀ o, ops[q.1]? = some o → ∀ vs W b, Sees a0 ds o vs b → StepOK P ops o b W fun v W' => W' = W ∧ v = q.2) (hone : (late.map (·.1)).Nodup)
  (Ψ Φ : Value → World → Prop) (hlast : ∀ o, ops[m]? = some o → ∀ l vs W, (∀ j, j < m → l j = true) → p l W → (∀ j, j < m → FAt Fs j (vs j) W) → ∀ b, Sees a0 ds o vs b → StepOK P ops o b W Ψ)
  (hlast2 : ∀ o, ops[z]? = some o → ∀ vs W, Ψ (vs m) W → (∀ q ∈ late, vs q.1 = q.2) → ∀ b, Sees a0 ds o vs b → StepOK P ops o b W Φ)
  (hend : ∀ (vs : Nat → Value) W, Φ (vs z) W → Q .normal (putL a0 (ds.map fun q => (q.1, vs q.2))) W) : (Code.region id ops true).wp P Q a0 w := by
 refine weave (fun l vs W => (∀ (i : Nat) (o : Oper), ops[i]? = some o → l i = true → ∀ j ∈ waitsOn o, l j = true) ∧ (∀ q ∈ late, l q.1 = true → vs q.1 = q.2) ∧ (l m = false → p (fun j => decide (j < m) && l j) W ∧ ∀ j, j < m → l j = true → FAt Fs j (vs j) W) ∧ (l m = true → l z = false → Ψ (vs m) W) ∧ (l z = true → Φ (vs z) W)) ds hm hB ?_ ?_ ?_
 ·refine ⟨(fun _ _ _ h => absurd h (by simp)), (fun _ _ h => absurd h (by simp)), (fun _ => ⟨?_, (fun _ _ h => absurd h (by simp))⟩), (fun h => absurd h (by simp)), (fun h => absurd h (by simp))⟩
  simpa using h0
 ·intro i o ho l vs W ⟨hc, hL, hI, hJ, _⟩ hli hw b hsee
  have hlt := (Array.getElem?_eq_some_iff.1 ho).1
  obtain ⟨om, hom⟩ : ∃ o, ops[m]? = some o := ⟨ops[m], by simp [show m < ops.size by omega]⟩
  obtain ⟨oz, hoz⟩ : ∃ o, ops[z]? = some o := ⟨ops[z], by simp [show z < ops.size by omega]⟩
  have hbelow : (∀ j ∈ waitsOn om, l j = true) → ∀ j, j < m → l j = true := fun hh j hj => by
   rw [hom] at hall
   exact reachW_all hc m _ hh j (by simpa using List.all_eq_true.1 hall j (List.mem_range.2 hj))
  rw [hoz] at hall2
  simp only [Bool.and_eq_true] at hall2
  have hzm : l z = true → l m = true := fun hh => hc _ _ hoz hh m (by simpa using hall2.1)
  have hdc : ∀ (i' : Nat) (o' : Oper), ops[i']? = some o' → (i' == i || l i') = true → ∀ j ∈ waitsOn o', (j == i || l j) = true := by
   intro i' o' ho' hh j hj
   by_cases hii : i' = i
   ·subst hii
    have : o' = o := Option.some.inj (ho'.symm.trans ho)
    subst this
    simp [hw j hj]
   ·have : l i' = true := by simpa [hii] using hh
    simp [hc i' o' ho' this j hj]
  by_cases hin : i < m
  ·have hlm : l m = false := by
    cases hq : l m with
    | false => rfl
    | true => rw [hbelow (hc m om hom hq) i hin] at hli; cases hli
   have hlz : l z = false := by
    cases hq : l z with
    | false => rfl
    | true => rw [hzm hq] at hlm; cases hlm
   obtain ⟨h1, h2⟩ := hI hlm
   have hst := OpsAll.at ops.toList 0 hstep i o (by rw [Array.getElem?_toList]; exact ho)
   rw [Nat.zero_add] at hst
   have hmi : (m == i) = false := by simp; omega
   have hzi : (z == i) = false := by simp; omega
   have hfe : (fun j => j == i || (decide (j < m) && l j)) = (fun j => decide (j < m) && (j == i || l j)) := by
    funext j
    by_cases hji : j = i
    ·subst hji; simp [hin]
    ·have hb : (j == i) = false := by simp [hji]
     simp [hb]
   intro K Q' hK
   refine hst hin _ vs W h1 (by simp [hli]) (fun j hj => ?_) b hsee K Q' fun v W' hv => hK v W' ⟨hdc, fun q hq hlq => ?_, fun _ => ⟨by rw [← hfe]; exact hv.2.1, fun j hj hlj => ?_⟩, fun hh => by simp [hmi, hlm] at hh, fun hh => by simp [hzi, hlz] at hh⟩
   ·have hjm : j < m := by
     have := List.all_eq_true.1 hwait i (List.mem_range.2 hin)
     rw [ho] at this
     simpa using List.all_eq_true.1 this j hj
    exact h2 j hjm (hw j hj)
   ·have hq1 := List.all_eq_true.1 hlate2 q hq
    simp only [Bool.and_eq_true, decide_eq_true_eq] at hq1
    have hqi : q.1 ≠ i := by omega
    exact (if_neg hqi).trans (hL q hq (by simpa [hqi] using hlq))
   ·by_cases hji : j = i
    ·subst hji
     simpa using hv.2.2
    ·simp only [hji, if_false]
     exact FAt.lastK Fs hF j _ _ _ hv.1 (h2 j hj (by simpa [hji] using hlj))
  ·by_cases him : i = m
   ·subst him
    have hlz : l z = false := by
     cases hq : l z with
     | false => rfl
     | true => rw [hzm hq] at hli; cases hli
    have : o = om := Option.some.inj (ho.symm.trans hom)
    subst this
    obtain ⟨h1, h2⟩ := hI hli
    have hl := hbelow hw
    have hzi : (z == i) = false := by simp; omega
    intro K Q' hK
    refine hlast o ho _ vs W (fun j hj => by simp [hj, hl j hj]) h1 (fun j hj => h2 j hj (hl j hj)) b hsee K Q' fun v W' hv => hK v W' ⟨hdc, fun q hq hlq => ?_, fun hh => by simp at hh, fun _ _ => by simpa using hv, fun hh => by simp [hzi, hlz] at hh⟩
    have hq1 := List.all_eq_true.1 hlate2 q hq
    simp only [Bool.and_eq_true, decide_eq_true_eq] at hq1
    have hqi : q.1 ≠ i := by omega
    exact (if_neg hqi).trans (hL q hq (by simpa [hqi] using hlq))
   ·by_cases hiz : i = z
    ·subst hiz
     have : o = oz := Option.some.inj (ho.symm.trans hoz)
     subst this
     have hlm : l m = true := hw m (by simpa using hall2.1)
     intro K Q' hK
     refine hlast2 o ho vs W (hJ hlm hli) (fun q hq => hL q hq (hw q.1 (by simpa using List.all_eq_true.1 hall2.2 q hq))) b hsee K Q' fun v W' hv => hK v W' ⟨hdc, fun q hq hlq => ?_, fun hh => by simp [hlm] at hh, fun _ hh => by simp at hh, fun _ => by simpa using hv⟩
     have hq1 := List.all_eq_true.1 hlate2 q hq
     simp only [Bool.and_eq_true, decide_eq_true_eq] at hq1
     have hqi : q.1 ≠ i := by omega
     exact (if_neg hqi).trans (hL q hq (by simpa [hqi] using hlq))
    ·have hi1 := List.all_eq_true.1 hlate i (List.mem_range.2 (by omega))
     simp only [Bool.or_eq_true, decide_eq_true_eq, List.any_eq_true, beq_iff_eq] at hi1
     obtain ⟨q, hq, rfl⟩ : ∃ q ∈ late, q.1 = i := by
      rcases hi1 with hi1 | hi1
      ·omega
      ·exact hi1
     have hq1 := List.all_eq_true.1 hlate2 q hq
     simp only [Bool.and_eq_true, decide_eq_true_eq] at hq1
     have hmi : (m == q.1) = false := by simp; omega
     have hzi : (z == q.1) = false := by simp; omega
     have hfe : (fun j => decide (j < m) && l j) = (fun j => decide (j < m) && (j == q.1 || l j)) := by
      funext j
      by_cases hji : j = q.1
      ·subst hji; simp [show ¬ q.1 < m by omega]
      ·have hb : (j == q.1) = false := by simp [hji]
       simp [hb]
     intro K Q' hK
     refine hpure q hq o ho vs W b hsee K Q' fun v W' hv => hK v W' ?_
     obtain ⟨rfl, rfl⟩ := hv
     refine ⟨hdc, fun r hr hlr => ?_, fun hh => ?_, fun hh hh2 => ?_, fun hh => ?_⟩
     ·by_cases hrq : r.1 = q.1
      ·have : ∀ L : List (Nat × Value), (L.map (·.1)).Nodup → q ∈ L → r ∈ L → q.2 = r.2 := by
        intro L hn h1 h2
        induction L with
        | nil => cases h1
        | cons a L ih =>
         rw [List.map_cons, List.nodup_cons] at hn
         rcases List.mem_cons.1 h1 with e1 | e1 <;> rcases List.mem_cons.1 h2 with e2 | e2
         ·rw [e1, e2]
         ·exact absurd (List.mem_map.2 ⟨r, e2, by rw [hrq, e1]⟩) hn.1
         ·exact absurd (List.mem_map.2 ⟨q, e1, by rw [← hrq, e2]⟩) hn.1
         ·exact ih hn.2 e1 e2
       exact (if_pos hrq).trans (this late hone hq hr)
      ·exact (if_neg hrq).trans (hL r hr (by simpa [hrq] using hlr))
     ·have hlm : l m = false := by simpa [hmi] using hh
      obtain ⟨h1, h2⟩ := hI hlm
      refine ⟨by rw [← hfe]; exact h1, fun j hj hlj => ?_⟩
      have hjq : j ≠ q.1 := by omega
      simp only [hjq, if_false]
      exact h2 j hj (by simpa [hjq] using hlj)
     ·have hlm : l m = true := by simpa [hmi] using hh
      have hlz : l z = false := by simpa [hzi] using hh2
      have : m ≠ q.1 := by omega
      simp only [this, if_false]
      exact hJ hlm hlz
     ·have hlz : l z = true := by simpa [hzi] using hh
      have := hc _ _ hoz hlz q.1 (by simpa using List.all_eq_true.1 hall2.2 q hq)
      rw [hli] at this
      cases this
 ·intro l vs W hl hI
  exact hend vs W (hI.2.2.2.2 (hl z (by omega)))
end
section
variable {P : Program} {ops : Array Oper} {o : Oper} {b : Act} {W : World} {Ψ : Value → World → Prop}
/-- A box is made. -/
theorem stepBox {cs : Array Value} {T : TypeId} (hw : Region.wanted o (yielded ops b.tmps) = true) (hrun : (execOp b.eval o).run P W = .ok (.value (.pointer (some ⟨W.heap.size, 0, none⟩))) (W.alloc (.cells cs T (0, 0))))
  (h : ∀ W' q, W.heap.size ≤ q → Box W' q T cs → Below W.heap.size W W' → Ψ (.pointer (some ⟨q, 0, none⟩)) W') : StepOK P ops o b W Ψ := fun K Q hK =>
 event_step hw hrun (hK _ _ (h _ _ (Nat.le_refl _) (blk_new W _) (below_alloc (Below.refl _ _) _)))
end
end Go.Proofs.YtendbgedpjcocaaGreatDoor.B
/- impl.MemPut. -/
namespace Go.Proofs.YtendbgedpjcocaaGreatDoor.B
open Go Go.RowKit Go.Shelf Go.Proofs.YtendbgedpjcocaaGreatDoorW.PrintWords Go.Proofs.YtendbgedpjcocaaGreatDoorW.PrintLast Go.Proofs.YtendbgedpjcocaaGreatDoorW.PrintMore
set_option linter.unusedVariables false
set_option maxRecDepth 100000 in
set_option maxHeartbeats 8000000 in
theorem putM_any (m : Mem3) (k a n : Int) (p : Caps3) (w : World) (hM : MV w m p) :
  Calls Tryz.prog 18 #[.agg (mA m p), .agg #[.int .i64 k, .int .i64 a], .int .i64 n] w fun e w' => ∃ q : Caps3, e = .returned (.agg (mA (putV m k a n) q)) ∧ MV w' (putV m k a n) q ∧ Below w.heap.size w w' := by
 obtain ⟨w1, hw1⟩ : ∃ W, W = ((w.alloc (.cells (mA m p) 30 (0, 0))).alloc (.cells #[.int .i64 k, .int .i64 a] 24 (0, 0))).alloc (.cells #[.slice none 0 0, .slice none 0 0, .slice none 0 0] 30 (0, 0)) := ⟨_, rfl⟩
 obtain ⟨hs, k1, k2, k3, hB⟩ := three_blocks' w (.cells (mA m p) 30 (0, 0)) (.cells #[.int .i64 k, .int .i64 a] 24 (0, 0)) (.cells #[.slice none 0 0, .slice none 0 0, .slice none 0 0] 30 (0, 0))
 rw [← hw1] at hs k1 k2 k3 hB
 have H1 := Aside0.mk (show Box w1 w.heap.size 30 (mA m p) ∧ Box w1 (w.heap.size + 1) 24 #[.int .i64 k, .int .i64 a] ∧ Box w1 (w.heap.size + 1 + 1) 30 mZ ∧ Below w.heap.size w w1 ∧ MV w m p from ⟨k1, k2, k3, hB, hM⟩)
 clear hs k1 k2 k3 hB hM
 unfold mA at hw1
 unfold mA
 obtain ⟨V, hV⟩ : ∃ V, V = putV m k a n := ⟨_, rfl⟩
 rw [← hV]
 have HV0 := Aside0.mk hV
 clear hV
 go_enter Tryz.func18, Tryz.ntmps18
 go_upto_region 1 with fail
 rw [← hw1]
 clear hw1
 have lb0 := H1.out.1
 go_wp2_with ((with_reducible refine gate_dst (N := 10) rfl ?_); refine getM_ rfl rfl rfl rfl lb0 ?_)
 clear lb0
 have hmv := MV.last _ _ _ _ H1.out.2.2.2.1 H1.out.2.2.2.2
 refine (readMem_new m.1 m.2.1 m.2.2 p.1.1 p.2.1.1 p.2.2.1 p.1.2 p.2.1.2 p.2.2.2 w1 hmv.c0 hmv.c1 hmv.c2 hmv.l0 hmv.l1 hmv.l2).mono ?_
 clear hmv
 rintro e w2 ⟨hr, hb2⟩
 have H2 := Aside0.mk (show Box w2 (w.heap.size + 1 + 1) 30 mZ ∧ Box w2 (w.heap.size + 1) 24 #[.int .i64 k, .int .i64 a] ∧ Below w.heap.size w w2 ∧ w.heap.size + 1 + 1 < w1.heap.size from ⟨blk_below H1.out.2.2.1 hb2, blk_below H1.out.2.1 hb2, H1.out.2.2.2.1.trans (hb2.mono H1.out.2.2.2.1.size), blk_lt H1.out.2.2.1⟩)
 clear hb2
 rcases hr with ⟨hv, g, hg, rfl, hm⟩ | ⟨hv, rfl⟩
 rotate_left
 ·have HV := Aside0.mk (show V = ([], [], []) by rw [HV0.out, putV, mOk, memOkL, hv]; rfl)
  have lb := H2.out.1
  clear hv
  go_wp2_with (refine boxPut_ rfl rfl rfl rfl mZ rfl lb rfl (by kernel_rfl) (by simp [mZ, Value.oneCell']) ?_; intro w4 hbx hput)
  refine bodyPost_ret (results_cell_row rfl _ _ (w.heap.size + 1 + 1) 30 mZ (0, 0) _ rfl hbx Tryz.underlying30 rfl (by kernel_rfl)) rfl ?_
  rw [HV.out]
  exact ⟨((none, 0), (none, 0), (none, 0)), rfl, mV_none _, hput.below H2.out.2.2.1 (Nat.le_trans (Nat.le_succ _) (Nat.le_succ _))⟩
 ·have HVV := Aside0.mk (show V = cut3 (putB (m.1 ++ m.2.1 ++ m.2.2) k a n) by rw [HV0.out, putV, mOk, memOkL, hv]; rfl)
  have HM := Aside0.mk (And.intro hg hm)
  clear hv hg hm
  have lb0 := H2.out.2.1
  go_wp2_with ((with_reducible refine gate_dst (N := 18) rfl ?_); refine boxGet_ rfl rfl rfl rfl lb0 Tryz.underlying24 rfl (by kernel_rfl) ?_)
  clear lb0
  refine (put_any (fun b => b = g) g rfl (m.1 ++ m.2.1 ++ m.2.2) k a n w2 HM.out.2).mono ?_
  rintro e w3 ⟨rfl, hm3, hE⟩
  obtain ⟨bs, hbs⟩ : ∃ bs, bs = putB (m.1 ++ m.2.1 ++ m.2.2) k a n := ⟨_, rfl⟩
  rw [← hbs] at hm3
  have HW := Aside0.mk (show V = cut3 bs by rw [hbs]; exact HVV.out)
  clear HVV hbs
  have H3 := Aside0.mk (show Box w3 (w.heap.size + 1 + 1) 30 mZ ∧ Below w.heap.size w w3 ∧ MemAt w3 g bs from
   ⟨blk_ed H2.out.1 hE (fun e => by have := HM.out.1; have := H2.out.2.2.2; omega), H2.out.2.2.1.trans (hE.below (fun b hb => by have := HM.out.1; have := H2.out.2.2.2; subst hb; omega) H2.out.2.2.1.size), hm3⟩)
  clear hm3 hE
  go_wp2_with fail
  refine (mem_any g _ w3 H3.out.2.2).mono ?_
  rintro e w4 ⟨v0, v1, v2, rfl, hR, hb⟩
  have hlen := H3.out.2.2.n
  obtain ⟨q, hq, hMV⟩ := MV.ofRows hlen hR
  rw [hq]
  have H4 := Aside0.mk (show MV w4 (cut3 bs) q ∧ Below w.heap.size w w4 from ⟨hMV, H3.out.2.1.trans (hb.mono H3.out.2.1.size)⟩)
  have lb := blk_below H3.out.1 hb
  clear hR hb hq hMV hlen
  go_wp2_with (refine boxPut_ rfl rfl rfl rfl (mA (cut3 bs) q) rfl lb rfl (by kernel_rfl) (mA_one _ _) ?_; intro w5 hbx hput)
  refine bodyPost_ret (results_cell_row rfl _ _ (w.heap.size + 1 + 1) 30 (mA (cut3 bs) q) (0, 0) _ rfl hbx Tryz.underlying30 rfl (by kernel_rfl)) rfl ?_
  rw [HW.out]
  exact ⟨q, rfl, MV.put1 H4.out.1 lb hput, hput.below H4.out.2 (Nat.le_trans (Nat.le_succ _) (Nat.le_succ _))⟩
end Go.Proofs.YtendbgedpjcocaaGreatDoor.B
/- The run group's facts: contracts with their results named, plain facts about runs. -/
namespace Go.Proofs.YtendbgedpjcocaaGreatDoor.B
open Go Go.RowKit Go.Shelf Go.Proofs.YtendbgedpjcocaaGreatDoorW.PrintWords Go.Proofs.YtendbgedpjcocaaGreatDoorW.PrintLast Go.Proofs.YtendbgedpjcocaaGreatDoorW.PrintMore
set_option linter.unusedVariables false
theorem ErrAt.lasts (a : Addr) : Lasts fun W => ErrAt W a := fun _ _ hb h => h.below hb
theorem runI_any {m : Mem3} {l : List St} {f : Int} {X : Mem3} {v r : Int} (hV : stRunV m l f = (X, v, r)) (p : Caps3) (A : Option Addr) (c : Nat) (a : Addr) (w : World) (hE : ErrAt w a) (hM : MV w m p) (hL : LV w l A c) :
  Calls Tryz.prog 11 #[.agg (mA m p), .slice A l.length c, .int .i64 f] w fun e w' => ∃ q : Caps3, e = .returned (.tuple #[.agg (mA X q), .int .i64 v, .int .i64 r]) ∧ MV w' X q ∧ Below w.heap.size w w' := by
 have h := stRun_any m l f p A c a w hE hM hL.reads.2 hL.reads.1
 rw [hV] at h
 exact h
theorem okS_any (l : List St) (hl : StFit l) (A : Option Addr) (c : Nat) (w : World) (hL : LV w l A c) : Calls Tryz.prog 16 #[.slice A l.length c] w fun e w' => e = .returned (.bool (stOkL l)) ∧ Below w.heap.size w w' :=
 stOkS_any l hl A c w hL.reads.2 hL.reads.1
/-- What a run says, told apart. -/
theorem runV_cases {m : Mem3} {l : List St} {f : Int} {X : Mem3} {v r : Int} (hV : stRunV m l f = (X, v, r)) : (runOk m l f = true ∧ ∃ bs, X = cut3 bs ∧ Run (m.1 ++ m.2.1 ++ m.2.2) l f (bs, v, r) ∧ Fits f (bs, v, r)) ∨ (runOk m l f = false ∧ X = ([], [], []) ∧ v = 2 ∧ r = 0) := by
 unfold stRunV at hV
 split at hV
 ·rename_i h
  have h' := h
  unfold runOk at h'
  simp only [Bool.and_eq_true, decide_eq_true_eq] at h'
  obtain ⟨h1, h2⟩ := runR_run h'.1.2 (m.1 ++ m.2.1 ++ m.2.2) h'.2.1
  simp only [Prod.mk.injEq] at hV
  obtain ⟨rfl, rfl, rfl⟩ := hV
  exact .inl ⟨h, _, rfl, h1, h2⟩
 ·rename_i h
  simp only [Prod.mk.injEq] at hV
  obtain ⟨rfl, rfl, rfl⟩ := hV
  exact .inr ⟨by simpa using h, rfl, rfl, rfl⟩
theorem runOk_of {m : Mem3} {l : List St} {f : Int} (h : runOk m l f = true) : mOk m = true ∧ stOkL l = true ∧ 0 ≤ f ∧ f ≤ 100 := by
 unfold runOk at h
 simp only [Bool.and_eq_true, decide_eq_true_eq] at h
 exact ⟨h.1.1, h.1.2, h.2.1, h.2.2⟩
theorem oV_is {x : Ex} {m : Mem3} (h1 : mOk m = true) (h2 : okE x = true) : oV x m = evalI (m.1 ++ m.2.1 ++ m.2.2) x := by
 rw [oV, ofV_eq, show memOkL m.1 m.2.1 m.2.2 = true from h1, h2]; rfl
/-- What has to do with a list's own memory: a memory as values. -/
def memF (Y : Mem3) : Value → World → Prop := fun v W => ∃ r, v = .agg (mA Y r) ∧ MV W Y r
theorem memF_last (Y : Mem3) (v : Value) : Lasts (memF Y v) := fun W W' hb ⟨r, h, k⟩ => ⟨r, h, MV.last _ _ _ _ hb k⟩
end Go.Proofs.YtendbgedpjcocaaGreatDoor.B
/- What a tree reads; assignments that do not meet commute. -/
namespace Go.Proofs.YtendbgedpjcocaaGreatDoor.B
open Go Go.RowKit Go.Shelf Go.Proofs.YtendbgedpjcocaaGreatDoorW.PrintWords Go.Proofs.YtendbgedpjcocaaGreatDoorW.PrintLast Go.Proofs.YtendbgedpjcocaaGreatDoorW.PrintMore
set_option linter.unusedVariables false
/-- A tree reads a place. -/
def readsE (p q : Int) : Ex → Bool
 | ⟨k, n, a, l⟩ => (k == 2 && (a.f0 == p && a.f1 == q)) || (l.attach.any fun x => readsE p q x.1)
termination_by e => SizeOf.sizeOf e
decreasing_by all_goals have := List.sizeOf_lt_of_mem x.2; simp; omega
theorem readsE_eq (p q : Int) (e : Ex) : readsE p q e = ((e.f0 == 2 && (e.f2.f0 == p && e.f2.f1 == q)) || e.f3.any (readsE p q)) := by
 cases e with
 | mk k n a l => rw [readsE]; simp
theorem getL_put (bs : List Int) (p q n k a : Int) (h : ¬ (k = p ∧ a = q)) : getL (putB bs p q n) k a = getL bs k a := by
 unfold getL
 by_cases hk : addrOkL k a = true
 ·rw [if_pos hk, if_pos hk]
  unfold putB
  by_cases hp : putsL p q = true
  ·rw [if_pos hp]
   have hne : ((p - 1) * 6 + q).toNat ≠ ((k - 1) * 6 + a).toNat := by
    unfold addrOkL at hk
    unfold putsL addrOkL at hp
    simp only [Bool.and_eq_true, decide_eq_true_eq] at hk hp
    omega
   rw [List.getD_eq_getElem?_getD, List.getD_eq_getElem?_getD, List.getElem?_set_ne hne]
  ·rw [if_neg hp]
 ·rw [if_neg hk, if_neg hk]
theorem evalI_put (bs : List Int) (p q n : Int) (e : Ex) (h : readsE p q e = false) : evalI (putB bs p q n) e = evalI bs e := by
 rw [readsE_eq, Bool.or_eq_false_iff] at h
 have hk : e.f3.map (evalI (putB bs p q n)) = e.f3.map (evalI bs) := List.map_congr_left fun x hx => evalI_put bs p q n x (by
  have := h.2
  rw [List.any_eq_false] at this
  simpa using this x hx)
 rw [evalI_eq, evalI_eq bs, hk]
 by_cases h2 : e.f0 = 2
 ·have hne : ¬ (e.f2.f0 = p ∧ e.f2.f1 = q) := by
   have := h.1
   simp only [h2, beq_self_eq_true, Bool.true_and, Bool.and_eq_false_iff, beq_eq_false_iff_ne] at this
   intro hh
   rcases this with h | h
   ·exact h hh.1
   ·exact h hh.2
  rw [getL_put bs p q n _ _ hne]
 ·rw [if_neg h2, if_neg h2]
termination_by SizeOf.sizeOf e
decreasing_by
 have := List.sizeOf_lt_of_mem hx
 cases e
 simp at this ⊢
 omega
end Go.Proofs.YtendbgedpjcocaaGreatDoor.B
