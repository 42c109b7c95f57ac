import Derived.Test.YtacbbpbopmdpeaaReck
import Derived.Test.YtacbbpbopmdpeaaOkL
import Derived.Test.YtacbbpbopmdpeaaWeaveAll
import Derived.Test.YtacbbpbopmdpeaaItoaAll
import Derived.Test.YtacbbpbopmdpeaaPkC
import Derived.Lib.AppendIntMem
import Derived.Test.YtacbbpbopmdpeaaOkCon
import Derived.Shelf.RegionOpen
import Derived.Deep.AppendLies
/- The words of an expression's parts: each kind's method word ends with some text. -/
namespace Go.Proofs.Ytacbbpbopmdpeaa.B
open Go Go.RowKit Go.Shelf Go.Proofs.YtacbbpbopmdpeaaW.PrintWords Go.Proofs.YtacbbpbopmdpeaaW.PrintLast Go.Proofs.YtacbbpbopmdpeaaW.PrintMore
set_option linter.unusedVariables false

theorem TabW.below {W W' : World} (h : TabW W) (hb : Below W.heap.size W W') : TabW W' := fun i hi => by
 obtain ⟨m, e⟩ := h i hi
 exact ⟨m, (hb.cell (p := ⟨0, i, none⟩) (cell_lt_w e)).trans e⟩
theorem TabW.lasts : Lasts TabW := fun _ _ hb h => h.below hb
theorem itoa_b (n : Int) (h0 : -1000000 ≤ n) (h1 : n ≤ 1000000) (w : World) (HT : TabW w) :
  Calls Try.prog 79 #[.int .i64 n] w fun e w' => (∃ s, e = .returned (.string s) ∧ s.size ≤ 100) ∧ Below w.heap.size w w' :=
 (itoa_w n h0 h1 w HT).mono fun e w' h => ⟨h.1, by
  obtain ⟨k, os, rfl⟩ := h.2
  exact Go.Lib.below_grow _ _ (Nat.le_refl _) k os⟩
theorem letter_b (k a : Int) (h : addrOkL k a = true) (w : World) : Calls Try.prog 72 #[.agg #[.int .i64 k, .int .i64 a]] w fun e w' => (∃ s, e = .returned (.string s) ∧ s.size ≤ 100) ∧ Below w.heap.size w w' := by
 have h' : 1 ≤ k ∧ k ≤ 3 ∧ 0 ≤ a ∧ a < 6 := of_decide_eq_true h
 refine (impl_Addr_letter.calls k a _ w (by unfold impl_Addr_letter.f; rw [show wrap64 (k + 1) = k + 1 by unfold wrap64; omega, if_pos (by omega), if_pos (by omega), if_pos (by omega)])).mono fun e w' h => ⟨⟨_, h.1, by
  rw [ByteArray.size_extract]
  have : (⟨#[32, 105, 111, 118]⟩ : ByteArray).size = 4 := rfl
  omega⟩, h.2⟩
section
variable {P : Program} {ops : Array Oper} {o : Oper} {b : Act} {W : World} {Ψ : Value → World → Prop}
theorem stepEnter {f : FuncId} {args : Array Value} (hw : Region.wanted o (yielded ops b.tmps) = true) (hrun : (execOp b.eval o).run P W = .ok (.enter f args) W) {R : Ending → World → Prop} (hc : Calls P f args W R) (h : ∀ e w', R e w' → ∃ v, e = .returned v ∧ Ψ v w') : StepOK P ops o b W Ψ :=
 fun K Q hK => call_ f args hw rfl hrun (hc.mono fun e w' hr => by
  obtain ⟨v, rfl, hv⟩ := h e w' hr
  exact ⟨v, rfl, hK v w' hv⟩)
theorem stepRun {v : Value} {W' : World} (hw : Region.wanted o (yielded ops b.tmps) = true) (hrun : (execOp b.eval o).run P W = .ok (.value v) W') (h : Ψ v W') : StepOK P ops o b W Ψ := fun K Q hK => value_ hw rfl hrun (hK v W' h)
theorem stepOp (hw : Region.wanted o (yielded ops b.tmps) = true) (h : ∀ (K : Act → World → Prop) (Q : Exit → Act → World → Prop), (∀ v w', Ψ v w' → K (b.put o.dst v) w') → Oper.wp P o b W K Q) : StepOK P ops o b W Ψ := fun K Q hK => by
 rw [if_pos hw]
 exact h K Q hK
theorem stepSkip {W' : World} (hw : Region.wanted o (yielded ops b.tmps) = true) (hrun : (execOp b.eval o).run P W = .ok .skip W') (h : Ψ undef W') : StepOK P ops o b W Ψ := fun K Q hK => by
 rw [if_pos hw]
 unfold Oper.wp
 rw [hrun]
 exact hK _ _ h
end

/-- Some text. -/
def IsStr (v : Value) (_ : World) : Prop := ∃ s, v = .string s
def IsStr1 (v : Value) (_ : World) : Prop := ∃ s, v = .string s ∧ s.size ≤ 100
theorem IsStr1.last (v : Value) : Lasts (IsStr1 v) := fun _ _ _ h => h
theorem IsStr.last (v : Value) : Lasts (IsStr v) := fun _ _ _ h => h

set_option maxRecDepth 100000 in
theorem addrText_b (k a : Int) (h : addrOkL k a = true) (w : World) (HT : TabW w) : Calls Try.prog 97 #[.agg #[.int .i64 k, .int .i64 a]] w fun e w' => (∃ s, e = .returned (.string s)) ∧ Below w.heap.size w w' := by
 have mixed : Try.prog.follows .mixedOrders = true := rfl
 have h' : 1 ≤ k ∧ k ≤ 3 ∧ 0 ≤ a ∧ a < 6 := of_decide_eq_true h
 have HA := Aside0.mk h
 have HT := Aside0.mk HT
 go_enter Try.func97, Try.ntmps97
 go_wp2_with fail
 obtain ⟨k1, hB0⟩ := (show (w.alloc (.cells #[.int .i64 k, .int .i64 a] 24 (0, 0))).heap[w.heap.size]? = some (.cells #[.int .i64 k, .int .i64 a] 24 (0, 0)) ∧ Below w.heap.size w (w.alloc (.cells #[.int .i64 k, .int .i64 a] 24 (0, 0))) from ⟨heap_alloc_new _ _, (Below.refl _ _).alloc (Nat.le_refl _) _⟩)
 refine (addrOk_any _ _ _).mono ?_
 rintro e w1 ⟨rfl, hb1⟩
 rw [HA.out]
 have H1 := Aside0.mk (And.intro (blk_below k1 hb1) (And.intro (hB0.trans (hb1.mono hB0.size)) (HT.out.below (hB0.trans (hb1.mono hB0.size)))))
 clear k1 hB0 hb1
 generalize w1 = W1 at H1 ⊢
 go_wp2_with fail
 refine weaveB_ (fun W => Below W1.heap.size W1 W) (Lasts.below W1) (Below.refl _ _) [(6, 0), (7, 1), (8, 2), (9, 3), (10, 4), (11, 5), (2, 6)] [fun v _ => v = .agg #[.int .i64 k, .int .i64 a], IsStr1, fun v _ => v = .pointer (some ⟨w.heap.size, 1, none⟩), fun v _ => v = .int .i64 a, IsStr1, IsStr, IsStr] mixed (by kernel_rfl) ⟨fun _ => Lasts.const _, IsStr1.last, fun _ => Lasts.const _, fun _ => Lasts.const _, IsStr1.last, IsStr.last, IsStr.last, trivial⟩ ?_ ?_
 ·refine ⟨?_, ?_, ?_, ?_, ?_, ?_, ?_, trivial⟩
  ·intro vs W hp hv b hs
   exact stepGet rfl rfl ((hs.old 1 rfl).trans rfl) (blk_below H1.out.1 hp) Try.underlying24 rfl (by kernel_rfl) ⟨Below.refl _ _, rfl⟩
  ·intro vs W hp hv b hs
   have h0 : vs 0 = .agg #[.int .i64 k, .int .i64 a] := hv 0 (by decide)
   have t6 := (hs.tm 6 0 rfl).trans (congrArg some h0)
   refine stepCall rfl Try.func72 (by kernel_rfl) rfl #[vs 0] rfl (by simp [Act.eval, hs.tm 6 0 rfl]) (by rw [h0]; exact letter_b k a HA.out W) ?_
   rintro e W' ⟨⟨s, rfl, hs9⟩, hb'⟩
   exact ⟨_, rfl, hb', s, rfl, hs9⟩
  ·intro vs W hp hv b hs
   have t1 := (hs.oldtm 1 rfl).trans (show _ = some (Value.pointer (some ⟨w.heap.size, 0, none⟩)) from rfl)
   exact stepVal rfl (by go_simp) ⟨Below.refl _ _, rfl⟩
  ·intro vs W hp hv b hs
   have h2 : vs 2 = .pointer (some ⟨w.heap.size, 1, none⟩) := hv 2 (by decide)
   have t8 := (hs.tm 8 2 rfl).trans (congrArg some h2)
   have c1 := (Box.cell (blk_below H1.out.1 hp) 1 _ rfl).1
   exact stepVal rfl (by go_simp) ⟨Below.refl _ _, rfl⟩
  ·intro vs W hp hv b hs
   have h3 : vs 3 = .int .i64 a := hv 3 (by decide)
   refine stepCall rfl Try.func79 (by kernel_rfl) rfl #[vs 3] rfl (by simp [Act.eval, hs.tm 9 3 rfl]) (by rw [h3]; exact itoa_b a (by omega) (by omega) W (H1.out.2.2.below hp)) ?_
   rintro e W' ⟨⟨s, rfl, hs9⟩, hb'⟩
   exact ⟨_, rfl, hb', s, rfl, hs9⟩
  ·intro vs W hp hv b hs
   obtain ⟨s, hs1, z1⟩ := (hv 1 (by decide) : IsStr1 (vs 1) W)
   obtain ⟨u, hs4, z4⟩ := (hv 4 (by decide) : IsStr1 (vs 4) W)
   have t7 := (hs.tm 7 1 rfl).trans (congrArg some hs1)
   have t10 := (hs.tm 10 4 rfl).trans (congrArg some hs4)
   exact stepVal (v := .string (s ++ u)) rfl (by go_simp; omega) ⟨Below.refl _ _, _, rfl⟩
  ·intro vs W hp hv b hs
   obtain ⟨s, hs5⟩ := (hv 5 (by decide) : IsStr (vs 5) W)
   have t11 := (hs.tm 11 5 rfl).trans (congrArg some hs5)
   exact stepVal (v := .string s) rfl (by go_simp) ⟨Below.refl _ _, s, rfl⟩
 ·intro vs W hp hv
  obtain ⟨s, hs6⟩ := (hv 6 (by decide) : IsStr (vs 6) W)
  have HE := Aside0.mk (show Below w.heap.size w W from H1.out.2.1.trans (hp.mono H1.out.2.1.size))
  simp only [List.map_cons, List.map_nil, putL, Act.put, List.setIfInBounds_toArray, List.set_cons_zero, List.set_cons_succ, hs6]
  clear hv hp
  go_wp2_with fail
  go_ret
  exact ⟨⟨s, rfl⟩, HE.out⟩

theorem two_blk' (w : World) (a b : Obj) : ((w.alloc a).alloc b).heap.size = w.heap.size + 1 + 1 ∧ ((w.alloc a).alloc b).heap[w.heap.size]? = some a ∧ ((w.alloc a).alloc b).heap[w.heap.size + 1]? = some b ∧ Below w.heap.size w ((w.alloc a).alloc b) := by
 have s1 : (w.alloc a).heap.size = w.heap.size + 1 := by simp
 have s2 : ((w.alloc a).alloc b).heap.size = w.heap.size + 1 + 1 := by simp
 refine ⟨s2, ?_, ?_, ((Below.refl w.heap.size w).alloc (Nat.le_refl _) _).alloc (by omega) _⟩
 ·rw [Below.heap_alloc _ _ _ (by omega)]; exact heap_alloc_new w a
 ·rw [← s1]; exact heap_alloc_new _ b
/-- What the method word of a kind does. -/
def WordC (f : Nat) (e : Ex) : Prop := ∀ (A : Option Addr) (c : Nat) (w : World), TabW w → Calls Try.prog f #[.agg #[], .agg #[.int .i64 e.f0, .int .i64 e.f1, .int .i64 e.f2.f0, .int .i64 e.f2.f1, .slice A e.f3.length c]] w fun en w' => (∃ s, en = .returned (.string s)) ∧ Below w.heap.size w w'
set_option maxRecDepth 100000 in
theorem word1 (e : Ex) (h : isNumL e.f1 = true) : WordC 78 e := by
 intro A c w HT
 have h' : -1000000 ≤ e.f1 ∧ e.f1 ≤ 1000000 := of_decide_eq_true h
 obtain ⟨hs, k1, k2, hB0⟩ := two_blk' w (.cells #[] 84 (0, 0)) (.cells #[.int .i64 e.f0, .int .i64 e.f1, .int .i64 e.f2.f0, .int .i64 e.f2.f1, .slice A e.f3.length c] 27 (0, 0))
 have HB := Aside0.mk (And.intro hB0 (HT.below hB0))
 clear hs k1 k2 hB0 HT h
 have mixed : Try.prog.follows .mixedOrders = true := rfl
 go_enter Try.func78, Try.ntmps78
 go_wp2_with fail
 refine (itoa_b _ h'.1 h'.2 _ HB.out.2).mono ?_
 rintro en w1 ⟨⟨s, rfl, _⟩, hb⟩
 have HB1 := Aside0.mk (HB.out.1.trans (hb.mono HB.out.1.size))
 clear hb
 go_wp2_with fail
 go_ret
 exact ⟨⟨s, rfl⟩, HB1.out⟩
set_option maxRecDepth 100000 in
theorem word2 (e : Ex) (h : addrOkL e.f2.f0 e.f2.f1 = true) : WordC 96 e := by
 intro A c w HT
 obtain ⟨hs, k1, k2, hB0⟩ := two_blk' w (.cells #[] 85 (0, 0)) (.cells #[.int .i64 e.f0, .int .i64 e.f1, .int .i64 e.f2.f0, .int .i64 e.f2.f1, .slice A e.f3.length c] 27 (0, 0))
 have HB := Aside0.mk (And.intro hB0 (HT.below hB0))
 have HA := Aside0.mk h
 clear hs k1 k2 hB0 HT h
 have mixed : Try.prog.follows .mixedOrders = true := rfl
 go_enter Try.func96, Try.ntmps96
 go_wp2_with fail
 refine (addrText_b _ _ HA.out _ HB.out.2).mono ?_
 rintro en w1 ⟨⟨s, rfl⟩, hb⟩
 have HB1 := Aside0.mk (HB.out.1.trans (hb.mono HB.out.1.size))
 clear hb
 go_wp2_with fail
 go_ret
 exact ⟨⟨s, rfl⟩, HB1.out⟩
set_option maxRecDepth 100000 in
theorem word4 (e : Ex) : WordC 114 e := by
 intro A c w HT
 obtain ⟨hs, k1, k2, hB0⟩ := two_blk' w (.cells #[] 87 (0, 0)) (.cells #[.int .i64 e.f0, .int .i64 e.f1, .int .i64 e.f2.f0, .int .i64 e.f2.f1, .slice A e.f3.length c] 27 (0, 0))
 have HB := Aside0.mk hB0
 clear hs k1 k2 hB0 HT
 have mixed : Try.prog.follows .mixedOrders = true := rfl
 go_enter Try.func114, Try.ntmps114
 go_wp2_with fail
 go_ret
 exact ⟨⟨_, rfl⟩, HB.out⟩
set_option maxRecDepth 100000 in
theorem twoWords_b (w : World) : Calls Try.prog 103 #[] w fun en w' => (∃ (g : Nat) (cs : Array Value), en = .returned (.slice (some ⟨g, 0, none⟩) 10 10) ∧ w'.heap[g]? = some (.cells cs 9 (0, 0)) ∧ ∀ i, i < 10 → ∃ s, cs[i]? = some (.string s)) ∧ Below w.heap.size w w' := by
 have mixed : Try.prog.follows .mixedOrders = true := rfl
 go_enter Try.func103, Try.ntmps103
 go_wp2_with fail
 go_ret
 exact ⟨⟨w.heap.size, _, rfl, heap_alloc_new w _, fun i hi => by (rcases i with _ | _ | _ | _ | _ | _ | _ | _ | _ | _ | _ <;> first | exact ⟨_, rfl⟩ | omega)⟩, (Below.refl _ _).alloc (Nat.le_refl _) _⟩

def Words10 (v : Value) (W : World) : Prop := ∃ (g : Nat) (cs : Array Value), v = .slice (some ⟨g, 0, none⟩) 10 10 ∧ W.heap[g]? = some (.cells cs 9 (0, 0)) ∧ ∀ i, i < 10 → ∃ s, cs[i]? = some (.string s)
theorem Words10.last (v : Value) : Lasts (Words10 v) := fun W W' hb ⟨g, cs, h1, h2, h3⟩ => ⟨g, cs, h1, blk_below h2 hb, h3⟩
def AtStr (v : Value) (W : World) : Prop := ∃ p s, v = .pointer (some p) ∧ W.cell? p = some (.string s)
theorem AtStr.last (v : Value) : Lasts (AtStr v) := fun W W' hb ⟨p, s, h1, h2⟩ => ⟨p, s, h1, (hb.cell (cell_lt_w h2)).trans h2⟩
set_option maxRecDepth 100000 in
theorem word3 (e : Ex) (h3 : 3 ≤ e.f0) (h9 : e.f0 ≤ 9) : WordC 101 e := by
 intro A c w HT
 obtain ⟨hs, k1, k2, hB0⟩ := two_blk' w (.cells #[] 86 (0, 0)) (.cells #[.int .i64 e.f0, .int .i64 e.f1, .int .i64 e.f2.f0, .int .i64 e.f2.f1, .slice A e.f3.length c] 27 (0, 0))
 have HB := Aside0.mk (And.intro hB0 k2)
 clear hs k1 k2 hB0 HT
 have mixed : Try.prog.follows .mixedOrders = true := rfl
 go_enter Try.func101, Try.ntmps101
 go_wp2_with fail
 go_name_world W1 hW1
 have H1 := Aside0.mk (show Below w.heap.size w W1 ∧ Box W1 (w.heap.size + 1) 27 #[.int .i64 e.f0, .int .i64 e.f1, .int .i64 e.f2.f0, .int .i64 e.f2.f1, .slice A e.f3.length c] from by rw [← hW1]; exact HB.out)
 clear hW1 HB
 refine weaveB_ (fun W => Below W1.heap.size W1 W) (Lasts.below W1) (Below.refl _ _) [(5, 0), (6, 1), (7, 2), (8, 3), (9, 4), (4, 5)] [Words10, fun v _ => v = .pointer (some ⟨w.heap.size + 1, 0, none⟩), fun v _ => v = .int .i64 e.f0, AtStr, IsStr, IsStr] mixed (by kernel_rfl) ⟨Words10.last, fun _ => Lasts.const _, fun _ => Lasts.const _, AtStr.last, IsStr.last, IsStr.last, trivial⟩ ?_ ?_
 ·refine ⟨?_, ?_, ?_, ?_, ?_, ?_, trivial⟩
  ·intro vs W hp hv b hs
   refine stepCall rfl Try.func103 (by kernel_rfl) rfl #[] rfl (by simp) (twoWords_b W) ?_
   rintro en W' ⟨⟨g, cs, rfl, h1, h2⟩, hb'⟩
   exact ⟨_, rfl, hb', g, cs, rfl, h1, h2⟩
  ·intro vs W hp hv b hs
   have t3 := (hs.oldtm 3 rfl).trans (show _ = some (Value.pointer (some ⟨w.heap.size + 1, 0, none⟩)) from rfl)
   exact stepVal rfl (by go_simp) ⟨Below.refl _ _, rfl⟩
  ·intro vs W hp hv b hs
   have h1 : vs 1 = .pointer (some ⟨w.heap.size + 1, 0, none⟩) := hv 1 (by decide)
   have t6 := (hs.tm 6 1 rfl).trans (congrArg some h1)
   have c0 := (Box.cell (blk_below H1.out.2 hp) 0 _ rfl).1
   exact stepVal rfl (by go_simp) ⟨Below.refl _ _, rfl⟩
  ·intro vs W hp hv b hs
   obtain ⟨g, cs, h0, hbx, hst⟩ := (hv 0 (by decide) : Words10 (vs 0) W)
   have h2 : vs 2 = .int .i64 e.f0 := hv 2 (by decide)
   have t5 := (hs.tm 5 0 rfl).trans (congrArg some h0)
   have t7 := (hs.tm 7 2 rfl).trans (congrArg some h2)
   obtain ⟨s, es⟩ := hst e.f0.toNat (by omega)
   have hc := (blk_cell hbx e.f0.toNat).trans es
   exact stepVal (v := .pointer (some ⟨g, e.f0.toNat, none⟩)) rfl (by go_simp; intro hh; exact absurd (hh (by omega)) (by omega)) ⟨Below.refl _ _, _, s, rfl, hc⟩
  ·intro vs W hp hv b hs
   obtain ⟨p, s, h3', hc⟩ := (hv 3 (by decide) : AtStr (vs 3) W)
   have t8 := (hs.tm 8 3 rfl).trans (congrArg some h3')
   exact stepVal (v := .string s) rfl (by go_simp) ⟨Below.refl _ _, s, rfl⟩
  ·intro vs W hp hv b hs
   obtain ⟨s, hs4⟩ := (hv 4 (by decide) : IsStr (vs 4) W)
   have t9 := (hs.tm 9 4 rfl).trans (congrArg some hs4)
   exact stepVal (v := .string s) rfl (by go_simp) ⟨Below.refl _ _, s, rfl⟩
 ·intro vs W hp hv
  obtain ⟨s, hs6⟩ := (hv 5 (by decide) : IsStr (vs 5) W)
  have HE := Aside0.mk (show Below w.heap.size w W from H1.out.1.trans (hp.mono H1.out.1.size))
  simp only [List.map_cons, List.map_nil, putL, Act.put, List.setIfInBounds_toArray, List.set_cons_zero, List.set_cons_succ, hs6]
  clear hv hp
  go_wp2_with fail
  go_ret
  exact ⟨⟨s, rfl⟩, HE.out⟩

theorem meth_word1 : ∀ w, (method 228 84 (.agg #[]) "loop.example/stopgate/impl.word").run Try.prog w = .ok (78, .agg #[]) w := fun _ => by kernel_rfl
theorem meth_word2 : ∀ w, (method 228 85 (.agg #[]) "loop.example/stopgate/impl.word").run Try.prog w = .ok (96, .agg #[]) w := fun _ => by kernel_rfl
theorem meth_word3 : ∀ w, (method 228 86 (.agg #[]) "loop.example/stopgate/impl.word").run Try.prog w = .ok (101, .agg #[]) w := fun _ => by kernel_rfl
theorem meth_word4 : ∀ w, (method 228 87 (.agg #[]) "loop.example/stopgate/impl.word").run Try.prog w = .ok (114, .agg #[]) w := fun _ => by kernel_rfl
/-- A kind that is one: its method word. -/
structure WordIs (e : Ex) (T fw : Nat) : Prop where
 v : kindV e.f0 = .iface T (.agg #[])
 mw : ∀ w, (method 228 T (.agg #[]) "loop.example/stopgate/impl.word").run Try.prog w = .ok (fw, .agg #[]) w
 ew : ∀ args w, (callFunc fw args).run Try.prog w = .ok (.enter fw args) w
 cw : WordC fw e
theorem word_is (e : Ex) (h : kindOk e.f0 = true) (hs : shapeL e.f0 e.f1 e.f2.f0 e.f2.f1 = true) : ∃ T fw, WordIs e T fw := by
 have h' : 1 ≤ e.f0 ∧ e.f0 ≤ 10 := of_decide_eq_true h
 unfold shapeL at hs
 by_cases h1 : e.f0 = 1
 ·rw [if_pos h1, Bool.and_eq_true] at hs
  exact ⟨84, 78, by rw [h1]; rfl, meth_word1, enters_of Try.func78 (by kernel_rfl) rfl, word1 e hs.1⟩
 ·rw [if_neg h1] at hs
  by_cases h2 : e.f0 = 2
  ·rw [if_pos h2, Bool.and_eq_true] at hs
   exact ⟨85, 96, by rw [h2]; rfl, meth_word2, enters_of Try.func96 (by kernel_rfl) rfl, word2 e hs.1⟩
  ·by_cases h3 : e.f0 = 10
   ·exact ⟨87, 114, by rw [h3]; rfl, meth_word4, enters_of Try.func114 (by kernel_rfl) rfl, word4 e⟩
   ·have h39 : 3 ≤ e.f0 ∧ e.f0 ≤ 9 := by omega
    exact ⟨86, 101, by simp [kindV, h1, h2, h39], meth_word3, enters_of Try.func101 (by kernel_rfl) rfl, word3 e h39.1 h39.2⟩
end Go.Proofs.Ytacbbpbopmdpeaa.B
/- impl.wordsOf of what is ok: as many words as parts. -/
namespace Go.Proofs.Ytacbbpbopmdpeaa.B
open Go Go.RowKit Go.Shelf Go.Proofs.YtacbbpbopmdpeaaW.PrintWords Go.Proofs.YtacbbpbopmdpeaaW.PrintLast Go.Proofs.YtacbbpbopmdpeaaW.PrintMore
set_option linter.unusedVariables false
attribute [local go_sem] Oper.semAt_some

abbrev exA (e : Ex) (A : Option Addr) (c : Nat) : Array Value := #[.int .i64 e.f0, .int .i64 e.f1, .int .i64 e.f2.f0, .int .i64 e.f2.f1, .slice A e.f3.length c]
theorem owns_below {B : Nat} {e : TypeId} {k : Nat} {v : Value} {n : Nat} {xs : List Value} {w w' : World} (h : w.ownsRow B e k v n xs) (hb : Below w.heap.size w w') : w'.ownsRow B e k v n xs :=
 h.kept (row := none) ⟨hb.os, hb.tape, hb.output, hb.size, fun j hj _ => hb.block j hj⟩ (by cases hv : v.ownBlock <;> simp)
structure WdI (w : World) (A : Nat → Prop) (pre : List (Int × Ex)) (W : World) : Prop where
 o : ∃ v xs, Box W (w.heap.size + 1) 63 #[v] ∧ W.ownsRow (w.heap.size + 1 + 1) 9 1 v pre.length xs ∧ ∀ g, v.ownBlock = some g → ¬ A g
 nr : ¬ A (w.heap.size + 1)
 ge : ∀ k, A k → w.heap.size ≤ k
 below : Below w.heap.size w W
def wdTmps (w : World) (e : Ex) (A : Option Addr) (c : Nat) (be : Nat) (x : Int × Ex) (A4 : Option Addr) (c4 Bx : Nat) : Array Value :=
 #[.agg (exA e A c), .pointer (some ⟨w.heap.size, 0, none⟩), .slice none 0 0, .pointer (some ⟨w.heap.size + 1, 0, none⟩), undef, .pointer (some ⟨Bx, 0, none⟩), .agg (exA e A c), .func (.func 46) #[] #[.pointer (some ⟨be, 0, none⟩)],
  .int .i64 x.1, .agg (exA x.2 A4 c4), undef, undef, undef, undef, undef, undef, undef, undef, undef]
def WdM (w : World) (e : Ex) (A : Option Addr) (c : Nat) (be : Nat) (act : Act) (A' : Nat → Prop) (s : List (Int × Ex)) (W : World) : Prop :=
 ∃ (pre : List (Int × Ex)) (x : Int × Ex) (A4 : Option Addr) (c4 Bx : Nat), s = pre ++ [x] ∧ act = { tmps := wdTmps w e A c be x A4 c4 Bx, defers := [] } ∧
  W.heap[Bx]? = some (.cells (exA x.2 A4 c4) 27 (0, 0)) ∧ ¬ A' Bx ∧ w.heap.size + 1 < Bx ∧ x.2.f3.length ≤ c4 ∧ WdI w A' pre W

theorem foreign_wd (w : World) : Foreign (WdI w) where
 turn := fun {A s W W' r} h hg he hr => by
  obtain ⟨v, xs, h1, h2, h3⟩ := h.o
  exact ⟨⟨v, xs, (hg.block _ (blk_lt h1) (fun e => by cases e; exact h.nr hr)).trans h1, h2.kept hg (.inr fun e => h3 r e hr), h3⟩, h.nr, h.ge, h.below.grown hg (h.below.size) (fun k e => by cases e; exact h.ge _ hr)⟩
 alloc := fun {A s W} o h => by
  obtain ⟨v, xs, h1, h2, h3⟩ := h.o
  exact ⟨⟨v, xs, (Below.heap_alloc W o _ (blk_lt h1)).trans h1, h2.alloc o, fun g hg e => e.elim (h3 g hg) (fun e => by have := (h2.lt g hg).2; omega)⟩, fun e => e.elim h.nr (fun e => by have := blk_lt h1; omega), fun k e => e.elim (h.ge k) (fun e => by have := h.below.size; omega), h.below.alloc h.below.size o⟩
 drew := fun {A s W} h => ⟨h.o, h.nr, h.ge, h.below.drew⟩
 fewer := fun {A A' s W} h hA => by
  obtain ⟨v, xs, h1, h2, h3⟩ := h.o
  exact ⟨⟨v, xs, h1, h2, fun g hg e => h3 g hg (hA _ e)⟩, fun e => h.nr (hA _ e), fun k e => h.ge k (hA k e), h.below⟩
theorem foreign_no : Foreign (fun (_ : Nat → Prop) (_ : List (Int × Ex)) (_ : World) => False) where
 turn := fun h _ _ _ => h
 alloc := fun _ h => h
 drew := fun h => h
 fewer := fun h _ => h
theorem foreign_wdm (w : World) (e : Ex) (A : Option Addr) (c : Nat) (be : Nat) (act : Act) : Foreign (WdM w e A c be act) where
 turn := by
  rintro A' s W W' r ⟨pre, x, A4, c4, Bx, rfl, rfl, hb, hn, hlt, hc, hi⟩ hg he hr
  exact ⟨pre, x, A4, c4, Bx, rfl, rfl, (hg.block Bx (Array.getElem?_eq_some_iff.1 hb).1 (fun e => by cases e; exact hn hr)).trans hb, hn, hlt, hc, (foreign_wd w).turn hi hg he hr⟩
 alloc := by
  rintro A' s W o ⟨pre, x, A4, c4, Bx, rfl, rfl, hb, hn, hlt, hc, hi⟩
  have hz := (Array.getElem?_eq_some_iff.1 hb).1
  exact ⟨pre, x, A4, c4, Bx, rfl, rfl, (Below.heap_alloc W o Bx hz).trans hb, fun e => e.elim hn (fun e => by omega), hlt, hc, (foreign_wd w).alloc o hi⟩
 drew := by
  rintro A' s W ⟨pre, x, A4, c4, Bx, rfl, rfl, hb, hn, hlt, hc, hi⟩
  exact ⟨pre, x, A4, c4, Bx, rfl, rfl, hb, hn, hlt, hc, (foreign_wd w).drew hi⟩
 fewer := by
  rintro A' A'' s W ⟨pre, x, A4, c4, Bx, rfl, rfl, hb, hn, hlt, hc, hi⟩ hA
  exact ⟨pre, x, A4, c4, Bx, rfl, rfl, hb, fun e => hn (hA _ e), hlt, hc, (foreign_wd w).fewer hi hA⟩

def Str1 (v : Value) (W : World) : Prop := ∃ g s, v = .slice (some ⟨g, 0, none⟩) 1 1 ∧ W.heap[g]? = some (.cells #[.string s] 9 (0, 0))
theorem Str1.last (v : Value) : Lasts (Str1 v) := fun W W' hb ⟨g, s, h1, h2⟩ => ⟨g, s, h1, blk_below h2 hb⟩

theorem okL_part : ∀ (l : List (Int × Ex)) (n : Nat), okL n l = true → ∀ x ∈ l, kindOk x.2.f0 = true ∧ shapeL x.2.f0 x.2.f1 x.2.f2.f0 x.2.f2.f1 = true
 | [], _, _, x, h => by cases h
 | y :: l, n, h, x, hx => by
  rw [okL, Bool.and_eq_true] at h
  rcases List.mem_cons.1 hx with rfl | hx
  ·have h1 := h.1
   simp only [partOk, Bool.and_eq_true] at h1
   exact ⟨h1.1.1.2, h1.2⟩
  ·exact okL_part l (n + 1) h.2 x hx

set_option maxRecDepth 100000 in
set_option maxHeartbeats 8000000 in
theorem wordsOf_any (e : Ex) (hv : okL 0 (partsL e) = true) (A : Option Addr) (c : Nat) (w : World) (hC : Kd.C exK w A e.f3.length e.f3) (hc : e.f3.length ≤ c) (HT : TabW w) :
  Calls Try.prog 28 #[.agg (exA e A c)] w fun en w' => (∃ A' c', en = .returned (.slice A' (partsL e).length c')) ∧ Below w.heap.size w w' := by
 have mixed : Try.prog.follows .mixedOrders = true := rfl
 refine (callsIn_wide (n := 9)).1 ?_
 refine callsIn_of_wp_marks Try.func28 rfl trivial ?_ rfl
 simp only [Try.ntmps28, List.size_toArray, List.length_cons, List.length_nil, Nat.reduceAdd, Nat.reduceSub, Array.replicate_succ, Array.replicate_zero, List.push_toArray, List.append_toArray, List.nil_append, List.cons_append]
 gi_wp2
 obtain ⟨hs, k1, k2, hB0⟩ := two_blk' w (.cells (exA e A c) 27 (0, 0)) (.cells #[.slice none 0 0] 63 (0, 0))
 refine ⟨trivial, (parts_in e A c _ 8).mono ?_⟩
 rintro en w1' ⟨rfl, rfl⟩
 generalize (w.alloc (.cells (exA e A c) 27)).alloc (.cells #[.slice none 0 0] 63) = w1 at hs k1 k2 hB0 ⊢
 have hz2 : (w1.alloc (.cells (exA e A c) 27)).heap.size = w1.heap.size + 1 := by simp
 have hB2 : Below w.heap.size w (w1.alloc (.cells (exA e A c) 27)) := hB0.alloc hB0.size _
 have hbe := World.alloc_heap_new w1 (.cells (exA e A c) 27)
 have hI0 : WdI w (fun _ => False) [] (w1.alloc (.cells (exA e A c) 27)) :=
  ⟨⟨.slice none 0 0, [], (Below.heap_alloc w1 _ _ (by omega)).trans k2, World.ownsRow_nil _ _ _ _, fun g hg => id⟩, id, fun k h => h.elim, hB2⟩
 generalize w1.alloc (.cells (exA e A c) 27) = w2 at hz2 hB2 hbe hI0 ⊢
 have HV := Aside0.mk (And.intro hv HT)
 have HU := Aside0.mk hs
 have hle : w.heap.size ≤ w1.heap.size := by omega
 clear hv HT k1 k2 hs
 gi_wp2
 refine wpIn_rangeFunc_A (gf := 46) (lb := #[.pointer (some ⟨w1.heap.size, 0, none⟩)]) rfl (enters_of Try.func46 (by kernel_rfl) rfl)
  (parts1_seq e A c w w2 w1.heap.size hC hc hle hbe) (by rintro x vs ⟨A4, c4, rfl, _⟩; rfl)
  (WdI w) (fun _ _ _ _ => False) (WdM w e A c w1.heap.size) (foreign_wd w) (fun _ => foreign_no) (foreign_wdm w e A c _) (fun A' s W h => h.below) hI0 ?assign ?body ?done ?stop
 case assign =>
  rintro l A' pre x vs W hsz hA hi hpre ⟨A4, c4, rfl, hc4, hC4⟩
  gi_wp2
  have hs := HU.out
  exact ⟨(Kpt.refl A' W).alloc hA _, pre, x, A4, c4, W.heap.size, rfl, rfl, World.alloc_heap_new W _, fun h => Nat.lt_irrefl _ (hA _ h), by omega, hc4, (foreign_wd w).fewer ((foreign_wd w).alloc _ hi) (fun k h => .inl h)⟩
 case body =>
  rintro l A' pre0 x0 a1 W hsz hA ⟨pre, x, A4, c4, Bx, hs, rfl, hb, hn, hlt, hc4, hi⟩ hpre
  obtain ⟨rfl, hx⟩ := List.append_inj' hs rfl
  obtain rfl : x0 = x := by simpa using hx
  clear hs hx
  unfold wdTmps
  have hmem : x0 ∈ partsL e := hpre.subset (by simp)
  have hlen : pre0.length + 1 ≤ 15 := by
   have h1 := hpre.length_le
   have h2 := walk_le 6 e [] (by simp)
   simp only [List.length_append, List.length_cons, List.length_nil] at h1
   unfold partsL at h1
   omega
  obtain ⟨hk, hsh⟩ := okL_part _ 0 HV.out.1 x0 hmem
  obtain ⟨T, fw, KI⟩ := word_is x0.2 hk hsh
  obtain ⟨v, xs, o1, o2, o3⟩ := hi.o
  obtain ⟨i0, hi0, hz0, hz1, hz3⟩ := info_parts (P := Try.prog) (e := 9) (z := .string ByteArray.empty) (size := 1) (bytes := 16) (by kernel_rfl)
  have HQ := Aside0.mk hlen
  gi_wp2
  refine weaveTailIn 7 rfl (fun W' => Below W.heap.size W W') (Lasts.below W) (Below.refl _ _) [(10, 0), (11, 1), (12, 2), (13, 3), (14, 4), (15, 5), (16, 6), (17, 7)]
   [fun v' _ => v' = v, fun v' _ => v' = .pointer (some ⟨Bx, 0, none⟩), fun v' _ => v' = .int .i64 x0.2.f0, fun v' _ => v' = .iface T (.agg #[]), fun v' _ => v' = .agg (exA x0.2 A4 c4), IsStr, Str1] mixed (by kernel_rfl) (by kernel_rfl)
   ⟨fun _ => Lasts.const _, fun _ => Lasts.const _, fun _ => Lasts.const _, fun _ => Lasts.const _, fun _ => Lasts.const _, IsStr.last, Str1.last, trivial⟩ (by kernel_rfl) (by kernel_rfl) (by kernel_rfl) ?_
   (fun v7 W' => ∃ g cap xs', v7 = .slice (some ⟨g, 0, none⟩) (pre0.length + 1) cap ∧ W'.ownsRow (w.heap.size + 1 + 1) 9 1 v7 (pre0.length + 1) xs' ∧ Box W' (w.heap.size + 1) 63 #[v] ∧ W.grownBy W' v.ownBlock ∧ ¬ A' g)
   (fun _ W' => Kpt A' W W' ∧ WdI w A' (pre0 ++ [x0]) W') ?_ ?_ ?_
  ·refine ⟨?_, ?_, ?_, ?_, ?_, ?_, ?_, fun h => absurd h (by decide), fun h => absurd h (by decide), trivial⟩
   ·intro _ vs W' hp hv b hs
    have t3 := (hs.oldtm 3 rfl).trans (show _ = some (Value.pointer (some ⟨w.heap.size + 1, 0, none⟩)) from rfl)
    have c0 := (Box.cell (blk_below o1 hp) 0 _ rfl).1
    exact stepVal (v := v) rfl (by go_simp) ⟨Below.refl _ _, rfl⟩
   ·intro _ vs W' hp hv b hs
    have t5 := (hs.oldtm 5 rfl).trans (show _ = some (Value.pointer (some ⟨Bx, 0, none⟩)) from rfl)
    exact stepVal rfl (by go_simp) ⟨Below.refl _ _, rfl⟩
   ·intro _ vs W' hp hv b hs
    have h1 : vs 1 = .pointer (some ⟨Bx, 0, none⟩) := hv 1 (by decide)
    have t11 := (hs.tm 11 1 rfl).trans (congrArg some h1)
    have c0 := (Box.cell (blk_below hb hp) 0 _ rfl).1
    exact stepVal rfl (by go_simp) ⟨Below.refl _ _, rfl⟩
   ·intro _ vs W' hp hv b hs
    have h2 : vs 2 = .int .i64 x0.2.f0 := hv 2 (by decide)
    refine stepCall rfl Try.func27 (by kernel_rfl) rfl #[vs 2] rfl (by simp [Act.eval, hs.tm 12 2 rfl]) (by rw [h2]; exact reckoningOf_calls _ W') ?_
    rintro en W'' ⟨rfl, rfl⟩
    exact ⟨_, rfl, Below.refl _ _, KI.v⟩
   ·intro _ vs W' hp hv b hs
    exact stepGet rfl rfl ((hs.old 5 rfl).trans rfl) (blk_below hb hp) Try.underlying27 rfl (by kernel_rfl) ⟨Below.refl _ _, rfl⟩
   ·intro _ vs W' hp hv b hs
    have h3 : vs 3 = .iface T (.agg #[]) := hv 3 (by decide)
    have h4 : vs 4 = .agg (exA x0.2 A4 c4) := hv 4 (by decide)
    have t13 := (hs.tm 13 3 rfl).trans (congrArg some h3)
    have t14 := (hs.tm 14 4 rfl).trans (congrArg some h4)
    have mw := KI.mw
    have ew := KI.ew
    refine stepEnter (f := fw) (args := #[.agg #[], .agg (exA x0.2 A4 c4)]) rfl (by go_simp) (KI.cw A4 c4 W' (HV.out.2.below (hi.below.trans (hp.mono hi.below.size)))) ?_
    rintro en W'' ⟨⟨s, rfl⟩, hb'⟩
    exact ⟨_, rfl, hb', s, rfl⟩
   ·intro _ vs W' hp hv b hs
    obtain ⟨s, h5⟩ := (hv 5 (by decide) : IsStr (vs 5) W')
    have t15 := (hs.tm 15 5 rfl).trans (congrArg some h5)
    exact stepRun (v := .slice (some ⟨W'.heap.size, 0, none⟩) 1 1) (W' := W'.alloc (.cells #[.string s] 9)) rfl (by go_simp) ⟨(Below.refl _ _).alloc (Nat.le_refl _) _, _, s, rfl, heap_alloc_new _ _⟩
  ·intro o ho vs W' hp hv b hs
   have h0 : vs 0 = v := hv 0 (by decide)
   obtain ⟨g1, s, h6, hg1⟩ := (hv 6 (by decide) : Str1 (vs 6) W')
   have : o = _ := (Option.some.inj ho).symm
   subst this
   have hW : w.heap.size + 1 < W'.heap.size := Nat.lt_of_lt_of_le (blk_lt o1) hp.size
   refine stepOp rfl fun K Q' hK => ?_
   refine wp_append_lies W' (.tmp 10) (.tmp 16) 63 rfl (w.heap.size + 1 + 1) 9 i0 (.string ByteArray.empty) 1 16 Try.underlying63 hi0 hz0 hz1 hz3 rfl (by decide) v pre0.length xs ((hs.ev 10 0 rfl).trans h0) (owns_below o2 hp) ⟨g1, 0, none⟩ 1 1 [.string s] ((hs.ev 16 6 rfl).trans h6) rfl (World.news_of_block hg1) (by intro u hu; simp at hu; subst hu; rfl) (by decide) (by have := HQ.out; unfold maxLen; omega) (by have := HQ.out; omega) (by omega) _ rfl fun g cap W2 q1 q2 q3 q4 => hK _ _ ⟨g, cap, _, rfl, q1, (q2.block _ (by omega) (fun e => by have := (o2.lt _ e.symm).1; omega)).trans (blk_below o1 hp), ?_, ?_⟩
   ·exact World.grownBy.andThen (row := v.ownBlock) ⟨hp.os, hp.tape, hp.output, hp.size, fun j hj _ => hp.block j hj⟩ q2 (fun j hj => .inr hj)
   ·rcases q3 with q3 | q3
    ·exact o3 g q3
    ·intro hAg
     have := hA _ hAg
     have := hp.size
     omega
  ·intro o ho vs W' ⟨g, cap, xs', h7, q1, q2, q3, q4⟩ b hs
   have : o = _ := (Option.some.inj ho).symm
   subst this
   have t3 := (hs.oldtm 3 rfl).trans (show _ = some (Value.pointer (some ⟨w.heap.size + 1, 0, none⟩)) from rfl)
   have t17 := (hs.tm 17 7 rfl).trans (congrArg some h7)
   have c0 := (Box.cell q2 0 _ rfl).1
   have f0 := (Box.cell q2 0 _ rfl).2
   rw [h7] at q1
   have hge := (q1.lt g rfl).1
   refine stepSkip (W' := W'.setCell ⟨w.heap.size + 1, 0, none⟩ (.slice (some ⟨g, 0, none⟩) (pre0.length + 1) cap)) rfl (by go_simp) ⟨?_, ⟨_, xs', blk_set q2 0 _, ?_, fun g' hg' => by cases hg'; exact q4⟩, hi.nr, hi.ge, ?_⟩
   ·exact Kpt.setCell ⟨q3.size, fun k hk => q3.block k (hA k hk) (fun e => o3 k e.symm hk)⟩ hi.nr _
   ·rw [List.length_append]
    exact ownsRow_setCell_below q1 (by simp) _
   ·exact (Below.trans hi.below ⟨q3.os, q3.tape, q3.output, q3.size, fun k hk => q3.block k (by have := hi.below.size; omega) (fun e => by have := (o2.lt _ e.symm).1; omega)⟩).setCell (p := ⟨w.heap.size + 1, 0, none⟩) (by simp) _
  ·intro vs W' h
   exact h
 case done =>
  rintro D W hD hDl hi hK
  obtain ⟨v, xs, o1, o2, o3⟩ := hi.o
  have hvs : ∃ A' c', v = .slice A' (partsL e).length c' := by
   rcases o2.2 with ⟨h1, h2⟩ | ⟨g, cap, cur, h1, _⟩
   ·exact ⟨none, 0, by rw [h1, h2]⟩
   ·exact ⟨_, _, h1⟩
  have cr := (Box.cell o1 0 v rfl).1
  gi_wp2
  refine ⟨by simp, .inl ⟨_, _, rfl, run_takeDeferred hK, ?_⟩⟩
  obtain ⟨A1, c1, rfl⟩ := hvs
  refine ⟨.slice A1 (partsL e).length c1, ?_, ⟨A1, c1, rfl⟩, hi.below.trans (belowK_b (w := w) (Nat.le_refl _) W D _ _ (by have := hB2.size; omega) hK rfl rfl)⟩
  simp [results, Try.f28, go_sem]
 case stop =>
  rintro D c1 pre W hD hDl hpre h hK
  exact h.elim
end Go.Proofs.Ytacbbpbopmdpeaa.B
/- impl.ExprMany: how many parts, where ok. -/
namespace Go.Proofs.Ytacbbpbopmdpeaa.B
open Go Go.RowKit Go.Shelf Go.Proofs.YtacbbpbopmdpeaaW.PrintWords Go.Proofs.YtacbbpbopmdpeaaW.PrintLast Go.Proofs.YtacbbpbopmdpeaaW.PrintMore
set_option linter.unusedVariables false
def manyV (e : Ex) : Int := if okL 0 (partsL e) = true then ((partsL e).length : Int) else 0
set_option maxRecDepth 100000 in
theorem manyImpl_any (hok : OkCon) (e : Ex) (A : Option Addr) (c : Nat) (w : World) (hC : Kd.C exK w A e.f3.length e.f3) (hc : e.f3.length ≤ c) (HT : TabW w) :
  Calls Try.prog 14 #[.agg (exA e A c)] w fun en w' => en = .returned (.int .i64 (manyV e)) ∧ Below w.heap.size w w' := by
 have mixed : Try.prog.follows .mixedOrders = true := rfl
 have k1 : (w.alloc (.cells (exA e A c) 27 (0, 0))).heap[w.heap.size]? = some (.cells (exA e A c) 27 (0, 0)) := heap_alloc_new _ _
 have hB0 : Below w.heap.size w (w.alloc (.cells (exA e A c) 27 (0, 0))) := (Below.refl _ _).alloc (Nat.le_refl _) _
 have H0 := Aside0.mk (And.intro k1 hB0)
 have H1 := Aside0.mk (And.intro hC HT)
 clear k1 hB0 hC HT
 go_enter Try.func14, Try.ntmps14
 go_wp2_with fail
 refine (hok e A c _ (Kd.C_below H1.out.1 H0.out.2) hc).mono ?_
 rintro en w1 ⟨rfl, hb1⟩
 have hB1 := H0.out.2.trans (hb1.mono H0.out.2.size)
 have H2 := Aside0.mk (And.intro (blk_below H0.out.1 hb1) (And.intro hB1 (H1.out.2.below hB1)))
 clear hb1 hB1
 cases hv : okL 0 (partsL e) with
 | false =>
  have HV := Aside0.mk hv
  clear hv
  generalize w1 = W1 at H2 ⊢
  go_wp2_with fail
  go_ret
  exact ⟨by unfold manyV; rw [HV.out]; rfl, H2.out.2.1⟩
 | true =>
  have HV := Aside0.mk hv
  clear hv
  generalize w1 = W1 at H2 ⊢
  have c0 := blk_cell H2.out.1 0
  have c1 := blk_cell H2.out.1 1
  have c2 := blk_cell H2.out.1 2
  have c3 := blk_cell H2.out.1 3
  have c4 := blk_cell H2.out.1 4
  go_wp2_with fail
  refine (wordsOf_any e HV.out A c W1 (Kd.C_below H1.out.1 H2.out.2.1) hc H2.out.2.2).mono ?_
  rintro en w2 ⟨⟨A', c', rfl⟩, hb2⟩
  have H3 := Aside0.mk (H2.out.2.1.trans (hb2.mono H2.out.2.1.size))
  clear hb2 c0 c1 c2 c3 c4
  go_wp2_with fail
  go_ret
  exact ⟨by unfold manyV; rw [HV.out]; rfl, H3.out⟩
end Go.Proofs.Ytacbbpbopmdpeaa.B
