/- The words of an expression's parts: each kind's method word ends with some text. -/
import Derived.Test.YtiofkhfmdophpaaReck
import Derived.Test.YtiofkhfmdophpaaOkL
import Derived.Test.YtiofkhfmdophpaaWeaveBox
import Derived.Test.YtiofkhfmdophpaaWeaveIn
import Derived.Test.YtiofkhfmdophpaaItoaW
import Derived.Test.YtiofkhfmdophpaaPkA
import Derived.Lib.AppendIntMem
namespace Go.Proofs.Ytiofkhfmdophpaa.B
open Go Go.RowKit Go.Shelf Go.Proofs.YtiofkhfmdophpaaW.PrintWords Go.Proofs.YtiofkhfmdophpaaW.PrintLast Go.Proofs.YtiofkhfmdophpaaW.PrintMore
set_option linter.unusedVariables false

theorem TabW.below {W W' : World} (h : TabW W) (hb : Below W.heap.size W W') : TabW W' := fun i hi => by
 obtain ⟨m, e⟩ := h i hi
 exact ⟨m, (hb.cell (p := ⟨1, i, none⟩) (cell_lt_w e)).trans e⟩
theorem TabW.lasts : Lasts TabW := fun _ _ hb h => h.below hb
theorem itoa_b (n : Int) (h0 : -1000000 ≤ n) (h1 : n ≤ 1000000) (w : World) (HT : TabW w) :
  Calls Try.prog 157 #[.int .i64 n] w fun e w' => (∃ s, e = .returned (.string s) ∧ s.size ≤ 100) ∧ Below w.heap.size w w' :=
 (itoa_w n h0 h1 w HT).mono fun e w' h => ⟨h.1, by
  obtain ⟨k, os, rfl⟩ := h.2
  exact Go.Lib.below_grow _ _ (Nat.le_refl _) k os⟩
theorem letter_b (k a : Int) (h : addrOkL k a = true) (w : World) : Calls Try.prog 150 #[.agg #[.int .i64 k, .int .i64 a]] w fun e w' => (∃ s, e = .returned (.string s) ∧ s.size ≤ 100) ∧ Below w.heap.size w w' := by
 have h' : 1 ≤ k ∧ k ≤ 3 ∧ 0 ≤ a ∧ a < 6 := of_decide_eq_true h
 refine (impl_Addr_letter.calls k a _ w (by unfold impl_Addr_letter.f; rw [show wrap64 (k + 1) = k + 1 by unfold wrap64; omega, if_pos (by omega), if_pos (by omega), if_pos (by omega)])).mono fun e w' h => ⟨⟨_, h.1, by
  rw [ByteArray.size_extract]
  have : (⟨#[32, 105, 111, 118]⟩ : ByteArray).size = 4 := rfl
  omega⟩, h.2⟩
section
variable {P : Program} {ops : Array Oper} {o : Oper} {b : Act} {W : World} {Ψ : Value → World → Prop}
theorem stepEnter {f : FuncId} {args : Array Value} (hw : Region.wanted o (yielded ops b.tmps) = true) (hrun : (execOp b.eval o).run P W = .ok (.enter f args) W) {R : Ending → World → Prop} (hc : Calls P f args W R) (h : ∀ e w', R e w' → ∃ v, e = .returned v ∧ Ψ v w') : StepOK P ops o b W Ψ :=
 fun K Q hK => call_ f args hw rfl hrun (hc.mono fun e w' hr => by
  obtain ⟨v, rfl, hv⟩ := h e w' hr
  exact ⟨v, rfl, hK v w' hv⟩)
theorem stepRun {v : Value} {W' : World} (hw : Region.wanted o (yielded ops b.tmps) = true) (hrun : (execOp b.eval o).run P W = .ok (.value v) W') (h : Ψ v W') : StepOK P ops o b W Ψ := fun K Q hK => value_ hw rfl hrun (hK v W' h)
theorem stepOp (hw : Region.wanted o (yielded ops b.tmps) = true) (h : ∀ (K : Act → World → Prop) (Q : Exit → Act → World → Prop), (∀ v w', Ψ v w' → K (b.put o.dst v) w') → Oper.wp P o b W K Q) : StepOK P ops o b W Ψ := fun K Q hK => by
 rw [if_pos hw]
 exact h K Q hK
theorem stepSkip {W' : World} (hw : Region.wanted o (yielded ops b.tmps) = true) (hrun : (execOp b.eval o).run P W = .ok .skip W') (h : Ψ undef W') : StepOK P ops o b W Ψ := fun K Q hK => by
 rw [if_pos hw]
 unfold Oper.wp
 rw [hrun]
 exact hK _ _ h
end

/-- Some text. -/
def IsStr (v : Value) (_ : World) : Prop := ∃ s, v = .string s
def IsStr1 (v : Value) (_ : World) : Prop := ∃ s, v = .string s ∧ s.size ≤ 100
theorem IsStr1.last (v : Value) : Lasts (IsStr1 v) := fun _ _ _ h => h
theorem IsStr.last (v : Value) : Lasts (IsStr v) := fun _ _ _ h => h

set_option maxRecDepth 100000 in
theorem addrText_b (k a : Int) (h : addrOkL k a = true) (w : World) (HT : TabW w) : Calls Try.prog 175 #[.agg #[.int .i64 k, .int .i64 a]] w fun e w' => (∃ s, e = .returned (.string s)) ∧ Below w.heap.size w w' := by
 have mixed : Try.prog.follows .mixedOrders = true := rfl
 have h' : 1 ≤ k ∧ k ≤ 3 ∧ 0 ≤ a ∧ a < 6 := of_decide_eq_true h
 have HA := Aside0.mk h
 have HT := Aside0.mk HT
 go_enter Try.func175, Try.ntmps175
 go_wp2_with fail
 obtain ⟨k1, hB0⟩ := (show (w.alloc (.cells #[.int .i64 k, .int .i64 a] 29 (0, 0))).heap[w.heap.size]? = some (.cells #[.int .i64 k, .int .i64 a] 29 (0, 0)) ∧ Below w.heap.size w (w.alloc (.cells #[.int .i64 k, .int .i64 a] 29 (0, 0))) from ⟨heap_alloc_new _ _, (Below.refl _ _).alloc (Nat.le_refl _) _⟩)
 refine (addrOk_any _ _ _).mono ?_
 rintro e w1 ⟨rfl, hb1⟩
 rw [HA.out]
 have H1 := Aside0.mk (And.intro (blk_below k1 hb1) (And.intro (hB0.trans (hb1.mono hB0.size)) (HT.out.below (hB0.trans (hb1.mono hB0.size)))))
 clear k1 hB0 hb1
 generalize w1 = W1 at H1 ⊢
 go_wp2_with fail
 refine weaveB_ (fun W => Below W1.heap.size W1 W) (Lasts.below W1) (Below.refl _ _) [(6, 0), (7, 1), (8, 2), (9, 3), (10, 4), (11, 5), (2, 6)] [fun v _ => v = .agg #[.int .i64 k, .int .i64 a], IsStr1, fun v _ => v = .pointer (some ⟨w.heap.size, 1, none⟩), fun v _ => v = .int .i64 a, IsStr1, IsStr, IsStr] mixed (by kernel_rfl) ⟨fun _ => Lasts.const _, IsStr1.last, fun _ => Lasts.const _, fun _ => Lasts.const _, IsStr1.last, IsStr.last, IsStr.last, trivial⟩ ?_ ?_
 ·refine ⟨?_, ?_, ?_, ?_, ?_, ?_, ?_, trivial⟩
  ·intro vs W hp hv b hs
   exact stepGet rfl rfl ((hs.old 1 rfl).trans rfl) (blk_below H1.out.1 hp) Try.underlying29 rfl (by kernel_rfl) ⟨Below.refl _ _, rfl⟩
  ·intro vs W hp hv b hs
   have h0 : vs 0 = .agg #[.int .i64 k, .int .i64 a] := hv 0 (by decide)
   have t6 := (hs.tm 6 0 rfl).trans (congrArg some h0)
   refine stepCall rfl Try.func150 (by kernel_rfl) rfl #[vs 0] rfl (by simp [Act.eval, hs.tm 6 0 rfl]) (by rw [h0]; exact letter_b k a HA.out W) ?_
   rintro e W' ⟨⟨s, rfl, hs9⟩, hb'⟩
   exact ⟨_, rfl, hb', s, rfl, hs9⟩
  ·intro vs W hp hv b hs
   have t1 := (hs.oldtm 1 rfl).trans (show _ = some (Value.pointer (some ⟨w.heap.size, 0, none⟩)) from rfl)
   exact stepVal rfl (by go_simp) ⟨Below.refl _ _, rfl⟩
  ·intro vs W hp hv b hs
   have h2 : vs 2 = .pointer (some ⟨w.heap.size, 1, none⟩) := hv 2 (by decide)
   have t8 := (hs.tm 8 2 rfl).trans (congrArg some h2)
   have c1 := (Box.cell (blk_below H1.out.1 hp) 1 _ rfl).1
   exact stepVal rfl (by go_simp) ⟨Below.refl _ _, rfl⟩
  ·intro vs W hp hv b hs
   have h3 : vs 3 = .int .i64 a := hv 3 (by decide)
   refine stepCall rfl Try.func157 (by kernel_rfl) rfl #[vs 3] rfl (by simp [Act.eval, hs.tm 9 3 rfl]) (by rw [h3]; exact itoa_b a (by omega) (by omega) W (H1.out.2.2.below hp)) ?_
   rintro e W' ⟨⟨s, rfl, hs9⟩, hb'⟩
   exact ⟨_, rfl, hb', s, rfl, hs9⟩
  ·intro vs W hp hv b hs
   obtain ⟨s, hs1, z1⟩ := (hv 1 (by decide) : IsStr1 (vs 1) W)
   obtain ⟨u, hs4, z4⟩ := (hv 4 (by decide) : IsStr1 (vs 4) W)
   have t7 := (hs.tm 7 1 rfl).trans (congrArg some hs1)
   have t10 := (hs.tm 10 4 rfl).trans (congrArg some hs4)
   exact stepVal (v := .string (s ++ u)) rfl (by go_simp; omega) ⟨Below.refl _ _, _, rfl⟩
  ·intro vs W hp hv b hs
   obtain ⟨s, hs5⟩ := (hv 5 (by decide) : IsStr (vs 5) W)
   have t11 := (hs.tm 11 5 rfl).trans (congrArg some hs5)
   exact stepVal (v := .string s) rfl (by go_simp) ⟨Below.refl _ _, s, rfl⟩
 ·intro vs W hp hv
  obtain ⟨s, hs6⟩ := (hv 6 (by decide) : IsStr (vs 6) W)
  have HE := Aside0.mk (show Below w.heap.size w W from H1.out.2.1.trans (hp.mono H1.out.2.1.size))
  simp only [List.map_cons, List.map_nil, putL, Act.put, List.setIfInBounds_toArray, List.set_cons_zero, List.set_cons_succ, hs6]
  clear hv hp
  go_wp2_with fail
  go_ret
  exact ⟨⟨s, rfl⟩, HE.out⟩

theorem two_blk' (w : World) (a b : Obj) : ((w.alloc a).alloc b).heap.size = w.heap.size + 1 + 1 ∧ ((w.alloc a).alloc b).heap[w.heap.size]? = some a ∧ ((w.alloc a).alloc b).heap[w.heap.size + 1]? = some b ∧ Below w.heap.size w ((w.alloc a).alloc b) := by
 have s1 : (w.alloc a).heap.size = w.heap.size + 1 := by simp
 have s2 : ((w.alloc a).alloc b).heap.size = w.heap.size + 1 + 1 := by simp
 refine ⟨s2, ?_, ?_, ((Below.refl w.heap.size w).alloc (Nat.le_refl _) _).alloc (by omega) _⟩
 ·rw [Below.heap_alloc _ _ _ (by omega)]; exact heap_alloc_new w a
 ·rw [← s1]; exact heap_alloc_new _ b
/-- What the method word of a kind does. -/
def WordC (f : Nat) (e : Ex) : Prop := ∀ (A : Option Addr) (c : Nat) (w : World), TabW w → Calls Try.prog f #[.agg #[], .agg #[.int .i64 e.f0, .int .i64 e.f1, .int .i64 e.f2.f0, .int .i64 e.f2.f1, .slice A e.f3.length c]] w fun en w' => (∃ s, en = .returned (.string s)) ∧ Below w.heap.size w w'
set_option maxRecDepth 100000 in
theorem word1 (e : Ex) (h : isNumL e.f1 = true) : WordC 156 e := by
 intro A c w HT
 have h' : -1000000 ≤ e.f1 ∧ e.f1 ≤ 1000000 := of_decide_eq_true h
 obtain ⟨hs, k1, k2, hB0⟩ := two_blk' w (.cells #[] 101 (0, 0)) (.cells #[.int .i64 e.f0, .int .i64 e.f1, .int .i64 e.f2.f0, .int .i64 e.f2.f1, .slice A e.f3.length c] 32 (0, 0))
 have HB := Aside0.mk (And.intro hB0 (HT.below hB0))
 clear hs k1 k2 hB0 HT h
 have mixed : Try.prog.follows .mixedOrders = true := rfl
 go_enter Try.func156, Try.ntmps156
 go_wp2_with fail
 refine (itoa_b _ h'.1 h'.2 _ HB.out.2).mono ?_
 rintro en w1 ⟨⟨s, rfl, _⟩, hb⟩
 have HB1 := Aside0.mk (HB.out.1.trans (hb.mono HB.out.1.size))
 clear hb
 go_wp2_with fail
 go_ret
 exact ⟨⟨s, rfl⟩, HB1.out⟩
set_option maxRecDepth 100000 in
theorem word2 (e : Ex) (h : addrOkL e.f2.f0 e.f2.f1 = true) : WordC 174 e := by
 intro A c w HT
 obtain ⟨hs, k1, k2, hB0⟩ := two_blk' w (.cells #[] 102 (0, 0)) (.cells #[.int .i64 e.f0, .int .i64 e.f1, .int .i64 e.f2.f0, .int .i64 e.f2.f1, .slice A e.f3.length c] 32 (0, 0))
 have HB := Aside0.mk (And.intro hB0 (HT.below hB0))
 have HA := Aside0.mk h
 clear hs k1 k2 hB0 HT h
 have mixed : Try.prog.follows .mixedOrders = true := rfl
 go_enter Try.func174, Try.ntmps174
 go_wp2_with fail
 refine (addrText_b _ _ HA.out _ HB.out.2).mono ?_
 rintro en w1 ⟨⟨s, rfl⟩, hb⟩
 have HB1 := Aside0.mk (HB.out.1.trans (hb.mono HB.out.1.size))
 clear hb
 go_wp2_with fail
 go_ret
 exact ⟨⟨s, rfl⟩, HB1.out⟩
set_option maxRecDepth 100000 in
theorem word4 (e : Ex) : WordC 185 e := by
 intro A c w HT
 obtain ⟨hs, k1, k2, hB0⟩ := two_blk' w (.cells #[] 104 (0, 0)) (.cells #[.int .i64 e.f0, .int .i64 e.f1, .int .i64 e.f2.f0, .int .i64 e.f2.f1, .slice A e.f3.length c] 32 (0, 0))
 have HB := Aside0.mk hB0
 clear hs k1 k2 hB0 HT
 have mixed : Try.prog.follows .mixedOrders = true := rfl
 go_enter Try.func185, Try.ntmps185
 go_wp2_with fail
 go_ret
 exact ⟨⟨_, rfl⟩, HB.out⟩
set_option maxRecDepth 100000 in
theorem twoWords_b (w : World) : Calls Try.prog 181 #[] w fun en w' => (∃ (g : Nat) (cs : Array Value), en = .returned (.slice (some ⟨g, 0, none⟩) 10 10) ∧ w'.heap[g]? = some (.cells cs 9 (0, 0)) ∧ ∀ i, i < 10 → ∃ s, cs[i]? = some (.string s)) ∧ Below w.heap.size w w' := by
 have mixed : Try.prog.follows .mixedOrders = true := rfl
 go_enter Try.func181, Try.ntmps181
 go_wp2_with fail
 go_ret
 exact ⟨⟨w.heap.size, _, rfl, heap_alloc_new w _, fun i hi => by (rcases i with _ | _ | _ | _ | _ | _ | _ | _ | _ | _ | _ <;> first | exact ⟨_, rfl⟩ | omega)⟩, (Below.refl _ _).alloc (Nat.le_refl _) _⟩

def Words10 (v : Value) (W : World) : Prop := ∃ (g : Nat) (cs : Array Value), v = .slice (some ⟨g, 0, none⟩) 10 10 ∧ W.heap[g]? = some (.cells cs 9 (0, 0)) ∧ ∀ i, i < 10 → ∃ s, cs[i]? = some (.string s)
theorem Words10.last (v : Value) : Lasts (Words10 v) := fun W W' hb ⟨g, cs, h1, h2, h3⟩ => ⟨g, cs, h1, blk_below h2 hb, h3⟩
def AtStr (v : Value) (W : World) : Prop := ∃ p s, v = .pointer (some p) ∧ W.cell? p = some (.string s)
theorem AtStr.last (v : Value) : Lasts (AtStr v) := fun W W' hb ⟨p, s, h1, h2⟩ => ⟨p, s, h1, (hb.cell (cell_lt_w h2)).trans h2⟩
set_option maxRecDepth 100000 in
theorem word3 (e : Ex) (h3 : 3 ≤ e.f0) (h9 : e.f0 ≤ 9) : WordC 179 e := by
 intro A c w HT
 obtain ⟨hs, k1, k2, hB0⟩ := two_blk' w (.cells #[] 103 (0, 0)) (.cells #[.int .i64 e.f0, .int .i64 e.f1, .int .i64 e.f2.f0, .int .i64 e.f2.f1, .slice A e.f3.length c] 32 (0, 0))
 have HB := Aside0.mk (And.intro hB0 k2)
 clear hs k1 k2 hB0 HT
 have mixed : Try.prog.follows .mixedOrders = true := rfl
 go_enter Try.func179, Try.ntmps179
 go_wp2_with fail
 go_name_world W1 hW1
 have H1 := Aside0.mk (show Below w.heap.size w W1 ∧ Box W1 (w.heap.size + 1) 32 #[.int .i64 e.f0, .int .i64 e.f1, .int .i64 e.f2.f0, .int .i64 e.f2.f1, .slice A e.f3.length c] from by rw [← hW1]; exact HB.out)
 clear hW1 HB
 refine weaveB_ (fun W => Below W1.heap.size W1 W) (Lasts.below W1) (Below.refl _ _) [(5, 0), (6, 1), (7, 2), (8, 3), (9, 4), (4, 5)] [Words10, fun v _ => v = .pointer (some ⟨w.heap.size + 1, 0, none⟩), fun v _ => v = .int .i64 e.f0, AtStr, IsStr, IsStr] mixed (by kernel_rfl) ⟨Words10.last, fun _ => Lasts.const _, fun _ => Lasts.const _, AtStr.last, IsStr.last, IsStr.last, trivial⟩ ?_ ?_
 ·refine ⟨?_, ?_, ?_, ?_, ?_, ?_, trivial⟩
  ·intro vs W hp hv b hs
   refine stepCall rfl Try.func181 (by kernel_rfl) rfl #[] rfl (by simp) (twoWords_b W) ?_
   rintro en W' ⟨⟨g, cs, rfl, h1, h2⟩, hb'⟩
   exact ⟨_, rfl, hb', g, cs, rfl, h1, h2⟩
  ·intro vs W hp hv b hs
   have t3 := (hs.oldtm 3 rfl).trans (show _ = some (Value.pointer (some ⟨w.heap.size + 1, 0, none⟩)) from rfl)
   exact stepVal rfl (by go_simp) ⟨Below.refl _ _, rfl⟩
  ·intro vs W hp hv b hs
   have h1 : vs 1 = .pointer (some ⟨w.heap.size + 1, 0, none⟩) := hv 1 (by decide)
   have t6 := (hs.tm 6 1 rfl).trans (congrArg some h1)
   have c0 := (Box.cell (blk_below H1.out.2 hp) 0 _ rfl).1
   exact stepVal rfl (by go_simp) ⟨Below.refl _ _, rfl⟩
  ·intro vs W hp hv b hs
   obtain ⟨g, cs, h0, hbx, hst⟩ := (hv 0 (by decide) : Words10 (vs 0) W)
   have h2 : vs 2 = .int .i64 e.f0 := hv 2 (by decide)
   have t5 := (hs.tm 5 0 rfl).trans (congrArg some h0)
   have t7 := (hs.tm 7 2 rfl).trans (congrArg some h2)
   obtain ⟨s, es⟩ := hst e.f0.toNat (by omega)
   have hc := (blk_cell hbx e.f0.toNat).trans es
   exact stepVal (v := .pointer (some ⟨g, e.f0.toNat, none⟩)) rfl (by go_simp; intro hh; exact absurd (hh (by omega)) (by omega)) ⟨Below.refl _ _, _, s, rfl, hc⟩
  ·intro vs W hp hv b hs
   obtain ⟨p, s, h3', hc⟩ := (hv 3 (by decide) : AtStr (vs 3) W)
   have t8 := (hs.tm 8 3 rfl).trans (congrArg some h3')
   exact stepVal (v := .string s) rfl (by go_simp) ⟨Below.refl _ _, s, rfl⟩
  ·intro vs W hp hv b hs
   obtain ⟨s, hs4⟩ := (hv 4 (by decide) : IsStr (vs 4) W)
   have t9 := (hs.tm 9 4 rfl).trans (congrArg some hs4)
   exact stepVal (v := .string s) rfl (by go_simp) ⟨Below.refl _ _, s, rfl⟩
 ·intro vs W hp hv
  obtain ⟨s, hs6⟩ := (hv 5 (by decide) : IsStr (vs 5) W)
  have HE := Aside0.mk (show Below w.heap.size w W from H1.out.1.trans (hp.mono H1.out.1.size))
  simp only [List.map_cons, List.map_nil, putL, Act.put, List.setIfInBounds_toArray, List.set_cons_zero, List.set_cons_succ, hs6]
  clear hv hp
  go_wp2_with fail
  go_ret
  exact ⟨⟨s, rfl⟩, HE.out⟩

theorem meth_word1 : ∀ w, (method 274 101 (.agg #[]) "loop.example/stopgate/impl.word").run Try.prog w = .ok (156, .agg #[]) w := fun _ => by kernel_rfl
theorem meth_word2 : ∀ w, (method 274 102 (.agg #[]) "loop.example/stopgate/impl.word").run Try.prog w = .ok (174, .agg #[]) w := fun _ => by kernel_rfl
theorem meth_word3 : ∀ w, (method 274 103 (.agg #[]) "loop.example/stopgate/impl.word").run Try.prog w = .ok (179, .agg #[]) w := fun _ => by kernel_rfl
theorem meth_word4 : ∀ w, (method 274 104 (.agg #[]) "loop.example/stopgate/impl.word").run Try.prog w = .ok (185, .agg #[]) w := fun _ => by kernel_rfl
/-- A kind that is one: its method word. -/
structure WordIs (e : Ex) (T fw : Nat) : Prop where
 v : kindV e.f0 = .iface T (.agg #[])
 mw : ∀ w, (method 274 T (.agg #[]) "loop.example/stopgate/impl.word").run Try.prog w = .ok (fw, .agg #[]) w
 ew : ∀ args w, (callFunc fw args).run Try.prog w = .ok (.enter fw args) w
 cw : WordC fw e
theorem word_is (e : Ex) (h : kindOk e.f0 = true) (hs : shapeL e.f0 e.f1 e.f2.f0 e.f2.f1 = true) : ∃ T fw, WordIs e T fw := by
 have h' : 1 ≤ e.f0 ∧ e.f0 ≤ 10 := of_decide_eq_true h
 unfold shapeL at hs
 by_cases h1 : e.f0 = 1
 ·rw [if_pos h1, Bool.and_eq_true] at hs
  exact ⟨101, 156, by rw [h1]; rfl, meth_word1, enters_of Try.func156 (by kernel_rfl) rfl, word1 e hs.1⟩
 ·rw [if_neg h1] at hs
  by_cases h2 : e.f0 = 2
  ·rw [if_pos h2, Bool.and_eq_true] at hs
   exact ⟨102, 174, by rw [h2]; rfl, meth_word2, enters_of Try.func174 (by kernel_rfl) rfl, word2 e hs.1⟩
  ·by_cases h3 : e.f0 = 10
   ·exact ⟨104, 185, by rw [h3]; rfl, meth_word4, enters_of Try.func185 (by kernel_rfl) rfl, word4 e⟩
   ·have h39 : 3 ≤ e.f0 ∧ e.f0 ≤ 9 := by omega
    exact ⟨103, 179, by simp [kindV, h1, h2, h39], meth_word3, enters_of Try.func179 (by kernel_rfl) rfl, word3 e h39.1 h39.2⟩
end Go.Proofs.Ytiofkhfmdophpaa.B
