/- Boxes: a variable in a block of its own, known whole; how operations meet it, in plain regions and in those that draw their order. -/
import Derived.Test.YtddnijmgipffeaaDoorWeave
import Derived.Test.YtddnijmgipffeaaDoorB0
import Derived.Deep.MidRow
namespace Go.Proofs.YtddnijmgipffeaaDoor.B
open Go Go.RowKit Go.Proofs.YtddnijmgipffeaaDoorW.PrintWords Go.Proofs.YtddnijmgipffeaaDoorW.PrintLast Go.Proofs.YtddnijmgipffeaaDoorW.PrintMore
set_option linter.unusedVariables false

abbrev Box (W : World) (g : Nat) (T : TypeId) (cs : Array Value) : Prop := W.heap[g]? = some (.cells cs T (0, 0))
/-- What a store into block g leaves: all other blocks. -/
structure Put1 (g : Nat) (W W' : World) : Prop where
  os : W'.os = W.os
  tape : W'.tape = W.tape
  output : W'.output = W.output
  size : W'.heap.size = W.heap.size
  far : ∀ j, j ≠ g → W'.heap[j]? = W.heap[j]?
theorem Put1.below {g B : Nat} {w W W' : World} (h : Put1 g W W') (hb : Below B w W) (hg : B ≤ g) : Below B w W' :=
  hb.trans ⟨h.os, h.tape, h.output, by rw [h.size]; exact Nat.le_refl _, fun k hk => h.far k (by omega)⟩
theorem setCells_put1 (g : Nat) : ∀ (vs : List Value) (o : Nat) (W : World), Put1 g W (W.setCells g o vs)
  | [], _, W => ⟨rfl, rfl, rfl, rfl, fun _ _ => rfl⟩
  | v :: r, o, W => by
    have h := setCells_put1 g r (o + 1) (W.setCell ⟨g, o, none⟩ v)
    exact ⟨h.os, h.tape, h.output, h.size.trans (by simp [World.setCell]), fun j hj => (h.far j hj).trans (Below.heap_setCell _ _ _ _ hj)⟩
theorem setCells_row (g : Nat) (T : TypeId) : ∀ (vs : List Value) (o : Nat) (W : World) (cs : Array Value), Box W g T cs → ∃ R : Array Value, Box (W.setCells g o vs) g T R ∧ R.size = cs.size ∧ (∀ i, i < o → R[i]? = cs[i]?) ∧ ∀ i, i < vs.length → o + i < cs.size → R[o + i]? = vs[i]?
  | [], o, W, cs, h => ⟨cs, h, rfl, fun _ _ => rfl, fun i hi => absurd hi (Nat.not_lt_zero i)⟩
  | v :: r, o, W, cs, h => by
    obtain ⟨R, h1, h2, h3, h4⟩ := setCells_row g T r (o + 1) (W.setCell ⟨g, o, none⟩ v) (cs.setIfInBounds o v) (blk_set h o v)
    refine ⟨R, h1, by rw [h2]; simp, fun i hi => ?_, fun i hi ho => ?_⟩
    · rw [h3 i (by omega), Array.getElem?_setIfInBounds_ne (by omega)]
    · cases i with
      | zero =>
        rw [Nat.add_zero, h3 o (by omega), List.getElem?_cons_zero, Array.getElem?_setIfInBounds_self_of_lt (by simpa using ho)]
      | succ i =>
        have := h4 i (by simpa using hi) (by simp; omega)
        rw [show o + (i + 1) = o + 1 + i by omega, List.getElem?_cons_succ]
        exact this
theorem setCells_box {g : Nat} {T : TypeId} {W : World} {cs cs' : Array Value} (h : Box W g T cs) (hs : cs'.size = cs.size) : Box (W.setCells g 0 cs'.toList) g T cs' := by
  obtain ⟨R, h1, h2, _, h4⟩ := setCells_row g T cs'.toList 0 W cs h
  have : R = cs' := by
    apply Array.ext_getElem?
    intro i
    by_cases hi : i < cs'.size
    · have := h4 i (by simpa using hi) (by omega)
      rw [Nat.zero_add] at this
      simpa using this
    · rw [Array.getElem?_eq_none (by omega), Array.getElem?_eq_none (by omega)]
  exact this ▸ h1
theorem Box.range {W : World} {g : Nat} {T : TypeId} {cs : Array Value} (h : Box W g T cs) : W.rangeAt g 0 cs.toList := fun j v hv => by
  rw [Nat.zero_add, blk_cell h]
  simpa using hv
theorem Box.there {W : World} {g : Nat} {T : TypeId} {cs : Array Value} (h : Box W g T cs) : W.there g 0 cs.size := fun j hj => by
  rw [Nat.zero_add, blk_cell h, blk_frozen h]
  simp [hj]
theorem Box.put1 {W W' : World} {g b : Nat} {T : TypeId} {cs : Array Value} (h : Box W g T cs) (hp : Put1 b W W') (hne : g ≠ b) : Box W' g T cs := (hp.far g hne).trans h
theorem Box.drew {W : World} {g : Nat} {T : TypeId} {cs : Array Value} (h : Box W g T cs) : Box W.drew g T cs := h
theorem drew_below (W : World) : Below W.heap.size W W.drew := (Below.refl _ _).drew

section
variable {P : Program} {ops : Array Oper} {rest : List Oper} {o : Oper} {a : Act} {Q : Exit → Act → World → Prop} {W : World}
/-- A box is made. -/
theorem boxNew_ {N : Tmp} (hd : o.dst = some N) (hg : o.guard = none) (cs : Array Value) (T : TypeId) (hrun : (execOp a.eval o).run P W = .ok (.value (.pointer (some ⟨W.heap.size, 0, none⟩))) (W.alloc (.cells cs T (0, 0))))
    (h : ∀ g W', g = W.heap.size → Box W' g T cs → Below W.heap.size W W' → wpList P ops Q rest (a.put (some N) (.pointer (some ⟨g, 0, none⟩))) W') : wpList P ops Q (o :: rest) a W := by
  refine box_event hg hd hrun fun g hg w1 h1 h2 => ?_
  rw [hd]
  exact h g w1 hg h1 h2
/-- A box is written whole. -/
theorem boxPut_ {T : TypeId} {p : Tmp} {x : Operand} (ho : o.op = .store T (.tmp p) x) (hN : o.dst = none) (hg : o.guard = none) {g : Nat} {cs : Array Value} (hp : a.eval (.tmp p) = .pointer (some ⟨g, 0, none⟩)) (cs' : Array Value) (hx : a.eval x = .agg cs')
    (hb : Box W g T cs) (hs : cs'.size = cs.size) (hi : (P.info? T).map (·.size) = some cs'.size) (h1 : cs'.all (·.oneCell') = true)
    (h : ∀ W', Box W' g T cs' → Put1 g W W' → wpList P ops Q rest a W') : wpList P ops Q (o :: rest) a W := by
  refine wpList_store_mid hg T (.tmp p) x ho g 0 cs' hp hx (by rw [hs]; exact Box.there hb) hi h1 ?_
  rw [hN]
  exact h _ (setCells_box hb hs) (setCells_put1 g _ 0 W)
/-- A box is read whole. -/
theorem boxGet_ {T : TypeId} {x : Operand} {N : Tmp} (ho : o.op = .load T x) (hd : o.dst = some N) (hg : o.guard = none) {g : Nat} {cs : Array Value} (hx : a.eval x = .pointer (some ⟨g, 0, none⟩)) (hb : Box W g T cs) {d : TypeDesc} (hu : P.underlying T = some d) (hr : d.isRow = true)
    (hi : (P.info? T).map (·.size) = some cs.size) (h : wpList P ops Q rest (a.put (some N) (.agg cs)) W) : wpList P ops Q (o :: rest) a W := by
  refine wpList_load_mid hg T x ho g 0 hx cs.toList d (Box.range hb) hu hr (by simpa using hi) ?_
  rw [hd]
  simpa using h
theorem eval_put_same {a : Act} {N : Tmp} (h : N < a.tmps.size) (v : Value) : (a.put (some N) v).eval (.tmp N) = v := by simp [Act.eval, Act.put, h]
theorem eval_put_ne {a : Act} {N t : Tmp} (h : N ≠ t) (v : Value) : (a.put (some N) v).eval (.tmp t) = a.eval (.tmp t) := Act.eval_put fun d hd hx => h (by injection hx with hx; injection hd with hd; rw [hd, hx])
/-- A variable is made and filled: x := f(..). -/
theorem new1_ {rest : List Oper} {o1 o2 : Oper} {N x : Tmp} {T : TypeId} (cs : Array Value) {zs : Array Value} (h1 : cs.all (·.oneCell') = true)
    (hd1 : o1.dst = some N := by rfl) (hg1 : o1.guard = none := by rfl) (ho1 : o1.op = .alloc T := by rfl) (hz : ∀ ev W, (execOp ev o1).run P W = .ok (.value (.pointer (some ⟨W.heap.size, 0, none⟩))) (W.alloc (.cells zs T (0, 0))) := by (intro _ _; go_simp; first | done | rfl))
    (ho2 : o2.op = .store T (.tmp N) (.tmp x) := by rfl) (hd2 : o2.dst = none := by rfl) (hg2 : o2.guard = none := by rfl)
    (hN : decide (N < a.tmps.size) = true := by rfl) (hNx : N ≠ x := by decide) (hx : a.eval (.tmp x) = .agg cs := by rfl)
    (hs : cs.size = zs.size := by rfl) (hi : (P.info? T).map (·.size) = some cs.size := by kernel_rfl)
    (h : ∀ g W', W.heap.size ≤ g → Box W' g T cs → Below W.heap.size W W' → wpList P ops Q rest (a.put (some N) (.pointer (some ⟨g, 0, none⟩))) W') : wpList P ops Q (o1 :: o2 :: rest) a W := by
  refine boxNew_ hd1 hg1 zs T (hz _ _) fun g W1 hg hb hB => ?_
  refine boxPut_ ho2 hd2 hg2 (eval_put_same (of_decide_eq_true hN) _) cs ((eval_put_ne hNx _).trans hx) hb hs hi h1 fun W2 hb2 hp => ?_
  exact h g W2 (Nat.le_of_eq hg.symm) hb2 (hp.below hB (Nat.le_of_eq hg.symm))
/-- Two variables are made and filled: x, y := f(..). -/
theorem new2_ {rest : List Oper} {o1 o2 o3 o4 : Oper} {N M x y : Tmp} {T U : TypeId} (cs ds : Array Value) {zs ys : Array Value} (h1 : cs.all (·.oneCell') = true) (h2 : ds.all (·.oneCell') = true)
    (hd1 : o1.dst = some N := by rfl) (hg1 : o1.guard = none := by rfl) (ho1 : o1.op = .alloc T := by rfl) (hz : ∀ ev W, (execOp ev o1).run P W = .ok (.value (.pointer (some ⟨W.heap.size, 0, none⟩))) (W.alloc (.cells zs T (0, 0))) := by (intro _ _; go_simp; first | done | rfl))
    (hd2 : o2.dst = some M := by rfl) (hg2 : o2.guard = none := by rfl) (ho2 : o2.op = .alloc U := by rfl) (hy : ∀ ev W, (execOp ev o2).run P W = .ok (.value (.pointer (some ⟨W.heap.size, 0, none⟩))) (W.alloc (.cells ys U (0, 0))) := by (intro _ _; go_simp; first | done | rfl))
    (ho3 : o3.op = .store T (.tmp N) (.tmp x) := by rfl) (hd3 : o3.dst = none := by rfl) (hg3 : o3.guard = none := by rfl) (ho4 : o4.op = .store U (.tmp M) (.tmp y) := by rfl) (hd4 : o4.dst = none := by rfl) (hg4 : o4.guard = none := by rfl)
    (hN : decide (N < a.tmps.size) = true := by rfl) (hM : decide (M < a.tmps.size) = true := by rfl) (hNM : N ≠ M := by decide) (hNx : N ≠ x := by decide) (hMx : M ≠ x := by decide) (hNy : N ≠ y := by decide) (hMy : M ≠ y := by decide) (hx : a.eval (.tmp x) = .agg cs := by rfl) (hy' : a.eval (.tmp y) = .agg ds := by rfl)
    (hs : cs.size = zs.size := by rfl) (hi : (P.info? T).map (·.size) = some cs.size := by kernel_rfl) (ht : ds.size = ys.size := by rfl) (hj : (P.info? U).map (·.size) = some ds.size := by kernel_rfl)
    (h : ∀ g g' W', W.heap.size ≤ g → W.heap.size ≤ g' → g ≠ g' → Box W' g T cs → Box W' g' U ds → Below W.heap.size W W' → wpList P ops Q rest ((a.put (some N) (.pointer (some ⟨g, 0, none⟩))).put (some M) (.pointer (some ⟨g', 0, none⟩))) W') : wpList P ops Q (o1 :: o2 :: o3 :: o4 :: rest) a W := by
  refine boxNew_ hd1 hg1 zs T (hz _ _) fun g W1 hg hb hB => ?_
  refine boxNew_ hd2 hg2 ys U (hy _ _) fun g' W2 hg' hb' hB' => ?_
  have hlt : g < W1.heap.size := blk_lt hb
  have hne : g ≠ g' := by omega
  have hle : W.heap.size ≤ g' := by have := hB.size; omega
  refine boxPut_ ho3 hd3 hg3 ((eval_put_ne (Ne.symm hNM) _).trans (eval_put_same (of_decide_eq_true hN) _)) cs ((eval_put_ne hMx _).trans ((eval_put_ne hNx _).trans hx)) (blk_below hb hB') hs hi h1 fun W3 hb3 hp3 => ?_
  refine boxPut_ ho4 hd4 hg4 (eval_put_same (by simpa [Act.put] using of_decide_eq_true hM) _) ds ((eval_put_ne hMy _).trans ((eval_put_ne hNy _).trans hy')) (Box.put1 hb' hp3 (Ne.symm hne)) ht hj h2 fun W4 hb4 hp4 => ?_
  have hB2 : Below W.heap.size W W2 := hB.trans (hB'.mono hB.size)
  exact h g g' W4 (Nat.le_of_eq hg.symm) hle hne (Box.put1 hb3 hp4 hne) hb4 (hp4.below (hp3.below hB2 (Nat.le_of_eq hg.symm)) hle)
/-- A cell of a box is written. -/
theorem setF_ {rest : List Oper} {T U : TypeId} {q : Tmp} {x : Operand} {g i : Nat} {cs : Array Value} {v : Value} (ho : o.op = .store T (.tmp q) x) (hd : o.dst = none) (hg : o.guard = none) (hb : Box W g U cs)
    (hrun : (execOp a.eval o).run P W = .ok .skip (W.setCell ⟨g, i, none⟩ v)) (h : ∀ W', Box W' g U (cs.setIfInBounds i v) → Put1 g W W' → wpList P ops Q rest a W') : wpList P ops Q (o :: rest) a W := by
  refine store_event hg ho hd hrun fun w' hw => ?_
  subst hw
  exact h _ (blk_set hb i v) ⟨rfl, rfl, rfl, by simp [World.setCell], fun j hj => Below.heap_setCell _ _ _ _ hj⟩
/-- Two cells of a box are written: a struct of two cells. -/
theorem setF2_ {rest : List Oper} {T U : TypeId} {q : Tmp} {x : Operand} {g i : Nat} {cs : Array Value} {v u : Value} (ho : o.op = .store T (.tmp q) x) (hd : o.dst = none) (hg : o.guard = none) (hb : Box W g U cs)
    (hrun : (execOp a.eval o).run P W = .ok .skip ((W.setCell ⟨g, i, none⟩ v).setCell ⟨g, i + 1, none⟩ u)) (h : ∀ W', Box W' g U ((cs.setIfInBounds i v).setIfInBounds (i + 1) u) → Put1 g W W' → wpList P ops Q rest a W') : wpList P ops Q (o :: rest) a W := by
  refine store_event hg ho hd hrun fun w' hw => ?_
  subst hw
  exact h _ (blk_set (blk_set hb i v) (i + 1) u) ⟨rfl, rfl, rfl, by simp [World.setCell], fun j hj => (Below.heap_setCell _ _ _ _ hj).trans (Below.heap_setCell _ _ _ _ hj)⟩
theorem Box.cell {W : World} {g : Nat} {T : TypeId} {cs : Array Value} (h : Box W g T cs) (i : Nat) (v : Value) (hv : cs[i]? = some v) : W.cell? ⟨g, i, none⟩ = some v ∧ W.frozen? ⟨g, i, none⟩ = false := ⟨(blk_cell h i).trans hv, blk_frozen h i⟩
/-- A function is called. -/
theorem call1_ {N : Tmp} (hd : o.dst = some N) (hg : o.guard = none) {f : FuncId} {fn : Func} {ys : Array Operand} {ts : Array TypeId} (hf : P.funcs[f]? = some fn) (hname : (fn.name == "runtime.NumGoroutine") = false) (hbd : fn.body.isSome = true) (args : Array Value)
    (hop : o.op = .call { callee := .value (.func f), args := ys, argTypes := ts }) (hargs : ys.map a.eval = args) {R : Ending → World → Prop} (hc : Calls P f args W R) (hR : ∀ e w', R e w' → ∃ v, e = .returned v)
    (h : ∀ v w', R (.returned v) w' → wpList P ops Q rest (a.put (some N) v) w') : wpList P ops Q (o :: rest) a W :=
  goesL_ (some N) hd hg hf hname hbd args hop hargs (hc.mono fun e w' hr => by
    obtain ⟨v, rfl⟩ := hR e w' hr
    exact ⟨v, rfl, h v w' hr⟩)
end

/-- A box's load, as the walk takes it. -/
theorem run_get {P : Program} {W : World} {g : Nat} {T : TypeId} {cs : Array Value} (h : Box W g T cs) {d : TypeDesc} (hu : P.underlying T = some d) (hr : d.isRow = true) (hi : (P.info? T).map (·.size) = some cs.size) :
    (Instr.loadAt T (.pointer (some ⟨g, 0, none⟩))).run P W = .ok (.agg cs) W := by
  have := run_loadAt_mid (P := P) W g 0 T cs.toList d (Box.range h) hu hr (by simpa using hi)
  simpa using this
section
variable {ops : Array Oper} {o : Oper} {b : Act}
theorem wanted_on {g : Nat} {want : Bool} {t : Tmp} (hg : o.guard = some (g, want)) (hd : (ops[g]?).bind (·.dst) = some t) (ht : b.tmps[t]? = some (.bool want)) : Region.wanted o (yielded ops b.tmps) = true := by
  simp [Region.wanted, hg, yielded, hd, ht]
theorem wanted_off {g : Nat} {want is : Bool} {t : Tmp} (hg : o.guard = some (g, want)) (hd : (ops[g]?).bind (·.dst) = some t) (ht : b.tmps[t]? = some (.bool is)) (hne : is ≠ want) : Region.wanted o (yielded ops b.tmps) = false := by
  simp [Region.wanted, hg, yielded, hd, ht, hne]
end
section
variable {P : Program} {ops : Array Oper} {o : Oper} {b : Act} {W : World} {Ψ : Value → World → Prop}
theorem stepVal {v : Value} (hw : Region.wanted o (yielded ops b.tmps) = true) (hrun : (execOp b.eval o).run P W = .ok (.value v) W) (h : Ψ v W) : StepOK P ops o b W Ψ := fun K Q hK => value_ hw rfl hrun (hK v W h)
theorem stepOff (hw : Region.wanted o (yielded ops b.tmps) = false) (h : Ψ undef W) : StepOK P ops o b W Ψ := fun K Q hK => by
  rw [if_neg (by rw [hw]; decide)]
  exact hK _ _ h
theorem stepGet {T : TypeId} {x : Operand} (hw : Region.wanted o (yielded ops b.tmps) = true) (ho : o.op = .load T x) {g : Nat} {cs : Array Value} (hx : b.eval x = .pointer (some ⟨g, 0, none⟩)) (hb : Box W g T cs) {d : TypeDesc} (hu : P.underlying T = some d) (hr : d.isRow = true)
    (hi : (P.info? T).map (·.size) = some cs.size) (h : Ψ (.agg cs) W) : StepOK P ops o b W Ψ := by
  refine stepVal hw ?_ h
  have := run_loadVar_mid (P := P) W g 0 T cs.toList d (Box.range hb) hu hr (by simpa using hi)
  unfold execOp
  simp only [ho, hx, Instr.loadAt, Instr.sureAddr, Sem.run_bind, Sem.run_pure, Result.andThen_ok, this]
theorem stepCall {f : FuncId} {fn : Func} {ys : Array Operand} {ts : Array TypeId} (hw : Region.wanted o (yielded ops b.tmps) = true) (hf : P.funcs[f]? = some fn) (hname : (fn.name == "runtime.NumGoroutine") = false) (hbd : fn.body.isSome = true) (args : Array Value)
    (hop : o.op = .call { callee := .value (.func f), args := ys, argTypes := ts }) (hargs : ys.map b.eval = args) {R : Ending → World → Prop} (hc : Calls P f args W R) (h : ∀ e w', R e w' → ∃ v, e = .returned v ∧ Ψ v w') : StepOK P ops o b W Ψ :=
  fun K Q hK => goes_ hf hname hbd args hw rfl hop hargs (hc.mono fun e w' hr => by
    obtain ⟨v, rfl, hv⟩ := h e w' hr
    exact ⟨v, rfl, hK v w' hv⟩)
end
/-- What stays, as memory is made. -/
def Lasts (p : World → Prop) : Prop := ∀ W W', Below W.heap.size W W' → p W → p W'
theorem Lasts.and {p q : World → Prop} (hp : Lasts p) (hq : Lasts q) : Lasts fun W => p W ∧ q W := fun _ _ hb h => ⟨hp _ _ hb h.1, hq _ _ hb h.2⟩
theorem Lasts.const (p : Prop) : Lasts fun _ => p := fun _ _ _ h => h
theorem Lasts.box (g : Nat) (T : TypeId) (cs : Array Value) : Lasts fun W => Box W g T cs := fun _ _ hb h => blk_below h hb
theorem Lasts.below (w : World) : Lasts fun W => Below w.heap.size w W := fun _ _ hb h => h.trans (hb.mono h.size)
/-- Facts of values, one by one. -/
def FAt (Fs : List (Value → World → Prop)) (i : Nat) (v : Value) (W : World) : Prop := Fs.getD i (fun _ _ => True) v W
def LastAll : List (Value → World → Prop) → Prop
  | [] => True
  | F :: r => (∀ v, Lasts (F v)) ∧ LastAll r
theorem FAt.last : ∀ (Fs : List (Value → World → Prop)), LastAll Fs → ∀ i v a b, Below a.heap.size a b → FAt Fs i v a → FAt Fs i v b
  | [], _, _, _, _, _, _, _ => trivial
  | F :: r, h, 0, v, a, b, hb, hf => h.1 v a b hb hf
  | F :: r, h, i + 1, v, a, b, hb, hf => FAt.last r h.2 i v a b hb hf
section
variable {P : Program} {ops : Array Oper} {Q : Exit → Act → World → Prop}
/-- A region that draws its order, where nothing but new memory is written: p is what is known of the world. -/
theorem weaveB_ {id : Nat} {a0 : Act} {w : World} (p : World → Prop) (hp : Lasts p) (h0 : p w) (ds : List (Tmp × Nat)) (Fs : List (Value → World → Prop)) (hm : P.follows .mixedOrders = true) (hB : weaveB ops ds = true) (hF : LastAll Fs)
    (hstep : OpsAll (fun i o => ∀ vs W, p W → (∀ j ∈ waitsOn o, FAt Fs j (vs j) W) → ∀ b, Sees a0 ds o vs b → StepOK P ops o b W fun v W' => Below W.heap.size W W' ∧ FAt Fs i v W') ops.toList 0)
    (hend : ∀ (vs : Nat → Value) W, p W → (∀ j, j < ops.size → FAt Fs j (vs j) W) → Q .normal (putL a0 (ds.map fun q => (q.1, vs q.2))) W) : (Code.region id ops true).wp P Q a0 w :=
  weaveR (fun a b => Below a.heap.size a b) (FAt Fs) ds hm hB (fun w => Below.refl _ _) (fun a b c h k => h.trans (k.mono h.size)) (fun i v a b h => FAt.last Fs hF i v a b h)
    (OpsAll.imp (fun i o h vs W hW hv => h vs W (hp _ _ hW (hp _ _ (drew_below w) h0)) hv) _ _ hstep) (fun vs W hW hv => hend vs W (hp _ _ hW (hp _ _ (drew_below w) h0)) hv)
end

/-- What is known of a value: it lasts as memory is made; what it leads to lies in ok, and no store elsewhere touches it. -/
structure Good (F : Value → World → (Nat → Prop) → Prop) : Prop where
  last : ∀ v ok W W', Below W.heap.size W W' → F v W ok → F v W' ok
  mono : ∀ v W ok ok', (∀ k, ok k → ok' k) → F v W ok → F v W ok'
  bound : ∀ v W ok, F v W ok → F v W fun k => ok k ∧ k < W.heap.size
  far : ∀ v W W' ok g, Put1 g W W' → ¬ ok g → F v W ok → F v W' ok
theorem Good.const (c : Value) : Good fun v _ _ => v = c := ⟨fun _ _ _ _ _ h => h, fun _ _ _ _ _ h => h, fun _ _ _ h => h, fun _ _ _ _ _ _ _ h => h⟩
theorem Good.any : Good fun _ _ _ => True := ⟨fun _ _ _ _ _ h => h, fun _ _ _ _ _ h => h, fun _ _ _ h => h, fun _ _ _ _ _ _ _ h => h⟩
def GoodAll : List (Value → World → (Nat → Prop) → Prop) → Prop
  | [] => True
  | F :: r => Good F ∧ GoodAll r
def GAt (Fs : List (Value → World → (Nat → Prop) → Prop)) (i : Nat) : Value → World → (Nat → Prop) → Prop := Fs.getD i (fun _ _ _ => True)
theorem GAt.good : ∀ (Fs : List (Value → World → (Nat → Prop) → Prop)), GoodAll Fs → ∀ i, Good (GAt Fs i)
  | [], _, _ => Good.any
  | F :: r, h, 0 => h.1
  | F :: r, h, i + 1 => GAt.good r h.2 i
section
variable {P : Program} {ops : Array Oper} {Q : Exit → Act → World → Prop}
/-- A region that draws its order and ends in a variable that is made (row n) and filled (row n + 1) by the value of row m. -/
theorem weaveNew_ {id : Nat} {a0 : Act} {w : World} (n m : Nat) (N x : Tmp) (T : TypeId) (zs : Array Value) (csOf : Value → Array Value) (ds : List (Tmp × Nat)) (Fs : List (Value → World → (Nat → Prop) → Prop)) (hm : P.follows .mixedOrders = true) (hB : weaveB ops ds = true) (hF : GoodAll Fs)
    (oa os : Oper) (hoa : ops[n]? = some oa) (hos : ops[n + 1]? = some os) (hsz : ops.size = n + 2) (hga : oa.guard = none) (hgs : os.guard = none) (hda : oa.dst = some N) (hNs : decide (N < a0.tmps.size) = true) (hxs : decide (x < a0.tmps.size) = true)
    (hz : ∀ ev W, (execOp ev oa).run P W = .ok (.value (.pointer (some ⟨W.heap.size, 0, none⟩))) (W.alloc (.cells zs T (0, 0)))) (hst : os.op = .store T (.tmp N) (.tmp x)) (hds : os.dst = none) (hmx : (ds.contains (x, m) && ds.contains (N, n) && (waitsOn os).contains m && (waitsOn os).contains n && decide (m < n)) = true)
    (hall : ((List.range (n + 1)).all fun j => (waitsOn os).contains j) = true)
    (hcs : ∀ v W ok, GAt Fs m v W ok → v = .agg (csOf v) ∧ (csOf v).size = zs.size ∧ (csOf v).all (·.oneCell') = true) (hi : (P.info? T).map (·.size) = some zs.size)
    (hstep : OpsAll (fun i o => i < n → ∀ vs W ok, Below w.heap.size w W → (∀ k, W.heap.size ≤ k → ok k) → (∀ k, k < w.heap.size → ok k) → (∀ j ∈ waitsOn o, j < n → GAt Fs j (vs j) W ok) → ∀ b, Sees a0 ds o vs b → StepOK P ops o b W fun v W' => Below W.heap.size W W' ∧ GAt Fs i v W' ok) ops.toList 0)
    (hwait : ((List.range n).all fun i => match ops[i]? with | some o => (waitsOn o).all fun j => decide (j < n) | none => true) = true)
    (hend : ∀ (vs : Nat → Value) g W, Below w.heap.size w W → w.heap.size ≤ g → (∀ j, j < n → GAt Fs j (vs j) W (fun k => k ≠ g)) → vs n = .pointer (some ⟨g, 0, none⟩) → Box W g T (csOf (vs m)) → Q .normal (putL a0 (ds.map fun q => (q.1, vs q.2))) W) : (Code.region id ops true).wp P Q a0 w := by
  simp only [Bool.and_eq_true, decide_eq_true_eq, List.contains_eq_mem] at hmx
  obtain ⟨⟨⟨⟨hx1, hN1⟩, hw1⟩, hw2⟩, hmn⟩ := hmx
  have hg := GAt.good Fs hF
  have hnd : (ds.map (·.1)).Nodup := by
    simp only [weaveB, Bool.and_eq_true, decide_eq_true_eq] at hB
    exact hB.1.2
  refine weave (fun l vs W => Below w.heap.size w W ∧ (l (n + 1) = true → ∀ j, j ≤ n → l j = true) ∧ (l n = false → ∀ j, j < n → l j = true → GAt Fs j (vs j) W fun _ => True) ∧ (l n = true → ∃ g, vs n = .pointer (some ⟨g, 0, none⟩) ∧ w.heap.size ≤ g ∧ g < W.heap.size ∧ (∀ j, j < n → l j = true → GAt Fs j (vs j) W fun k => k ≠ g) ∧ (if l (n + 1) = true then Box W g T (csOf (vs m)) else Box W g T zs)))
    ds hm hB ⟨drew_below w, fun h => by simp at h, fun _ _ _ h => by simp at h, fun h => by simp at h⟩ ?_ ?_
  · intro i o ho l vs W ⟨hb, hc, h0, h1⟩ hli hw
    by_cases hin : i < n
    · have hst' := OpsAll.at ops.toList 0 hstep i o (by rw [Array.getElem?_toList]; exact ho)
      rw [Nat.zero_add] at hst'
      have hn0 : (n == i) = false := by simp; omega
      have hn1 : (n + 1 == i) = false := by simp; omega
      have hln1 : l (n + 1) = false := by
        cases hq : l (n + 1) with
        | false => rfl
        | true => rw [hc hq i (by omega)] at hli; cases hli
      have hlt : ∀ j ∈ waitsOn o, j < n := by
        intro j hj
        have := List.all_eq_true.1 hwait i (List.mem_range.2 hin)
        rw [ho] at this
        simpa using List.all_eq_true.1 this j hj
      cases hln : l n with
      | false =>
        have hf := h0 hln
        intro b hsee K Q' hK
        refine hst' hin vs W (fun _ => True) hb (fun _ _ => trivial) (fun _ _ => trivial) (fun j hj _ => hf j (hlt j hj) (hw j hj)) b hsee K Q' fun v W' hv => hK v W' ⟨hb.trans (hv.1.mono hb.size), fun hh => by simp [hn1, hln1] at hh, fun _ j hj hlj => ?_, fun hh => by simp [hn0, hln] at hh⟩
        by_cases hji : j = i
        · subst hji; simpa using hv.2
        · simp only [hji, if_false]
          exact (hg j).last _ _ _ _ hv.1 (hf j hj (by simpa [hji] using hlj))
      | true =>
        obtain ⟨g, e1, e2, e3, hf, hbx⟩ := h1 hln
        rw [hln1] at hbx
        intro b hsee K Q' hK
        refine hst' hin vs W (fun k => k ≠ g) hb (fun k hk => by omega) (fun k hk => by omega) (fun j hj _ => hf j (hlt j hj) (hw j hj)) b hsee K Q' fun v W' hv => hK v W' ⟨hb.trans (hv.1.mono hb.size), fun hh => by simp [hn1, hln1] at hh, fun hh => by simp [hln] at hh, fun _ => ⟨g, ?_, e2, Nat.lt_of_lt_of_le e3 hv.1.size, fun j hj hlj => ?_, ?_⟩⟩
        · show (if n = i then v else vs n) = _
          rw [if_neg (by omega)]; exact e1
        · by_cases hji : j = i
          · subst hji; simpa using hv.2
          · simp only [hji, if_false]
            exact (hg j).last _ _ _ _ hv.1 (hf j hj (by simpa [hji] using hlj))
        · simp only [hn1, hln1, Bool.false_or, Bool.false_eq_true, if_false] at hbx ⊢
          exact blk_below hbx hv.1
    · by_cases hie : i = n
      · subst hie
        have : o = oa := Option.some.inj (ho.symm.trans hoa)
        subst this
        have hf := h0 hli
        have hln1 : l (i + 1) = false := by
          cases hq : l (i + 1) with
          | false => rfl
          | true => rw [hc hq i (Nat.le_refl _)] at hli; cases hli
        have hB' : Below W.heap.size W (W.alloc (.cells zs T (0, 0))) := below_alloc (Below.refl _ _) _
        intro b hsee K Q' hK
        refine value_ (by simp [Region.wanted, hga]) rfl (hz _ _) (hK _ _ ⟨hb.trans (hB'.mono hb.size), fun hh => by simp [hln1] at hh, fun hh => by simp at hh, fun _ => ⟨W.heap.size, by simp, hb.size, by simp, fun j hj hlj => ?_, ?_⟩⟩)
        · have hji : j ≠ i := by omega
          simp only [hji, if_false]
          exact (hg j).last _ _ _ _ hB' ((hg j).mono _ _ _ _ (fun k hk => by have := hk.2; omega) ((hg j).bound _ _ _ (hf j hj (by simpa [hji] using hlj))))
        · have : (i + 1 == i) = false := by simp
          simp only [this, hln1, Bool.false_or, Bool.false_eq_true, if_false]
          exact blk_new W _
      · have hi1 : i = n + 1 := by
          have := (Array.getElem?_eq_some_iff.1 ho).1
          omega
        subst hi1
        have : o = os := Option.some.inj (ho.symm.trans hos)
        subst this
        have hl : ∀ j, j ≤ n → l j = true := fun j hj => hw j (by simpa using List.all_eq_true.1 hall j (List.mem_range.2 (by omega)))
        obtain ⟨g, e1, e2, e3, hf, hbx⟩ := h1 (hl n (Nat.le_refl _))
        rw [hli] at hbx
        simp only [Bool.false_eq_true, if_false] at hbx
        obtain ⟨c1, c2, c3⟩ := hcs _ _ _ (hf m hmn (hl m (by omega)))
        intro b hsee
        have hev : ∀ t j, (t, j) ∈ ds → j ∈ waitsOn o → decide (t < a0.tmps.size) = true → b.eval (.tmp t) = vs j := fun t j h1 h2 h3 => hsee.ev t j (by simp only [Bool.and_eq_true, List.contains_eq_mem, decide_eq_true_eq]; exact ⟨⟨h1, h2⟩, of_decide_eq_true h3⟩)
        have hrun : (execOp b.eval o).run P W = .ok .skip (W.setCells g 0 (csOf (vs m)).toList) := by
          have q1 := (hev N n hN1 hw2 hNs).trans e1
          have q2 := (hev x m hx1 hw1 hxs).trans c1
          unfold execOp
          simp only [hst, q1, q2, Instr.storeAt, Instr.sureAddr, Sem.run_bind, Sem.run_pure, Result.andThen_ok, run_storeVar_mid W g 0 T (csOf (vs m)) (by rw [c2]; exact Box.there hbx) (by rw [c2]; exact hi) c3]
        have hp := setCells_put1 g (csOf (vs m)).toList 0 W
        have hbx' := setCells_box hbx c2
        intro K Q' hK
        rw [if_pos (by simp [Region.wanted, hgs])]
        unfold Oper.wp
        rw [hrun]
        have hk := hK undef _ ⟨hp.below hb e2, fun _ j hj => by simp [hl j hj], fun hh => by simp [hl n (Nat.le_refl _)] at hh, fun _ => ⟨g, by simpa using e1, e2, by rw [hp.size]; exact e3, fun j hj hlj => ?_, ?_⟩⟩
        · exact hk
        · have hji : j ≠ n + 1 := by omega
          simp only [hji, if_false]
          exact (hg j).far _ _ _ _ g hp (fun h => h rfl) (hf j hj (hl j (by omega)))
        · have hmi : m ≠ n + 1 := by omega
          simp only [beq_self_eq_true, Bool.true_or, if_true, hmi, if_false]
          exact hbx'
  · intro l vs W hl ⟨hb, hc, h0, h1⟩
    obtain ⟨g, e1, e2, e3, hf, hbx⟩ := h1 (hl n (by omega))
    rw [hl (n + 1) (by omega), if_pos rfl] at hbx
    exact hend vs g W hb e2 (fun j hj => hf j hj (hl j (by omega))) e1 hbx
end
end Go.Proofs.YtddnijmgipffeaaDoor.B
