import Derived.Test.YtendbgedpjcocaaGreatDoorJnI
import Derived.Test.YtendbgedpjcocaaGreatDoorRows
import Derived.LaidMore
import Derived.LaidLaws
import Derived.Stop.LaidErr
import Derived.MakeChecks
import Derived.Test.YtendbgedpjcocaaGreatDoorB0
import Derived.Test.YtendbgedpjcocaaGreatDoorSq
import Derived.Test.YtendbgedpjcocaaGreatDoorPkA
import Derived.Test.YtendbgedpjcocaaGreatDoorPkB
import Derived.Test.YtendbgedpjcocaaGreatDoorExprOk
import Derived.Test.YtendbgedpjcocaaGreatDoorJnH
import Derived.Test.YtendbgedpjcocaaGreatDoorJnA
import Derived.Test.YtendbgedpjcocaaGreatDoorJnE
import Derived.Test.YtendbgedpjcocaaGreatDoorJnF
import Derived.Outline
import Derived.Shelf.Abstract
import Derived.Test.YtendbgedpjcocaaGreatDoorJnG
/- What the row lists of errLong gives the walks. -/
namespace Go.Proofs.YtendbgedpjcocaaGreatDoor.B
open Go Go.RowKit Go.Proofs.YtendbgedpjcocaaGreatDoorW.PrintWords Go.Proofs.YtendbgedpjcocaaGreatDoorW.PrintLast Go.Proofs.YtendbgedpjcocaaGreatDoorW.PrintMore
set_option linter.unusedVariables false
theorem star_err : "*" ++ "errors.errorString" = "*errors.errorString" := by decide +kernel
theorem row_err (u : TypeId) (hu : Tryz.prog.typeName? 3 u = some "*errors.errorString") : u = 156 :=
 typeName_ptr_named (nm := "errors.errorString") (by rw [star_err]; kernel_rfl) (by kernel_rfl) (by decide) u (by rw [star_err]; exact hu)
theorem tab_of_laid {W : World} (h : laidMetH Tryz.prog [("loop.example/stopgate/impl.errLong", Rows.laid_loop_example_stopgate_impl_errLong)] W) : ∃ a, ErrAt W a := by
 rw [MakeChecks.laidMetH_plain _ _ _ (by kernel_rfl)] at h
 have hg : Tryz.prog.globalNamed "loop.example/stopgate/impl.errLong" = some 0 := by kernel_rfl
 obtain ⟨a, s, hv, -, -, -⟩ := laid_sentinel h hg (by kernel_rfl) Tryz.underlying71 row_err Tryz.underlying156 Tryz.underlying185 rfl rfl Tryz.underlying9 (by kernel_rfl) (by kernel_rfl)
 exact ⟨a, by have h0 := World.var?_cell hg hv 0; simpa [ErrAt] using h0⟩
end Go.Proofs.YtendbgedpjcocaaGreatDoor.B
/- The draw of a memory ends: three lists of six. -/
namespace Go.Proofs.YtendbgedpjcocaaGreatDoor.B
open Go.RowKit Go.Proofs.YtendbgedpjcocaaGreatDoorW.PrintWords Go.Proofs.YtendbgedpjcocaaGreatDoorW.PrintLast Go.Proofs.YtendbgedpjcocaaGreatDoorW.PrintMore
set_option linter.unusedVariables false

end Go.Proofs.YtendbgedpjcocaaGreatDoor.B
/- The draw of an expression that may be bent ends. -/
namespace Go.Proofs.YtendbgedpjcocaaGreatDoor.B
open Go.RowKit Go.Proofs.YtendbgedpjcocaaGreatDoorW.PrintWords Go.Proofs.YtendbgedpjcocaaGreatDoorW.PrintLast Go.Proofs.YtendbgedpjcocaaGreatDoorW.PrintMore
set_option linter.unusedVariables false

theorem ex_eta (e : Ex) : (⟨e.f0, e.f1, ⟨e.f2.f0, e.f2.f1⟩, e.f3⟩ : Ex) = e := by cases e with | mk a b c l => cases c; rfl
/-- A code that came in: its bytes, its opening. -/
theorem open_total (l : List Int) (hw : ∀ x ∈ l, (Lit.int .u8 x).wf = true) : ∃ s, Bytes s ∧ s.length ≤ 2000 ∧ spec_l12Open.f l = some (s, 0) := by
 have hb : Bytes l := fun x hx => by
  have := hw x hx
  simp [Lit.wf, IntKind.min, IntKind.max, IntKind.signed, IntKind.bits] at this
  omega
 by_cases h : (l.length : Int) > 2000
 ·refine ⟨l.take 2000, fun x hx => hb x (List.mem_of_mem_take hx), by simp; omega, ?_⟩
  rw [spec_l12Open.f, if_pos h, if_pos (by omega)]
 ·exact ⟨l, hb, by omega, by rw [spec_l12Open.f, if_neg h]⟩
end Go.Proofs.YtendbgedpjcocaaGreatDoor.B
/- The draws of what may be bent end: an expression, a memory, both. -/
namespace Go.Proofs.YtendbgedpjcocaaGreatDoor.B
open Go.RowKit Go.Proofs.YtendbgedpjcocaaGreatDoorW.PrintWords Go.Proofs.YtendbgedpjcocaaGreatDoorW.PrintLast Go.Proofs.YtendbgedpjcocaaGreatDoorW.PrintMore
set_option linter.unusedVariables false

/-- Three lists that are short. -/
def Mini (l0 l1 l2 : List Int) : Prop := l0.length ≤ 7 ∧ l1.length ≤ 7 ∧ l2.length ≤ 7
end Go.Proofs.YtendbgedpjcocaaGreatDoor.B
/- impl.StmtsOk and impl.StmtsMany, over count. -/
namespace Go.Proofs.YtendbgedpjcocaaGreatDoor.B
open Go.RowKit Go.Shelf Go.Proofs.YtendbgedpjcocaaGreatDoorW.PrintWords Go.Proofs.YtendbgedpjcocaaGreatDoorW.PrintLast Go.Proofs.YtendbgedpjcocaaGreatDoorW.PrintMore
set_option linter.unusedVariables false
theorem count_all (hok : OkCon) : ∀ d, d ≤ 4 → CntCon d := by
 intro d
 induction d with
 | zero => exact fun hd => count_step hok 0 hd (fun d' h => absurd h (by omega))
 | succ d ih => exact fun hd => count_step hok (d + 1) hd (fun d' h => by have := ih (by omega); cases (show d = d' by omega); exact this)
set_option maxRecDepth 100000 in
set_option maxHeartbeats 4000000 in
theorem stmtsOk_of (hok : OkCon) (A0 : Option Addr) (c0 : Nat) (l0 : List S35) (w : World) (hr0 : Kd.C k35 w A0 l0.length l0) (hc0 : l0.length ≤ c0) :
  Calls Tryz.prog 36 #[.slice A0 l0.length c0] w fun e w' => e = .returned (.bool (countL 4 l0 0).1) ∧ Below w.heap.size w w' := by
 have HCALL := Aside0.mk (count_all hok 4 (by omega) l0 A0 c0 w.heap.size 0 0 w (w.alloc (.cells #[.int .i64 0] 3)) (by rfl) (by omega) (by omega) (Nat.le_refl _) (Boxed.new w _ _) ((Below.refl _ _).alloc (Nat.le_refl _) _) hr0 hc0)
 clear hr0 hc0
 go_enter Tryz.func36, Tryz.ntmps36
 go_wp2_with fail
 refine HCALL.out.mono ?_
 rintro e w1 ⟨rfl, _, hB, _⟩
 have HB := Aside0.mk hB
 clear hB HCALL
 go_wp2
 go_ret
 exact ⟨rfl, HB.out⟩
end Go.Proofs.YtendbgedpjcocaaGreatDoor.B
/- Plain law: what the specification's StmtsOk and StmtsMany say (the first half of XPureStOk: never import both). -/
namespace Go.Proofs.YtendbgedpjcocaaGreatDoor.B
open Go.RowKit Go.Proofs.YtendbgedpjcocaaGreatDoorW.PrintWords Go.Proofs.YtendbgedpjcocaaGreatDoorW.PrintLast Go.Proofs.YtendbgedpjcocaaGreatDoorW.PrintMore
set_option linter.unusedVariables false

theorem short_of (e : S27) : iexOk e → Short e := by
 refine iexInd (P := fun e => iexOk e → Short e) ?_ e
 intro e ih ho
 rw [iexOk_eq] at ho
 exact Short.mk e (by omega) (fun x hx => ih x hx (ho.2 x hx))
theorem spec_stOk (l : List ISt) (h1 : manyT 4 l ≤ 1048576) (h2 : ∀ s ∈ l, istOk s) : Ends (fun k => spec_StmtsOk.f k l) (countL 4 l 0).1 := by
 rw [stOk_is, Bool.and_comm]
 have hm := manyT_spec 4 (by omega) l h1
 have hf := formT_spec 4 (by omega) l h1 h2 (fun s hs => short_of s.f2 ((istOk_eq s).1 hs).1)
 refine (hm.bind (g := fun k t => if t ≤ 16 then (spec_l4Form.f k l 4).bind fun t => some t else some false) ?_).of fun k => by rw [spec_StmtsOk.f]; rfl
 by_cases h : manyT 4 l ≤ 16
 ·rw [decide_eq_true h, Bool.true_and]
  refine (hf.bind (g := fun _ t => some t) (Ends.const fun k => rfl)).of fun k => by rw [if_pos (by omega)]; rfl
 ·rw [decide_eq_false h, Bool.false_and]
  exact Ends.const fun k => by rw [if_neg (by omega)]
end Go.Proofs.YtendbgedpjcocaaGreatDoor.B
/- Statements that are few and small. -/
namespace Go.Proofs.YtendbgedpjcocaaGreatDoor.B
open Go.RowKit Go.Proofs.YtendbgedpjcocaaGreatDoorW.PrintWords Go.Proofs.YtendbgedpjcocaaGreatDoorW.PrintLast Go.Proofs.YtendbgedpjcocaaGreatDoorW.PrintMore
set_option linter.unusedVariables false
/-- A statement whose lists are short. -/
inductive TinyS : ISt → Prop
 | mk (s : ISt) : Tiny s.f2 → s.f3.length ≤ 2000 → s.f4.length ≤ 2000 → (∀ x ∈ s.f3, TinyS x) → (∀ x ∈ s.f4, TinyS x) → TinyS s
def cntS : ISt → Nat
 | ⟨_, _, _, l, l'⟩ => 1 + (l.attach.map fun x => cntS x.1).sum + (l'.attach.map fun x => cntS x.1).sum
termination_by e => SizeOf.sizeOf e
decreasing_by all_goals (have := List.sizeOf_lt_of_mem x.2; simp; omega)
theorem cntS_eq (e : ISt) : cntS e = 1 + (e.f3.map cntS).sum + (e.f4.map cntS).sum := by
 cases e with
 | mk a b c l l' => rw [cntS]; simp
/-- A list of few statements. -/
def Fit (n : Nat) (l : List ISt) : Prop := (l.map cntS).sum ≤ n ∧ ∀ x ∈ l, TinyS x
theorem Fit.len {n : Nat} {l : List ISt} (h : Fit n l) : l.length ≤ n := by
 have : ∀ l : List ISt, l.length ≤ (l.map cntS).sum := by
  intro l
  induction l with
  | nil => simp
  | cons a l ih => rw [List.map_cons, List.sum_cons, List.length_cons, cntS_eq]; omega
 exact Nat.le_trans (this l) h.1
theorem Fit.nil (n : Nat) : Fit n [] := ⟨by simp, by simp⟩
theorem Fit.snoc {n m : Nat} {l : List ISt} {x : ISt} (h : Fit n l) (hx : TinyS x) (hc : cntS x ≤ m) : Fit (n + m) (l ++ [x]) := by
 refine ⟨?_, fun y hy => ?_⟩
 ·have := h.1
  rw [List.map_append, List.sum_append, List.map_cons, List.map_nil, List.sum_cons, List.sum_nil]; omega
 ·rcases List.mem_append.1 hy with hy | hy
  ·exact h.2 y hy
  ·obtain rfl := List.mem_singleton.1 hy; exact hx
theorem Fit.mono {n m : Nat} {l : List ISt} (h : Fit n l) (hm : n ≤ m) : Fit m l := ⟨Nat.le_trans h.1 hm, h.2⟩
theorem Fit.mk1 {n m : Nat} {k : Int} {a : S24} {e : Ex} {l l' : List ISt} (he : Tiny e) (h : Fit n l) (h' : Fit m l') (hn : n ≤ 2000) (hm : m ≤ 2000) : TinyS ⟨k, a, e, l, l'⟩ ∧ cntS ⟨k, a, e, l, l'⟩ ≤ 1 + n + m :=
 ⟨.mk _ he (Nat.le_trans h.len hn) (Nat.le_trans h'.len hm) h.2 h'.2, by rw [cntS_eq]; have h1 := h.1; have h2 := h'.1; dsimp only; omega⟩
theorem manyT_cnt (d : Nat) : ∀ l : List ISt, manyT d l ≤ (l.map cntS).sum := by
 induction d with
 | zero =>
  intro l
  rw [manyT]
  induction l with
  | nil => simp
  | cons a l ih => rw [List.map_cons, List.sum_cons, List.length_cons, cntS_eq]; omega
 | succ d ih =>
  intro l
  rw [manyT]
  induction l with
  | nil => simp
  | cons a l ihl =>
   simp only [List.map_cons, List.sum_cons, List.length_cons]
   rw [cntS_eq]
   have h1 := ih a.f3
   have h2 := ih a.f4
   omega
theorem tiny_ok {e : Ex} (h : Tiny e) : iexOk e := by
 induction h with
 | mk e hl _ ih => exact (iexOk_eq e).2 ⟨by omega, ih⟩
theorem TinyS.ok {s : ISt} (h : TinyS s) : istOk s := by
 induction h with
 | mk s he h3 h4 _ _ ih3 ih4 => exact (istOk_eq s).2 ⟨tiny_ok he, ⟨by omega, ih3⟩, ⟨by omega, ih4⟩⟩
theorem Fit.ok {n : Nat} {l : List ISt} (h : Fit n l) (hn : n ≤ 100000) : manyT 4 l ≤ 1048576 ∧ ∀ x ∈ l, istOk x :=
 ⟨by have := manyT_cnt 4 l; have := h.1; omega, fun x hx => (h.2 x hx).ok⟩
theorem Fit.set {n : Nat} {l : List ISt} (h : Fit n l) (i : Nat) (hi : i < l.length) (y : ISt) (hy : TinyS y) (hc : cntS y = cntS l[i]) : Fit n (l.set i y) := by
 refine ⟨?_, fun x hx => ?_⟩
 ·have : (l.set i y).map cntS = l.map cntS := by
   rw [List.map_set, hc]
   apply List.ext_getElem? 
   intro j
   rw [List.getElem?_set]
   split
   ·rename_i hij
    subst hij
    simp [hi]
   ·rfl
  rw [this]; exact h.1
 ·rcases List.mem_or_eq_of_mem_set hx with hx | rfl
  ·exact h.2 x hx
  ·exact hy
end Go.Proofs.YtendbgedpjcocaaGreatDoor.B
/- The law FnExactExprOk, whole. -/
namespace Go.Proofs.YtendbgedpjcocaaGreatDoor.B
theorem okCon : OkCon := fun e A c w hC hc => exprOk_any e A c w hC hc
end Go.Proofs.YtendbgedpjcocaaGreatDoor.B
/- impl.ExprOf, in the print's form. -/
namespace Go.Proofs.YtendbgedpjcocaaGreatDoor.B
open Go.RowKit Go.Proofs.YtendbgedpjcocaaGreatDoorW.PrintWords Go.Proofs.YtendbgedpjcocaaGreatDoorW.PrintLast Go.Proofs.YtendbgedpjcocaaGreatDoorW.PrintMore
set_option linter.unusedVariables false

def impl_ExprOf.f (a0_0 : Int) (a0_1 : Int) (a0_2 : Int) (a0_3 : Int) (l0_4 : List (S27)) (l1_0 : List Int) (l1_1 : List Int) (l1_2 : List Int) : Option Int :=
 some (ofV ⟨a0_0, a0_1, ⟨a0_2, a0_3⟩, l0_4⟩ l1_0 l1_1 l1_2)
theorem impl_ExprOf.calls (a0_0 : Int) (a0_1 : Int) (a0_2 : Int) (a0_3 : Int) (A0_4 : Option Addr) (c0_4 : Nat) (l0_4 : List (S27)) (A1_0 : Option Addr) (c1_0 : Nat) (l1_0 : List Int) (A1_1 : Option Addr) (c1_1 : Nat) (l1_1 : List Int) (A1_2 : Option Addr) (c1_2 : Nat) (l1_2 : List Int) (r : Int) (w : World)
  (hr0_4 : Kd.C k27 w A0_4 l0_4.length l0_4) (hc0_4 : l0_4.length ≤ c0_4) (hr1_0 : Kd.C (Kd.int .i64) w A1_0 l1_0.length l1_0) (hc1_0 : l1_0.length ≤ c1_0) (hr1_1 : Kd.C (Kd.int .i64) w A1_1 l1_1.length l1_1) (hc1_1 : l1_1.length ≤ c1_1) (hr1_2 : Kd.C (Kd.int .i64) w A1_2 l1_2.length l1_2) (hc1_2 : l1_2.length ≤ c1_2)
  (h : impl_ExprOf.f a0_0 a0_1 a0_2 a0_3 l0_4 l1_0 l1_1 l1_2 = some r) :
  Calls Tryz.prog 19 #[.agg #[.int .i64 a0_0, .int .i64 a0_1, .int .i64 a0_2, .int .i64 a0_3, .slice A0_4 l0_4.length c0_4], .agg #[.slice A1_0 l1_0.length c1_0, .slice A1_1 l1_1.length c1_1, .slice A1_2 l1_2.length c1_2]] w fun e w' => e = .returned (.int .i64 r) ∧ Below w.heap.size w w' := by
 obtain rfl := Option.some.inj h
 exact exprOf_any okCon ⟨a0_0, a0_1, ⟨a0_2, a0_3⟩, l0_4⟩ A0_4 c0_4 l1_0 l1_1 l1_2 A1_0 A1_1 A1_2 c1_0 c1_1 c1_2 w hr0_4 hc0_4 hr1_0 hr1_1 hr1_2 hc1_0 hc1_1 hc1_2
end Go.Proofs.YtendbgedpjcocaaGreatDoor.B
/- impl.ExprOk, in the print's form. -/
namespace Go.Proofs.YtendbgedpjcocaaGreatDoor.B
open Go.RowKit Go.Proofs.YtendbgedpjcocaaGreatDoorW.PrintWords Go.Proofs.YtendbgedpjcocaaGreatDoorW.PrintLast Go.Proofs.YtendbgedpjcocaaGreatDoorW.PrintMore
set_option linter.unusedVariables false

end Go.Proofs.YtendbgedpjcocaaGreatDoor.B
/- What the specification and the program say of what is drawn, for every number of rounds that is great enough. -/
namespace Go.Proofs.YtendbgedpjcocaaGreatDoor.B
open Go.RowKit Go.Proofs.YtendbgedpjcocaaGreatDoorW.PrintWords Go.Proofs.YtendbgedpjcocaaGreatDoorW.PrintLast Go.Proofs.YtendbgedpjcocaaGreatDoorW.PrintMore
set_option linter.unusedVariables false

theorem ev_up {α : Type} {f : Nat → Option α} (h : ∀ k, LeO (f k) (f (k + 1))) {r : α} (hr : ∃ k, f k = some r) : ∃ K, ∀ k, K ≤ k → f k = some r := by
 obtain ⟨K, hK⟩ := hr
 exact ⟨K, fun k hk => up_le h hk hK⟩
theorem specOk_ev (e : Ex) (he : Short e) : ∃ K, ∀ k, K ≤ k → spec_ExprOk.f k e.f0 e.f1 e.f2.f0 e.f2.f1 e.f3 = some (okE e) :=
 ev_up (f := fun k => spec_ExprOk.f k e.f0 e.f1 e.f2.f0 e.f2.f1 e.f3) (fun k => spec_ExprOk.mono _ _ _ _ _ k) (exprOk_spec e he)
theorem implOf (e : Ex) (m0 m1 m2 : List Int) : impl_ExprOf.f e.f0 e.f1 e.f2.f0 e.f2.f1 e.f3 m0 m1 m2 = some (ofV e m0 m1 m2) := by rw [impl_ExprOf.f, ex_eta]
end Go.Proofs.YtendbgedpjcocaaGreatDoor.B
/- Trees and memories as values that are only read, and the functions over them. -/
namespace Go.Proofs.YtendbgedpjcocaaGreatDoor.B
open Go Go.RowKit Go.Proofs.YtendbgedpjcocaaGreatDoorW.PrintWords Go.Proofs.YtendbgedpjcocaaGreatDoorW.PrintLast Go.Proofs.YtendbgedpjcocaaGreatDoorW.PrintMore
set_option linter.unusedVariables false

/-- A tree's cells, a memory's cells. -/
def eA (x : Ex) (A : Option Addr) (c : Nat) : Array Value := #[.int .i64 x.f0, .int .i64 x.f1, .int .i64 x.f2.f0, .int .i64 x.f2.f1, .slice A x.f3.length c]
def mA (m : List Int × List Int × List Int) (p : (Option Addr × Nat) × (Option Addr × Nat) × (Option Addr × Nat)) : Array Value := #[.slice p.1.1 m.1.length p.1.2, .slice p.2.1.1 m.2.1.length p.2.1.2, .slice p.2.2.1 m.2.2.length p.2.2.2]
def mZ : Array Value := #[.slice none 0 0, .slice none 0 0, .slice none 0 0]
theorem eA_one (x : Ex) (A : Option Addr) (c : Nat) : (eA x A c).all (·.oneCell') = true := by simp [eA, Value.oneCell']
theorem mA_one (m : List Int × List Int × List Int) (p : (Option Addr × Nat) × (Option Addr × Nat) × (Option Addr × Nat)) : (mA m p).all (·.oneCell') = true := by simp [mA, Value.oneCell']
section
variable {ops : Array Oper} {rest : List Oper} {o : Oper} {a : Act} {Q : Exit → Act → World → Prop} {W : World}
theorem getE_ {N q : Tmp} {g : Nat} {x : Ex} {A : Option Addr} {c : Nat} (ho : o.op = .load 27 (.tmp q)) (hd : o.dst = some N) (hg : o.guard = none) (hx : a.eval (.tmp q) = .pointer (some ⟨g, 0, none⟩)) (hb : Box W g 27 (eA x A c))
  (h : wpList Tryz.prog ops Q rest (a.put (some N) (.agg (eA x A c))) W) : wpList Tryz.prog ops Q (o :: rest) a W := boxGet_ ho hd hg hx hb Tryz.underlying27 rfl (by kernel_rfl) h
theorem getM_ {N q : Tmp} {g : Nat} {m : List Int × List Int × List Int} {p : (Option Addr × Nat) × (Option Addr × Nat) × (Option Addr × Nat)} (ho : o.op = .load 30 (.tmp q)) (hd : o.dst = some N) (hg : o.guard = none) (hx : a.eval (.tmp q) = .pointer (some ⟨g, 0, none⟩)) (hb : Box W g 30 (mA m p))
  (h : wpList Tryz.prog ops Q rest (a.put (some N) (.agg (mA m p))) W) : wpList Tryz.prog ops Q (o :: rest) a W := boxGet_ ho hd hg hx hb Tryz.underlying30 rfl (by kernel_rfl) h
end
structure TVo (W : World) (ok : Nat → Prop) (x : Ex) (A : Option Addr) (c : Nat) : Prop where
 v : Kd.V k27 27 W 0 ok (.slice A x.f3.length c) x.f3
abbrev TV (W : World) (x : Ex) (A : Option Addr) (c : Nat) : Prop := TVo W (fun _ => True) x A c
theorem TV.ofN {W : World} {x : Ex} {B : Option Addr} {d base : Nat} {ok ok' : Nat → Prop} (h : Kd.N k27 27 W base ok (.slice B x.f3.length d) x.f3) (hok : ∀ k, ok k → ok' k) : TVo W ok' x B d := ⟨Kd.V_mono (Kd.N_V (base' := 0) h) hok⟩
theorem TV.last (x : Ex) (A : Option Addr) (c : Nat) : Lasts fun W => TV W x A c := fun _ _ hb h => ⟨Kd.V_below h.v hb⟩
theorem TVo.reads {W : World} {ok : Nat → Prop} {x : Ex} {A : Option Addr} {c : Nat} (h : TVo W ok x A c) : x.f3.length ≤ c ∧ Kd.C k27 W A x.f3.length x.f3 := (Kd.V_reads' h.v).2
structure MV (W : World) (m : List Int × List Int × List Int) (p : (Option Addr × Nat) × (Option Addr × Nat) × (Option Addr × Nat)) : Prop where
 l0 : m.1.length ≤ p.1.2
 c0 : Kd.C (Kd.int .i64) W p.1.1 m.1.length m.1
 l1 : m.2.1.length ≤ p.2.1.2
 c1 : Kd.C (Kd.int .i64) W p.2.1.1 m.2.1.length m.2.1
 l2 : m.2.2.length ≤ p.2.2.2
 c2 : Kd.C (Kd.int .i64) W p.2.2.1 m.2.2.length m.2.2
theorem MV.last (m : List Int × List Int × List Int) (p : (Option Addr × Nat) × (Option Addr × Nat) × (Option Addr × Nat)) : Lasts fun W => MV W m p := fun _ _ hb h => ⟨h.l0, Kd.C_below h.c0 hb, h.l1, Kd.C_below h.c1 hb, h.l2, Kd.C_below h.c2 hb⟩
def mOk (m : List Int × List Int × List Int) : Bool := memOkL m.1 m.2.1 m.2.2
def oV (x : Ex) (m : List Int × List Int × List Int) : Int := ofV x m.1 m.2.1 m.2.2

theorem implOf_any (x : Ex) (A : Option Addr) (c : Nat) (m : List Int × List Int × List Int) (p : (Option Addr × Nat) × (Option Addr × Nat) × (Option Addr × Nat)) (W : World) (h : TV W x A c) (hm : MV W m p) :
  Calls Tryz.prog 19 #[.agg (eA x A c), .agg (mA m p)] W fun e W' => e = .returned (.int .i64 (oV x m)) ∧ Below W.heap.size W W' :=
 impl_ExprOf.calls x.f0 x.f1 x.f2.f0 x.f2.f1 A c x.f3 _ _ m.1 _ _ m.2.1 _ _ m.2.2 _ W h.reads.2 h.reads.1 hm.c0 hm.l0 hm.c1 hm.l1 hm.c2 hm.l2 (implOf x m.1 m.2.1 m.2.2)
theorem specOk_any (x : Ex) (hs : Short x) (A : Option Addr) (c : Nat) (W : World) (h : TV W x A c) : Calls Tryz.prog 30 #[.agg (eA x A c)] W fun e W' => e = .returned (.bool (okE x)) ∧ Below W.heap.size W W' := by
 obtain ⟨K, hK⟩ := specOk_ev x hs
 exact spec_ExprOk.calls K x.f0 x.f1 x.f2.f0 x.f2.f1 A c x.f3 _ W h.reads.2 h.reads.1 (hK K (Nat.le_refl _))
end Go.Proofs.YtendbgedpjcocaaGreatDoor.B
/- impl.StmtsOk, in the print's form. -/
namespace Go.Proofs.YtendbgedpjcocaaGreatDoor.B
open Go.RowKit Go.Shelf Go.Proofs.YtendbgedpjcocaaGreatDoorW.PrintWords Go.Proofs.YtendbgedpjcocaaGreatDoorW.PrintLast Go.Proofs.YtendbgedpjcocaaGreatDoorW.PrintMore
set_option linter.unusedVariables false

def impl_StmtsOk.f (l0 : List S35) : Option Bool := some (countL 4 l0 0).1
theorem impl_StmtsOk.calls (A0 : Option Addr) (c0 : Nat) (l0 : List S35) (r : Bool) (w : World) (hr0 : Kd.C k35 w A0 l0.length l0) (hc0 : l0.length ≤ c0) (h : impl_StmtsOk.f l0 = some r) :
  Calls Tryz.prog 36 #[.slice A0 l0.length c0] w fun e w' => e = .returned (.bool r) ∧ Below w.heap.size w w' := by
 obtain rfl := Option.some.inj h
 exact stmtsOk_of (fun e A c w hC hc => exprOk_any e A c w hC hc) A0 c0 l0 w hr0 hc0
end Go.Proofs.YtendbgedpjcocaaGreatDoor.B
/- impl.StmtsRun: statements are run. -/
namespace Go.Proofs.YtendbgedpjcocaaGreatDoor.B
open Go Go.RowKit Go.Shelf Go.Proofs.YtendbgedpjcocaaGreatDoorW.PrintWords Go.Proofs.YtendbgedpjcocaaGreatDoorW.PrintLast Go.Proofs.YtendbgedpjcocaaGreatDoorW.PrintMore
set_option linter.unusedVariables false
abbrev Mem3 := List Int × List Int × List Int
abbrev Caps3 := (Option Addr × Nat) × (Option Addr × Nat) × (Option Addr × Nat)
/-- A memory's three rows out of its eighteen numbers. -/
def cut3 (bs : List Int) : Mem3 := (bs.take 6, (bs.drop 6).take 6, (bs.drop 12).take 6)
open Classical in
/-- What a list's run comes to. -/
noncomputable def runR (bs : List Int) (l : List St) (f : Int) : Res := if h : ∃ r, Run bs l f r then h.choose else (bs, 0, f)
theorem runR_is {bs : List Int} {l : List St} {f : Int} {r : Res} (h : Run bs l f r) : runR bs l f = r := by
 have hx : ∃ r, Run bs l f r := ⟨r, h⟩
 rw [runR, dif_pos hx]
 exact hx.choose_spec.one h
def stOkL (l : List St) : Bool := (countL 4 l 0).1
theorem stOk_form {l : List St} (h : stOkL l = true) : formT 4 l = true := by
 unfold stOkL at h
 rw [stOk_is, Bool.and_eq_true] at h
 exact h.1
theorem runR_run {l : List St} (hl : stOkL l = true) (bs : List Int) {f : Int} (hf : 0 ≤ f) : Run bs l f (runR bs l f) ∧ Fits f (runR bs l f) := by
 obtain ⟨r, hr, hF⟩ := run_total 4 l (stOk_form hl) f bs hf
 rw [runR_is hr]
 exact ⟨hr, hF⟩
def runOk (m : Mem3) (l : List St) (f : Int) : Bool := mOk m && stOkL l && decide (0 ≤ f ∧ f ≤ 100)
/-- What StmtsRun says: a memory, how it ends, what is left. -/
noncomputable def stRunV (m : Mem3) (l : List St) (f : Int) : Mem3 × Int × Int := if runOk m l f = true then (cut3 (runR (m.1 ++ m.2.1 ++ m.2.2) l f).1, (runR (m.1 ++ m.2.1 ++ m.2.2) l f).2.1, (runR (m.1 ++ m.2.1 ++ m.2.2) l f).2.2) else (([], [], []), 2, 0)
theorem MV.ofRows {W : World} {base : Nat} {v0 v1 v2 : Value} {bs : List Int} (hl : bs.length = 18) (h : MemRows W base v0 v1 v2 bs) : ∃ q : Caps3, Value.agg #[v0, v1, v2] = .agg (mA (cut3 bs) q) ∧ MV W (cut3 bs) q := by
 obtain ⟨A0, d0, e0⟩ := own_slice h.r0
 obtain ⟨A1, d1, e1⟩ := own_slice h.r1
 obtain ⟨A2, d2, e2⟩ := own_slice h.r2
 have R0 := own_R h.r0 (by simp; omega) (fun _ => True) (fun _ _ => trivial)
 have R1 := own_R h.r1 (by simp; omega) (fun _ => True) (fun _ _ => trivial)
 have R2 := own_R h.r2 (by simp; omega) (fun _ => True) (fun _ _ => trivial)
 subst e0 e1 e2
 have r0 := Kd.R_reads' R0
 have r1 := Kd.R_reads' R1
 have r2 := Kd.R_reads' R2
 refine ⟨((A0, d0), (A1, d1), (A2, d2)), ?_, ⟨by show (bs.take 6).length ≤ d0; rw [← r0.1]; exact r0.2.1, r0.2.2, by show ((bs.drop 6).take 6).length ≤ d1; rw [← r1.1]; exact r1.2.1, r1.2.2, by show ((bs.drop 12).take 6).length ≤ d2; rw [← r2.1]; exact r2.2.1, r2.2.2⟩⟩
 have l0 : (bs.take 6).length = 6 := by simp; omega
 have l1 : ((bs.drop 6).take 6).length = 6 := by simp; omega
 have l2 : ((bs.drop 12).take 6).length = 6 := by simp; omega
 simp only [mA, cut3, l0, l1, l2]
set_option maxRecDepth 100000 in
set_option maxHeartbeats 4000000 in
theorem ended_any (g : Nat) (bs : List Int) (f c : Int) (hc : c = 0 ∨ c = 1 ∧ f = 0) (a : Addr) (w : World) (hm : MemAt w g bs) (he : ErrAt w a) :
  Calls Tryz.prog 38 #[.pointer (some ⟨g, 0, none⟩), .int .i64 f, errOf a c] w fun e w' => ∃ q : Caps3, e = .returned (.tuple #[.agg (mA (cut3 bs) q), .int .i64 c, .int .i64 f]) ∧ MV w' (cut3 bs) q ∧ Below w.heap.size w w' := by
 obtain ⟨w1, hw1⟩ : ∃ W, W = w.alloc (.cells #[.slice none 0 0, .slice none 0 0, .slice none 0 0] 30 (0, 0)) := ⟨_, rfl⟩
 have hB : Below w.heap.size w w1 := by rw [hw1]; exact (Below.refl _ _).alloc (Nat.le_refl _) _
 have hz1 : w1.heap.size = w.heap.size + 1 := by rw [hw1]; simp
 have H1 := Aside0.mk (show Box w1 w.heap.size 30 #[.slice none 0 0, .slice none 0 0, .slice none 0 0] ∧ MemAt w1 g bs ∧ Below w.heap.size w w1 ∧ ErrAt w1 a from
  ⟨by rw [hw1]; exact heap_alloc_new _ _, hm.below hB, hB, he.below hB⟩)
 have HL := Aside0.mk hm.n
 have HC := Aside0.mk hc
 clear hm hB he hz1 hc
 obtain ⟨ev, hev⟩ : ∃ v, v = errOf a c := ⟨_, rfl⟩
 rw [← hev]
 have HEV := Aside0.mk hev
 clear hev
 go_enter Tryz.func38, Tryz.ntmps38
 go_upto_region 1 with fail
 rw [← hw1]
 clear hw1
 have ce : w1.cell? ⟨0, 0, none⟩ = some (.iface 156 (.pointer (some a))) := H1.out.2.2.2
 have HI := Aside0.mk (is_any a c w1)
 rw [← HEV.out] at HI
 go_wp2_with fail
 refine HI.out.mono ?_
 rintro e w2 ⟨rfl, rfl⟩
 clear HI ce
 by_cases h0 : c = 0
 ·have b0 : (c != 0) = false := by simp [h0]
  have HF := Aside0.mk h0
  rw [b0]
  clear h0 b0
  go_wp2_with fail
  refine (mem_any g bs w2 H1.out.2.1).mono ?_
  rintro e w3 ⟨v0, v1, v2, rfl, hR, hb⟩
  have k := blk_below H1.out.1 hb
  have HR := Aside0.mk (And.intro hR (And.intro k (H1.out.2.2.1.trans (hb.mono H1.out.2.2.1.size))))
  obtain ⟨A0, d0, e0⟩ := own_slice hR.r0
  obtain ⟨A1, d1, e1⟩ := own_slice hR.r1
  obtain ⟨A2, d2, e2⟩ := own_slice hR.r2
  subst e0 e1 e2
  clear hR hb k
  go_wp2_with (refine boxPut_ rfl rfl rfl rfl #[.slice A0 6 d0, .slice A1 6 d1, .slice A2 6 d2] rfl HR.out.2.1 rfl (by kernel_rfl) (by simp [Value.oneCell']) ?_; intro w4 hbx hput)
  refine bodyPost_ret (results_ctt rfl _ _ w.heap.size 30 #[.slice A0 6 d0, .slice A1 6 d1, .slice A2 6 d2] (0, 0) _ rfl hbx Tryz.underlying30 rfl (by kernel_rfl)) rfl ?_
  obtain ⟨q, hq, hMV⟩ := MV.ofRows HL.out (HR.out.1.put1 HR.out.2.1 (by decide) hput)
  rw [hq]
  exact ⟨q, by rw [HF.out]; rfl, hMV, hput.below HR.out.2.2 (Nat.le_refl _)⟩
 ·have b0 : (c != 0) = true := by simp [h0]
  have HF := Aside0.mk (show c = 1 ∧ f = 0 by rcases HC.out with h | h; exact absurd h h0; exact h)
  rw [b0]
  clear h0 b0
  go_wp2_with fail
  refine (mem_any g bs w2 H1.out.2.1).mono ?_
  rintro e w3 ⟨v0, v1, v2, rfl, hR, hb⟩
  have k := blk_below H1.out.1 hb
  have HR := Aside0.mk (And.intro hR (And.intro k (H1.out.2.2.1.trans (hb.mono H1.out.2.2.1.size))))
  obtain ⟨A0, d0, e0⟩ := own_slice hR.r0
  obtain ⟨A1, d1, e1⟩ := own_slice hR.r1
  obtain ⟨A2, d2, e2⟩ := own_slice hR.r2
  subst e0 e1 e2
  clear hR hb k
  go_wp2_with (refine boxPut_ rfl rfl rfl rfl #[.slice A0 6 d0, .slice A1 6 d1, .slice A2 6 d2] rfl HR.out.2.1 rfl (by kernel_rfl) (by simp [Value.oneCell']) ?_; intro w4 hbx hput)
  refine bodyPost_ret (results_ctt rfl _ _ w.heap.size 30 #[.slice A0 6 d0, .slice A1 6 d1, .slice A2 6 d2] (0, 0) _ rfl hbx Tryz.underlying30 rfl (by kernel_rfl)) rfl ?_
  obtain ⟨q, hq, hMV⟩ := MV.ofRows HL.out (HR.out.1.put1 HR.out.2.1 (by decide) hput)
  rw [hq]
  exact ⟨q, by rw [HF.out.1, HF.out.2]; rfl, hMV, hput.below HR.out.2.2 (Nat.le_refl _)⟩
end Go.Proofs.YtendbgedpjcocaaGreatDoor.B
/- impl.StmtsRun. -/
namespace Go.Proofs.YtendbgedpjcocaaGreatDoor.B
open Go Go.RowKit Go.Shelf Go.Proofs.YtendbgedpjcocaaGreatDoorW.PrintWords Go.Proofs.YtendbgedpjcocaaGreatDoorW.PrintLast Go.Proofs.YtendbgedpjcocaaGreatDoorW.PrintMore
set_option linter.unusedVariables false
theorem stOkI_any (l : List St) (A : Option Addr) (c : Nat) (w : World) (hC : Kd.C stK w A l.length l) (hc : l.length ≤ c) : Calls Tryz.prog 36 #[.slice A l.length c] w fun e w' => e = .returned (.bool (stOkL l)) ∧ Below w.heap.size w w' :=
 impl_StmtsOk.calls A c l _ w hC hc rfl
theorem run_len {k : Nat} {bs : List Int} {l : List St} {f : Int} {r : Res} (h : runL k bs l f = some r) : r.1.length = bs.length :=
 run_keeps (fun b => b.length = bs.length) k l (fun _ => True) (fun _ _ _ _ => trivial) (fun _ _ _ _ => trivial) (fun s _ _ b hb => by rw [putB_len]; exact hb) (fun _ _ => trivial) bs f r rfl h
theorem mV_none (W : World) : MV W (([], [], []) : Mem3) ((none, 0), (none, 0), (none, 0)) :=
 ⟨Nat.le_refl _, (Kd.R_reads' (Kd.R_nil (Kd.int .i64) 3 W 0 (fun _ => True))).2.2, Nat.le_refl _, (Kd.R_reads' (Kd.R_nil (Kd.int .i64) 3 W 0 (fun _ => True))).2.2, Nat.le_refl _, (Kd.R_reads' (Kd.R_nil (Kd.int .i64) 3 W 0 (fun _ => True))).2.2⟩
theorem C_put1 {W W' : World} {g : Nat} {T : TypeId} {cs : Array Value} (hb : Box W g T cs) (hn : ∀ (i : Nat) (n : Int), cs[i]? ≠ some (.int .i64 n)) (hp : Put1 g W W') {A : Option Addr} {n : Nat} {xs : List Int} (h : Kd.C (Kd.int .i64) W A n xs) : Kd.C (Kd.int .i64) W' A n xs := by
 obtain ⟨h1, h2, h3⟩ := h
 refine ⟨h1, h2, fun hn0 => ?_⟩
 obtain ⟨a, ha, hl⟩ := h3 hn0
 refine ⟨a, ha, fun j p hj => ?_⟩
 obtain ⟨c, hlen, hk, hc⟩ := hl j p hj
 refine ⟨c, hlen, hk, fun i u hu => ?_⟩
 have hq := hc i u hu
 have hu' : u = .int .i64 p := by
  have hk' : c = [.int .i64 p] := hk
  rw [hk'] at hu
  cases i with
  | zero => simpa using hu.symm
  | succ i => simp at hu
 generalize a.add _ = q at hq ⊢
 by_cases hg : q.block = g
 ·exfalso
  unfold World.cell? at hq
  rw [hg, hb] at hq
  rw [hu'] at hq
  have hq' : (if q.spot.isSome = true then none else cs[q.off]?) = some (.int .i64 p) := hq
  split at hq'
  ·cases hq'
  ·exact hn _ _ hq'
 ·unfold World.cell? at hq ⊢
  rw [hp.far _ hg]
  exact hq
theorem no_int (A0 A1 A2 : Option Addr) (n0 n1 n2 c0 c1 c2 : Nat) (i : Nat) (n : Int) : (#[Value.slice A0 n0 c0, .slice A1 n1 c1, .slice A2 n2 c2] : Array Value)[i]? ≠ some (.int .i64 n) := by
 match i with
 | 0 => simp
 | 1 => simp
 | 2 => simp
 | i + 3 => simp
theorem MV.put1 {W W' : World} {g : Nat} {T : TypeId} {A0 A1 A2 : Option Addr} {n0 n1 n2 c0 c1 c2 : Nat} {m : Mem3} {q : Caps3} (h : MV W m q) (hb : Box W g T #[.slice A0 n0 c0, .slice A1 n1 c1, .slice A2 n2 c2]) (hp : Put1 g W W') : MV W' m q :=
 ⟨h.l0, C_put1 hb (no_int _ _ _ _ _ _ _ _ _) hp h.c0, h.l1, C_put1 hb (no_int _ _ _ _ _ _ _ _ _) hp h.c1, h.l2, C_put1 hb (no_int _ _ _ _ _ _ _ _ _) hp h.c2⟩
set_option maxRecDepth 100000 in
set_option maxHeartbeats 8000000 in
theorem stRun_any (m : Mem3) (l : List St) (f : Int) (p : Caps3) (A : Option Addr) (c : Nat) (a : Addr) (w : World) (hE : ErrAt w a) (hM : MV w m p) (hC : Kd.C stK w A l.length l) (hc : l.length ≤ c) :
  Calls Tryz.prog 11 #[.agg (mA m p), .slice A l.length c, .int .i64 f] w fun e w' => ∃ q : Caps3, e = .returned (.tuple #[.agg (mA (stRunV m l f).1 q), .int .i64 (stRunV m l f).2.1, .int .i64 (stRunV m l f).2.2]) ∧ MV w' (stRunV m l f).1 q ∧ Below w.heap.size w w' := by
 obtain ⟨w1, hw1⟩ : ∃ W, W = (w.alloc (.cells (mA m p) 30 (0, 0))).alloc (.cells #[.slice none 0 0, .slice none 0 0, .slice none 0 0] 30 (0, 0)) := ⟨_, rfl⟩
 obtain ⟨hs, k1, k2, hB⟩ := two_blocks' w (.cells (mA m p) 30 (0, 0)) (.cells #[.slice none 0 0, .slice none 0 0, .slice none 0 0] 30 (0, 0))
 rw [← hw1] at hs k1 k2 hB
 have H1 := Aside0.mk (show Box w1 w.heap.size 30 (mA m p) ∧ Box w1 (w.heap.size + 1) 30 mZ ∧ Below w.heap.size w w1 ∧ ErrAt w a ∧ MV w m p ∧ Kd.C stK w A l.length l ∧ l.length ≤ c from ⟨k1, k2, hB, hE, hM, hC, hc⟩)
 clear hs k1 k2 hB hE hM hC hc
 unfold mA at hw1
 unfold mA
 obtain ⟨V, hV⟩ : ∃ V, V = stRunV m l f := ⟨_, rfl⟩
 rw [← hV]
 have HV0 := Aside0.mk hV
 clear hV
 have leave : ∀ W : World, Below w.heap.size w W → Box W (w.heap.size + 1) 30 mZ → runOk m l f = false → ∃ q : Caps3, (Ending.returned (.tuple #[.agg mZ, .int .i64 2, .int .i64 0])) = .returned (.tuple #[.agg (mA V.1 q), .int .i64 V.2.1, .int .i64 V.2.2]) ∧ MV W V.1 q ∧ Below w.heap.size w W := by
  intro W hW _ h
  have e : V = (([], [], []), 2, 0) := by rw [HV0.out, stRunV, h]; rfl
  rw [e]
  exact ⟨((none, 0), (none, 0), (none, 0)), rfl, mV_none W, hW⟩
 have HL := Aside0.mk leave
 clear leave
 go_enter Tryz.func11, Tryz.ntmps11
 go_upto_region 1 with fail
 rw [← hw1]
 clear hw1
 have lb0 := H1.out.1
 go_wp2_with ((with_reducible refine gate_dst (N := 14) rfl ?_); refine getM_ rfl rfl rfl rfl lb0 ?_)
 clear lb0
 have hmv := MV.last _ _ _ _ H1.out.2.2.1 H1.out.2.2.2.2.1
 refine (readMem_new m.1 m.2.1 m.2.2 p.1.1 p.2.1.1 p.2.2.1 p.1.2 p.2.1.2 p.2.2.2 w1 hmv.c0 hmv.c1 hmv.c2 hmv.l0 hmv.l1 hmv.l2).mono ?_
 clear hmv
 rintro e w2 ⟨hr, hb2⟩
 have H2 := Aside0.mk (show Box w2 (w.heap.size + 1) 30 mZ ∧ Below w.heap.size w w2 ∧ w.heap.size ≤ w1.heap.size from ⟨blk_below H1.out.2.1 hb2, H1.out.2.2.1.trans (hb2.mono H1.out.2.2.1.size), H1.out.2.2.1.size⟩)
 clear hb2
 rcases hr with ⟨hv, g, hg, rfl, hm⟩ | ⟨hv, rfl⟩
 rotate_left
 ·have HV := Aside0.mk (show runOk m l f = false by unfold runOk mOk memOkL; rw [hv]; rfl)
  have lb := H2.out.1
  clear hv
  go_wp2_with (refine boxPut_ rfl rfl rfl rfl mZ rfl lb rfl (by kernel_rfl) (by simp [mZ, Value.oneCell']) ?_; intro w4 hbx hput)
  refine bodyPost_ret (results_ctt rfl _ _ (w.heap.size + 1) 30 mZ (0, 0) _ rfl hbx Tryz.underlying30 rfl (by kernel_rfl)) rfl ?_
  exact HL.out w4 (hput.below H2.out.2.1 (Nat.le_succ _)) hbx HV.out
 ·have HM := Aside0.mk (And.intro hv (And.intro hg hm))
  clear hv hg hm
  go_wp2_with fail
  refine (stOkI_any l A c w2 (Kd.C_below H1.out.2.2.2.2.2.1 H2.out.2.1) H1.out.2.2.2.2.2.2).mono ?_
  rintro e w3 ⟨rfl, hb3⟩
  have H3 := Aside0.mk (show Box w3 (w.heap.size + 1) 30 mZ ∧ Below w.heap.size w w3 ∧ MemAt w3 g (m.1 ++ m.2.1 ++ m.2.2) from ⟨blk_below H2.out.1 hb3, H2.out.2.1.trans (hb3.mono H2.out.2.1.size), HM.out.2.2.below hb3⟩)
  clear hb3
  obtain ⟨ok, hok⟩ : ∃ ok, ok = stOkL l := ⟨_, rfl⟩
  rw [← hok]
  have HO := Aside0.mk hok
  clear hok
  have lb := H3.out.1
  cases ok with
  | false =>
   have HV := Aside0.mk (show runOk m l f = false by unfold runOk; rw [← HO.out]; simp)
   go_wp2_with (refine boxPut_ rfl rfl rfl rfl mZ rfl lb rfl (by kernel_rfl) (by simp [mZ, Value.oneCell']) ?_; intro w4 hbx hput)
   refine bodyPost_ret (results_ctt rfl _ _ (w.heap.size + 1) 30 mZ (0, 0) _ rfl hbx Tryz.underlying30 rfl (by kernel_rfl)) rfl ?_
   exact HL.out w4 (hput.below H3.out.2.1 (Nat.le_succ _)) hbx HV.out
  | true =>
   by_cases h0 : f < 0
   ·have HV := Aside0.mk (show runOk m l f = false by unfold runOk; rw [decide_eq_false (by omega : ¬ (0 ≤ f ∧ f ≤ 100))]; simp)
    have b0 : decide (f < 0) = true := decide_eq_true h0
    go_wp2_with (refine boxPut_ rfl rfl rfl rfl mZ rfl lb rfl (by kernel_rfl) (by simp [mZ, Value.oneCell']) ?_; intro w4 hbx hput)
    refine bodyPost_ret (results_ctt rfl _ _ (w.heap.size + 1) 30 mZ (0, 0) _ rfl hbx Tryz.underlying30 rfl (by kernel_rfl)) rfl ?_
    exact HL.out w4 (hput.below H3.out.2.1 (Nat.le_succ _)) hbx HV.out
   have b0 : decide (f < 0) = false := decide_eq_false h0
   by_cases h1 : 100 < f
   ·have HV := Aside0.mk (show runOk m l f = false by unfold runOk; rw [decide_eq_false (by omega : ¬ (0 ≤ f ∧ f ≤ 100))]; simp)
    have b1 : decide (100 < f) = true := decide_eq_true h1
    go_wp2_with (refine boxPut_ rfl rfl rfl rfl mZ rfl lb rfl (by kernel_rfl) (by simp [mZ, Value.oneCell']) ?_; intro w4 hbx hput)
    refine bodyPost_ret (results_ctt rfl _ _ (w.heap.size + 1) 30 mZ (0, 0) _ rfl hbx Tryz.underlying30 rfl (by kernel_rfl)) rfl ?_
    exact HL.out w4 (hput.below H3.out.2.1 (Nat.le_succ _)) hbx HV.out
   have b1 : decide (100 < f) = false := decide_eq_false h1
   have hok : runOk m l f = true := by
    unfold runOk mOk memOkL
    rw [HM.out.1, ← HO.out, decide_eq_true (by omega : 0 ≤ f ∧ f ≤ 100)]; rfl
   obtain ⟨⟨kk, hk⟩, hF⟩ := runR_run HO.out.symm (m.1 ++ m.2.1 ++ m.2.2) (show 0 ≤ f by omega)
   obtain ⟨r, hr⟩ : ∃ r, r = runR (m.1 ++ m.2.1 ++ m.2.2) l f := ⟨_, rfl⟩
   have he : V = (cut3 r.1, r.2.1, r.2.2) := by rw [HV0.out, stRunV, hok, hr]; rfl
   rw [← hr] at hk hF
   have hl18 : r.1.length = 18 := (run_len hk).trans H3.out.2.2.n
   have HVV := Aside0.mk he
   have HF := Aside0.mk (And.intro (And.intro hk hF) (And.intro hl18 (And.intro (show 0 ≤ f by omega) (show f ≤ 100 by omega))))
   have HFO := Aside0.mk (stOk_form HO.out.symm)
   clear hok hk hF hr he hl18 h0 h1 lb HL
   go_upto_region 5 with fail
   obtain ⟨w4, hw4⟩ : ∃ W, W = w3.alloc (.cells #[.pointer (some ⟨g, 0, none⟩), .int .i64 f] 69 (0, 0)) := ⟨_, rfl⟩
   rw [← hw4]
   have hb4 : Below w3.heap.size w3 w4 := by rw [hw4]; exact (Below.refl _ _).alloc (Nat.le_refl _) _
   have hR4 : RunAt w4 w3.heap.size g (m.1 ++ m.2.1 ++ m.2.2) f := ⟨H3.out.2.2.below hb4, by rw [hw4]; exact heap_alloc_new _ _⟩
   have hB4 : Below w.heap.size w w4 := H3.out.2.1.trans (hb4.mono H3.out.2.1.size)
   have hgl := blk_lt H3.out.2.2.b
   have hgw : w1.heap.size ≤ g := HM.out.2.1
   have hne : w3.heap.size ≠ g := by omega
   have hnq : w.heap.size + 1 ≠ g := by have := blk_lt H1.out.2.1; omega
   have hnr : w.heap.size + 1 ≠ w3.heap.size := by have := blk_lt H3.out.1; omega
   have hN4 : Env w w4 w3.heap.size g a := ⟨H3.out.2.1.size, Nat.le_trans H2.out.2.2 hgw, hne, H1.out.2.2.2.1, hB4⟩
   have H4 := Aside0.mk (show Box w4 (w.heap.size + 1) 30 mZ ∧ Env w w4 w3.heap.size g a ∧ ¬ Fm w3.heap.size g (w.heap.size + 1) from ⟨blk_below H3.out.1 hb4, hN4, fun h => by rcases h with h | h; exact hnr h; exact hnq h⟩)
   have HA := Aside0.mk (all_con kk 4 l HFO.out (m.1 ++ m.2.1 ++ m.2.2) f r HF.out.1.1 HF.out.2.2.1 HF.out.2.2.2 a w3.heap.size g w w4 A c hN4 hR4 H1.out.2.2.2.2.2.1 H1.out.2.2.2.2.2.2)
   obtain ⟨gr, hgr⟩ : ∃ gr, gr = w3.heap.size := ⟨_, rfl⟩
   rw [← hgr] at HA H4 ⊢
   clear hw4 hb4 hR4 hB4 hgl hgw hne hnq hnr hN4 hgr
   go_wp2_with fail
   refine HA.out.mono ?_
   clear HA
   rintro e w5 ⟨rfl, hR5, hE5⟩
   have H5 := Aside0.mk (show Box w5 (w.heap.size + 1) 30 mZ ∧ Env w w5 gr g a ∧ RunAt w5 gr g r.1 r.2.2 from ⟨blk_ed H4.out.1 hE5 H4.out.2.2, H4.out.2.1.step hE5, hR5⟩)
   have c1 : w5.cell? ⟨gr, 1, none⟩ = some (.int .i64 r.2.2) := by rw [blk_cell hR5.r]; rfl
   clear hR5 hE5
   obtain ⟨ev, hev⟩ : ∃ ev, ev = errOf a r.2.1 := ⟨_, rfl⟩
   have HQ := Aside0.mk (ended_any g r.1 r.2.2 r.2.1 HF.out.1.2.how a w5 H5.out.2.2.m H5.out.2.1.err)
   rw [← hev] at HQ ⊢
   clear hev
   go_wp2_with fail
   refine HQ.out.mono ?_
   clear HQ
   rintro e w6 ⟨q, rfl, hMV, hb6⟩
   have H6 := Aside0.mk (show MV w6 (cut3 r.1) q ∧ Below w.heap.size w w6 from ⟨hMV, H5.out.2.1.b.trans (hb6.mono H5.out.2.1.b.size)⟩)
   have lb := blk_below H5.out.1 hb6
   clear hMV hb6 c1
   go_wp2_with (refine boxPut_ rfl rfl rfl rfl (mA (cut3 r.1) q) rfl lb rfl (by kernel_rfl) (mA_one _ _) ?_; intro w7 hbx hput)
   refine bodyPost_ret (results_ctt rfl _ _ (w.heap.size + 1) 30 (mA (cut3 r.1) q) (0, 0) _ rfl hbx Tryz.underlying30 rfl (by kernel_rfl)) rfl ?_
   rw [HVV.out]
   exact ⟨q, rfl, MV.put1 H6.out.1 lb hput, hput.below H6.out.2 (Nat.le_succ _)⟩
end Go.Proofs.YtendbgedpjcocaaGreatDoor.B
/- Plain law: whether a place is read, by the parts and by the specification. -/
namespace Go.Proofs.YtendbgedpjcocaaGreatDoor.B
open Go.RowKit Go.Proofs.YtendbgedpjcocaaGreatDoorW.PrintWords Go.Proofs.YtendbgedpjcocaaGreatDoorW.PrintLast Go.Proofs.YtendbgedpjcocaaGreatDoorW.PrintMore
set_option linter.unusedVariables false

/-- All parts, where the walk is not stopped. -/
def flat : Nat → Ex → List (Int × Ex)
 | 0, e => [(6, e)]
 | d + 1, e => ((5 : Int) - d, e) :: e.f3.flatMap (flat d)
theorem fold_flat (d : Nat) (ih : ∀ (e : Ex) (acc : List (Int × Ex)), (walkP d e acc).2 = true → (walkP d e acc).1 = acc ++ flat d e) (ks : List Ex) :
  ∀ acc : List (Int × Ex), (ks.foldl (fun s k => if s.2 then walkP d k s.1 else s) (acc, true)).2 = true → (ks.foldl (fun s k => if s.2 then walkP d k s.1 else s) (acc, true)).1 = acc ++ ks.flatMap (flat d) := by
 induction ks with
 | nil => intro acc _; simp
 | cons k ks ihk =>
  intro acc h
  have h1 : (ks.foldl (fun s k => if s.2 then walkP d k s.1 else s) (walkP d k acc)).2 = true := h
  show (ks.foldl (fun s k => if s.2 then walkP d k s.1 else s) (walkP d k acc)).1 = _
  cases hw : (walkP d k acc).2 with
  | false => rw [show walkP d k acc = ((walkP d k acc).1, false) from Prod.ext rfl hw, walk_stop] at h1; cases h1
  | true =>
   rw [show walkP d k acc = ((walkP d k acc).1, true) from Prod.ext rfl hw] at h1 ⊢
   rw [ihk _ h1, ih k acc hw, List.flatMap_cons, List.append_assoc]
theorem walk_flat (d : Nat) : ∀ (e : Ex) (acc : List (Int × Ex)), (walkP d e acc).2 = true → (walkP d e acc).1 = acc ++ flat d e := by
 induction d with
 | zero => intro e acc h; simp [walkP] at h
 | succ d ih =>
  intro e acc h
  unfold walkP at h ⊢
  split at h
  ·cases h
  ·rename_i h14
   rw [if_neg h14, fold_flat d ih e.f3 _ h, flat, List.append_assoc]; rfl
theorem parts_flat (e : Ex) (h : okL 0 (partsL e) = true) : partsL e = flat 6 e := by
 have hw := walk_ok 6 (Nat.le_refl _) e [] (by simp) rfl
 have := walk_flat 6 e [] (hw.2 h).1
 simpa [partsL] using this

theorem mono_r (a b c d : Int) (l : List Ex) (m n : Int) : ∀ k, LeO (spec_l10Reads.f k a b c d l m n) (spec_l10Reads.f (k + 1) a b c d l m n) := fun k => (spec_l10Reads.mono_l k).1 a b c d l m n
theorem mono_r0 (j a b c d : Int) (l : List Ex) (m n : Int) : ∀ k, LeO (spec_l10Reads.l0 k j a b c d l m n) (spec_l10Reads.l0 (k + 1) j a b c d l m n) := fun k => (spec_l10Reads.mono_l k).2 j a b c d l m n
theorem reads_loop (d : Nat) (m n : Int) (a b c c' : Int) (l : List Ex) (hl : l.length < 9223372036854775807) (ih : ∀ x ∈ l, ∃ k, spec_l10Reads.f k x.f0 x.f1 x.f2.f0 x.f2.f1 x.f3 m n = some ((flat d x).any (readsP m n))) :
  ∀ (q j : Nat), q + j = l.length → ∃ k, spec_l10Reads.l0 k j a b c c' l m n = some (((l.drop j).flatMap (flat d)).any (readsP m n)) := by
 intro q
 induction q with
 | zero =>
  intro j hj
  refine ⟨1, ?_⟩
  rw [spec_l10Reads.l0, if_neg (by omega), List.drop_eq_nil_of_le (by omega)]; rfl
 | succ q ihq =>
  intro j hj
  have hlt : j < l.length := by omega
  obtain ⟨k1, h1⟩ := ih l[j] (List.getElem_mem hlt)
  obtain ⟨k2, h2⟩ := ihq (j + 1) (by omega)
  refine ⟨k1 + k2 + 1, ?_⟩
  rw [spec_l10Reads.l0, if_pos (by omega), if_pos (by omega), rd_get l j hlt, wrap_small (by omega) (by omega), up_le (mono_r _ _ _ _ _ _ _) (Nat.le_add_right k1 k2) h1, Option.bind_some, List.drop_eq_getElem_cons hlt, List.flatMap_cons, List.any_append]
  cases (flat d l[j]).any (readsP m n) with
  | true => simp
  | false => simpa using up_le (mono_r0 _ _ _ _ _ _ _ _) (Nat.le_add_left k2 k1) h2
theorem reads_spec (m n : Int) (d : Nat) : ∀ e : Ex, Short e → formS d e = true → ∃ k, spec_l10Reads.f k e.f0 e.f1 e.f2.f0 e.f2.f1 e.f3 m n = some ((flat d e).any (readsP m n)) := by
 induction d with
 | zero => intro e _ h; cases h
 | succ d ih =>
  intro e he hf
  rw [formS, Bool.and_eq_true] at hf
  cases he with
  | mk _ hlen hk =>
  by_cases h2 : e.f0 = 2
  ·have h0 : e.f3 = [] := by
    have h1 := hf.1
    unfold headOk at h1
    simp only [Bool.and_eq_true, beq_iff_eq] at h1
    have h3 := h1.1.2
    rw [h2, kidsN, if_pos (.inr rfl)] at h3
    exact List.length_eq_zero_iff.1 (by omega)
   refine ⟨1, ?_⟩
   rw [spec_l10Reads.f, if_pos h2, flat, h0]
   simp [readsP, h2]
  ·obtain ⟨k, h⟩ := reads_loop d m n e.f0 e.f1 e.f2.f0 e.f2.f1 e.f3 hlen (fun x hx => ih x (hk x hx) (List.all_eq_true.1 hf.2 x hx)) e.f3.length 0 (by omega)
   refine ⟨k + 1, ?_⟩
   rw [spec_l10Reads.f, if_neg h2, flat, List.any_cons]
   have h2' : (e.f0 == 2) = false := by simp [h2]
   simp only [readsP, h2', Bool.false_and, Bool.false_or]
   simpa [readsP] using h
theorem slimReads_spec (e : Ex) (he : Short e) (m n : Int) : ∃ k, spec_SlimReads.f k e.f0 e.f1 e.f2.f0 e.f2.f1 e.f3 m n = some (okL 0 (partsL e) && (partsL e).any (readsP m n)) := by
 obtain ⟨k1, h1⟩ := exprOk_spec e he
 rw [← okL_eq] at h1
 cases hv : okL 0 (partsL e) with
 | false =>
  refine ⟨k1, ?_⟩
  unfold spec_SlimReads.f
  rw [h1, hv]; simp
 | true =>
  have hf : formS 6 e = true := by rw [okL_eq, Bool.and_eq_true] at hv; exact hv.1
  obtain ⟨k2, h2⟩ := reads_spec m n 6 e he hf
  rw [hv] at h1
  have h1' := up_le (f := fun k => spec_ExprOk.f k e.f0 e.f1 e.f2.f0 e.f2.f1 e.f3) (fun k => spec_ExprOk.mono _ _ _ _ _ k) (Nat.le_add_right k1 k2) h1
  have h2' := up_le (mono_r _ _ _ _ _ _ _) (Nat.le_add_left k2 k1) h2
  refine ⟨k1 + k2, ?_⟩
  unfold spec_SlimReads.f
  rw [h1']
  simp only [Option.bind_some, if_true, h2', parts_flat e hv, Bool.true_and]
end Go.Proofs.YtendbgedpjcocaaGreatDoor.B
/- slices.ContainsFunc over rows of impl.Stmt, at any function value. -/
namespace Go.Proofs.YtendbgedpjcocaaGreatDoor.B
open Go.RowKit Go.Shelf Go.Proofs.YtendbgedpjcocaaGreatDoorW.PrintWords Go.Proofs.YtendbgedpjcocaaGreatDoorW.PrintLast Go.Proofs.YtendbgedpjcocaaGreatDoorW.PrintMore
set_option linter.unusedVariables false

/-- What a function value says of an element, in every world behind w0. -/
def PrSt (f : Nat) (cap : Array Value) (p : S35 → Bool) (w0 : World) (l : List S35) : Prop := ∀ (x : S35) (A7 : Option Addr) (c7 : Nat) (A8 : Option Addr) (c8 : Nat) (A9 : Option Addr) (c9 : Nat) (w : World), x ∈ l → Below w0.heap.size w0 w → Kd.C k27 w A7 x.f2.f3.length x.f2.f3 → x.f2.f3.length ≤ c7 → Kd.C k35 w A8 x.f3.length x.f3 → x.f3.length ≤ c8 → Kd.C k35 w A9 x.f4.length x.f4 → x.f4.length ≤ c9 → Calls Tryz.prog f (#[.agg #[.int .i64 x.f0, .int .i64 x.f1.f0, .int .i64 x.f1.f1, .int .i64 x.f2.f0, .int .i64 x.f2.f1, .int .i64 x.f2.f2.f0, .int .i64 x.f2.f2.f1, .slice A7 x.f2.f3.length c7, .slice A8 x.f3.length c8, .slice A9 x.f4.length c9]] ++ cap) w fun e w' => e = .returned (.bool (p x)) ∧ Below w.heap.size w w'
set_option maxRecDepth 100000 in
set_option maxHeartbeats 4000000 in
theorem indexFuncSt_any (f : Nat) (cap : Array Value) (p : S35 → Bool) (he : ∀ args w, (callFunc f args).run Tryz.prog w = .ok (.enter f args) w) (l : List S35) (A : Option Addr) (c : Nat) (w : World) (hf : PrSt f cap p w l) (hC : Kd.C k35 w A l.length l) (hc : l.length ≤ c) :
  Calls Tryz.prog 103 #[.slice A l.length c, .func (.func f) #[] cap] w fun e w' => (∃ r : Int, decide (0 ≤ r) = l.any p ∧ e = .returned (.int .i64 r)) ∧ Below w.heap.size w w' := by
 have hmax : l.length ≤ 9223372036854775807 := hC.2.1
 have HFC := Aside0.mk (And.intro hf hC)
 clear hf hC
 go_enter Tryz.func103, Tryz.ntmps103
 go_wp2
 go_loopw [5, 8] (fun _ i wr => ∃ (j : Nat), i = .int .i64 j ∧ Aside0 (j ≤ l.length ∧ (l.take j).any p = false ∧ Below w.heap.size w wr)) (fun _ i _ => l.length - (intOf i).toNat)
 case atStart => exact ⟨0, rfl, ⟨Nat.zero_le _, by simp, Below.refl _ _⟩⟩
 case round =>
  obtain ⟨j, rfl, HR⟩ := hrel
  by_cases hj : j < l.length
  ·obtain ⟨ad, A7, c7, A8, c8, A9, c9, hA, e0, e1, e2, e3, e4, e5, e6, e7, e8, e9, hl7, hi7, hl8, hi8, hl9, hi9⟩ := at_T35 HFC.out.2 (j : Int) (by omega) (by omega)
   cases hA
   have hkid : rd_T35 l (j : Int) = l[j] := by simp [rd_T35, hj]
   have hb := HR.out.2.2
   replace e0 := (hb.cell (World.block_lt_of_cell? w _ e0)).trans e0
   replace e1 := (hb.cell (World.block_lt_of_cell? w _ e1)).trans e1
   replace e2 := (hb.cell (World.block_lt_of_cell? w _ e2)).trans e2
   replace e3 := (hb.cell (World.block_lt_of_cell? w _ e3)).trans e3
   replace e4 := (hb.cell (World.block_lt_of_cell? w _ e4)).trans e4
   replace e5 := (hb.cell (World.block_lt_of_cell? w _ e5)).trans e5
   replace e6 := (hb.cell (World.block_lt_of_cell? w _ e6)).trans e6
   replace e7 := (hb.cell (World.block_lt_of_cell? w _ e7)).trans e7
   replace e8 := (hb.cell (World.block_lt_of_cell? w _ e8)).trans e8
   replace e9 := (hb.cell (World.block_lt_of_cell? w _ e9)).trans e9
   rw [hkid] at e0 e1 e2 e3 e4 e5 e6 e7 e8 e9 hl7 hi7 hl8 hi8 hl9 hi9
   simp only [Int.toNat_natCast] at e0 e1 e2 e3 e4 e5 e6 e7 e8 e9
   obtain ⟨x, hx⟩ : ∃ x, x = l[j] := ⟨_, rfl⟩
   rw [← hx] at e0 e1 e2 e3 e4 e5 e6 e7 e8 e9 hl7 hi7 hl8 hi8 hl9 hi9
   have HC := Aside0.mk (HFC.out.1 x A7 c7 A8 c8 A9 c9 wr (by rw [hx]; exact List.getElem_mem hj) hb (Kd.C_below hi7 hb) hl7 (Kd.C_below hi8 hb) hl8 (Kd.C_below hi9 hb) hl9)
   have HX := Aside0.mk (And.intro hx hmax)
   have HJ := Aside0.mk hj
   clear hb hx hkid hl7 hi7 hl8 hi8 hl9 hi9
   go_wp2_with fail
   refine HC.out.mono ?_
   clear HC
   rintro e w1 ⟨rfl, hb1⟩
   have HB := Aside0.mk (HR.out.2.2.trans (hb1.mono HR.out.2.2.size))
   clear hb1
   cases hp : p x with
   | true =>
    have HP := Aside0.mk hp; clear hp
    go_wp2
    go_ret
    refine ⟨⟨j, ?_, rfl⟩, HB.out⟩
    have : l.any p = true := List.any_eq_true.2 ⟨l[j], List.getElem_mem HJ.out, by rw [← HX.out.1]; exact HP.out⟩
    rw [this]; simp
   | false =>
    have HP := Aside0.mk hp; clear hp
    go_wp2
    go_roundw
    case rel => exact ⟨j + 1, by go_num, ⟨HJ.out, by rw [List.take_succ_eq_append_getElem HJ.out, List.any_append, HR.out.2.1]; simp [← HX.out.1, HP.out], HB.out⟩⟩
    case measure => have := HJ.out; simp [intOf]; omega
  ·have hjl : j = l.length := by have := HR.out.1; omega
   have hn := HR.out.2.1
   rw [hjl, List.take_of_length_le (Nat.le_refl _)] at hn
   have HN := Aside0.mk hn; clear hn hjl
   go_wp2
   go_ret
   exact ⟨⟨-1, by rw [HN.out]; rfl, rfl⟩, HR.out.2.2⟩
set_option maxRecDepth 100000 in
theorem containsFuncSt_any (f : Nat) (cap : Array Value) (p : S35 → Bool) (he : ∀ args w, (callFunc f args).run Tryz.prog w = .ok (.enter f args) w) (l : List S35) (A : Option Addr) (c : Nat) (w : World) (hf : PrSt f cap p w l) (hC : Kd.C k35 w A l.length l) (hc : l.length ≤ c) :
  Calls Tryz.prog 87 #[.slice A l.length c, .func (.func f) #[] cap] w fun e w' => e = .returned (.bool (l.any p)) ∧ Below w.heap.size w w' := by
 have HC := Aside0.mk (indexFuncSt_any f cap p he l A c w hf hC hc)
 clear hC hc hf
 go_enter Tryz.func87, Tryz.ntmps87
 go_wp2_with fail
 refine HC.out.mono ?_
 clear HC
 rintro e w1 ⟨⟨r, hr, rfl⟩, hb1⟩
 have HB := Aside0.mk (And.intro hr hb1)
 clear hr hb1
 go_wp2
 go_ret
 exact ⟨by rw [← HB.out.1]; rfl, HB.out.2⟩
end Go.Proofs.YtendbgedpjcocaaGreatDoor.B
/- impl.writes: whether a place is set. -/
namespace Go.Proofs.YtendbgedpjcocaaGreatDoor.B
open Go.RowKit Go.Shelf Go.Proofs.YtendbgedpjcocaaGreatDoorW.PrintWords Go.Proofs.YtendbgedpjcocaaGreatDoorW.PrintLast Go.Proofs.YtendbgedpjcocaaGreatDoorW.PrintMore
set_option linter.unusedVariables false
attribute [local go_sem high] eqA24

def wrSt (a b : Int) : ISt → Bool
 | ⟨k, t, _, l, l'⟩ => (k == 1 && (t.f0 == a && (t.f1 == b))) || ((l.attach.any fun x => wrSt a b x.1) || (l'.attach.any fun x => wrSt a b x.1))
termination_by e => SizeOf.sizeOf e
decreasing_by all_goals (have := List.sizeOf_lt_of_mem x.2; simp; omega)
theorem wrSt_eq (a b : Int) (s : ISt) : wrSt a b s = ((s.f0 == 1 && (s.f1.f0 == a && (s.f1.f1 == b))) || (s.f3.any (wrSt a b) || s.f4.any (wrSt a b))) := by
 cases s with
 | mk k t e l l' => rw [wrSt]; simp
def WrCon (l : List ISt) : Prop := ∀ (A : Option Addr) (c : Nat) (a b : Int) (w : World), Kd.C k35 w A l.length l → l.length ≤ c →
 Calls Tryz.prog 53 #[.slice A l.length c, .agg #[.int .i64 a, .int .i64 b]] w fun e w' => e = .returned (.bool (l.any (wrSt a b))) ∧ Below w.heap.size w w'
set_option maxRecDepth 100000 in
set_option maxHeartbeats 4000000 in
theorem wrClos (x : ISt) (h3 : WrCon x.f3) (h4 : WrCon x.f4) (A7 : Option Addr) (c7 : Nat) (A8 : Option Addr) (c8 : Nat) (A9 : Option Addr) (c9 : Nat) (a b : Int) (g : Nat) (w : World) (hg : w.heap[g]? = some (.cells #[.int .i64 a, .int .i64 b] 24 (0, 0)))
  (h8 : Kd.C k35 w A8 x.f3.length x.f3) (l8 : x.f3.length ≤ c8) (h9 : Kd.C k35 w A9 x.f4.length x.f4) (l9 : x.f4.length ≤ c9) :
  Calls Tryz.prog 88 #[.agg (stCells x A7 c7 A8 c8 A9 c9), .pointer (some ⟨g, 0, none⟩)] w fun e w' => e = .returned (.bool (wrSt a b x)) ∧ Below w.heap.size w w' := by
 have HC := Aside0.mk (And.intro h8 (And.intro l8 (And.intro h9 l9)))
 have HK := Aside0.mk (And.intro h3 h4)
 have HE := Aside0.mk (wrSt_eq a b x)
 have HG := Aside0.mk hg
 clear h8 l8 h9 l9 h3 h4 hg
 unfold stCells
 go_enter Tryz.func88, Tryz.ntmps88
 go_upto_region 1 with (fail)
 have j1 := heap_alloc_new w (.cells (stCells x A7 c7 A8 c8 A9 c9) 35)
 have hb1 : Below w.heap.size w (w.alloc (.cells (stCells x A7 c7 A8 c8 A9 c9) 35)) := (Below.refl _ _).alloc (Nat.le_refl _) _
 unfold stCells at j1 hb1
 generalize w.alloc (.cells #[.int .i64 x.f0, .int .i64 x.f1.f0, .int .i64 x.f1.f1, .int .i64 x.f2.f0, .int .i64 x.f2.f1, .int .i64 x.f2.f2.f0, .int .i64 x.f2.f2.f1, .slice A7 x.f2.f3.length c7, .slice A8 x.f3.length c8, .slice A9 x.f4.length c9] 35) = W1 at j1 hb1 ⊢
 have g1 := (hb1.block _ (blk_lt HG.out)).trans HG.out
 have q0 : W1.cell? ⟨g, 0, none⟩ = some (.int .i64 a) := (blk_cell g1 0).trans rfl
 have q1 : W1.cell? ⟨g, 1, none⟩ = some (.int .i64 b) := (blk_cell g1 1).trans rfl
 have HW1 := Aside0.mk (And.intro j1 (And.intro g1 hb1))
 clear g1 hb1
 obtain ⟨e0, e1, e2, e3, e4, e5, e6, e7, e8, e9, _⟩ := cel10 j1
 clear j1
 have HCALL3 := Aside0.mk (HK.out.1 A8 c8 a b W1 (Kd.C_below HC.out.1 HW1.out.2.2) HC.out.2.1)
 cases z0 : (x.f0 == 1) with
 | false =>
  have HS := Aside0.mk (show (x.f0 == 1 && (x.f1.f0 == a && (x.f1.f1 == b))) = false by rw [z0]; rfl)
  go_wp2_with fail
  refine HCALL3.out.mono ?_
  clear HCALL3
  rintro e w2 ⟨rfl, hb2⟩
  have j2 := (hb2.block _ (blk_lt HW1.out.1)).trans HW1.out.1
  have g2 := (hb2.block _ (blk_lt HW1.out.2.1)).trans HW1.out.2.1
  have HW2 := Aside0.mk (And.intro j2 (And.intro g2 (HW1.out.2.2.trans (hb2.mono HW1.out.2.2.size))))
  clear q0 q1 e0 e1 e2 e3 e4 e5 e6 e7 e8 e9 hb2
  cases y3 : x.f3.any (wrSt a b) with
  | true =>
   have H3 := Aside0.mk y3; clear y3 j2 g2
   go_wp2
   go_ret
   exact ⟨by rw [HE.out, HS.out, H3.out]; rfl, HW2.out.2.2⟩
  | false =>
   have H3 := Aside0.mk y3; clear y3
   have q0 : w2.cell? ⟨g, 0, none⟩ = some (.int .i64 a) := (blk_cell g2 0).trans rfl
   have q1 : w2.cell? ⟨g, 1, none⟩ = some (.int .i64 b) := (blk_cell g2 1).trans rfl
   obtain ⟨e0, e1, e2, e3, e4, e5, e6, e7, e8, e9, _⟩ := cel10 j2
   clear j2 g2
   have HCALL4 := Aside0.mk (HK.out.2 A9 c9 a b w2 (Kd.C_below HC.out.2.2.1 HW2.out.2.2) HC.out.2.2.2)
   go_wp2_with fail
   refine HCALL4.out.mono ?_
   clear HCALL4
   rintro e w3 ⟨rfl, hb3⟩
   have HB3 := Aside0.mk (HW2.out.2.2.trans (hb3.mono HW2.out.2.2.size))
   clear q0 q1 e0 e1 e2 e3 e4 e5 e6 e7 e8 e9 hb3
   go_wp2
   go_ret
   exact ⟨by rw [HE.out, HS.out, H3.out]; rfl, HB3.out⟩
 | true =>
  cases z1 : (x.f1.f0 == a && (x.f1.f1 == b)) with
  | true =>
   have HS := Aside0.mk (show (x.f0 == 1 && (x.f1.f0 == a && (x.f1.f1 == b))) = true by rw [z0, z1]; rfl)
   go_wp2
   go_ret
   exact ⟨by rw [HE.out, HS.out]; rfl, HW1.out.2.2⟩
  | false =>
   have HS := Aside0.mk (show (x.f0 == 1 && (x.f1.f0 == a && (x.f1.f1 == b))) = false by rw [z0, z1]; rfl)
   go_wp2_with fail
   refine HCALL3.out.mono ?_
   clear HCALL3
   rintro e w2 ⟨rfl, hb2⟩
   have j2 := (hb2.block _ (blk_lt HW1.out.1)).trans HW1.out.1
   have g2 := (hb2.block _ (blk_lt HW1.out.2.1)).trans HW1.out.2.1
   have HW2 := Aside0.mk (And.intro j2 (And.intro g2 (HW1.out.2.2.trans (hb2.mono HW1.out.2.2.size))))
   clear q0 q1 e0 e1 e2 e3 e4 e5 e6 e7 e8 e9 hb2
   cases y3 : x.f3.any (wrSt a b) with
   | true =>
    have H3 := Aside0.mk y3; clear y3 j2 g2
    go_wp2
    go_ret
    exact ⟨by rw [HE.out, HS.out, H3.out]; rfl, HW2.out.2.2⟩
   | false =>
    have H3 := Aside0.mk y3; clear y3
    have q0 : w2.cell? ⟨g, 0, none⟩ = some (.int .i64 a) := (blk_cell g2 0).trans rfl
    have q1 : w2.cell? ⟨g, 1, none⟩ = some (.int .i64 b) := (blk_cell g2 1).trans rfl
    obtain ⟨e0, e1, e2, e3, e4, e5, e6, e7, e8, e9, _⟩ := cel10 j2
    clear j2 g2
    have HCALL4 := Aside0.mk (HK.out.2 A9 c9 a b w2 (Kd.C_below HC.out.2.2.1 HW2.out.2.2) HC.out.2.2.2)
    go_wp2_with fail
    refine HCALL4.out.mono ?_
    clear HCALL4
    rintro e w3 ⟨rfl, hb3⟩
    have HB3 := Aside0.mk (HW2.out.2.2.trans (hb3.mono HW2.out.2.2.size))
    clear q0 q1 e0 e1 e2 e3 e4 e5 e6 e7 e8 e9 hb3
    go_wp2
    go_ret
    exact ⟨by rw [HE.out, HS.out, H3.out]; rfl, HB3.out⟩
set_option maxRecDepth 100000 in
set_option maxHeartbeats 4000000 in
theorem wr_of (l : List ISt) (ih : ∀ x ∈ l, WrCon x.f3 ∧ WrCon x.f4) : WrCon l := by
 intro A c a b w hC hc
 have hbox : (w.alloc (.cells #[.int .i64 a, .int .i64 b] 24)).heap[w.heap.size]? = some (.cells #[.int .i64 a, .int .i64 b] 24 (0, 0)) := World.alloc_heap_new w _
 have hb0 : Below w.heap.size w (w.alloc (.cells #[.int .i64 a, .int .i64 b] 24)) := (Below.refl _ _).alloc (Nat.le_refl _) _
 have HCALL := Aside0.mk (containsFuncSt_any 88 #[.pointer (some ⟨w.heap.size, 0, none⟩)] (wrSt a b) (enters_of Tryz.func88 (by kernel_rfl) rfl) l A c (w.alloc (.cells #[.int .i64 a, .int .i64 b] 24))
  (fun x A7 c7 A8 c8 A9 c9 W hx hW g7 l7 g8 l8 g9 l9 => by simpa using wrClos x (ih x hx).1 (ih x hx).2 A7 c7 A8 c8 A9 c9 a b w.heap.size W ((hW.block _ (blk_lt hbox)).trans hbox) g8 l8 g9 l9) (Kd.C_below hC hb0) hc)
 have HB := Aside0.mk hb0
 clear hbox hb0 hC hc ih
 go_enter Tryz.func53, Tryz.ntmps53
 go_wp2_with fail
 refine HCALL.out.mono ?_
 rintro e w1 ⟨rfl, hb1⟩
 have HB1 := Aside0.mk (HB.out.trans (hb1.mono HB.out.size))
 clear hb1 HCALL
 go_wp2
 go_ret
 exact ⟨rfl, HB1.out⟩
theorem wr_kids (s : ISt) : WrCon s.f3 ∧ WrCon s.f4 := istInd (P := fun s => WrCon s.f3 ∧ WrCon s.f4) (fun s h3 h4 => ⟨wr_of _ h3, wr_of _ h4⟩) s
theorem wr_any (l : List ISt) : WrCon l := wr_of l (fun x _ => wr_kids x)
end Go.Proofs.YtendbgedpjcocaaGreatDoor.B
/- Plain law: the specification's own reckoning of what is written ends, and says what impl's says. -/
namespace Go.Proofs.YtendbgedpjcocaaGreatDoor.B
open Go.RowKit Go.Proofs.YtendbgedpjcocaaGreatDoorW.PrintWords Go.Proofs.YtendbgedpjcocaaGreatDoorW.PrintLast Go.Proofs.YtendbgedpjcocaaGreatDoorW.PrintMore
set_option linter.unusedVariables false
theorem or_part {f g : Nat → Option Bool} {a b : Bool} (hf : Ends f a) (hg : Ends g b) : Ends (fun k => (f k).bind fun t => if t = true then some true else g k) (a || b) := by
 refine hf.bind (g := fun k t => if t = true then some true else g k) ?_
 cases a with
 | true => exact Ends.const fun k => rfl
 | false => exact hg.of fun k => by rw [if_neg (by simp)]
def WrEnds (a b : Int) (l : List ISt) : Prop := Ends (fun k => spec_l10Writes.f k l a b) (l.any (wrSt a b))
theorem wr_loop (a b : Int) (l : List ISt) (hl : l.length ≤ 1048576) (ih : ∀ s ∈ l, WrEnds a b s.f3 ∧ WrEnds a b s.f4) :
  ∀ (e j : Nat), j + e = l.length → Ends (fun k => spec_l10Writes.l0 k l j a b) ((l.drop j).any (wrSt a b)) := by
 intro e
 induction e with
 | zero =>
  intro j hj
  refine Ends.succ (fun k => by rw [spec_l10Writes.l0, if_neg (by omega)]) (Ends.const fun k => ?_)
  rw [List.drop_of_length_le (by omega)]; rfl
 | succ e ihe =>
  intro j hj
  have hjl : j < l.length := by omega
  have hdr : l.drop j = l[j] :: l.drop (j + 1) := List.drop_eq_getElem_cons hjl
  rw [hdr, List.any_cons, wrSt_eq]
  refine Ends.succ (fun k => by rw [spec_l10Writes.l0, if_pos (by omega), if_pos (by omega), rdI_st l j hjl, show wrap64 ((j : Int) + 1) = ((j + 1 : Nat) : Int) by rw [wrap_in (by omega) (by omega)]; omega]) ?_
  obtain ⟨h3, h4⟩ := ih l[j] (List.getElem_mem hjl)
  have hrest := or_part h3 (or_part h4 (ihe (j + 1) (by omega)))
  by_cases h1 : l[j].f0 = 1
  ·cases h2 : (l[j].f1.f0 == a && (l[j].f1.f1 == b)) with
   | true =>
    refine Ends.const fun k => ?_
    rw [if_pos h1, if_pos rfl, show (l[j].f0 == 1) = true from beq_iff_eq.2 h1]; rfl
   | false =>
    rw [show (l[j].f0 == 1) = true from beq_iff_eq.2 h1, Bool.true_and, Bool.false_or, Bool.or_assoc]
    exact hrest.of fun k => by rw [if_pos h1, if_neg (by simp)]
  ·rw [show (l[j].f0 == 1) = false from beq_false_of_ne h1, Bool.false_and, Bool.false_or, Bool.or_assoc]
   exact hrest.of fun k => by rw [if_neg h1]
theorem wr_specs (a b : Int) (l : List ISt) (hl : l.length ≤ 1048576) (ih : ∀ s ∈ l, WrEnds a b s.f3 ∧ WrEnds a b s.f4) : WrEnds a b l := by
 refine Ends.succ (fun k => by rw [spec_l10Writes.f]) ?_
 have := wr_loop a b l hl ih l.length 0 (by omega)
 rw [List.drop_zero] at this
 exact this
theorem wr_spec_kids (a b : Int) (s : ISt) : istOk s → WrEnds a b s.f3 ∧ WrEnds a b s.f4 := by
 refine istInd (P := fun s => istOk s → WrEnds a b s.f3 ∧ WrEnds a b s.f4) ?_ s
 intro s ih ih' ho
 rw [istOk_eq] at ho
 exact ⟨wr_specs a b _ ho.2.1.1 (fun x hx => ih x hx (ho.2.1.2 x hx)), wr_specs a b _ ho.2.2.1 (fun x hx => ih' x hx (ho.2.2.2 x hx))⟩
theorem wr_spec (a b : Int) (l : List ISt) (hl : l.length ≤ 1048576) (h : ∀ s ∈ l, istOk s) : WrEnds a b l := wr_specs a b l hl (fun s hs => wr_spec_kids a b s (h s hs))
end Go.Proofs.YtendbgedpjcocaaGreatDoor.B
