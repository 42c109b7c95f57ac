import Derived.Test.YtacbbpbopmdpeaaOfSpec
import Derived.Test.YtacbbpbopmdpeaaDrawAll
import Derived.Test.YtacbbpbopmdpeaaZOf
import Derived.Test.YtacbbpbopmdpeaaZOk
import Derived.Test.YtacbbpbopmdpeaaWeaveAll
import Derived.Test.YtacbbpbopmdpeaaPkB
import Derived.Test.YtacbbpbopmdpeaaPkC
import Derived.Test.YtacbbpbopmdpeaaPkA
/- What is reckoned of two and of one: plain facts. -/
namespace Go.Proofs.Ytacbbpbopmdpeaa.B
open Go.RowKit Go.Proofs.YtacbbpbopmdpeaaW.PrintWords Go.Proofs.YtacbbpbopmdpeaaW.PrintLast Go.Proofs.YtacbbpbopmdpeaaW.PrintMore
set_option linter.unusedVariables false

def okE (e : Ex) : Bool := formS 6 e && decide (manyS 6 e ≤ 14)
theorem ofV_eq (e : Ex) (l0 l1 l2 : List Int) : ofV e l0 l1 l2 = if memOkL l0 l1 l2 && okE e then evalI (l0 ++ l1 ++ l2) e else 0 := by rw [ofV, okL_eq]; rfl
def cutL (n : Int) : Int := if n < -1000000 then -1000000 else if 1000000 < n then 1000000 else n
theorem cutI (n : Int) : impl_NumCut.f n = some (cutL n) := by rw [← cut_eq, numCut_is]; rfl
theorem cutL_in (n : Int) : -1000000 ≤ cutL n ∧ cutL n ≤ 1000000 := by
 unfold cutL
 split
 ·omega
 ·split <;> omega
theorem cutL_id {n : Int} (h : -1000000 ≤ n ∧ n ≤ 1000000) : cutL n = n := by
 unfold cutL
 rw [if_neg (by omega), if_neg (by omega)]
theorem wrap_inE {n : Int} (h : -9223372036854775808 ≤ n ∧ n ≤ 9223372036854775807) : wrap64 n = n := wrap_small h.1 h.2
theorem mul_in (a b : Int) (ha : -1000000 ≤ a ∧ a ≤ 1000000) (hb : -1000000 ≤ b ∧ b ≤ 1000000) : -1000000000000 ≤ a * b ∧ a * b ≤ 1000000000000 := by
 have h1 : (a * b).natAbs ≤ 1000000 * 1000000 := by rw [Int.natAbs_mul]; exact Nat.mul_le_mul (by omega) (by omega)
 omega
theorem add_is (a b : Int) : impl_NumAdd.f a b = some (cutL (cutL a + cutL b)) := by
 have ha := cutL_in a
 have hb := cutL_in b
 rw [impl_NumAdd.f, impl_maker_of.f, cutI, cutI]
 simp only [Option.bind_some, if_pos]
 rw [wrap_inE (by omega), cutI]; rfl
theorem sub_is (a b : Int) : impl_NumSub.f a b = some (cutL (cutL a - cutL b)) := by
 have ha := cutL_in a
 have hb := cutL_in b
 rw [impl_NumSub.f, impl_maker_of.f, cutI, cutI]
 simp only [Option.bind_some]
 rw [if_neg (by decide), if_pos trivial, wrap_inE (by omega), cutI]; rfl
theorem mul_is (a b : Int) : impl_NumMul.f a b = some (cutL (cutL a * cutL b)) := by
 have hm := mul_in _ _ (cutL_in a) (cutL_in b)
 rw [impl_NumMul.f, impl_maker_of.f, cutI, cutI]
 simp only [Option.bind_some]
 rw [if_neg (by decide), if_neg (by decide), wrap_inE (by omega), cutI]; rfl
def isL (b : Bool) : Int := if b then 1 else 0
theorem numIs_is (b : Bool) : impl_NumIs.f b = some (isL b) := by cases b <;> rfl
theorem numOn_is (n : Int) : impl_NumOn.f n = some (n != 0) := rfl
theorem two3 (a b : Int) : twoI 3 a b = cutL (cutL a + cutL b) := by
 have h := two_some 3 a b
 rw [impl_two.f, if_pos rfl, add_is] at h
 exact (Option.some.inj h).symm
theorem two4 (a b : Int) : twoI 4 a b = cutL (cutL a - cutL b) := by
 have h := two_some 4 a b
 rw [impl_two.f, if_neg (by decide), if_pos rfl, sub_is] at h
 exact (Option.some.inj h).symm
theorem two5 (a b : Int) : twoI 5 a b = cutL (cutL a * cutL b) := by
 have h := two_some 5 a b
 rw [impl_two.f, if_neg (by decide), if_neg (by decide), if_pos rfl, mul_is] at h
 exact (Option.some.inj h).symm
theorem two6 (a b : Int) : twoI 6 a b = isL (decide (a < b)) := by
 have h := two_some 6 a b
 rw [impl_two.f, if_neg (by decide), if_neg (by decide), if_neg (by decide), if_pos rfl, numIs_is] at h
 exact (Option.some.inj h).symm
theorem two7 (a b : Int) : twoI 7 a b = isL (a == b) := by
 have h := two_some 7 a b
 rw [impl_two.f, if_neg (by decide), if_neg (by decide), if_neg (by decide), if_neg (by decide), if_pos rfl, numIs_is] at h
 exact (Option.some.inj h).symm
theorem two8 (a b : Int) : twoI 8 a b = isL (a != 0 && b != 0) := by
 have h := two_some 8 a b
 rw [impl_two.f, if_neg (by decide), if_neg (by decide), if_neg (by decide), if_neg (by decide), if_neg (by decide), if_pos rfl, numOn_is, numOn_is] at h
 simp only [Option.bind_some, numIs_is] at h
 cases ha : (a != 0) <;> rw [ha] at h <;> simp at h <;> rw [← h] <;> rfl
theorem two9 (a b : Int) : twoI 9 a b = isL (a != 0 || b != 0) := by
 have h := two_some 9 a b
 rw [impl_two.f, if_neg (by decide), if_neg (by decide), if_neg (by decide), if_neg (by decide), if_neg (by decide), if_neg (by decide), numOn_is, numOn_is] at h
 simp only [Option.bind_some, numIs_is] at h
 cases ha : (a != 0) <;> rw [ha] at h <;> simp at h <;> rw [← h] <;> rfl

def n2 (k : Int) (a b : Ex) : Ex := ⟨k, 0, ⟨0, 0⟩, [a, b]⟩
def n1 (a : Ex) : Ex := ⟨10, 0, ⟨0, 0⟩, [a]⟩
theorem eval_n2 (bs : List Int) (k : Int) (h : 3 ≤ k ∧ k ≤ 9) (a b : Ex) : evalI bs (n2 k a b) = twoI k (evalI bs a) (evalI bs b) := by
 rw [evalI_eq, n2]
 simp only
 rw [if_neg (by omega), if_neg (by omega), if_neg (by omega)]; rfl
theorem eval_n1 (bs : List Int) (a : Ex) : evalI bs (n1 a) = isL (evalI bs a == 0) := by
 rw [evalI_eq, n1]
 simp only
 rw [if_neg (by decide), if_neg (by decide), if_pos trivial]
 simp [isL]
theorem head_n2 (k : Int) (h : 3 ≤ k ∧ k ≤ 9) (a b : Ex) : headOk (n2 k a b) = true := by
 have h1 : kindOk k = true := decide_eq_true (by omega)
 have h2 : kidsN k = 2 := by unfold kidsN; rw [if_neg (by omega), if_pos (by omega)]
 have h3 : shapeL k 0 0 0 = true := by unfold shapeL; rw [if_neg (by omega), if_neg (by omega)]; rfl
 unfold headOk n2
 simp only
 rw [h1, h2, h3]; rfl
theorem head_n1 (a : Ex) : headOk (n1 a) = true := by unfold headOk n1; rfl
theorem form_n2 (d : Nat) (k : Int) (h : 3 ≤ k ∧ k ≤ 9) (a b : Ex) : formS (d + 1) (n2 k a b) = (formS d a && formS d b) := by
 rw [formS, head_n2 k h]; simp [n2]
theorem form_n1 (d : Nat) (a : Ex) : formS (d + 1) (n1 a) = formS d a := by rw [formS, head_n1]; simp [n1]
theorem many_n2 (d : Nat) (k : Int) (a b : Ex) : manyS (d + 1) (n2 k a b) = 1 + (manyS d a + manyS d b) := by rw [manyS]; simp [n2]
theorem many_n1 (d : Nat) (a : Ex) : manyS (d + 1) (n1 a) = 1 + manyS d a := by rw [manyS]; simp [n1]
theorem form_up (d : Nat) : ∀ e : Ex, formS d e = true → formS (d + 1) e = true := by
 induction d with
 | zero => intro e h; cases h
 | succ d ih =>
  intro e h
  rw [formS, Bool.and_eq_true, List.all_eq_true] at h ⊢
  exact ⟨h.1, fun x hx => ih x (h.2 x hx)⟩
theorem many_up (d : Nat) : ∀ e : Ex, formS d e = true → manyS (d + 1) e = manyS d e := by
 induction d with
 | zero => intro e h; cases h
 | succ d ih =>
  intro e h
  rw [formS, Bool.and_eq_true, List.all_eq_true] at h
  rw [manyS, manyS]
  have : e.f3.map (manyS (d + 1)) = e.f3.map (manyS d) := List.map_congr_left (fun x hx => ih x (h.2 x hx))
  rw [this]
theorem form_to {d n : Nat} (h : d ≤ n) (e : Ex) (hf : formS d e = true) : formS n e = true := by
 obtain ⟨m, rfl⟩ : ∃ m, n = d + m := ⟨n - d, by omega⟩
 clear h
 induction m with
 | zero => exact hf
 | succ m ih => exact form_up _ e ih
theorem many_to {d n : Nat} (h : d ≤ n) (e : Ex) (hf : formS d e = true) : manyS n e = manyS d e := by
 obtain ⟨m, rfl⟩ : ∃ m, n = d + m := ⟨n - d, by omega⟩
 clear h
 induction m with
 | zero => rfl
 | succ m ih => rw [← ih]; exact many_up _ e (form_to (Nat.le_add_right d m) e hf)
theorem okE_iff (e : Ex) : okE e = true ↔ formS 6 e = true ∧ manyS 6 e ≤ 14 := by unfold okE; rw [Bool.and_eq_true, decide_eq_true_eq]
theorem okE_n2 (k : Int) (h : 3 ≤ k ∧ k ≤ 9) (a b : Ex) : okE (n2 k a b) = true ↔ (formS 5 a = true ∧ formS 5 b = true) ∧ 1 + (manyS 5 a + manyS 5 b) ≤ 14 := by
 rw [okE_iff, form_n2 5 k h, many_n2, Bool.and_eq_true]
theorem okE_n1 (a : Ex) : okE (n1 a) = true ↔ formS 5 a = true ∧ 1 + manyS 5 a ≤ 14 := by rw [okE_iff, form_n1, many_n1]
theorem le_sum_mem : ∀ {l : List Nat} {a : Nat}, a ∈ l → a ≤ l.sum
 | x :: l, a, h => by
  rcases List.mem_cons.1 h with rfl | h
  ·simp
  ·have := le_sum_mem h; simp; omega
theorem okE_kid {e x : Ex} (h : okE e = true) (hx : x ∈ e.f3) : okE x = true := by
 rw [okE_iff] at h ⊢
 obtain ⟨hf, hm⟩ := h
 rw [formS, Bool.and_eq_true, List.all_eq_true] at hf
 have hk := hf.2 x hx
 refine ⟨form_up 5 x hk, ?_⟩
 rw [many_up 5 x hk]
 rw [manyS] at hm
 have : manyS 5 x ≤ (e.f3.map (manyS 5)).sum := le_sum_mem (List.mem_map_of_mem hx)
 omega
theorem okE_sub {d : Nat} (hd : d ≤ 6) {a : Ex} (hf : formS d a = true) (hm : manyS d a ≤ 14) : okE a = true := (okE_iff a).2 ⟨form_to hd a hf, by rw [many_to hd a hf]; exact hm⟩

/-- What is reckoned is within its bounds. -/
theorem evalI_in (bs : List Int) (hb : ∀ x ∈ bs, -1000000 ≤ x ∧ x ≤ 1000000) (d : Nat) : ∀ e : Ex, formS d e = true → -1000000 ≤ evalI bs e ∧ evalI bs e ≤ 1000000 := by
 intro e hf
 cases d with
 | zero => cases hf
 | succ d =>
  rw [formS, Bool.and_eq_true] at hf
  have hh := hf.1
  unfold headOk at hh
  rw [Bool.and_eq_true, Bool.and_eq_true] at hh
  obtain ⟨⟨hk, _⟩, hs⟩ := hh
  have hk' : 1 ≤ e.f0 ∧ e.f0 ≤ 10 := of_decide_eq_true hk
  rw [evalI_eq]
  have hil : ∀ b : Bool, -1000000 ≤ isL b ∧ isL b ≤ 1000000 := fun b => by cases b <;> decide
  split
  ·next h1 =>
   rw [shapeL, if_pos h1, Bool.and_eq_true] at hs
   exact of_decide_eq_true hs.1
  ·split
   ·unfold getL
    split
    ·rw [List.getD_eq_getElem?_getD]
     cases hg : bs[((e.f2.f0 - 1) * 6 + e.f2.f1).toNat]? with
     | none => exact ⟨by decide, by decide⟩
     | some y => exact hb y (List.mem_of_getElem? hg)
    ·omega
   ·split
    ·split <;> omega
    ·have : e.f0 = 3 ∨ e.f0 = 4 ∨ e.f0 = 5 ∨ e.f0 = 6 ∨ e.f0 = 7 ∨ e.f0 = 8 ∨ e.f0 = 9 := by omega
     rcases this with h | h | h | h | h | h | h <;> rw [h]
     ·rw [two3]; exact cutL_in _
     ·rw [two4]; exact cutL_in _
     ·rw [two5]; exact cutL_in _
     ·rw [two6]; exact hil _
     ·rw [two7]; exact hil _
     ·rw [two8]; exact hil _
     ·rw [two9]; exact hil _
theorem listOk_in {l : List Int} (h : listOk l = true) : ∀ x ∈ l, -1000000 ≤ x ∧ x ≤ 1000000 := by
 unfold listOk at h
 rw [Bool.and_eq_true, Bool.not_eq_true', List.any_eq_false] at h
 intro x hx
 have := h.2 x hx
 simp only [Bool.not_eq_true, Bool.not_eq_false'] at this
 exact of_decide_eq_true this
theorem memOk_in {l0 l1 l2 : List Int} (h : memOkL l0 l1 l2 = true) : ∀ x ∈ l0 ++ l1 ++ l2, -1000000 ≤ x ∧ x ≤ 1000000 := by
 unfold memOkL at h
 rw [Bool.and_eq_true, Bool.and_eq_true] at h
 intro x hx
 rw [List.mem_append, List.mem_append] at hx
 rcases hx with (hx | hx) | hx
 ·exact listOk_in h.1 x hx
 ·exact listOk_in h.2.1 x hx
 ·exact listOk_in h.2.2 x hx
theorem ofV_in (e : Ex) (l0 l1 l2 : List Int) : -1000000 ≤ ofV e l0 l1 l2 ∧ ofV e l0 l1 l2 ≤ 1000000 := by
 rw [ofV_eq]
 split
 ·next h =>
  rw [Bool.and_eq_true, okE_iff] at h
  exact evalI_in _ (memOk_in h.1) 6 e h.2.1
 ·omega
end Go.Proofs.Ytacbbpbopmdpeaa.B
/- What the specification and the program say of what is drawn, for every number of rounds that is great enough. -/
namespace Go.Proofs.Ytacbbpbopmdpeaa.B
open Go.RowKit Go.Proofs.YtacbbpbopmdpeaaW.PrintWords Go.Proofs.YtacbbpbopmdpeaaW.PrintLast Go.Proofs.YtacbbpbopmdpeaaW.PrintMore
set_option linter.unusedVariables false

theorem ev_up {α : Type} {f : Nat → Option α} (h : ∀ k, LeO (f k) (f (k + 1))) {r : α} (hr : ∃ k, f k = some r) : ∃ K, ∀ k, K ≤ k → f k = some r := by
 obtain ⟨K, hK⟩ := hr
 exact ⟨K, fun k hk => up_le h hk hK⟩
theorem specOk_ev (e : Ex) (he : Short e) : ∃ K, ∀ k, K ≤ k → spec_ExprOk.f k e.f0 e.f1 e.f2.f0 e.f2.f1 e.f3 = some (okE e) :=
 ev_up (f := fun k => spec_ExprOk.f k e.f0 e.f1 e.f2.f0 e.f2.f1 e.f3) (fun k => spec_ExprOk.mono _ _ _ _ _ k) (exprOk_spec e he)
theorem specMem_ev (m0 m1 m2 : List Int) (h : Mini m0 m1 m2) : ∃ K, ∀ k, K ≤ k → spec_MemOk.f k m0 m1 m2 = some (memOkL m0 m1 m2) :=
 ev_up (f := fun k => spec_MemOk.f k m0 m1 m2) (fun k => spec_MemOk.mono _ _ _ k) (memOk_spec m0 m1 m2 (by have := h.1; omega) (by have := h.2.1; omega) (by have := h.2.2; omega))
theorem specOf_ev (e : Ex) (he : Short e) (m0 m1 m2 : List Int) (h : Mini m0 m1 m2) : ∃ K, ∀ k, K ≤ k → spec_ExprOf.f k e.f0 e.f1 e.f2.f0 e.f2.f1 e.f3 m0 m1 m2 = some (ofV e m0 m1 m2) :=
 ev_up (f := fun k => spec_ExprOf.f k e.f0 e.f1 e.f2.f0 e.f2.f1 e.f3 m0 m1 m2) (fun k => spec_ExprOf.mono _ _ _ _ _ _ _ _ k) (exprOf_spec e he m0 m1 m2 (by have := h.1; omega) (by have := h.2.1; omega) (by have := h.2.2; omega))
theorem implOf (e : Ex) (m0 m1 m2 : List Int) : impl_ExprOf.f e.f0 e.f1 e.f2.f0 e.f2.f1 e.f3 m0 m1 m2 = some (ofV e m0 m1 m2) := by rw [impl_ExprOf.f, ex_eta]
theorem implOk (e : Ex) : impl_ExprOk.f e.f0 e.f1 e.f2.f0 e.f2.f1 e.f3 = some (okE e) := by rw [impl_ExprOk.f, ex_eta]; rfl
theorem ofV_yes {e : Ex} {m0 m1 m2 : List Int} (hm : memOkL m0 m1 m2 = true) (ho : okE e = true) : ofV e m0 m1 m2 = evalI (m0 ++ m1 ++ m2) e := by rw [ofV_eq, hm, ho]; rfl
theorem ofV_no {e : Ex} {m0 m1 m2 : List Int} (h : okE e = false ∨ memOkL m0 m1 m2 = false) : ofV e m0 m1 m2 = 0 := by
 rw [ofV_eq]
 rcases h with h | h <;> rw [h] <;> simp
theorem short_n2 (k : Int) {a b : Ex} (ha : Short a) (hb : Short b) : Short (n2 k a b) := .mk _ (by simp [n2]) (by intro x hx; simp [n2] at hx; rcases hx with rfl | rfl <;> assumption)
theorem short_n1 {a : Ex} (ha : Short a) : Short (n1 a) := .mk _ (by simp [n1]) (by intro x hx; simp [n1] at hx; rw [hx]; exact ha)
end Go.Proofs.Ytacbbpbopmdpeaa.B
/- Trees and memories as values that are only read, and the functions over them. -/
namespace Go.Proofs.Ytacbbpbopmdpeaa.B
open Go Go.RowKit Go.Proofs.YtacbbpbopmdpeaaW.PrintWords Go.Proofs.YtacbbpbopmdpeaaW.PrintLast Go.Proofs.YtacbbpbopmdpeaaW.PrintMore
set_option linter.unusedVariables false

/-- A tree's cells, a memory's cells. -/
def eA (x : Ex) (A : Option Addr) (c : Nat) : Array Value := #[.int .i64 x.f0, .int .i64 x.f1, .int .i64 x.f2.f0, .int .i64 x.f2.f1, .slice A x.f3.length c]
def mA (m : List Int × List Int × List Int) (p : (Option Addr × Nat) × (Option Addr × Nat) × (Option Addr × Nat)) : Array Value := #[.slice p.1.1 m.1.length p.1.2, .slice p.2.1.1 m.2.1.length p.2.1.2, .slice p.2.2.1 m.2.2.length p.2.2.2]
def eZ : Array Value := #[.int .i64 0, .int .i64 0, .int .i64 0, .int .i64 0, .slice none 0 0]
def mZ : Array Value := #[.slice none 0 0, .slice none 0 0, .slice none 0 0]
theorem eA_one (x : Ex) (A : Option Addr) (c : Nat) : (eA x A c).all (·.oneCell') = true := by simp [eA, Value.oneCell']
theorem mA_one (m : List Int × List Int × List Int) (p : (Option Addr × Nat) × (Option Addr × Nat) × (Option Addr × Nat)) : (mA m p).all (·.oneCell') = true := by simp [mA, Value.oneCell']
theorem get_eA {W : World} {g : Nat} {x : Ex} {A : Option Addr} {c : Nat} (h : Box W g 27 (eA x A c)) : (Instr.loadAt 27 (.pointer (some ⟨g, 0, none⟩))).run Try.prog W = .ok (.agg (eA x A c)) W := run_get h Try.underlying27 rfl (by kernel_rfl)
theorem get_mA {W : World} {g : Nat} {m : List Int × List Int × List Int} {p : (Option Addr × Nat) × (Option Addr × Nat) × (Option Addr × Nat)} (h : Box W g 30 (mA m p)) : (Instr.loadAt 30 (.pointer (some ⟨g, 0, none⟩))).run Try.prog W = .ok (.agg (mA m p)) W := run_get h Try.underlying30 rfl (by kernel_rfl)
section
variable {ops : Array Oper} {rest : List Oper} {o : Oper} {a : Act} {Q : Exit → Act → World → Prop} {W : World}
theorem getE_ {N q : Tmp} {g : Nat} {x : Ex} {A : Option Addr} {c : Nat} (ho : o.op = .load 27 (.tmp q)) (hd : o.dst = some N) (hg : o.guard = none) (hx : a.eval (.tmp q) = .pointer (some ⟨g, 0, none⟩)) (hb : Box W g 27 (eA x A c))
  (h : wpList Try.prog ops Q rest (a.put (some N) (.agg (eA x A c))) W) : wpList Try.prog ops Q (o :: rest) a W := boxGet_ ho hd hg hx hb Try.underlying27 rfl (by kernel_rfl) h
theorem getM_ {N q : Tmp} {g : Nat} {m : List Int × List Int × List Int} {p : (Option Addr × Nat) × (Option Addr × Nat) × (Option Addr × Nat)} (ho : o.op = .load 30 (.tmp q)) (hd : o.dst = some N) (hg : o.guard = none) (hx : a.eval (.tmp q) = .pointer (some ⟨g, 0, none⟩)) (hb : Box W g 30 (mA m p))
  (h : wpList Try.prog ops Q rest (a.put (some N) (.agg (mA m p))) W) : wpList Try.prog ops Q (o :: rest) a W := boxGet_ ho hd hg hx hb Try.underlying30 rfl (by kernel_rfl) h
end
structure TVo (W : World) (ok : Nat → Prop) (x : Ex) (A : Option Addr) (c : Nat) : Prop where
 v : Kd.V k27 27 W 0 ok (.slice A x.f3.length c) x.f3
abbrev TV (W : World) (x : Ex) (A : Option Addr) (c : Nat) : Prop := TVo W (fun _ => True) x A c
theorem TV.ofN {W : World} {x : Ex} {B : Option Addr} {d base : Nat} {ok ok' : Nat → Prop} (h : Kd.N k27 27 W base ok (.slice B x.f3.length d) x.f3) (hok : ∀ k, ok k → ok' k) : TVo W ok' x B d := ⟨Kd.V_mono (Kd.N_V (base' := 0) h) hok⟩
theorem TV.last (x : Ex) (A : Option Addr) (c : Nat) : Lasts fun W => TV W x A c := fun _ _ hb h => ⟨Kd.V_below h.v hb⟩
theorem TVo.old {w W : World} {ok : Nat → Prop} {x : Ex} {A : Option Addr} {c : Nat} (h : TV w x A c) (hb : Below w.heap.size w W) (hok : ∀ k, k < w.heap.size → ok k) : TVo W ok x A c := ⟨Kd.V_mono (Kd.V_old h.v hb) fun k hk => hok k hk.2⟩
theorem TVo.all {W : World} {ok : Nat → Prop} {x : Ex} {A : Option Addr} {c : Nat} (h : TVo W ok x A c) : TV W x A c := ⟨Kd.V_mono h.v fun _ _ => trivial⟩
theorem TVo.reads {W : World} {ok : Nat → Prop} {x : Ex} {A : Option Addr} {c : Nat} (h : TVo W ok x A c) : x.f3.length ≤ c ∧ Kd.C k27 W A x.f3.length x.f3 := (Kd.V_reads' h.v).2
/-- A value that is a tree. -/
def treeF (z : Ex) : Value → World → (Nat → Prop) → Prop := fun v W ok => ∃ A c, v = .agg (eA z A c) ∧ TVo W ok z A c
theorem treeF_good (z : Ex) : Good (treeF z) :=
 ⟨fun v ok W W' hb ⟨A, c, h, k⟩ => ⟨A, c, h, ⟨Kd.V_below k.v hb⟩⟩, fun v W ok ok' ho ⟨A, c, h, k⟩ => ⟨A, c, h, ⟨Kd.V_mono k.v ho⟩⟩, fun v W ok ⟨A, c, h, k⟩ => ⟨A, c, h, ⟨Kd.V_bound k.v⟩⟩,
  fun v W W' ok g hp hg ⟨A, c, h, k⟩ => ⟨A, c, h, ⟨Kd.V_step k.v fun j hj _ => hp.far j fun e => hg (e ▸ hj)⟩⟩⟩
def treeW (z : Ex) (v : Value) (W : World) : Prop := ∃ A c, v = .agg (eA z A c) ∧ TV W z A c
theorem treeW_last (z : Ex) (v : Value) : Lasts (treeW z v) := fun W W' hb ⟨A, c, h, k⟩ => ⟨A, c, h, TV.last _ _ _ _ _ hb k⟩
theorem isL_if (b : Bool) : (if b = true then (1 : Int) else 0) = isL b := by cases b <;> rfl
def aggOf : Value → Array Value
 | .agg c => c
 | _ => #[]
theorem treeF_cs (z : Ex) (v : Value) (W : World) (ok : Nat → Prop) (h : treeF z v W ok) : v = .agg (aggOf v) ∧ (aggOf v).size = 5 ∧ (aggOf v).all (·.oneCell') = true := by
 obtain ⟨A, c, rfl, _⟩ := h
 exact ⟨rfl, rfl, eA_one _ _ _⟩
structure MV (W : World) (m : List Int × List Int × List Int) (p : (Option Addr × Nat) × (Option Addr × Nat) × (Option Addr × Nat)) : Prop where
 l0 : m.1.length ≤ p.1.2
 c0 : Kd.C (Kd.int .i64) W p.1.1 m.1.length m.1
 l1 : m.2.1.length ≤ p.2.1.2
 c1 : Kd.C (Kd.int .i64) W p.2.1.1 m.2.1.length m.2.1
 l2 : m.2.2.length ≤ p.2.2.2
 c2 : Kd.C (Kd.int .i64) W p.2.2.1 m.2.2.length m.2.2
theorem MV.last (m : List Int × List Int × List Int) (p : (Option Addr × Nat) × (Option Addr × Nat) × (Option Addr × Nat)) : Lasts fun W => MV W m p := fun _ _ hb h => ⟨h.l0, Kd.C_below h.c0 hb, h.l1, Kd.C_below h.c1 hb, h.l2, Kd.C_below h.c2 hb⟩
def mOk (m : List Int × List Int × List Int) : Bool := memOkL m.1 m.2.1 m.2.2
def oV (x : Ex) (m : List Int × List Int × List Int) : Int := ofV x m.1 m.2.1 m.2.2

theorem implOf_any (x : Ex) (A : Option Addr) (c : Nat) (m : List Int × List Int × List Int) (p : (Option Addr × Nat) × (Option Addr × Nat) × (Option Addr × Nat)) (W : World) (h : TV W x A c) (hm : MV W m p) :
  Calls Try.prog 6 #[.agg (eA x A c), .agg (mA m p)] W fun e W' => e = .returned (.int .i64 (oV x m)) ∧ Below W.heap.size W W' :=
 impl_ExprOf.calls x.f0 x.f1 x.f2.f0 x.f2.f1 A c x.f3 _ _ m.1 _ _ m.2.1 _ _ m.2.2 _ W h.reads.2 h.reads.1 hm.c0 hm.l0 hm.c1 hm.l1 hm.c2 hm.l2 (implOf x m.1 m.2.1 m.2.2)
theorem implOk_any (x : Ex) (A : Option Addr) (c : Nat) (W : World) (h : TV W x A c) : Calls Try.prog 13 #[.agg (eA x A c)] W fun e W' => e = .returned (.bool (okE x)) ∧ Below W.heap.size W W' :=
 impl_ExprOk.calls x.f0 x.f1 x.f2.f0 x.f2.f1 A c x.f3 _ W h.reads.2 h.reads.1 (implOk x)
theorem specOf_any (x : Ex) (hs : Short x) (A : Option Addr) (c : Nat) (m : List Int × List Int × List Int) (hn : Mini m.1 m.2.1 m.2.2) (p : (Option Addr × Nat) × (Option Addr × Nat) × (Option Addr × Nat)) (W : World) (h : TV W x A c) (hm : MV W m p) :
  Calls Try.prog 7 #[.agg (eA x A c), .agg (mA m p)] W fun e W' => e = .returned (.int .i64 (oV x m)) ∧ Below W.heap.size W W' := by
 obtain ⟨K, hK⟩ := specOf_ev x hs m.1 m.2.1 m.2.2 hn
 exact spec_ExprOf.calls K x.f0 x.f1 x.f2.f0 x.f2.f1 A c x.f3 _ _ m.1 _ _ m.2.1 _ _ m.2.2 _ W h.reads.2 h.reads.1 hm.c0 hm.l0 hm.c1 hm.l1 hm.c2 hm.l2 (hK K (Nat.le_refl _))
theorem specOk_any (x : Ex) (hs : Short x) (A : Option Addr) (c : Nat) (W : World) (h : TV W x A c) : Calls Try.prog 8 #[.agg (eA x A c)] W fun e W' => e = .returned (.bool (okE x)) ∧ Below W.heap.size W W' := by
 obtain ⟨K, hK⟩ := specOk_ev x hs
 exact spec_ExprOk.calls K x.f0 x.f1 x.f2.f0 x.f2.f1 A c x.f3 _ W h.reads.2 h.reads.1 (hK K (Nat.le_refl _))
theorem specMem_any (m : List Int × List Int × List Int) (hn : Mini m.1 m.2.1 m.2.2) (p : (Option Addr × Nat) × (Option Addr × Nat) × (Option Addr × Nat)) (W : World) (hm : MV W m p) :
  Calls Try.prog 9 #[.agg (mA m p)] W fun e W' => e = .returned (.bool (mOk m)) ∧ Below W.heap.size W W' := by
 obtain ⟨K, hK⟩ := specMem_ev m.1 m.2.1 m.2.2 hn
 exact spec_MemOk.calls K _ _ m.1 _ _ m.2.1 _ _ m.2.2 _ W hm.c0 hm.l0 hm.c1 hm.l1 hm.c2 hm.l2 (hK K (Nat.le_refl _))
theorem drawOf_any (l : List Int) (hw : ∀ x ∈ l, (Lit.int .u8 x).wf = true) : ∃ (x : Ex) (m : List Int × List Int × List Int), Short x ∧ Mini m.1 m.2.1 m.2.2 ∧ ∀ A c W, Kd.C (Kd.int .u8) W A l.length l → l.length ≤ c →
  Calls Try.prog 4 #[.slice A l.length c] W fun e W' => ∃ B d p, e = .returned (.tuple #[.agg (eA x B d), .agg (mA m p)]) ∧ TV W' x B d ∧ MV W' m p ∧ Below W.heap.size W W' := by
 obtain ⟨x, m0, m1, m2, K, hx, hm, h⟩ := drawOf_total l hw
 refine ⟨x, (m0, m1, m2), hx.short, hm, fun A c W hC hc => ?_⟩
 refine (spec_DrawExprOf.calls K A c l _ _ _ _ _ _ _ _ W hC hc (h K (Nat.le_refl _))).mono ?_
 rintro e W' ⟨v, u0, u1, u2, rfl, hN, h0, h1, h2, hb⟩
 obtain ⟨B, d, rfl⟩ := Kd.N_slice hN
 obtain ⟨A0, c0, rfl⟩ := Kd.R_slice h0
 obtain ⟨A1, c1, rfl⟩ := Kd.R_slice h1
 obtain ⟨A2, c2, rfl⟩ := Kd.R_slice h2
 have r0 := Kd.R_reads' h0
 have r1 := Kd.R_reads' h1
 have r2 := Kd.R_reads' h2
 exact ⟨B, d, ((A0, c0), (A1, c1), (A2, c2)), rfl, TV.ofN hN (fun _ _ => trivial), ⟨r0.2.1, r0.2.2, r1.2.1, r1.2.2, r2.2.1, r2.2.2⟩, hb⟩
end Go.Proofs.Ytacbbpbopmdpeaa.B
/- Plain law: a tree with a number put for each reading of a place that holds it is ok as before, comes to the same, and is of as many parts. -/
namespace Go.Proofs.Ytacbbpbopmdpeaa.B
open Go.RowKit Go.Proofs.YtacbbpbopmdpeaaW.PrintWords Go.Proofs.YtacbbpbopmdpeaaW.PrintLast Go.Proofs.YtacbbpbopmdpeaaW.PrintMore
set_option linter.unusedVariables false
def putE (a b n : Int) : Ex → Ex
 | ⟨k, m, ad, l⟩ => if k = 2 ∧ ad.f0 = a ∧ ad.f1 = b then ⟨1, n, ⟨0, 0⟩, []⟩ else ⟨k, m, ad, l.attach.map fun x => putE a b n x.1⟩
termination_by e => SizeOf.sizeOf e
decreasing_by all_goals have := List.sizeOf_lt_of_mem x.2; simp; omega
theorem putE_eq (a b n : Int) (e : Ex) : putE a b n e = if e.f0 = 2 ∧ e.f2.f0 = a ∧ e.f2.f1 = b then ⟨1, n, ⟨0, 0⟩, []⟩ else ⟨e.f0, e.f1, e.f2, e.f3.map (putE a b n)⟩ := by
 cases e with
 | mk k m ad l => rw [putE]; simp
theorem putE_good (bs : List Int) (a b n : Int) (hn : isNumL n = true) (hg : getL bs a b = n) (d : Nat) : ∀ e : Ex, formS d e = true → formS d (putE a b n e) = true ∧ manyS d (putE a b n e) = manyS d e ∧ evalI bs (putE a b n e) = evalI bs e := by
 induction d with
 | zero => intro e h; cases h
 | succ d ih =>
  intro e h
  rw [formS, Bool.and_eq_true] at h
  obtain ⟨hh, hk⟩ := h
  rw [List.all_eq_true] at hk
  rw [putE_eq]
  split
  ·rename_i hc
   obtain ⟨h2, ha, hb⟩ := hc
   have h0 : e.f3 = [] := by
    unfold headOk at hh
    simp only [Bool.and_eq_true, beq_iff_eq] at hh
    have h3 := hh.1.2
    rw [h2, kidsN, if_pos (.inr rfl)] at h3
    exact List.length_eq_zero_iff.1 (by omega)
   refine ⟨?_, ?_, ?_⟩
   ·rw [formS, Bool.and_eq_true]
    refine ⟨?_, rfl⟩
    unfold headOk
    simp only [Bool.and_eq_true]
    refine ⟨⟨by decide, by decide⟩, ?_⟩
    rw [shapeL, if_pos rfl, hn]; rfl
   ·rw [manyS, manyS, h0]
   ·rw [evalI_eq, evalI_eq, if_pos rfl, if_neg (by omega), if_pos h2, ha, hb, hg]
  ·have hm : ∀ x ∈ e.f3, formS d (putE a b n x) = true ∧ manyS d (putE a b n x) = manyS d x ∧ evalI bs (putE a b n x) = evalI bs x := fun x hx => ih x (hk x hx)
   refine ⟨?_, ?_, ?_⟩
   ·rw [formS, Bool.and_eq_true]
    refine ⟨?_, ?_⟩
    ·unfold headOk at hh ⊢
     simpa using hh
    ·rw [List.all_eq_true]
     intro y hy
     obtain ⟨x, hx, rfl⟩ := List.mem_map.1 hy
     exact (hm x hx).1
   ·rw [manyS, manyS]
    simp only [List.map_map]
    have hq : e.f3.map (manyS d ∘ putE a b n) = e.f3.map (manyS d) := List.map_congr_left fun x hx => (hm x hx).2.1
    rw [hq]
   ·rw [evalI_eq, evalI_eq bs e]
    simp only [List.map_map]
    have hq : e.f3.map (evalI bs ∘ putE a b n) = e.f3.map (evalI bs) := List.map_congr_left fun x hx => (hm x hx).2.2
    rw [hq]
theorem okE_put {bs : List Int} {a b n : Int} (hn : isNumL n = true) (hg : getL bs a b = n) {e : Ex} (h : okE e = true) : okE (putE a b n e) = true ∧ manyS 6 (putE a b n e) = manyS 6 e ∧ evalI bs (putE a b n e) = evalI bs e := by
 obtain ⟨h1, h2⟩ := (okE_iff e).1 h
 obtain ⟨g1, g2, g3⟩ := putE_good bs a b n hn hg 6 e h1
 exact ⟨(okE_iff _).2 ⟨g1, by omega⟩, g2, g3⟩
end Go.Proofs.Ytacbbpbopmdpeaa.B
