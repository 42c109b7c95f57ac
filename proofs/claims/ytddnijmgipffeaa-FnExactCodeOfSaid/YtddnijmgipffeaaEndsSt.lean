/- The laws' own helpers over statements, in plain Lean. -/
import Derived.Test.YtddnijmgipffeaaEndsEx
import Derived.Test.YtddnijmgipffeaaPkA
import Derived.Test.YtddnijmgipffeaaPkB
namespace Go.Proofs.Ytddnijmgipffeaa.B
open Go.RowKit Go.Proofs.YtddnijmgipffeaaW.PrintWords Go.Proofs.YtddnijmgipffeaaW.PrintLast Go.Proofs.YtddnijmgipffeaaW.PrintMore
set_option linter.unusedVariables false

abbrev LSt := S66
abbrev ISt := S69
theorem stInd {P : LSt → Prop} (h : ∀ e : LSt, (∀ x ∈ e.f3, P x) → (∀ x ∈ e.f4, P x) → P e) : ∀ e, P e
 | ⟨a, b, c, l, l'⟩ => h _ (fun x hx => stInd h x) (fun x hx => stInd h x)
termination_by e => SizeOf.sizeOf e
decreasing_by all_goals (have := List.sizeOf_lt_of_mem hx; simp at this ⊢; omega)
theorem istInd {P : ISt → Prop} (h : ∀ e : ISt, (∀ x ∈ e.f3, P x) → (∀ x ∈ e.f4, P x) → P e) : ∀ e, P e
 | ⟨a, b, c, l, l'⟩ => h _ (fun x hx => istInd h x) (fun x hx => istInd h x)
termination_by e => SizeOf.sizeOf e
decreasing_by all_goals (have := List.sizeOf_lt_of_mem hx; simp at this ⊢; omega)
def stOk : LSt → Prop
 | ⟨_, _, c, l, l'⟩ => exOk c ∧ (l.length ≤ 9223372036854775807 ∧ ∀ x ∈ l.attach, stOk x.1) ∧ (l'.length ≤ 9223372036854775807 ∧ ∀ x ∈ l'.attach, stOk x.1)
termination_by e => SizeOf.sizeOf e
decreasing_by all_goals (have := List.sizeOf_lt_of_mem x.2; simp; omega)
theorem stOk_eq (e : LSt) : stOk e ↔ exOk e.f2 ∧ (e.f3.length ≤ 9223372036854775807 ∧ ∀ x ∈ e.f3, stOk x) ∧ (e.f4.length ≤ 9223372036854775807 ∧ ∀ x ∈ e.f4, stOk x) := by
 cases e with
 | mk a b c l l' => rw [stOk]; simp
def istOk : ISt → Prop
 | ⟨_, _, c, l, l'⟩ => iexOk c ∧ (l.length ≤ 1048576 ∧ ∀ x ∈ l.attach, istOk x.1) ∧ (l'.length ≤ 1048576 ∧ ∀ x ∈ l'.attach, istOk x.1)
termination_by e => SizeOf.sizeOf e
decreasing_by all_goals (have := List.sizeOf_lt_of_mem x.2; simp; omega)
theorem istOk_eq (e : ISt) : istOk e ↔ iexOk e.f2 ∧ (e.f3.length ≤ 1048576 ∧ ∀ x ∈ e.f3, istOk x) ∧ (e.f4.length ≤ 1048576 ∧ ∀ x ∈ e.f4, istOk x) := by
 cases e with
 | mk a b c l l' => rw [istOk]; simp
def stN : LSt → Nat
 | ⟨_, _, c, l, l'⟩ => exN c + ((l.length + (l.attach.map fun x => stN x.1).sum) + (l'.length + (l'.attach.map fun x => stN x.1).sum))
termination_by e => SizeOf.sizeOf e
decreasing_by all_goals (have := List.sizeOf_lt_of_mem x.2; simp; omega)
def stsN (l : List LSt) : Nat := l.length + (l.map stN).sum
theorem stN_eq (e : LSt) : stN e = exN e.f2 + (stsN e.f3 + stsN e.f4) := by
 cases e with
 | mk a b c l l' => rw [stN, stsN, stsN]; simp
def stTo : LSt → ISt
 | ⟨a, b, c, l, l'⟩ => ⟨a, ⟨b.f0, b.f1⟩, exTo c, l.attach.map fun x => stTo x.1, l'.attach.map fun x => stTo x.1⟩
termination_by e => SizeOf.sizeOf e
decreasing_by all_goals (have := List.sizeOf_lt_of_mem x.2; simp; omega)
theorem stTo_eq (e : LSt) : stTo e = ⟨e.f0, ⟨e.f1.f0, e.f1.f1⟩, exTo e.f2, e.f3.map stTo, e.f4.map stTo⟩ := by
 cases e with
 | mk a b c l l' => rw [stTo]; simp
theorem rdL_st (l : List LSt) (j : Nat) (h : j < l.length) : rd_T66 l (j : Int) = l[j] := by simp [rd_T66, h]
theorem rdI_st (l : List ISt) (j : Nat) (h : j < l.length) : rd_T69 l (j : Int) = l[j] := by simp [rd_T69, h]
def szSt' (k : Nat) (e : LSt) (m : Int) : Option Int := laws_szStmt.f k e.f0 e.f1.f0 e.f1.f1 e.f2.f0 e.f2.f1 e.f2.f2.f0 e.f2.f2.f1 e.f2.f3 e.f3 e.f4 m
theorem szSts_of (l : List LSt) (hl : l.length ≤ 9223372036854775807) (h : ∀ x ∈ l, ∀ m, Left m → Ends (fun k => szSt' k x m) (szV (stN x) m)) (m : Int) (hm : Left m) : Ends (fun k => laws_szStmtS.f k l m) (szV (stsN l) m) :=
 sz_all (l0 := laws_szStmtS.l0) (f := laws_szStmtS.f) (g := szSt') rdL_st (fun k xs m j => by rw [laws_szStmtS.l0]; rfl) (fun k xs m => by rw [laws_szStmtS.f]) l hl h m hm
theorem szSt (e : LSt) : stOk e → ∀ m, Left m → Ends (fun k => szSt' k e m) (szV (stN e) m) := by
 refine stInd (P := fun e => stOk e → ∀ m, Left m → Ends (fun k => szSt' k e m) (szV (stN e) m)) ?_ e
 intro e ih ih' ho m hm
 rw [stOk_eq] at ho
 rw [stN_eq]
 refine Ends.succ (fun k => by rw [szSt', laws_szStmt.f]) ?_
 refine sz_part (g := fun k t => (laws_szStmtS.f k e.f3 t).bind fun t => if t < 0 then some (-1) else (laws_szStmtS.f k e.f4 t).bind fun t => if t < 0 then some (-1) else some t) hm (szEx e.f2 ho.1 m hm) (fun m' h' => ?_)
 refine sz_part (g := fun k t => (laws_szStmtS.f k e.f4 t).bind fun t => if t < 0 then some (-1) else some t) h' (szSts_of e.f3 ho.2.1.1 (fun x hx => ih x hx (ho.2.1.2 x hx)) m' h') (fun m2 h2 => ?_)
 exact sz_end h2 (szSts_of e.f4 ho.2.2.1 (fun x hx => ih' x hx (ho.2.2.2 x hx)) m2 h2)
theorem szSts (l : List LSt) (hl : l.length ≤ 9223372036854775807) (h : ∀ x ∈ l, stOk x) (m : Int) (hm : Left m) : Ends (fun k => laws_szStmtS.f k l m) (szV (stsN l) m) := szSts_of l hl (fun x hx => szSt x (h x hx)) m hm
abbrev stT (x : ISt) := (x.f0, x.f1.f0, x.f1.f1, x.f2.f0, x.f2.f1, x.f2.f2.f0, x.f2.f2.f1, x.f2.f3, x.f3, x.f4)
def toSt' (k : Nat) (e : LSt) := laws_toStmt.f k e.f0 e.f1.f0 e.f1.f1 e.f2.f0 e.f2.f1 e.f2.f2.f0 e.f2.f2.f1 e.f2.f3 e.f3 e.f4
theorem toSts_of (l : List LSt) (hl : stsN l ≤ 1048576) (h : ∀ x ∈ l, stN x ≤ 1048576 → Ends (fun k => toSt' k x) (stT (stTo x))) : Ends (fun k => laws_toStmtS.f k l) (l.map stTo) := by
 have hs : ∀ x ∈ l, stN x ≤ 1048576 := fun x hx => by
  have : stN x ≤ (l.map stN).sum := mem_sum _ _ (List.mem_map_of_mem hx)
  unfold stsN at hl
  omega
 have hll : l.length ≤ 1048576 := by unfold stsN at hl; omega
 refine Ends.succ (fun k => by rw [laws_toStmtS.f, if_pos (by omega), if_pos (by omega)]) ?_
 have := to_loop (l0 := laws_toStmtS.l0) (g := toSt') (mk := fun bt => ⟨bt.1, ⟨bt.2.1, bt.2.2.1⟩, ⟨bt.2.2.2.1, bt.2.2.2.2.1, ⟨bt.2.2.2.2.2.1, bt.2.2.2.2.2.2.1⟩, bt.2.2.2.2.2.2.2.1⟩, bt.2.2.2.2.2.2.2.2.1, bt.2.2.2.2.2.2.2.2.2⟩) (t := fun x => stT (stTo x)) rdL_st (fun k xs ys j => by rw [laws_toStmtS.l0]; rfl) l (by omega) (fun x hx => h x hx (hs x hx)) l.length 0 (List.replicate ((l.length : Int) : Int).toNat z69) (by omega) (by simp) (by simp)
 have hm : l.map (fun x => (⟨(stTo x).f0, ⟨(stTo x).f1.f0, (stTo x).f1.f1⟩, ⟨(stTo x).f2.f0, (stTo x).f2.f1, ⟨(stTo x).f2.f2.f0, (stTo x).f2.f2.f1⟩, (stTo x).f2.f3⟩, (stTo x).f3, (stTo x).f4⟩ : ISt)) = l.map stTo := List.map_congr_left (fun x _ => by generalize stTo x = y; obtain ⟨_, _, ⟨_, _, _, _⟩, _, _⟩ := y; rfl)
 rw [← hm]
 exact this
theorem toSt (e : LSt) : stN e ≤ 1048576 → Ends (fun k => toSt' k e) (stT (stTo e)) := by
 refine stInd (P := fun e => stN e ≤ 1048576 → Ends (fun k => toSt' k e) (stT (stTo e))) ?_ e
 intro e ih ih' hn
 rw [stN_eq] at hn
 rw [stTo_eq]
 refine Ends.succ (fun k => by rw [toSt', laws_toStmt.f, laws_toAddr.f, Option.bind_some]) ?_
 refine Ends.bind (toEx e.f2 (by omega)) ?_
 refine Ends.bind (toSts_of e.f3 (by omega) ih) ?_
 exact Ends.bind (toSts_of e.f4 (by omega) ih') (Ends.const fun k => rfl)
theorem toSts (l : List LSt) (hl : stsN l ≤ 1048576) : Ends (fun k => laws_toStmtS.f k l) (l.map stTo) := toSts_of l hl (fun x _ => toSt x)
def eqSt' (k : Nat) (e x : ISt) := laws_eqStmt.f k e.f0 e.f1.f0 e.f1.f1 e.f2.f0 e.f2.f1 e.f2.f2.f0 e.f2.f2.f1 e.f2.f3 e.f3 e.f4 x.f0 x.f1.f0 x.f1.f1 x.f2.f0 x.f2.f1 x.f2.f2.f0 x.f2.f2.f1 x.f2.f3 x.f3 x.f4
theorem eqSts_of (l : List ISt) (hl : l.length ≤ 9223372036854775807) (h : ∀ x ∈ l, Ends (fun k => eqSt' k x x) true) : Ends (fun k => laws_eqStmtS.f k l l) true := by
 refine Ends.succ (fun k => by rw [laws_eqStmtS.f, if_pos rfl]) ?_
 exact eq_loop (l0 := laws_eqStmtS.l0) (g := eqSt') rdI_st (fun k xs ys j => by rw [laws_eqStmtS.l0]; rfl) l (by omega) h l.length 0 (by omega)
theorem eqSt (e : ISt) : istOk e → Ends (fun k => eqSt' k e e) true := by
 refine istInd (P := fun e => istOk e → Ends (fun k => eqSt' k e e) true) ?_ e
 intro e ih ih' ho
 rw [istOk_eq] at ho
 refine Ends.succ (fun k => by rw [eqSt', laws_eqStmt.f, if_pos rfl, laws_eqAddr.f, if_pos rfl, if_pos rfl, Option.bind_some, if_pos rfl]) ?_
 refine Ends.bind (eqEx e.f2 ho.1) ?_
 refine (Ends.bind (g := fun k t => if t = true then (laws_eqStmtS.f k e.f4 e.f4).bind fun t => (if t = true then some true else some false) else some false) (eqSts_of e.f3 (by have := ho.2.1.1; omega) (fun x hx => ih x hx (ho.2.1.2 x hx))) ?_).of (fun k => by rw [if_pos rfl])
 refine (Ends.bind (g := fun k t => if t = true then some true else some false) (eqSts_of e.f4 (by have := ho.2.2.1; omega) (fun x hx => ih' x hx (ho.2.2.2 x hx))) ?_).of (fun k => by rw [if_pos rfl])
 exact Ends.const fun k => rfl
theorem eqSts (l : List ISt) (hl : l.length ≤ 9223372036854775807) (h : ∀ x ∈ l, istOk x) : Ends (fun k => laws_eqStmtS.f k l l) true := eqSts_of l hl (fun x hx => eqSt x (h x hx))
theorem stTo_ok (e : LSt) : stN e ≤ 1048576 → istOk (stTo e) := by
 refine stInd (P := fun e => stN e ≤ 1048576 → istOk (stTo e)) ?_ e
 intro e ih ih' hn
 rw [stN_eq, stsN, stsN] at hn
 rw [stTo_eq, istOk_eq]
 refine ⟨exTo_ok _ (by omega), ⟨by simp; omega, fun x hx => ?_⟩, ⟨by simp; omega, fun x hx => ?_⟩⟩
 ·obtain ⟨y, hy, rfl⟩ := List.mem_map.1 hx
  have : stN y ≤ (e.f3.map stN).sum := mem_sum _ _ (List.mem_map_of_mem hy)
  exact ih y hy (by omega)
 ·obtain ⟨y, hy, rfl⟩ := List.mem_map.1 hx
  have : stN y ≤ (e.f4.map stN).sum := mem_sum _ _ (List.mem_map_of_mem hy)
  exact ih' y hy (by omega)
theorem stsTo_ok (l : List LSt) (h : stsN l ≤ 1048576) : l.length ≤ 1048576 ∧ ∀ x ∈ l.map stTo, istOk x := by
 unfold stsN at h
 refine ⟨by omega, fun x hx => ?_⟩
 obtain ⟨y, hy, rfl⟩ := List.mem_map.1 hx
 have : stN y ≤ (l.map stN).sum := mem_sum _ _ (List.mem_map_of_mem hy)
 exact stTo_ok y (by omega)
end Go.Proofs.Ytddnijmgipffeaa.B
