/- The laws' own helpers over charts, in plain Lean. -/
import Derived.Test.YtlmchfcfkfegaaaEndsEx
import Derived.Test.YtlmchfcfkfegaaaEndsInt
import Derived.Test.YtlmchfcfkfegaaaChNames
import Derived.Test.YtlmchfcfkfegaaaPkA
import Derived.Test.YtlmchfcfkfegaaaPkB
namespace Go.Proofs.Ytlmchfcfkfegaaa.B
open Go.RowKit Go.Proofs.YtlmchfcfkfegaaaW.PrintWords Go.Proofs.YtlmchfcfkfegaaaW.PrintLast Go.Proofs.YtlmchfcfkfegaaaW.PrintMore
set_option linter.unusedVariables false

abbrev LTr := S151
abbrev LAc := S155
def trOk (e : LTr) : Prop := e.f0.length ≤ 9223372036854775807 ∧ e.f1.length ≤ 9223372036854775807 ∧ exOk e.f2
def itrOk (e : ITr) : Prop := e.f0.length ≤ 1048576 ∧ e.f1.length ≤ 1048576 ∧ iexOk e.f2
def trN (e : LTr) : Nat := e.f0.length + (e.f1.length + exN e.f2)
def trsN (l : List LTr) : Nat := l.length + (l.map trN).sum
def trTo (e : LTr) : ITr := ⟨e.f0, e.f1, exTo e.f2⟩
def acTo (e : LAc) : IAc := ⟨e.f0, e.f1, ⟨e.f2.f0, e.f2.f1⟩⟩
theorem rdL_tr (l : List LTr) (j : Nat) (h : j < l.length) : rd_T151 l (j : Int) = l[j] := by simp [rd_T151, h]
theorem rdI_tr (l : List ITr) (j : Nat) (h : j < l.length) : rd_T52 l (j : Int) = l[j] := by simp [rd_T52, h]
theorem rdL_ac (l : List LAc) (j : Nat) (h : j < l.length) : rd_T155 l (j : Int) = l[j] := by simp [rd_T155, h]
theorem rdI_ac (l : List IAc) (j : Nat) (h : j < l.length) : rd_T92 l (j : Int) = l[j] := by simp [rd_T92, h]
def szTr' (k : Nat) (e : LTr) (m : Int) : Option Int := laws_szTrans.f k e.f0 e.f1 e.f2.f0 e.f2.f1 e.f2.f2.f0 e.f2.f2.f1 e.f2.f3 m
theorem szTr (e : LTr) (ho : trOk e) (m : Int) (hm : Left m) : Ends (fun k => szTr' k e m) (szV (trN e) m) := by
 have h : Ends (fun k => (some (szV e.f0.length m)).bind fun t => if t < 0 then some (-1) else (laws_szIntS.f e.f1 t).bind fun t => if t < 0 then some (-1) else (laws_szExpr.f k e.f2.f0 e.f2.f1 e.f2.f2.f0 e.f2.f2.f1 e.f2.f3 t).bind fun t => if t < 0 then some (-1) else some t) (szV (trN e) m) := by
  refine sz_part (f := fun _ => some (szV e.f0.length m)) hm (Ends.const fun k => rfl) (fun m1 h1 => ?_)
  refine sz_part (f := fun _ => laws_szIntS.f e.f1 m1) h1 (Ends.const fun k => szInts e.f1 ho.2.1 m1 h1) (fun m2 h2 => ?_)
  exact sz_end h2 (szEx e.f2 ho.2.2 m2 h2)
 exact h.of fun k => by rw [szTr', laws_szTrans.f, szInts e.f0 ho.1 m hm]
theorem szTrs (l : List LTr) (hl : l.length ≤ 9223372036854775807) (h : ∀ x ∈ l, trOk x) (m : Int) (hm : Left m) : Ends (fun k => laws_szTransS.f k l m) (szV (trsN l) m) := by
 have h0 := hm.1; have h1 := hm.2
 have hw : wrap64 (m - (l.length : Int)) = m - l.length := wrap_in (by omega) (by omega)
 have hl0 := sz_loop (l0 := laws_szTransS.l0) (g := szTr') (n := trN) rdL_tr (fun k xs m j => by rw [laws_szTransS.l0]; rfl) l
 by_cases hx : m - (l.length : Int) < 0
 ·refine Ends.const fun k => ?_
  rw [laws_szTransS.f, hw, if_pos hx, trsN, szV, if_neg (by omega)]
 ·have := hl0 (by omega) (fun x hx m hm => szTr x (h x hx) m hm) l.length 0 (m - l.length) (by omega) ⟨by omega, by omega⟩
  rw [List.drop_zero] at this
  rw [trsN, ← szV_add, show szV l.length m = m - l.length by rw [szV, if_pos (by omega)], if_neg hx]
  exact this.of fun k => by rw [laws_szTransS.f, hw, if_neg hx]; rfl
theorem szAcs (l : List LAc) (hl : l.length ≤ 9223372036854775807) (m : Int) (hm : Left m) : laws_szActS.f l m = some (szV l.length m) := by
 have h0 := hm.1; have h1 := hm.2
 rw [laws_szActS.f, wrap_in (by omega) (by omega), szV]
 by_cases h : (l.length : Int) ≤ m
 ·rw [if_neg (by omega), if_pos h]
 ·rw [if_pos (by omega), if_neg h]
def chN (a : List LTr) (b : List LAc) : Nat := trsN a + b.length
theorem szCh (s : Int) (a : List LTr) (b : List LAc) (ha : a.length ≤ 9223372036854775807) (h : ∀ x ∈ a, trOk x) (hb : b.length ≤ 9223372036854775807) (m : Int) (hm : Left m) : Ends (fun k => laws_szChart.f k s a b m) (szV (chN a b) m) := by
 have h : Ends (fun k => (laws_szTransS.f k a m).bind fun t => if t < 0 then some (-1) else (laws_szActS.f b t).bind fun t => if t < 0 then some (-1) else some t) (szV (chN a b) m) := by
  refine sz_part (f := fun k => laws_szTransS.f k a m) hm (szTrs a ha h m hm) (fun m1 h1 => ?_)
  exact sz_end (f := fun _ => laws_szActS.f b m1) h1 (Ends.const fun k => szAcs b hb m1 h1)
 exact h.of fun k => by rw [laws_szChart.f]
abbrev trT (x : ITr) := (x.f0, x.f1, x.f2.f0, x.f2.f1, x.f2.f2.f0, x.f2.f2.f1, x.f2.f3)
def toTr' (k : Nat) (e : LTr) := laws_toTrans.f k e.f0 e.f1 e.f2.f0 e.f2.f1 e.f2.f2.f0 e.f2.f2.f1 e.f2.f3
theorem toTr (e : LTr) (hn : trN e ≤ 1048576) : Ends (fun k => toTr' k e) (trT (trTo e)) := by
 rw [trN] at hn
 have h : Ends (fun k => (laws_toIntS.f k e.f0).bind fun a => (laws_toIntS.f k e.f1).bind fun b => (laws_toExpr.f k e.f2.f0 e.f2.f1 e.f2.f2.f0 e.f2.f2.f1 e.f2.f3).bind fun t => some (a, b, t.1, t.2.1, t.2.2.1, t.2.2.2.1, t.2.2.2.2)) (trT (trTo e)) := by
  refine Ends.bind (toInts e.f0 (by omega)) (Ends.bind (toInts e.f1 (by omega)) (Ends.bind (toEx e.f2 (by omega)) (Ends.const fun k => rfl)))
 exact h.of fun k => by rw [toTr', laws_toTrans.f]
theorem toTrs (l : List LTr) (hl : trsN l ≤ 1048576) : Ends (fun k => laws_toTransS.f k l) (l.map trTo) := by
 have hs : ∀ x ∈ l, trN x ≤ 1048576 := fun x hx => by
  have : trN x ≤ (l.map trN).sum := mem_sum _ _ (List.mem_map_of_mem hx)
  unfold trsN at hl
  omega
 have hll : l.length ≤ 1048576 := by unfold trsN at hl; omega
 have := to_loop (l0 := laws_toTransS.l0) (g := toTr') (mk := fun bt => ⟨bt.1, bt.2.1, ⟨bt.2.2.1, bt.2.2.2.1, ⟨bt.2.2.2.2.1, bt.2.2.2.2.2.1⟩, bt.2.2.2.2.2.2⟩⟩) (t := fun x => trT (trTo x)) rdL_tr (fun k xs ys j => by rw [laws_toTransS.l0]; rfl) l (by omega) (fun x hx => toTr x (hs x hx)) l.length 0 (List.replicate ((l.length : Int) : Int).toNat z52) (by omega) (by simp) (by simp)
 have hm : l.map (fun x => (⟨(trTo x).f0, (trTo x).f1, ⟨(trTo x).f2.f0, (trTo x).f2.f1, ⟨(trTo x).f2.f2.f0, (trTo x).f2.f2.f1⟩, (trTo x).f2.f3⟩⟩ : ITr)) = l.map trTo := List.map_congr_left (fun x _ => by generalize trTo x = y; obtain ⟨_, _, ⟨_, _, _, _⟩⟩ := y; rfl)
 rw [← hm]
 exact this.of fun k => by rw [laws_toTransS.f, if_pos (by omega), if_pos (by omega)]; rfl
theorem toAcs (l : List LAc) (hl : l.length ≤ 1048576) : Ends (fun k => laws_toActS.f k l) (l.map acTo) := by
 have := to_loop (l0 := laws_toActS.l0) (g := fun _ x => laws_toAct.f x.f0 x.f1 x.f2.f0 x.f2.f1) (mk := fun bt => (⟨bt.1, bt.2.1, ⟨bt.2.2.1, bt.2.2.2⟩⟩ : IAc)) (t := fun x => (x.f0, x.f1, x.f2.f0, x.f2.f1)) rdL_ac (fun k xs ys j => by rw [laws_toActS.l0]) l (by omega) (fun x hx => Ends.const fun k => by rw [laws_toAct.f, laws_toAddr.f, Option.bind_some]) l.length 0 (List.replicate ((l.length : Int) : Int).toNat z92) (by omega) (by simp) (by simp)
 exact this.of fun k => by rw [laws_toActS.f, if_pos (by omega), if_pos (by omega)]; rfl
theorem toCh (s : Int) (a : List LTr) (b : List LAc) (h : chN a b ≤ 1048576) : Ends (fun k => laws_toChart.f k s a b) (s, a.map trTo, b.map acTo) := by
 rw [chN] at h
 have : Ends (fun k => (laws_toTransS.f k a).bind fun x => (laws_toActS.f k b).bind fun y => some (s, x, y)) (s, a.map trTo, b.map acTo) := Ends.bind (toTrs a (by omega)) (Ends.bind (toAcs b (by omega)) (Ends.const fun k => rfl))
 exact this.of fun k => by rw [laws_toChart.f]
def eqTr' (k : Nat) (e x : ITr) := laws_eqTrans.f k e.f0 e.f1 e.f2.f0 e.f2.f1 e.f2.f2.f0 e.f2.f2.f1 e.f2.f3 x.f0 x.f1 x.f2.f0 x.f2.f1 x.f2.f2.f0 x.f2.f2.f1 x.f2.f3
theorem and_true {f g : Nat → Option Bool} (hf : Ends f true) (hg : Ends g true) : Ends (fun k => (f k).bind fun t => if t = true then g k else some false) true := by
 refine hf.bind (g := fun k t => if t = true then g k else some false) (hg.of fun k => by rw [if_pos rfl])
theorem eqTr (e : ITr) (ho : itrOk e) : Ends (fun k => eqTr' k e e) true :=
 (and_true (eqInts e.f0 (by have := ho.1; omega)) (and_true (eqInts e.f1 (by have := ho.2.1; omega)) (and_true (eqEx e.f2 ho.2.2) (Ends.const fun k => rfl)))).of fun k => by rw [eqTr', laws_eqTrans.f]
theorem eqTrs (l : List ITr) (hl : l.length ≤ 9223372036854775807) (h : ∀ x ∈ l, itrOk x) : Ends (fun k => laws_eqTransS.f k l l) true :=
 (eq_loop (l0 := laws_eqTransS.l0) (g := eqTr') rdI_tr (fun k xs ys j => by rw [laws_eqTransS.l0]; rfl) l (by omega) (fun x hx => eqTr x (h x hx)) l.length 0 (by omega)).of fun k => by rw [laws_eqTransS.f, if_pos rfl]; rfl
theorem eqAcs (l : List IAc) (hl : l.length ≤ 9223372036854775807) : Ends (fun k => laws_eqActS.f k l l) true :=
 (eq_loop (l0 := laws_eqActS.l0) (g := fun _ e x => laws_eqAct.f e.f0 e.f1 e.f2.f0 e.f2.f1 x.f0 x.f1 x.f2.f0 x.f2.f1) rdI_ac (fun k xs ys j => by rw [laws_eqActS.l0]) l (by omega) (fun x hx => Ends.const fun k => by rw [laws_eqAct.f, if_pos rfl, if_pos rfl, laws_eqAddr.f, if_pos rfl, if_pos rfl, Option.bind_some, if_pos rfl]) l.length 0 (by omega)).of fun k => by rw [laws_eqActS.f, if_pos rfl]; rfl
def chOk (a : List ITr) (b : List IAc) : Prop := (a.length ≤ 1048576 ∧ ∀ x ∈ a, itrOk x) ∧ b.length ≤ 1048576
theorem eqCh (s : Int) (a : List ITr) (b : List IAc) (h : chOk a b) : Ends (fun k => laws_eqChart.f k s a b s a b) true :=
 (and_true (eqTrs a (by have := h.1.1; omega) h.1.2) (and_true (eqAcs b (by have := h.2; omega)) (Ends.const fun k => rfl))).of fun k => by rw [laws_eqChart.f, if_pos rfl]
theorem chTo_ok (a : List LTr) (b : List LAc) (h : chN a b ≤ 1048576) : chOk (a.map trTo) (b.map acTo) := by
 rw [chN, trsN] at h
 refine ⟨⟨by simp; omega, fun x hx => ?_⟩, by simp; omega⟩
 obtain ⟨y, hy, rfl⟩ := List.mem_map.1 hx
 have : trN y ≤ (a.map trN).sum := mem_sum _ _ (List.mem_map_of_mem hy)
 rw [trN] at this
 exact ⟨by rw [trTo]; show y.f0.length ≤ _; omega, by rw [trTo]; show y.f1.length ≤ _; omega, exTo_ok _ (by omega)⟩
end Go.Proofs.Ytlmchfcfkfegaaa.B
