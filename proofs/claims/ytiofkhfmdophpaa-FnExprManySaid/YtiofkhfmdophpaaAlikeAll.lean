import Derived.Test.YtiofkhfmdophpaaB0
import Derived.Outline
import Derived.Shelf.Abstract
import Derived.Test.YtiofkhfmdophpaaPkA
import Derived.Deep.RegionHeld3
import Derived.Test.YtiofkhfmdophpaaPkC
/- A printed function that ends from some fuel on; the loops of the laws' own helpers, once for all types. -/
namespace Go.Proofs.Ytiofkhfmdophpaa.B
open Go.RowKit Go.Proofs.YtiofkhfmdophpaaW.PrintWords Go.Proofs.YtiofkhfmdophpaaW.PrintLast Go.Proofs.YtiofkhfmdophpaaW.PrintMore
set_option linter.unusedVariables false

def Ends {α : Type} (f : Nat → Option α) (r : α) : Prop := ∃ K, ∀ k, K ≤ k → f k = some r
theorem Ends.const {α : Type} {f : Nat → Option α} {r : α} (h : ∀ k, f k = some r) : Ends f r := ⟨0, fun k _ => h k⟩
theorem Ends.bind {α β : Type} {f : Nat → Option α} {g : Nat → α → Option β} {a : α} {r : β} (h : Ends f a) (h' : Ends (fun k => g k a) r) : Ends (fun k => (f k).bind (g k)) r := by
 obtain ⟨K, hK⟩ := h
 obtain ⟨K', hK'⟩ := h'
 exact ⟨max K K', fun k hk => by show (f k).bind (g k) = some r; rw [hK k (by omega), Option.bind_some]; exact hK' k (by omega)⟩
theorem Ends.succ {α : Type} {f g : Nat → Option α} {r : α} (h : ∀ k, f (k + 1) = g k) (hg : Ends g r) : Ends f r := by
 obtain ⟨K, hK⟩ := hg
 exact ⟨K + 1, fun k hk => by obtain ⟨k', rfl⟩ : ∃ k', k = k' + 1 := ⟨k - 1, by omega⟩; rw [h]; exact hK k' (by omega)⟩
theorem Ends.of {α : Type} {f g : Nat → Option α} {r : α} (hg : Ends g r) (h : ∀ k, f k = g k) : Ends f r := by
 obtain ⟨K, hK⟩ := hg
 exact ⟨K, fun k hk => by rw [h]; exact hK k hk⟩
theorem wrap_in {n : Int} (h0 : -9223372036854775808 ≤ n) (h1 : n ≤ 9223372036854775807) : wrap64 n = n := by
 unfold wrap64
 omega
/-- What is left behind n parts; -1 if there are more than so many. -/
def szV (n : Nat) (left : Int) : Int := if (n : Int) ≤ left then left - n else -1
def Left (m : Int) : Prop := 0 ≤ m ∧ m ≤ 1048576
theorem szV_zero {m : Int} (h : Left m) : szV 0 m = m := by unfold szV; rw [if_pos (by have := h.1; omega)]; omega
theorem szV_left {n : Nat} {m : Int} (h : Left m) (hn : ¬ szV n m < 0) : Left (szV n m) ∧ (n : Int) ≤ m ∧ szV n m = m - n := by
 unfold szV at *
 have h0 := h.1; have h1 := h.2
 by_cases hm : (n : Int) ≤ m
 ·rw [if_pos hm] at *; exact ⟨⟨by omega, by omega⟩, hm, rfl⟩
 ·rw [if_neg hm] at hn; omega
theorem szV_add (n n' : Nat) (m : Int) : (if szV n m < 0 then -1 else szV n' (szV n m)) = szV (n + n') m := by
 unfold szV
 by_cases hm : (n : Int) ≤ m
 ·rw [if_pos hm, if_neg (by omega)]
  by_cases hm' : (n' : Int) ≤ m - n
  ·rw [if_pos hm', if_pos (by omega)]; omega
  ·rw [if_neg hm', if_neg (by omega)]
 ·rw [if_neg hm, if_pos (by omega), if_neg (by omega)]
theorem sz_part {g : Nat → Int → Option Int} {f : Nat → Option Int} {n n' : Nat} {m : Int} (h : Left m) (hf : Ends f (szV n m)) (hg : ∀ m', Left m' → Ends (fun k => g k m') (szV n' m')) :
  Ends (fun k => (f k).bind fun t => if t < 0 then some (-1) else g k t) (szV (n + n') m) := by
 refine hf.bind (g := fun k t => if t < 0 then some (-1) else g k t) ?_
 by_cases hn : szV n m < 0
 ·refine Ends.const fun k => ?_
  rw [if_pos hn, ← szV_add, if_pos hn]
 ·rw [← szV_add, if_neg hn]
  exact (hg _ (szV_left h hn).1).of (fun k => by rw [if_neg hn])
theorem sz_end {f : Nat → Option Int} {n : Nat} {m : Int} (h : Left m) (hf : Ends f (szV n m)) : Ends (fun k => (f k).bind fun t => if t < 0 then some (-1) else some t) (szV n m) := by
 have := sz_part (g := fun _ t => some t) (n' := 0) h hf (fun m' h' => Ends.const fun k => by rw [szV_zero h'])
 exact this
section loops
variable {α β : Type} {rd : List α → Int → α} (hrd : ∀ (l : List α) (j : Nat) (h : j < l.length), rd l (j : Int) = l[j])
include hrd
theorem sz_loop {l0 : Nat → List α → Int → Int → Option Int} {g : Nat → α → Int → Option Int} {n : α → Nat}
  (hl : ∀ k (xs : List α) m j, l0 (k + 1) xs m j = if j < (xs.length : Int) then (if 0 ≤ j then (g k (rd xs j) m).bind fun t => if t < 0 then some (-1) else l0 k xs t (wrap64 (j + 1)) else none) else some m)
  (xs : List α) (hx : (xs.length : Int) ≤ 1048576) (hg : ∀ x ∈ xs, ∀ m, Left m → Ends (fun k => g k x m) (szV (n x) m)) :
  ∀ (d j : Nat) (m : Int), j + d = xs.length → Left m → Ends (fun k => l0 k xs m j) (szV (((xs.drop j).map n).sum) m) := by
 intro d
 induction d with
 | zero =>
  intro j m hj hm
  rw [List.drop_of_length_le (by omega)]
  refine Ends.succ (fun k => hl k xs m j) (Ends.const fun k => ?_)
  rw [if_neg (by omega)]
  exact congrArg some (szV_zero hm).symm
 | succ d ih =>
  intro j m hj hm
  have hjl : j < xs.length := by omega
  refine Ends.succ (fun k => hl k xs m j) ?_
  have hd : xs.drop j = xs[j] :: xs.drop (j + 1) := List.drop_eq_getElem_cons hjl
  rw [hd, List.map_cons, List.sum_cons]
  refine (sz_part (g := fun k t => l0 k xs t ((j + 1 : Nat) : Int)) hm (hg xs[j] (List.getElem_mem hjl) m hm) (fun m' h' => ih (j + 1) m' (by omega) h')).of fun k => ?_
  rw [if_pos (by omega), if_pos (by omega), hrd xs j hjl, wrap_in (by omega) (by omega)]
  rfl
theorem sz_all {l0 : Nat → List α → Int → Int → Option Int} {f : Nat → List α → Int → Option Int} {g : Nat → α → Int → Option Int} {n : α → Nat}
  (hl : ∀ k (xs : List α) m j, l0 (k + 1) xs m j = if j < (xs.length : Int) then (if 0 ≤ j then (g k (rd xs j) m).bind fun t => if t < 0 then some (-1) else l0 k xs t (wrap64 (j + 1)) else none) else some m)
  (hf : ∀ k (xs : List α) m, f (k + 1) xs m = if wrap64 (m - (xs.length : Int)) < 0 then some (-1) else l0 k xs (wrap64 (m - (xs.length : Int))) 0)
  (xs : List α) (hmax : xs.length ≤ 9223372036854775807) (hg : ∀ x ∈ xs, ∀ m, Left m → Ends (fun k => g k x m) (szV (n x) m)) (m : Int) (hm : Left m) :
  Ends (fun k => f k xs m) (szV (xs.length + (xs.map n).sum) m) := by
 have h0 := hm.1; have h1 := hm.2
 have hw : wrap64 (m - (xs.length : Int)) = m - xs.length := wrap_in (by omega) (by omega)
 refine Ends.succ (fun k => hf k xs m) ?_
 rw [hw]
 by_cases hx : m - (xs.length : Int) < 0
 ·refine Ends.const fun k => ?_
  rw [if_pos hx, szV, if_neg (by omega)]
 ·have := sz_loop hrd hl xs (by omega) hg xs.length 0 (m - xs.length) (by omega) ⟨by omega, by omega⟩
  rw [List.drop_zero] at this
  rw [← szV_add, show szV xs.length m = m - xs.length by rw [szV, if_pos (by omega)], if_neg hx]
  exact this.of fun k => by rw [if_neg hx]; rfl
theorem to_loop {τ : Type} {l0 : Nat → List α → List β → Int → Option (List β)} {g : Nat → α → Option τ} {mk : τ → β} {t : α → τ}
  (hl : ∀ k (xs : List α) (ys : List β) j, l0 (k + 1) xs ys j = if j < (xs.length : Int) then (if 0 ≤ j then (g k (rd xs j)).bind fun t => (if j < (ys.length : Int) then l0 k xs (ys.set j.toNat (mk t)) (wrap64 (j + 1)) else none) else none) else some ys)
  (xs : List α) (hx : (xs.length : Int) ≤ 1048576) (hg : ∀ x ∈ xs, Ends (fun k => g k x) (t x)) :
  ∀ (d j : Nat) (ys : List β), j + d = xs.length → ys.length = xs.length → ys.take j = (xs.take j).map (fun x => mk (t x)) → Ends (fun k => l0 k xs ys j) (xs.map (fun x => mk (t x))) := by
 intro d
 induction d with
 | zero =>
  intro j ys hj hy hk
  refine Ends.succ (fun k => hl k xs ys j) (Ends.const fun k => ?_)
  rw [if_neg (by omega)]
  rw [List.take_of_length_le (by omega), List.take_of_length_le (by omega)] at hk
  rw [hk]
 | succ d ih =>
  intro j ys hj hy hk
  have hjl : j < xs.length := by omega
  refine Ends.succ (fun k => hl k xs ys j) ?_
  have hn : (ys.set j (mk (t xs[j]))).take (j + 1) = (xs.take (j + 1)).map (fun x => mk (t x)) := by
   rw [List.take_succ_eq_append_getElem hjl, List.map_append, ← hk, List.take_succ_eq_append_getElem (by rw [List.length_set]; omega), List.take_set_of_le (Nat.le_refl _)]
   simp
  have hb := (hg xs[j] (List.getElem_mem hjl)).bind (g := fun k t => (if (j : Int) < (ys.length : Int) then l0 k xs (ys.set j (mk t)) ((j + 1 : Nat) : Int) else none)) ((ih (j + 1) _ (by omega) (by rw [List.length_set]; exact hy) hn).of fun k => by rw [if_pos (by omega)])
  refine hb.of fun k => ?_
  rw [if_pos (by omega), if_pos (by omega), hrd xs j hjl, wrap_in (by omega) (by omega)]
  rfl
theorem eq_loop {l0 : Nat → List α → List α → Int → Option Bool} {g : Nat → α → α → Option Bool}
  (hl : ∀ k (xs ys : List α) j, l0 (k + 1) xs ys j = if j < (xs.length : Int) then (if 0 ≤ j then (if j < (ys.length : Int) then (g k (rd xs j) (rd ys j)).bind fun t => (if t = true then l0 k xs ys (wrap64 (j + 1)) else some false) else none) else none) else some true)
  (xs : List α) (hx : (xs.length : Int) ≤ 9223372036854775807) (hg : ∀ x ∈ xs, Ends (fun k => g k x x) true) :
  ∀ (d j : Nat), j + d = xs.length → Ends (fun k => l0 k xs xs j) true := by
 intro d
 induction d with
 | zero =>
  intro j hj
  refine Ends.succ (fun k => hl k xs xs j) (Ends.const fun k => ?_)
  rw [if_neg (by omega)]
 | succ d ih =>
  intro j hj
  have hjl : j < xs.length := by omega
  refine Ends.succ (fun k => hl k xs xs j) ?_
  have hb := (hg xs[j] (List.getElem_mem hjl)).bind (g := fun k t => (if t = true then l0 k xs xs ((j + 1 : Nat) : Int) else some false)) ((ih (j + 1) (by omega)).of fun k => by rw [if_pos rfl])
  refine hb.of fun k => ?_
  rw [if_pos (by omega), if_pos (by omega), if_pos (by omega), hrd xs j hjl, wrap_in (by omega) (by omega)]
  rfl
end loops
end Go.Proofs.Ytiofkhfmdophpaa.B
/- Expressions of the laws and of the program: bounds, inductions, rows. -/
namespace Go.Proofs.Ytiofkhfmdophpaa.B
open Go.RowKit Go.Proofs.YtiofkhfmdophpaaW.PrintWords Go.Proofs.YtiofkhfmdophpaaW.PrintLast Go.Proofs.YtiofkhfmdophpaaW.PrintMore
set_option linter.unusedVariables false

abbrev LExT := S26
/-- Lists within are of a length that a machine's number holds. -/
def exOk : LExT → Prop
 | ⟨_, _, _, l⟩ => l.length ≤ 9223372036854775807 ∧ ∀ x ∈ l.attach, exOk x.1
termination_by e => SizeOf.sizeOf e
decreasing_by have := List.sizeOf_lt_of_mem x.2; simp; omega
theorem exOk_eq (e : LExT) : exOk e ↔ e.f3.length ≤ 9223372036854775807 ∧ ∀ x ∈ e.f3, exOk x := by
 cases e with
 | mk a b c l => rw [exOk]; simp
def iexOk : S32 → Prop
 | ⟨_, _, _, l⟩ => l.length ≤ 1048576 ∧ ∀ x ∈ l.attach, iexOk x.1
termination_by e => SizeOf.sizeOf e
decreasing_by have := List.sizeOf_lt_of_mem x.2; simp; omega
theorem iexOk_eq (e : S32) : iexOk e ↔ e.f3.length ≤ 1048576 ∧ ∀ x ∈ e.f3, iexOk x := by
 cases e with
 | mk a b c l => rw [iexOk]; simp
theorem exInd {P : LExT → Prop} (h : ∀ e : LExT, (∀ x ∈ e.f3, P x) → P e) : ∀ e, P e
 | ⟨a, b, c, l⟩ => h _ (fun x hx => exInd h x)
termination_by e => SizeOf.sizeOf e
decreasing_by have := List.sizeOf_lt_of_mem hx; simp at this ⊢; omega
theorem iexInd {P : S32 → Prop} (h : ∀ e : S32, (∀ x ∈ e.f3, P x) → P e) : ∀ e, P e
 | ⟨a, b, c, l⟩ => h _ (fun x hx => iexInd h x)
termination_by e => SizeOf.sizeOf e
decreasing_by have := List.sizeOf_lt_of_mem hx; simp at this ⊢; omega
def exN : LExT → Nat
 | ⟨_, _, _, l⟩ => l.length + (l.attach.map fun x => exN x.1).sum
termination_by e => SizeOf.sizeOf e
decreasing_by have := List.sizeOf_lt_of_mem x.2; simp; omega
theorem exN_eq (e : LExT) : exN e = e.f3.length + (e.f3.map exN).sum := by
 cases e with
 | mk a b c l => rw [exN]; simp
def exTo : LExT → S32
 | ⟨a, b, c, l⟩ => ⟨a, b, ⟨c.f0, c.f1⟩, l.attach.map fun x => exTo x.1⟩
termination_by e => SizeOf.sizeOf e
decreasing_by have := List.sizeOf_lt_of_mem x.2; simp; omega
theorem exTo_eq (e : LExT) : exTo e = ⟨e.f0, e.f1, ⟨e.f2.f0, e.f2.f1⟩, e.f3.map exTo⟩ := by
 cases e with
 | mk a b c l => rw [exTo]; simp
theorem rdI_ex (l : List S32) (j : Nat) (h : j < l.length) : rd_T32 l (j : Int) = l[j] := by simp [rd_T32, h]
theorem mem_sum : ∀ (l : List Nat) (x : Nat), x ∈ l → x ≤ l.sum
 | [], x, h => by simp at h
 | a :: l, x, h => by
  rw [List.sum_cons]
  rcases List.mem_cons.mp h with rfl | h
  ·omega
  ·have := mem_sum l x h; omega
end Go.Proofs.Ytiofkhfmdophpaa.B
/- A loop that asks the same of each place. -/
namespace Go.Proofs.Ytiofkhfmdophpaa.B
open Go.RowKit Go.Proofs.YtiofkhfmdophpaaW.PrintWords Go.Proofs.YtiofkhfmdophpaaW.PrintLast Go.Proofs.YtiofkhfmdophpaaW.PrintMore
set_option linter.unusedVariables false
theorem all_loop {L : Nat → Int → Option Bool} {p : Nat → Bool} {b : Bool} (n : Nat) (hend : Ends (fun k => L k (n : Int)) b) (hstep : ∀ j r, j < n → Ends (fun k => L k ((j + 1 : Nat) : Int)) r → Ends (fun k => L k (j : Int)) (p j && r)) :
  Ends (fun k => L k 0) ((List.range n).all p && b) := by
 have h : ∀ d j, j + d = n → Ends (fun k => L k (j : Int)) ((List.range' j d).all p && b) := by
  intro d
  induction d with
  | zero =>
   intro j hj
   obtain rfl : j = n := by omega
   exact hend
  | succ d ih =>
   intro j hj
   rw [List.range'_succ, List.all_cons, Bool.and_assoc]
   exact hstep j _ (by omega) (ih (j + 1) (by omega))
 have := h n 0 (by omega)
 rw [← List.range_eq_range'] at this
 exact this
theorem and_part {f g : Nat → Option Bool} {a b : Bool} (hf : Ends f a) (hg : Ends g b) : Ends (fun k => (f k).bind fun t => if t = true then g k else some false) (a && b) := by
 refine hf.bind (g := fun k t => if t = true then g k else some false) ?_
 cases a with
 | false => exact Ends.const fun k => rfl
 | true => exact hg.of fun k => by rw [if_pos rfl]
theorem next_in {n j : Nat} (hn : n ≤ 9223372036854775807) (hj : j < n) : wrap64 ((j : Int) + 1) = ((j + 1 : Nat) : Int) := by rw [wrap_in (by omega) (by omega)]; omega
end Go.Proofs.Ytiofkhfmdophpaa.B
/- slices.ContainsFunc over rows of impl.Expr, at any function value. -/
namespace Go.Proofs.Ytiofkhfmdophpaa.B
open Go.RowKit Go.Shelf Go.Proofs.YtiofkhfmdophpaaW.PrintWords Go.Proofs.YtiofkhfmdophpaaW.PrintLast Go.Proofs.YtiofkhfmdophpaaW.PrintMore
set_option linter.unusedVariables false

/-- What a function value says of an element, in every world behind w0. -/
def PrEx (f : Nat) (cap : Array Value) (p : S32 → Bool) (w0 : World) (l : List S32) : Prop := ∀ (x : S32) (A4 : Option Addr) (c4 : Nat) (w : World), x ∈ l → Below w0.heap.size w0 w → Kd.C k32 w A4 x.f3.length x.f3 → x.f3.length ≤ c4 → Calls Try.prog f (#[.agg #[.int .i64 x.f0, .int .i64 x.f1, .int .i64 x.f2.f0, .int .i64 x.f2.f1, .slice A4 x.f3.length c4]] ++ cap) w fun e w' => e = .returned (.bool (p x)) ∧ Below w.heap.size w w'
set_option maxRecDepth 100000 in
set_option maxHeartbeats 4000000 in
theorem indexFuncEx_any (f : Nat) (cap : Array Value) (p : S32 → Bool) (he : ∀ args w, (callFunc f args).run Try.prog w = .ok (.enter f args) w) (l : List S32) (A : Option Addr) (c : Nat) (w : World) (hf : PrEx f cap p w l) (hC : Kd.C k32 w A l.length l) (hc : l.length ≤ c) :
  Calls Try.prog 134 #[.slice A l.length c, .func (.func f) #[] cap] w fun e w' => (∃ r : Int, decide (0 ≤ r) = l.any p ∧ e = .returned (.int .i64 r)) ∧ Below w.heap.size w w' := by
 have hmax : l.length ≤ 9223372036854775807 := hC.2.1
 have HFC := Aside0.mk (And.intro hf hC)
 clear hf hC
 go_enter Try.func134, Try.ntmps134
 go_wp2
 go_loopw [5, 8] (fun _ i wr => ∃ (j : Nat), i = .int .i64 j ∧ Aside0 (j ≤ l.length ∧ (l.take j).any p = false ∧ Below w.heap.size w wr)) (fun _ i _ => l.length - (intOf i).toNat)
 case atStart => exact ⟨0, rfl, ⟨Nat.zero_le _, by simp, Below.refl _ _⟩⟩
 case round =>
  obtain ⟨j, rfl, HR⟩ := hrel
  by_cases hj : j < l.length
  ·obtain ⟨ad, A4, c4, hA, e0, e1, e2, e3, e4, hl4, hi4⟩ := at_T32 HFC.out.2 (j : Int) (by omega) (by omega)
   cases hA
   have hkid : rd_T32 l (j : Int) = l[j] := by simp [rd_T32, hj]
   have hb := HR.out.2.2
   replace e0 := (hb.cell (World.block_lt_of_cell? w _ e0)).trans e0
   replace e1 := (hb.cell (World.block_lt_of_cell? w _ e1)).trans e1
   replace e2 := (hb.cell (World.block_lt_of_cell? w _ e2)).trans e2
   replace e3 := (hb.cell (World.block_lt_of_cell? w _ e3)).trans e3
   replace e4 := (hb.cell (World.block_lt_of_cell? w _ e4)).trans e4
   rw [hkid] at e0 e1 e2 e3 e4 hl4 hi4
   simp only [Int.toNat_natCast] at e0 e1 e2 e3 e4
   obtain ⟨x, hx⟩ : ∃ x, x = l[j] := ⟨_, rfl⟩
   rw [← hx] at e0 e1 e2 e3 e4 hl4 hi4
   have HC := Aside0.mk (HFC.out.1 x A4 c4 wr (by rw [hx]; exact List.getElem_mem hj) hb (Kd.C_below hi4 hb) hl4)
   have HX := Aside0.mk (And.intro hx hmax)
   have HJ := Aside0.mk hj
   clear hb hx hkid hl4 hi4
   go_wp2_with fail
   refine HC.out.mono ?_
   clear HC
   rintro e w1 ⟨rfl, hb1⟩
   have HB := Aside0.mk (HR.out.2.2.trans (hb1.mono HR.out.2.2.size))
   clear hb1
   cases hp : p x with
   | true =>
    have HP := Aside0.mk hp; clear hp
    go_wp2
    go_ret
    refine ⟨⟨j, ?_, rfl⟩, HB.out⟩
    have : l.any p = true := List.any_eq_true.2 ⟨l[j], List.getElem_mem HJ.out, by rw [← HX.out.1]; exact HP.out⟩
    rw [this]; simp
   | false =>
    have HP := Aside0.mk hp; clear hp
    go_wp2
    go_roundw
    case rel => exact ⟨j + 1, by go_num, ⟨HJ.out, by rw [List.take_succ_eq_append_getElem HJ.out, List.any_append, HR.out.2.1]; simp [← HX.out.1, HP.out], HB.out⟩⟩
    case measure => have := HJ.out; simp [intOf]; omega
  ·have hjl : j = l.length := by have := HR.out.1; omega
   have hn := HR.out.2.1
   rw [hjl, List.take_of_length_le (Nat.le_refl _)] at hn
   have HN := Aside0.mk hn; clear hn hjl
   go_wp2
   go_ret
   exact ⟨⟨-1, by rw [HN.out]; rfl, rfl⟩, HR.out.2.2⟩
set_option maxRecDepth 100000 in
theorem containsFuncEx_any (f : Nat) (cap : Array Value) (p : S32 → Bool) (he : ∀ args w, (callFunc f args).run Try.prog w = .ok (.enter f args) w) (l : List S32) (A : Option Addr) (c : Nat) (w : World) (hf : PrEx f cap p w l) (hC : Kd.C k32 w A l.length l) (hc : l.length ≤ c) :
  Calls Try.prog 130 #[.slice A l.length c, .func (.func f) #[] cap] w fun e w' => e = .returned (.bool (l.any p)) ∧ Below w.heap.size w w' := by
 have HC := Aside0.mk (indexFuncEx_any f cap p he l A c w hf hC hc)
 clear hC hc hf
 go_enter Try.func130, Try.ntmps130
 go_wp2_with fail
 refine HC.out.mono ?_
 clear HC
 rintro e w1 ⟨⟨r, hr, rfl⟩, hb1⟩
 have HB := Aside0.mk (And.intro hr hb1)
 clear hr hb1
 go_wp2
 go_ret
 exact ⟨by rw [← HB.out.1]; rfl, HB.out.2⟩
/-- What a function value says of two elements, in every world behind w0. -/
def PqEx (f : Nat) (cap : Array Value) (p : S32 → S32 → Bool) (w0 : World) (l m : List S32) : Prop := ∀ (x y : S32) (A4 : Option Addr) (c4 : Nat) (B4 : Option Addr) (d4 : Nat) (w : World), x ∈ l → y ∈ m → Below w0.heap.size w0 w → Kd.C k32 w A4 x.f3.length x.f3 → x.f3.length ≤ c4 → Kd.C k32 w B4 y.f3.length y.f3 → y.f3.length ≤ d4 → Calls Try.prog f (#[.agg #[.int .i64 x.f0, .int .i64 x.f1, .int .i64 x.f2.f0, .int .i64 x.f2.f1, .slice A4 x.f3.length c4], .agg #[.int .i64 y.f0, .int .i64 y.f1, .int .i64 y.f2.f0, .int .i64 y.f2.f1, .slice B4 y.f3.length d4]] ++ cap) w fun e w' => e = .returned (.bool (p x y)) ∧ Below w.heap.size w w'
def eqLEx (p : S32 → S32 → Bool) (l m : List S32) : Bool := l.length == m.length && (l.zip m).all fun x => p x.1 x.2
set_option maxRecDepth 100000 in
set_option maxHeartbeats 4000000 in
theorem equalFuncEx_any (f : Nat) (cap : Array Value) (p : S32 → S32 → Bool) (he : ∀ args w, (callFunc f args).run Try.prog w = .ok (.enter f args) w) (l m : List S32) (A B : Option Addr) (c d : Nat) (w : World) (hf : PqEx f cap p w l m) (hC : Kd.C k32 w A l.length l) (hD : Kd.C k32 w B m.length m) (hc : l.length ≤ c) (hd : m.length ≤ d) :
  Calls Try.prog 81 #[.slice A l.length c, .slice B m.length d, .func (.func f) #[] cap] w fun e w' => e = .returned (.bool (eqLEx p l m)) ∧ Below w.heap.size w w' := by
 have hmax : l.length ≤ 9223372036854775807 := hC.2.1
 have hmax2 : m.length ≤ 9223372036854775807 := hD.2.1
 have HFC := Aside0.mk (And.intro hf (And.intro hC hD))
 clear hf hC hD
 by_cases hlm : l.length = m.length
 rotate_left
 ·have b1 : ((l.length : Int) != (m.length : Int)) = true := by rw [bne_iff_ne]; omega
  have HN := Aside0.mk hlm; clear hlm
  go_enter Try.func81, Try.ntmps81
  go_wp2
  go_ret
  exact ⟨by rw [eqLEx, show (l.length == m.length) = false from beq_false_of_ne HN.out]; rfl, Below.refl _ _⟩
 have b1 : ((l.length : Int) != (m.length : Int)) = false := by rw [hlm]; simp
 have HLM := Aside0.mk hlm; clear hlm
 go_enter Try.func81, Try.ntmps81
 go_wp2
 go_loopw [7, 8, 9, 17] (fun _ _ _ i wr => ∃ (j : Nat), i = .int .i64 j ∧ Aside0 (j ≤ l.length ∧ ((l.take j).zip (m.take j)).all (fun x => p x.1 x.2) = true ∧ Below w.heap.size w wr)) (fun _ _ _ i _ => l.length - (intOf i).toNat)
 case atStart => exact ⟨0, rfl, ⟨Nat.zero_le _, by simp, Below.refl _ _⟩⟩
 case round =>
  obtain ⟨j, rfl, HR⟩ := hrel
  by_cases hj : j < l.length
  ·have hj2 : j < m.length := by have := HLM.out; omega
   obtain ⟨ad, A4, c4, hA, e0, e1, e2, e3, e4, hl4, hi4⟩ := at_T32 HFC.out.2.1 (j : Int) (by omega) (by omega)
   obtain ⟨bd, B4, d4, hB, g0, g1, g2, g3, g4, ml4, mi4⟩ := at_T32 HFC.out.2.2 (j : Int) (by omega) (by omega)
   cases hA
   cases hB
   have hkid : rd_T32 l (j : Int) = l[j] := by simp [rd_T32, hj]
   have hkid2 : rd_T32 m (j : Int) = m[j] := by simp [rd_T32, hj2]
   have hb := HR.out.2.2
   replace e0 := (hb.cell (World.block_lt_of_cell? w _ e0)).trans e0
   replace g0 := (hb.cell (World.block_lt_of_cell? w _ g0)).trans g0
   replace e1 := (hb.cell (World.block_lt_of_cell? w _ e1)).trans e1
   replace g1 := (hb.cell (World.block_lt_of_cell? w _ g1)).trans g1
   replace e2 := (hb.cell (World.block_lt_of_cell? w _ e2)).trans e2
   replace g2 := (hb.cell (World.block_lt_of_cell? w _ g2)).trans g2
   replace e3 := (hb.cell (World.block_lt_of_cell? w _ e3)).trans e3
   replace g3 := (hb.cell (World.block_lt_of_cell? w _ g3)).trans g3
   replace e4 := (hb.cell (World.block_lt_of_cell? w _ e4)).trans e4
   replace g4 := (hb.cell (World.block_lt_of_cell? w _ g4)).trans g4
   rw [hkid] at e0 e1 e2 e3 e4 hl4 hi4
   rw [hkid2] at g0 g1 g2 g3 g4 ml4 mi4
   simp only [Int.toNat_natCast] at e0 e1 e2 e3 e4 g0 g1 g2 g3 g4
   obtain ⟨x, hx⟩ : ∃ x, x = l[j] := ⟨_, rfl⟩
   obtain ⟨y, hy⟩ : ∃ y, y = m[j] := ⟨_, rfl⟩
   rw [← hx] at e0 e1 e2 e3 e4 hl4 hi4
   rw [← hy] at g0 g1 g2 g3 g4 ml4 mi4
   have HC := Aside0.mk (fun (W : World) (hW : Below wr.heap.size wr W) => HFC.out.1 x y A4 c4 B4 d4 W (by rw [hx]; exact List.getElem_mem hj) (by rw [hy]; exact List.getElem_mem hj2) (hb.trans (hW.mono hb.size)) (Kd.C_below (Kd.C_below hi4 hb) hW) hl4 (Kd.C_below (Kd.C_below mi4 hb) hW) ml4)
   have HX := Aside0.mk (And.intro hx (And.intro hy (And.intro hmax hmax2)))
   have HJ := Aside0.mk (And.intro hj hj2)
   clear hb hx hy hkid hkid2 hl4 hi4 ml4 mi4
   go_upto_region 6 with (fail)
   have j1 := heap_alloc_new wr (.cells #[.int .i64 x.f0, .int .i64 x.f1, .int .i64 x.f2.f0, .int .i64 x.f2.f1, .slice A4 x.f3.length c4] 32)
   have hb1 : Below wr.heap.size wr (wr.alloc (.cells #[.int .i64 x.f0, .int .i64 x.f1, .int .i64 x.f2.f0, .int .i64 x.f2.f1, .slice A4 x.f3.length c4] 32)) := (Below.refl _ _).alloc (Nat.le_refl _) _
   generalize wr.alloc (.cells #[.int .i64 x.f0, .int .i64 x.f1, .int .i64 x.f2.f0, .int .i64 x.f2.f1, .slice A4 x.f3.length c4] 32) = W1 at j1 hb1 ⊢
   replace g0 := (hb1.cell (World.block_lt_of_cell? wr _ g0)).trans g0
   replace g1 := (hb1.cell (World.block_lt_of_cell? wr _ g1)).trans g1
   replace g2 := (hb1.cell (World.block_lt_of_cell? wr _ g2)).trans g2
   replace g3 := (hb1.cell (World.block_lt_of_cell? wr _ g3)).trans g3
   replace g4 := (hb1.cell (World.block_lt_of_cell? wr _ g4)).trans g4
   clear e0 e1 e2 e3 e4
   go_upto_region 7 with (fail)
   have j2 := heap_alloc_new W1 (.cells #[.int .i64 y.f0, .int .i64 y.f1, .int .i64 y.f2.f0, .int .i64 y.f2.f1, .slice B4 y.f3.length d4] 32)
   have hb2 : Below W1.heap.size W1 (W1.alloc (.cells #[.int .i64 y.f0, .int .i64 y.f1, .int .i64 y.f2.f0, .int .i64 y.f2.f1, .slice B4 y.f3.length d4] 32)) := (Below.refl _ _).alloc (Nat.le_refl _) _
   generalize W1.alloc (.cells #[.int .i64 y.f0, .int .i64 y.f1, .int .i64 y.f2.f0, .int .i64 y.f2.f1, .slice B4 y.f3.length d4] 32) = W2 at j2 hb2 ⊢
   replace j1 := (hb2.block _ (blk_lt j1)).trans j1
   clear g0 g1 g2 g3 g4
   have e0 : W2.cell? ⟨wr.heap.size, 0, none⟩ = some (.int .i64 x.f0) := by rw [blk_cell j1]; rfl
   have g0 : W2.cell? ⟨W1.heap.size, 0, none⟩ = some (.int .i64 y.f0) := by rw [blk_cell j2]; rfl
   have e1 : W2.cell? ⟨wr.heap.size, 1, none⟩ = some (.int .i64 x.f1) := by rw [blk_cell j1]; rfl
   have g1 : W2.cell? ⟨W1.heap.size, 1, none⟩ = some (.int .i64 y.f1) := by rw [blk_cell j2]; rfl
   have e2 : W2.cell? ⟨wr.heap.size, 2, none⟩ = some (.int .i64 x.f2.f0) := by rw [blk_cell j1]; rfl
   have g2 : W2.cell? ⟨W1.heap.size, 2, none⟩ = some (.int .i64 y.f2.f0) := by rw [blk_cell j2]; rfl
   have e3 : W2.cell? ⟨wr.heap.size, 3, none⟩ = some (.int .i64 x.f2.f1) := by rw [blk_cell j1]; rfl
   have g3 : W2.cell? ⟨W1.heap.size, 3, none⟩ = some (.int .i64 y.f2.f1) := by rw [blk_cell j2]; rfl
   have e4 : W2.cell? ⟨wr.heap.size, 4, none⟩ = some (.slice A4 x.f3.length c4) := by rw [blk_cell j1]; rfl
   have g4 : W2.cell? ⟨W1.heap.size, 4, none⟩ = some (.slice B4 y.f3.length d4) := by rw [blk_cell j2]; rfl
   have hbb : Below wr.heap.size wr W2 := hb1.trans (hb2.mono hb1.size)
   have HCC := Aside0.mk (HC.out W2 hbb)
   have HBB := Aside0.mk hbb
   clear j1 j2 hb1 hb2 hbb HC
   go_wp2_with fail
   refine HCC.out.mono ?_
   clear HCC e0 e1 e2 e3 e4 g0 g1 g2 g3 g4
   rintro e w1 ⟨rfl, hb1⟩
   have HB := Aside0.mk (HR.out.2.2.trans ((HBB.out.trans (hb1.mono HBB.out.size)).mono HR.out.2.2.size))
   clear hb1
   cases hp : p x y with
   | false =>
    have HP := Aside0.mk hp; clear hp
    go_wp2
    go_ret
    refine ⟨?_, HB.out⟩
    have : ((l.zip m).all fun x => p x.1 x.2) = false := by
     rw [List.all_eq_false]
     refine ⟨(l[j]'HJ.out.1, m[j]'HJ.out.2), ?_, by simp [← HX.out.1, ← HX.out.2.1, HP.out]⟩
     rw [← List.getElem_zip (h := by simp; have := HJ.out; omega)]
     exact List.getElem_mem _
    rw [eqLEx, this, Bool.and_false]; rfl
   | true =>
    have HP := Aside0.mk hp; clear hp
    go_wp2
    go_roundw
    case rel => exact ⟨j + 1, by go_num, ⟨HJ.out.1, by rw [List.take_succ_eq_append_getElem HJ.out.1, List.take_succ_eq_append_getElem HJ.out.2, List.zip_append (by simp; have := HJ.out; omega), List.all_append, HR.out.2.1]; simp [← HX.out.1, ← HX.out.2.1, HP.out], HB.out⟩⟩
    case measure => have := HJ.out; simp [intOf]; omega
  ·have hjl : j = l.length := by have := HR.out.1; omega
   have hn := HR.out.2.1
   rw [hjl, List.take_of_length_le (Nat.le_refl _), List.take_of_length_le (by have := HLM.out; omega)] at hn
   have HN := Aside0.mk hn; clear hn hjl
   go_wp2
   go_ret
   exact ⟨by rw [eqLEx, HN.out, HLM.out, beq_self_eq_true]; rfl, HR.out.2.2⟩
end Go.Proofs.Ytiofkhfmdophpaa.B
/- impl.ExprAlike: two trees are alike just if they are the same. -/
namespace Go.Proofs.Ytiofkhfmdophpaa.B
open Go.RowKit Go.Shelf Go.Proofs.YtiofkhfmdophpaaW.PrintWords Go.Proofs.YtiofkhfmdophpaaW.PrintLast Go.Proofs.YtiofkhfmdophpaaW.PrintMore
set_option linter.unusedVariables false
attribute [local go_sem high] eqA29

theorem alInd {P : S32 → Prop} (h : ∀ e : S32, (∀ x ∈ e.f3, P x) → P e) : ∀ e, P e
 | ⟨a, b, c, l⟩ => h _ (fun x hx => alInd h x)
termination_by e => SizeOf.sizeOf e
decreasing_by have := List.sizeOf_lt_of_mem hx; simp at this ⊢; omega
def alikeL : S32 → S32 → Bool
 | ⟨a, b, c, l⟩, y => a == y.f0 && (b == y.f1 && ((c.f0 == y.f2.f0 && (c.f1 == y.f2.f1)) && (l.length == y.f3.length && (l.attach.zip y.f3).all fun x => alikeL x.1.1 x.2)))
termination_by e => SizeOf.sizeOf e
decreasing_by have := List.sizeOf_lt_of_mem x.1.2; simp; omega
theorem zip_attach_all (p : S32 → S32 → Bool) (l m : List S32) : ((l.attach.zip m).all fun x => p x.1.1 x.2) = ((l.zip m).all fun x => p x.1 x.2) := by
 have h : (l.attach.zip m).map (fun x => (x.1.1, x.2)) = l.zip m := by
  have : (fun x : { x // x ∈ l } × S32 => (x.1.1, x.2)) = Prod.map (fun x => x.1) id := by funext x; rfl
  rw [this, ← List.zip_map, List.attach_map_subtype_val, List.map_id]
 rw [← h, List.all_map]; rfl
theorem alikeL_eq (x y : S32) : alikeL x y = (x.f0 == y.f0 && (x.f1 == y.f1 && ((x.f2.f0 == y.f2.f0 && (x.f2.f1 == y.f2.f1)) && eqLEx alikeL x.f3 y.f3))) := by
 cases x with
 | mk a b c l => rw [alikeL, zip_attach_all]; rfl
set_option maxRecDepth 100000 in
set_option maxHeartbeats 4000000 in
theorem alike_any (x : S32) : ∀ (y : S32) (A B : Option Addr) (c d : Nat) (w : World), Kd.C k32 w A x.f3.length x.f3 → x.f3.length ≤ c → Kd.C k32 w B y.f3.length y.f3 → y.f3.length ≤ d →
  Calls Try.prog 48 #[.agg #[.int .i64 x.f0, .int .i64 x.f1, .int .i64 x.f2.f0, .int .i64 x.f2.f1, .slice A x.f3.length c], .agg #[.int .i64 y.f0, .int .i64 y.f1, .int .i64 y.f2.f0, .int .i64 y.f2.f1, .slice B y.f3.length d]] w fun e w' => e = .returned (.bool (alikeL x y)) ∧ Below w.heap.size w w' := by
 induction x using alInd with
 | h x ih =>
  intro y A B c d w hC hc hD hd
  have hB0 : Below w.heap.size w ((w.alloc (.cells #[.int .i64 x.f0, .int .i64 x.f1, .int .i64 x.f2.f0, .int .i64 x.f2.f1, .slice A x.f3.length c] 32)).alloc (.cells #[.int .i64 y.f0, .int .i64 y.f1, .int .i64 y.f2.f0, .int .i64 y.f2.f1, .slice B y.f3.length d] 32)) := ((Below.refl _ _).alloc (Nat.le_refl _) _).alloc (by simp) _
  have hcall := fun (W : World) (hW : Below w.heap.size w W) => equalFuncEx_any 48 #[] alikeL (enters_of Try.func48 (by kernel_rfl) rfl) x.f3 y.f3 A B c d W (fun p q A4 c4 B4 d4 W' hp hq hb h1 h2 h3 h4 => by simpa using ih p hp q A4 B4 c4 d4 W' h1 h2 h3 h4) (Kd.C_below hC hW) (Kd.C_below hD hW) hc hd
  have HX := Aside0.mk (And.intro hB0 hcall)
  have HE := Aside0.mk (alikeL_eq x y)
  clear hB0 hcall hC hD hc hd ih
  by_cases h0 : x.f0 = y.f0
  ·have b0 : (x.f0 == y.f0) = true := beq_iff_eq.2 h0
   have H0 := Aside0.mk b0; clear h0
   by_cases h1 : x.f1 = y.f1
   ·have b1 : (x.f1 == y.f1) = true := beq_iff_eq.2 h1
    have H1 := Aside0.mk b1; clear h1
    cases h2 : (x.f2.f0 == y.f2.f0 && (x.f2.f1 == y.f2.f1)) with
    | true =>
     have H2 := Aside0.mk h2
     go_enter Try.func48, Try.ntmps48
     go_wp2_with fail
     refine (HX.out.2 _ HX.out.1).mono ?_
     rintro e w1 ⟨rfl, hb1⟩
     have HB := Aside0.mk (HX.out.1.trans (hb1.mono HX.out.1.size))
     clear hb1
     go_wp2
     go_ret
     exact ⟨by rw [HE.out, H0.out, H1.out, H2.out]; rfl, HB.out⟩
    | false =>
     have H2 := Aside0.mk h2
     go_enter Try.func48, Try.ntmps48
     go_wp2
     go_ret
     exact ⟨by rw [HE.out, H0.out, H1.out, H2.out]; rfl, HX.out.1⟩
   ·have b1 : (x.f1 == y.f1) = false := beq_false_of_ne h1
    have H1 := Aside0.mk b1; clear h1
    go_enter Try.func48, Try.ntmps48
    go_wp2
    go_ret
    exact ⟨by rw [HE.out, H0.out, H1.out]; rfl, HX.out.1⟩
  ·have b0 : (x.f0 == y.f0) = false := beq_false_of_ne h0
   have H0 := Aside0.mk b0; clear h0
   go_enter Try.func48, Try.ntmps48
   go_wp2
   go_ret
   exact ⟨by rw [HE.out, H0.out]; rfl, HX.out.1⟩
theorem eqLEx_iff {l m : List S32} (h : ∀ x ∈ l, ∀ y, alikeL x y = true ↔ x = y) : eqLEx alikeL l m = true ↔ l = m := by
 induction l generalizing m with
 | nil => cases m <;> simp [eqLEx]
 | cons a l ih =>
  cases m with
  | nil => simp [eqLEx]
  | cons b m =>
   have ih' := ih (m := m) (fun x hx => h x (List.mem_cons_of_mem _ hx))
   have hab := h a (List.mem_cons_self ..) b
   simp only [eqLEx, List.length_cons, List.zip_cons_cons, List.all_cons, Bool.and_eq_true, beq_iff_eq, Nat.add_right_cancel_iff, List.cons.injEq] at ih' ⊢
   constructor
   ·rintro ⟨hl, hp, hq⟩; exact ⟨hab.1 hp, ih'.1 ⟨hl, hq⟩⟩
   ·rintro ⟨rfl, rfl⟩; have := ih'.2 rfl; exact ⟨this.1, hab.2 rfl, this.2⟩
/-- Alike is the same. -/
theorem alikeL_iff (x : S32) : ∀ y, alikeL x y = true ↔ x = y := by
 induction x using alInd with
 | h x ih =>
  intro y
  rw [alikeL_eq]
  simp only [Bool.and_eq_true, beq_iff_eq, eqLEx_iff ih]
  constructor
  ·rintro ⟨h0, h1, ⟨h2, h3⟩, h4⟩
   cases x with | mk a b c l => cases y with | mk a' b' c' l' => cases c; cases c'; simp_all
  ·rintro rfl; exact ⟨rfl, rfl, ⟨rfl, rfl⟩, rfl⟩
def impl_ExprAlike.f (a0_0 : Int) (a0_1 : Int) (a0_2 : Int) (a0_3 : Int) (l0_4 : List (S32)) (a1_0 : Int) (a1_1 : Int) (a1_2 : Int) (a1_3 : Int) (l1_4 : List (S32)) : Option Bool :=
 some (alikeL ⟨a0_0, a0_1, ⟨a0_2, a0_3⟩, l0_4⟩ ⟨a1_0, a1_1, ⟨a1_2, a1_3⟩, l1_4⟩)
theorem impl_ExprAlike.calls (a0_0 : Int) (a0_1 : Int) (a0_2 : Int) (a0_3 : Int) (A0_4 : Option Addr) (c0_4 : Nat) (l0_4 : List (S32)) (a1_0 : Int) (a1_1 : Int) (a1_2 : Int) (a1_3 : Int) (A1_4 : Option Addr) (c1_4 : Nat) (l1_4 : List (S32)) (r : Bool) (w : World) (hr0_4 : Kd.C k32 w A0_4 l0_4.length l0_4) (hc0_4 : l0_4.length ≤ c0_4) (hr1_4 : Kd.C k32 w A1_4 l1_4.length l1_4) (hc1_4 : l1_4.length ≤ c1_4) (h : impl_ExprAlike.f a0_0 a0_1 a0_2 a0_3 l0_4 a1_0 a1_1 a1_2 a1_3 l1_4 = some r) :
  Calls Try.prog 48 #[.agg #[.int .i64 a0_0, .int .i64 a0_1, .int .i64 a0_2, .int .i64 a0_3, .slice A0_4 l0_4.length c0_4], .agg #[.int .i64 a1_0, .int .i64 a1_1, .int .i64 a1_2, .int .i64 a1_3, .slice A1_4 l1_4.length c1_4]] w fun e w' => e = .returned (.bool r) ∧ Below w.heap.size w w' := by
 obtain rfl := Option.some.inj h
 exact alike_any ⟨a0_0, a0_1, ⟨a0_2, a0_3⟩, l0_4⟩ ⟨a1_0, a1_1, ⟨a1_2, a1_3⟩, l1_4⟩ A0_4 A1_4 c0_4 c1_4 w hr0_4 hc0_4 hr1_4 hc1_4
end Go.Proofs.Ytiofkhfmdophpaa.B
/- Plain law: the specification's own ExprAlike ends, and says what impl's says. -/
namespace Go.Proofs.Ytiofkhfmdophpaa.B
open Go.RowKit Go.Proofs.YtiofkhfmdophpaaW.PrintWords Go.Proofs.YtiofkhfmdophpaaW.PrintLast Go.Proofs.YtiofkhfmdophpaaW.PrintMore
set_option linter.unusedVariables false

theorem zip_range {α : Type} {rd : List α → Int → α} (hrd : ∀ (l : List α) (j : Nat) (h : j < l.length), rd l (j : Int) = l[j]) (p : α → α → Bool) (l m : List α) (h : l.length = m.length) : ((l.zip m).all fun x => p x.1 x.2) = (List.range l.length).all fun j => p (rd l (j : Int)) (rd m (j : Int)) := by
 rw [Bool.eq_iff_iff, List.all_eq_true, List.all_eq_true]
 constructor
 ·intro hz j hj
  have hj' : j < l.length := List.mem_range.1 hj
  rw [hrd l j hj', hrd m j (by omega)]
  exact hz (l[j], m[j]'(by omega)) (by rw [← List.getElem_zip (h := by simp; omega)]; exact List.getElem_mem _)
 ·rintro hz ⟨a, b⟩ hx
  obtain ⟨j, hj, he⟩ := List.getElem_of_mem hx
  rw [List.getElem_zip] at he
  rw [List.length_zip] at hj
  have hj1 : j < l.length := by omega
  have hj2 : j < m.length := by omega
  have := hz j (List.mem_range.2 hj1)
  rw [hrd l j hj1, hrd m j hj2] at this
  cases he
  exact this
def alike' (k : Nat) (x y : S32) : Option Bool := spec_ExprAlike.f k x.f0 x.f1 x.f2.f0 x.f2.f1 x.f3 y.f0 y.f1 y.f2.f0 y.f2.f1 y.f3
theorem alike_is (x : S32) : iexOk x → ∀ y, Ends (fun k => alike' k x y) (alikeL x y) := by
 refine iexInd (P := fun x => iexOk x → ∀ y, Ends (fun k => alike' k x y) (alikeL x y)) ?_ x
 intro x ih ho y
 rw [iexOk_eq] at ho
 have hj1 : Ends (fun k => spec_ExprAlike.j0 k true x.f0 x.f1 x.f2.f0 x.f2.f1 x.f3 y.f0 y.f1 y.f2.f0 y.f2.f1 y.f3) false := Ends.succ (fun k => by rw [spec_ExprAlike.j0, if_pos rfl]) (Ends.const fun k => rfl)
 rw [alikeL_eq]
 by_cases h0 : x.f0 = y.f0
 rotate_left
 ·rw [show (x.f0 == y.f0) = false from beq_false_of_ne h0, Bool.false_and]
  exact Ends.succ (fun k => by rw [alike', spec_ExprAlike.f, if_neg h0]) hj1
 by_cases h1 : x.f1 = y.f1
 rotate_left
 ·rw [show (x.f1 == y.f1) = false from beq_false_of_ne h1, Bool.false_and, Bool.and_false]
  exact Ends.succ (fun k => by rw [alike', spec_ExprAlike.f, if_pos h0, if_neg h1]) hj1
 rw [show (x.f0 == y.f0) = true from beq_iff_eq.2 h0, show (x.f1 == y.f1) = true from beq_iff_eq.2 h1, Bool.true_and, Bool.true_and]
 cases h2 : (x.f2.f0 == y.f2.f0 && (x.f2.f1 == y.f2.f1)) with
 | false =>
  rw [Bool.false_and]
  refine Ends.succ (fun k => ?_) hj1
  rw [alike', spec_ExprAlike.f, if_pos h0, if_pos h1, if_pos (by revert h2; cases x.f2.f0 == y.f2.f0 <;> cases x.f2.f1 == y.f2.f1 <;> decide)]
 | true =>
  rw [Bool.true_and, eqLEx]
  have h2' : ¬ (!(x.f2.f0 == y.f2.f0) || (!(x.f2.f1 == y.f2.f1))) = true := by revert h2; cases x.f2.f0 == y.f2.f0 <;> cases x.f2.f1 == y.f2.f1 <;> decide
  by_cases h3 : x.f3.length = y.f3.length
  ·rw [show (x.f3.length == y.f3.length) = true from beq_iff_eq.2 h3, Bool.true_and, zip_range rdI_ex alikeL _ _ h3]
   have := all_loop (L := fun k j => spec_ExprAlike.l0 k j x.f0 x.f1 x.f2.f0 x.f2.f1 x.f3 y.f0 y.f1 y.f2.f0 y.f2.f1 y.f3) (p := fun j => alikeL (rd_T32 x.f3 j) (rd_T32 y.f3 j)) (b := true) x.f3.length (Ends.succ (fun k => by rw [spec_ExprAlike.l0, if_neg (by omega)]) (Ends.const fun k => rfl)) (fun j r hj hr => ?_)
   ·rw [Bool.and_true] at this
    refine Ends.succ (fun k => ?_) (Ends.succ (f := fun k => spec_ExprAlike.j0 k false x.f0 x.f1 x.f2.f0 x.f2.f1 x.f3 y.f0 y.f1 y.f2.f0 y.f2.f1 y.f3) (fun k => by rw [spec_ExprAlike.j0, if_neg (by simp)]) this)
    rw [alike', spec_ExprAlike.f, if_pos h0, if_pos h1, if_neg h2', show ((x.f3.length : Int) != (y.f3.length : Int)) = false by rw [h3]; simp]
   ·have hx := ih (rd_T32 x.f3 j) (by rw [rdI_ex _ _ hj]; exact List.getElem_mem _) (by rw [rdI_ex _ _ hj]; exact ho.2 _ (List.getElem_mem _)) (rd_T32 y.f3 j)
    refine Ends.succ (fun k => ?_) (and_part hx hr)
    rw [spec_ExprAlike.l0, if_pos (by omega), if_pos (by omega), if_pos (by omega), next_in (n := x.f3.length) (by omega) hj]
    rfl
  ·rw [show (x.f3.length == y.f3.length) = false from beq_false_of_ne h3, Bool.false_and]
   refine Ends.succ (fun k => ?_) hj1
   rw [alike', spec_ExprAlike.f, if_pos h0, if_pos h1, if_neg h2', show ((x.f3.length : Int) != (y.f3.length : Int)) = true by rw [bne_iff_ne]; omega]
end Go.Proofs.Ytiofkhfmdophpaa.B
