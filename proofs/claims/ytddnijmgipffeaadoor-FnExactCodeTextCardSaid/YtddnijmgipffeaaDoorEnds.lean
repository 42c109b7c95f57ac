/- A printed function that ends from some fuel on; the loops of the laws' own helpers, once for all types. -/
import Derived.Test.YtddnijmgipffeaaDoorB0
namespace Go.Proofs.YtddnijmgipffeaaDoor.B
open Go.RowKit Go.Proofs.YtddnijmgipffeaaDoorW.PrintWords Go.Proofs.YtddnijmgipffeaaDoorW.PrintLast Go.Proofs.YtddnijmgipffeaaDoorW.PrintMore
set_option linter.unusedVariables false

def Ends {α : Type} (f : Nat → Option α) (r : α) : Prop := ∃ K, ∀ k, K ≤ k → f k = some r
theorem Ends.const {α : Type} {f : Nat → Option α} {r : α} (h : ∀ k, f k = some r) : Ends f r := ⟨0, fun k _ => h k⟩
theorem Ends.bind {α β : Type} {f : Nat → Option α} {g : Nat → α → Option β} {a : α} {r : β} (h : Ends f a) (h' : Ends (fun k => g k a) r) : Ends (fun k => (f k).bind (g k)) r := by
  obtain ⟨K, hK⟩ := h
  obtain ⟨K', hK'⟩ := h'
  exact ⟨max K K', fun k hk => by show (f k).bind (g k) = some r; rw [hK k (by omega), Option.bind_some]; exact hK' k (by omega)⟩
theorem Ends.succ {α : Type} {f g : Nat → Option α} {r : α} (h : ∀ k, f (k + 1) = g k) (hg : Ends g r) : Ends f r := by
  obtain ⟨K, hK⟩ := hg
  exact ⟨K + 1, fun k hk => by obtain ⟨k', rfl⟩ : ∃ k', k = k' + 1 := ⟨k - 1, by omega⟩; rw [h]; exact hK k' (by omega)⟩
theorem Ends.of {α : Type} {f g : Nat → Option α} {r : α} (hg : Ends g r) (h : ∀ k, f k = g k) : Ends f r := by
  obtain ⟨K, hK⟩ := hg
  exact ⟨K, fun k hk => by rw [h]; exact hK k hk⟩
theorem wrap_in {n : Int} (h0 : -9223372036854775808 ≤ n) (h1 : n ≤ 9223372036854775807) : wrap64 n = n := by
  unfold wrap64
  omega
/-- What is left behind n parts; -1 if there are more than so many. -/
def szV (n : Nat) (left : Int) : Int := if (n : Int) ≤ left then left - n else -1
def Left (m : Int) : Prop := 0 ≤ m ∧ m ≤ 1048576
theorem szV_zero {m : Int} (h : Left m) : szV 0 m = m := by unfold szV; rw [if_pos (by have := h.1; omega)]; omega
theorem szV_left {n : Nat} {m : Int} (h : Left m) (hn : ¬ szV n m < 0) : Left (szV n m) ∧ (n : Int) ≤ m ∧ szV n m = m - n := by
  unfold szV at *
  have h0 := h.1; have h1 := h.2
  by_cases hm : (n : Int) ≤ m
  · rw [if_pos hm] at *; exact ⟨⟨by omega, by omega⟩, hm, rfl⟩
  · rw [if_neg hm] at hn; omega
theorem szV_add (n n' : Nat) (m : Int) : (if szV n m < 0 then -1 else szV n' (szV n m)) = szV (n + n') m := by
  unfold szV
  by_cases hm : (n : Int) ≤ m
  · rw [if_pos hm, if_neg (by omega)]
    by_cases hm' : (n' : Int) ≤ m - n
    · rw [if_pos hm', if_pos (by omega)]; omega
    · rw [if_neg hm', if_neg (by omega)]
  · rw [if_neg hm, if_pos (by omega), if_neg (by omega)]
theorem sz_part {g : Nat → Int → Option Int} {f : Nat → Option Int} {n n' : Nat} {m : Int} (h : Left m) (hf : Ends f (szV n m)) (hg : ∀ m', Left m' → Ends (fun k => g k m') (szV n' m')) :
    Ends (fun k => (f k).bind fun t => if t < 0 then some (-1) else g k t) (szV (n + n') m) := by
  refine hf.bind (g := fun k t => if t < 0 then some (-1) else g k t) ?_
  by_cases hn : szV n m < 0
  · refine Ends.const fun k => ?_
    rw [if_pos hn, ← szV_add, if_pos hn]
  · rw [← szV_add, if_neg hn]
    exact (hg _ (szV_left h hn).1).of (fun k => by rw [if_neg hn])
theorem sz_end {f : Nat → Option Int} {n : Nat} {m : Int} (h : Left m) (hf : Ends f (szV n m)) : Ends (fun k => (f k).bind fun t => if t < 0 then some (-1) else some t) (szV n m) := by
  have := sz_part (g := fun _ t => some t) (n' := 0) h hf (fun m' h' => Ends.const fun k => by rw [szV_zero h'])
  exact this
section loops
variable {α β : Type} {rd : List α → Int → α} (hrd : ∀ (l : List α) (j : Nat) (h : j < l.length), rd l (j : Int) = l[j])
include hrd
theorem sz_loop {l0 : Nat → List α → Int → Int → Option Int} {g : Nat → α → Int → Option Int} {n : α → Nat}
    (hl : ∀ k (xs : List α) m j, l0 (k + 1) xs m j = if j < (xs.length : Int) then (if 0 ≤ j then (g k (rd xs j) m).bind fun t => if t < 0 then some (-1) else l0 k xs t (wrap64 (j + 1)) else none) else some m)
    (xs : List α) (hx : (xs.length : Int) ≤ 1048576) (hg : ∀ x ∈ xs, ∀ m, Left m → Ends (fun k => g k x m) (szV (n x) m)) :
    ∀ (d j : Nat) (m : Int), j + d = xs.length → Left m → Ends (fun k => l0 k xs m j) (szV (((xs.drop j).map n).sum) m) := by
  intro d
  induction d with
  | zero =>
    intro j m hj hm
    rw [List.drop_of_length_le (by omega)]
    refine Ends.succ (fun k => hl k xs m j) (Ends.const fun k => ?_)
    rw [if_neg (by omega)]
    exact congrArg some (szV_zero hm).symm
  | succ d ih =>
    intro j m hj hm
    have hjl : j < xs.length := by omega
    refine Ends.succ (fun k => hl k xs m j) ?_
    have hd : xs.drop j = xs[j] :: xs.drop (j + 1) := List.drop_eq_getElem_cons hjl
    rw [hd, List.map_cons, List.sum_cons]
    refine (sz_part (g := fun k t => l0 k xs t ((j + 1 : Nat) : Int)) hm (hg xs[j] (List.getElem_mem hjl) m hm) (fun m' h' => ih (j + 1) m' (by omega) h')).of fun k => ?_
    rw [if_pos (by omega), if_pos (by omega), hrd xs j hjl, wrap_in (by omega) (by omega)]
    rfl
theorem sz_all {l0 : Nat → List α → Int → Int → Option Int} {f : Nat → List α → Int → Option Int} {g : Nat → α → Int → Option Int} {n : α → Nat}
    (hl : ∀ k (xs : List α) m j, l0 (k + 1) xs m j = if j < (xs.length : Int) then (if 0 ≤ j then (g k (rd xs j) m).bind fun t => if t < 0 then some (-1) else l0 k xs t (wrap64 (j + 1)) else none) else some m)
    (hf : ∀ k (xs : List α) m, f (k + 1) xs m = if wrap64 (m - (xs.length : Int)) < 0 then some (-1) else l0 k xs (wrap64 (m - (xs.length : Int))) 0)
    (xs : List α) (hmax : xs.length ≤ 9223372036854775807) (hg : ∀ x ∈ xs, ∀ m, Left m → Ends (fun k => g k x m) (szV (n x) m)) (m : Int) (hm : Left m) :
    Ends (fun k => f k xs m) (szV (xs.length + (xs.map n).sum) m) := by
  have h0 := hm.1; have h1 := hm.2
  have hw : wrap64 (m - (xs.length : Int)) = m - xs.length := wrap_in (by omega) (by omega)
  refine Ends.succ (fun k => hf k xs m) ?_
  rw [hw]
  by_cases hx : m - (xs.length : Int) < 0
  · refine Ends.const fun k => ?_
    rw [if_pos hx, szV, if_neg (by omega)]
  · have := sz_loop hrd hl xs (by omega) hg xs.length 0 (m - xs.length) (by omega) ⟨by omega, by omega⟩
    rw [List.drop_zero] at this
    rw [← szV_add, show szV xs.length m = m - xs.length by rw [szV, if_pos (by omega)], if_neg hx]
    exact this.of fun k => by rw [if_neg hx]; rfl
theorem to_loop {τ : Type} {l0 : Nat → List α → List β → Int → Option (List β)} {g : Nat → α → Option τ} {mk : τ → β} {t : α → τ}
    (hl : ∀ k (xs : List α) (ys : List β) j, l0 (k + 1) xs ys j = if j < (xs.length : Int) then (if 0 ≤ j then (g k (rd xs j)).bind fun t => (if j < (ys.length : Int) then l0 k xs (ys.set j.toNat (mk t)) (wrap64 (j + 1)) else none) else none) else some ys)
    (xs : List α) (hx : (xs.length : Int) ≤ 1048576) (hg : ∀ x ∈ xs, Ends (fun k => g k x) (t x)) :
    ∀ (d j : Nat) (ys : List β), j + d = xs.length → ys.length = xs.length → ys.take j = (xs.take j).map (fun x => mk (t x)) → Ends (fun k => l0 k xs ys j) (xs.map (fun x => mk (t x))) := by
  intro d
  induction d with
  | zero =>
    intro j ys hj hy hk
    refine Ends.succ (fun k => hl k xs ys j) (Ends.const fun k => ?_)
    rw [if_neg (by omega)]
    rw [List.take_of_length_le (by omega), List.take_of_length_le (by omega)] at hk
    rw [hk]
  | succ d ih =>
    intro j ys hj hy hk
    have hjl : j < xs.length := by omega
    refine Ends.succ (fun k => hl k xs ys j) ?_
    have hn : (ys.set j (mk (t xs[j]))).take (j + 1) = (xs.take (j + 1)).map (fun x => mk (t x)) := by
      rw [List.take_succ_eq_append_getElem hjl, List.map_append, ← hk, List.take_succ_eq_append_getElem (by rw [List.length_set]; omega), List.take_set_of_le (Nat.le_refl _)]
      simp
    have hb := (hg xs[j] (List.getElem_mem hjl)).bind (g := fun k t => (if (j : Int) < (ys.length : Int) then l0 k xs (ys.set j (mk t)) ((j + 1 : Nat) : Int) else none)) ((ih (j + 1) _ (by omega) (by rw [List.length_set]; exact hy) hn).of fun k => by rw [if_pos (by omega)])
    refine hb.of fun k => ?_
    rw [if_pos (by omega), if_pos (by omega), hrd xs j hjl, wrap_in (by omega) (by omega)]
    rfl
theorem eq_loop {l0 : Nat → List α → List α → Int → Option Bool} {g : Nat → α → α → Option Bool}
    (hl : ∀ k (xs ys : List α) j, l0 (k + 1) xs ys j = if j < (xs.length : Int) then (if 0 ≤ j then (if j < (ys.length : Int) then (g k (rd xs j) (rd ys j)).bind fun t => (if t = true then l0 k xs ys (wrap64 (j + 1)) else some false) else none) else none) else some true)
    (xs : List α) (hx : (xs.length : Int) ≤ 9223372036854775807) (hg : ∀ x ∈ xs, Ends (fun k => g k x x) true) :
    ∀ (d j : Nat), j + d = xs.length → Ends (fun k => l0 k xs xs j) true := by
  intro d
  induction d with
  | zero =>
    intro j hj
    refine Ends.succ (fun k => hl k xs xs j) (Ends.const fun k => ?_)
    rw [if_neg (by omega)]
  | succ d ih =>
    intro j hj
    have hjl : j < xs.length := by omega
    refine Ends.succ (fun k => hl k xs xs j) ?_
    have hb := (hg xs[j] (List.getElem_mem hjl)).bind (g := fun k t => (if t = true then l0 k xs xs ((j + 1 : Nat) : Int) else some false)) ((ih (j + 1) (by omega)).of fun k => by rw [if_pos rfl])
    refine hb.of fun k => ?_
    rw [if_pos (by omega), if_pos (by omega), if_pos (by omega), hrd xs j hjl, wrap_in (by omega) (by omega)]
    rfl
end loops
end Go.Proofs.YtddnijmgipffeaaDoor.B
