import Derived.Test.YtddnijmgipffeaaEndsEx
import Derived.Test.YtddnijmgipffeaaMarkAll
import Derived.Test.YtddnijmgipffeaaEndsSt
/- A row that was made has the shape that the marks ask for. -/
namespace Go.Proofs.Ytddnijmgipffeaa.B
open Go.RowKit Go.Proofs.YtddnijmgipffeaaW.PrintWords Go.Proofs.YtddnijmgipffeaaW.PrintLast Go.Proofs.YtddnijmgipffeaaW.PrintMore
set_option linter.unusedVariables false

theorem own_cells {α : Type} {d : Kd α} {e : Nat} {w : World} {base : Nat} {ok : Nat → Prop} {v : Value} {xs : List α} (h : d.R e w base ok v xs) :
  (v = .slice none 0 0 ∧ xs = []) ∨ ∃ (g cap : Nat) (cur : Array Value), v = .slice (some ⟨g, 0, none⟩) xs.length cap ∧ base ≤ g ∧ w.heap[g]? = some (.cells cur e (0, 0)) ∧ xs.length ≤ cap ∧ cap ≤ 9223372036854775807 ∧
   ∀ (j : Nat) (hj : j < xs.length), ∃ cs, d.M w base (fun k => ok k ∧ some k ≠ v.ownBlock) xs[j] cs ∧ ∀ i, i < d.sz → cur[j * d.sz + i]? = cs[i]? := by
 obtain ⟨h0, inner, ⟨hlen, ho⟩, hr1, hr2⟩ := h
 rcases ho with ⟨rfl, hn⟩ | ⟨g, cap, cur, rfl, hg, hb, hn, hcap, hs, htake⟩
 ·exact .inl ⟨rfl, List.length_eq_zero_iff.1 hn⟩
 ·refine .inr ⟨g, cap, cur, rfl, hg, hb, hn, Nat.le_trans hcap (by decide), fun j hj => ?_⟩
  refine ⟨_, hr2 j xs[j] (List.getElem?_eq_getElem hj), fun i hi => ?_⟩
  have hm : j * d.sz + i < xs.length * d.sz := by
   have : (j + 1) * d.sz ≤ xs.length * d.sz := Nat.mul_le_mul_right _ hj
   rw [Nat.succ_mul] at this; omega
  rw [List.getElem?_take_of_lt hi, List.getElem?_drop, ← htake, List.getElem?_take_of_lt hm, Array.getElem?_toList]
theorem sumTo_list {α : Type} (f : α → Nat) (z : α) (xs : List α) : sumTo (fun j => f (xs.getD j z)) xs.length = (xs.map f).sum := by
 have h : ∀ n, n ≤ xs.length → sumTo (fun j => f (xs.getD j z)) n = ((xs.take n).map f).sum := by
  intro n
  induction n with
  | zero => intro _; simp [sumTo]
  | succ n ih =>
   intro hn
   rw [sumTo_succ, ih (by omega), List.take_succ_eq_append_getElem (by omega), List.map_append, List.sum_append]
   simp [List.getD_eq_getElem?_getD, show n < xs.length by omega]
 have := h xs.length (Nat.le_refl _)
 rwa [List.take_of_length_le (Nat.le_refl _)] at this
theorem sumTo_congr {f g : Nat → Nat} {n : Nat} (h : ∀ j, j < n → f j = g j) : sumTo f n = sumTo g n := by
 unfold sumTo
 rw [List.map_congr_left (fun j hj => h j (List.mem_range.1 hj))]
def iexM : S46 → Nat
 | ⟨_, _, _, l⟩ => (l.attach.map fun x => 4 + iexM x.1).sum
termination_by e => SizeOf.sizeOf e
decreasing_by have := List.sizeOf_lt_of_mem x.2; simp; omega
theorem iexM_eq (e : S46) : iexM e = (e.f3.map fun x => 4 + iexM x).sum := by
 cases e with
 | mk a b c l => rw [iexM]; simp
theorem sum_four {α : Type} (f : α → Nat) (l : List α) : (l.map fun x => 4 + 4 * f x).sum = 4 * (l.length + (l.map f).sum) := by
 induction l with
 | nil => rfl
 | cons a l ih => rw [List.map_cons, List.sum_cons, ih, List.map_cons, List.sum_cons, List.length_cons]; omega
theorem iexM_to (e : S64) : iexM (exTo e) = 4 * exN e := by
 refine exInd (P := fun e => iexM (exTo e) = 4 * exN e) ?_ e
 intro e ih
 rw [iexM_eq, exTo_eq, exN_eq, ← sum_four, List.map_map]
 exact congrArg List.sum (List.map_congr_left fun x hx => by show 4 + iexM (exTo x) = _; rw [ih x hx])
theorem shEx_of {F : Nat → Prop} {w : World} {base : Nat} (hF : ∀ b, base ≤ b → b < w.heap.size → F b) (e : S46) : ∀ (v : Value) (ok : Nat → Prop), Kd.R k46 46 w base ok v e.f3 → ShEx F w v (iexM e) := by
 refine iexInd (P := fun e => ∀ (v : Value) (ok : Nat → Prop), Kd.R k46 46 w base ok v e.f3 → ShEx F w v (iexM e)) ?_ e
 intro e ih v ok hR
 rw [iexM_eq]
 rcases own_cells hR with ⟨rfl, hn⟩ | ⟨g, cap, cur, rfl, hg, hb, hn, hcap, hcs⟩
 ·rw [hn]; exact ShEx.nil
 ·have H : ∀ j, ∃ v4, (hj : j < e.f3.length) → (IntAt cur (j * 5) ∧ IntAt cur (j * 5 + 1) ∧ IntAt cur (j * 5 + 2) ∧ IntAt cur (j * 5 + 3)) ∧ cur[j * 5 + 4]? = some v4 ∧ ShEx F w v4 (iexM e.f3[j]) := by
   intro j
   by_cases hj : j < e.f3.length
   ·obtain ⟨cs, hM, hc⟩ := hcs j hj
    obtain ⟨v4, rfl, hR4⟩ := k46_openM hM
    have h0 := hc 0 (by decide); have h1 := hc 1 (by decide); have h2 := hc 2 (by decide); have h3 := hc 3 (by decide); have h4 := hc 4 (by decide)
    exact ⟨v4, fun _ => ⟨⟨⟨_, h0⟩, ⟨_, h1⟩, ⟨_, h2⟩, ⟨_, h3⟩⟩, h4, ih _ (List.getElem_mem hj) v4 _ hR4⟩⟩
   ·exact ⟨.slice none 0 0, fun h => absurd h hj⟩
  obtain ⟨kv, hkv⟩ := Classical.axiomOfChoice H
  have hrow := ShEx.row (F := F) (w := w) g e.f3.length cap cur kv (fun j => iexM (e.f3.getD j z46)) (hF g hg (blk_lt hb)) hb hn hcap (fun j hj => (hkv j hj).1) (fun j hj => (hkv j hj).2.1) (fun j hj => by
   have := (hkv j hj).2.2
   simpa [List.getD_eq_getElem?_getD, hj] using this)
  rw [sumTo_list (fun x => 4 + iexM x) z46 e.f3] at hrow
  exact hrow
end Go.Proofs.Ytddnijmgipffeaa.B
/- A row of statements that was made has the shape that the marks ask for. -/
namespace Go.Proofs.Ytddnijmgipffeaa.B
open Go.RowKit Go.Proofs.YtddnijmgipffeaaW.PrintWords Go.Proofs.YtddnijmgipffeaaW.PrintLast Go.Proofs.YtddnijmgipffeaaW.PrintMore
set_option linter.unusedVariables false

/-- How many numbers a statement holds. -/
def istM : ISt → Nat
 | ⟨_, _, c, l, l'⟩ => 7 + iexM c + (l.attach.map fun x => istM x.1).sum + (l'.attach.map fun x => istM x.1).sum
termination_by e => SizeOf.sizeOf e
decreasing_by all_goals (have := List.sizeOf_lt_of_mem x.2; simp; omega)
theorem istM_eq (e : ISt) : istM e = 7 + iexM e.f2 + (e.f3.map istM).sum + (e.f4.map istM).sum := by
 cases e with
 | mk a b c l l' => rw [istM]; simp
theorem sum_le {α : Type} (f g : α → Nat) (l : List α) (h : ∀ x ∈ l, f x ≤ 7 + 7 * g x) : (l.map f).sum ≤ 7 * (l.length + (l.map g).sum) := by
 induction l with
 | nil => simp
 | cons a l ih =>
  have h1 := h a List.mem_cons_self
  have h2 := ih (fun x hx => h x (List.mem_cons_of_mem _ hx))
  rw [List.map_cons, List.sum_cons, List.map_cons, List.sum_cons, List.length_cons]; omega
theorem istM_to (e : LSt) : istM (stTo e) ≤ 7 + 7 * stN e := by
 refine stInd (P := fun e => istM (stTo e) ≤ 7 + 7 * stN e) ?_ e
 intro e ih ih'
 rw [istM_eq, stTo_eq, stN_eq, stsN, stsN]
 dsimp only
 rw [iexM_to, List.map_map, List.map_map]
 have h1 := sum_le (istM ∘ stTo) stN e.f3 (fun x hx => ih x hx)
 have h2 := sum_le (istM ∘ stTo) stN e.f4 (fun x hx => ih' x hx)
 omega
theorem istsM_to (l : List LSt) : ((l.map stTo).map istM).sum ≤ 7 * stsN l := by
 rw [stsN, List.map_map]
 exact sum_le _ _ l (fun x _ => istM_to x)
theorem shSts_of {F : Nat → Prop} {w : World} {base : Nat} (hF : ∀ b, base ≤ b → b < w.heap.size → F b) (l : List ISt) (hkid : ∀ x ∈ l, (∀ (v : Value) (ok : Nat → Prop), Kd.R k69 69 w base ok v x.f3 → ShSt F w v (x.f3.map istM).sum) ∧ (∀ (v : Value) (ok : Nat → Prop), Kd.R k69 69 w base ok v x.f4 → ShSt F w v (x.f4.map istM).sum))
  (v : Value) (ok : Nat → Prop) (hR : Kd.R k69 69 w base ok v l) : ShSt F w v (l.map istM).sum := by
 rcases own_cells hR with ⟨rfl, hn⟩ | ⟨g, cap, cur, rfl, hg, hb, hn, hcap, hcs⟩
 ·rw [hn]; exact ShSt.nil
 ·have H : ∀ j, ∃ q : Value × Value × Value, (hj : j < l.length) → (IntAt cur (j * 10) ∧ IntAt cur (j * 10 + 1) ∧ IntAt cur (j * 10 + 2) ∧ IntAt cur (j * 10 + 3) ∧ IntAt cur (j * 10 + 4) ∧ IntAt cur (j * 10 + 5) ∧ IntAt cur (j * 10 + 6)) ∧ (cur[j * 10 + 7]? = some q.1 ∧ cur[j * 10 + 8]? = some q.2.1 ∧ cur[j * 10 + 9]? = some q.2.2) ∧ ShEx F w q.1 (iexM l[j].f2) ∧ ShSt F w q.2.1 (l[j].f3.map istM).sum ∧ ShSt F w q.2.2 (l[j].f4.map istM).sum := by
   intro j
   by_cases hj : j < l.length
   ·obtain ⟨cs, hM, hc⟩ := hcs j hj
    obtain ⟨v7, v8, v9, rfl, hR7, hR8, hR9⟩ := k69_openM hM
    have h0 := hc 0 (by decide); have h1 := hc 1 (by decide); have h2 := hc 2 (by decide); have h3 := hc 3 (by decide); have h4 := hc 4 (by decide); have h5 := hc 5 (by decide); have h6 := hc 6 (by decide); have h7 := hc 7 (by decide); have h8 := hc 8 (by decide); have h9 := hc 9 (by decide)
    have hk := hkid l[j] (List.getElem_mem hj)
    exact ⟨(v7, v8, v9), fun _ => ⟨⟨⟨_, h0⟩, ⟨_, h1⟩, ⟨_, h2⟩, ⟨_, h3⟩, ⟨_, h4⟩, ⟨_, h5⟩, ⟨_, h6⟩⟩, ⟨h7, h8, h9⟩, shEx_of hF _ _ _ hR7, hk.1 _ _ hR8, hk.2 _ _ hR9⟩⟩
   ·exact ⟨(.slice none 0 0, .slice none 0 0, .slice none 0 0), fun h => absurd h hj⟩
  obtain ⟨kv, hkv⟩ := Classical.axiomOfChoice H
  have hg' : ∀ j (hj : j < l.length), l.getD j z69 = l[j] := fun j hj => by simp [List.getD_eq_getElem?_getD, hj]
  have hrow := ShSt.row (F := F) (w := w) g l.length cap cur (fun j => (kv j).1) (fun j => iexM (l.getD j z69).f2) (fun j => (kv j).2.1) (fun j => ((l.getD j z69).f3.map istM).sum) (fun j => (kv j).2.2) (fun j => ((l.getD j z69).f4.map istM).sum) (hF g hg (blk_lt hb)) hb hn hcap
   (fun j hj => (hkv j hj).1) (fun j hj => (hkv j hj).2.1.1) (fun j hj => by rw [hg' j hj]; exact (hkv j hj).2.2.1) (fun j hj => (hkv j hj).2.1.2.1) (fun j hj => by rw [hg' j hj]; exact (hkv j hj).2.2.2.1) (fun j hj => (hkv j hj).2.1.2.2) (fun j hj => by rw [hg' j hj]; exact (hkv j hj).2.2.2.2)
  have hs := sumTo_list istM z69 l
  rw [← hs]
  have hc : (fun j => 7 + iexM (l.getD j z69).f2 + ((l.getD j z69).f3.map istM).sum + ((l.getD j z69).f4.map istM).sum) = fun j => istM (l.getD j z69) := funext fun j => (istM_eq _).symm
  rw [← hc]
  exact hrow
theorem shSt_kids {F : Nat → Prop} {w : World} {base : Nat} (hF : ∀ b, base ≤ b → b < w.heap.size → F b) (e : ISt) : (∀ (v : Value) (ok : Nat → Prop), Kd.R k69 69 w base ok v e.f3 → ShSt F w v (e.f3.map istM).sum) ∧ (∀ (v : Value) (ok : Nat → Prop), Kd.R k69 69 w base ok v e.f4 → ShSt F w v (e.f4.map istM).sum) := by
 refine istInd (P := fun e => (∀ (v : Value) (ok : Nat → Prop), Kd.R k69 69 w base ok v e.f3 → ShSt F w v (e.f3.map istM).sum) ∧ (∀ (v : Value) (ok : Nat → Prop), Kd.R k69 69 w base ok v e.f4 → ShSt F w v (e.f4.map istM).sum)) ?_ e
 intro e ih ih'
 exact ⟨fun v ok hR => shSts_of hF e.f3 ih v ok hR, fun v ok hR => shSts_of hF e.f4 ih' v ok hR⟩
theorem shSt_of {F : Nat → Prop} {w : World} {base : Nat} (hF : ∀ b, base ≤ b → b < w.heap.size → F b) (l : List ISt) (v : Value) (ok : Nat → Prop) (hR : Kd.R k69 69 w base ok v l) : ShSt F w v (l.map istM).sum :=
 shSts_of hF l (fun x _ => shSt_kids hF x) v ok hR
end Go.Proofs.Ytddnijmgipffeaa.B
