import Derived.Test.YtlmchfcfkfegaaaEndsEx
import Derived.Test.YtlmchfcfkfegaaaMarkAll
import Derived.Test.YtlmchfcfkfegaaaEndsCh
/- A row that was made has the shape that the marks ask for. -/
namespace Go.Proofs.Ytlmchfcfkfegaaa.B
open Go.RowKit Go.Proofs.YtlmchfcfkfegaaaW.PrintWords Go.Proofs.YtlmchfcfkfegaaaW.PrintLast Go.Proofs.YtlmchfcfkfegaaaW.PrintMore
set_option linter.unusedVariables false

theorem own_cells {α : Type} {d : Kd α} {e : Nat} {w : World} {base : Nat} {ok : Nat → Prop} {v : Value} {xs : List α} (h : d.R e w base ok v xs) :
  (v = .slice none 0 0 ∧ xs = []) ∨ ∃ (g cap : Nat) (cur : Array Value), v = .slice (some ⟨g, 0, none⟩) xs.length cap ∧ base ≤ g ∧ w.heap[g]? = some (.cells cur e (0, 0)) ∧ xs.length ≤ cap ∧ cap ≤ 9223372036854775807 ∧
   ∀ (j : Nat) (hj : j < xs.length), ∃ cs, d.M w base (fun k => ok k ∧ some k ≠ v.ownBlock) xs[j] cs ∧ ∀ i, i < d.sz → cur[j * d.sz + i]? = cs[i]? := by
 obtain ⟨h0, inner, ⟨hlen, ho⟩, hr1, hr2⟩ := h
 rcases ho with ⟨rfl, hn⟩ | ⟨g, cap, cur, rfl, hg, hb, hn, hcap, hs, htake⟩
 ·exact .inl ⟨rfl, List.length_eq_zero_iff.1 hn⟩
 ·refine .inr ⟨g, cap, cur, rfl, hg, hb, hn, Nat.le_trans hcap (by decide), fun j hj => ?_⟩
  refine ⟨_, hr2 j xs[j] (List.getElem?_eq_getElem hj), fun i hi => ?_⟩
  have hm : j * d.sz + i < xs.length * d.sz := by
   have : (j + 1) * d.sz ≤ xs.length * d.sz := Nat.mul_le_mul_right _ hj
   rw [Nat.succ_mul] at this; omega
  rw [List.getElem?_take_of_lt hi, List.getElem?_drop, ← htake, List.getElem?_take_of_lt hm, Array.getElem?_toList]
theorem sumTo_list {α : Type} (f : α → Nat) (z : α) (xs : List α) : sumTo (fun j => f (xs.getD j z)) xs.length = (xs.map f).sum := by
 have h : ∀ n, n ≤ xs.length → sumTo (fun j => f (xs.getD j z)) n = ((xs.take n).map f).sum := by
  intro n
  induction n with
  | zero => intro _; simp [sumTo]
  | succ n ih =>
   intro hn
   rw [sumTo_succ, ih (by omega), List.take_succ_eq_append_getElem (by omega), List.map_append, List.sum_append]
   simp [List.getD_eq_getElem?_getD, show n < xs.length by omega]
 have := h xs.length (Nat.le_refl _)
 rwa [List.take_of_length_le (Nat.le_refl _)] at this
theorem sumTo_congr {f g : Nat → Nat} {n : Nat} (h : ∀ j, j < n → f j = g j) : sumTo f n = sumTo g n := by
 unfold sumTo
 rw [List.map_congr_left (fun j hj => h j (List.mem_range.1 hj))]
def iexM : S50 → Nat
 | ⟨_, _, _, l⟩ => (l.attach.map fun x => 4 + iexM x.1).sum
termination_by e => SizeOf.sizeOf e
decreasing_by have := List.sizeOf_lt_of_mem x.2; simp; omega
theorem iexM_eq (e : S50) : iexM e = (e.f3.map fun x => 4 + iexM x).sum := by
 cases e with
 | mk a b c l => rw [iexM]; simp
theorem sum_four {α : Type} (f : α → Nat) (l : List α) : (l.map fun x => 4 + 4 * f x).sum = 4 * (l.length + (l.map f).sum) := by
 induction l with
 | nil => rfl
 | cons a l ih => rw [List.map_cons, List.sum_cons, ih, List.map_cons, List.sum_cons, List.length_cons]; omega
theorem iexM_to (e : S149) : iexM (exTo e) = 4 * exN e := by
 refine exInd (P := fun e => iexM (exTo e) = 4 * exN e) ?_ e
 intro e ih
 rw [iexM_eq, exTo_eq, exN_eq, ← sum_four, List.map_map]
 exact congrArg List.sum (List.map_congr_left fun x hx => by show 4 + iexM (exTo x) = _; rw [ih x hx])
theorem shEx_of {F : Nat → Prop} {w : World} {base : Nat} (hF : ∀ b, base ≤ b → b < w.heap.size → F b) (e : S50) : ∀ (v : Value) (ok : Nat → Prop), Kd.R k50 50 w base ok v e.f3 → ShEx F w v (iexM e) := by
 refine iexInd (P := fun e => ∀ (v : Value) (ok : Nat → Prop), Kd.R k50 50 w base ok v e.f3 → ShEx F w v (iexM e)) ?_ e
 intro e ih v ok hR
 rw [iexM_eq]
 rcases own_cells hR with ⟨rfl, hn⟩ | ⟨g, cap, cur, rfl, hg, hb, hn, hcap, hcs⟩
 ·rw [hn]; exact ShEx.nil
 ·have H : ∀ j, ∃ v4, (hj : j < e.f3.length) → (IntAt cur (j * 5) ∧ IntAt cur (j * 5 + 1) ∧ IntAt cur (j * 5 + 2) ∧ IntAt cur (j * 5 + 3)) ∧ cur[j * 5 + 4]? = some v4 ∧ ShEx F w v4 (iexM e.f3[j]) := by
   intro j
   by_cases hj : j < e.f3.length
   ·obtain ⟨cs, hM, hc⟩ := hcs j hj
    obtain ⟨v4, rfl, hR4⟩ := k50_openM hM
    have h0 := hc 0 (by decide); have h1 := hc 1 (by decide); have h2 := hc 2 (by decide); have h3 := hc 3 (by decide); have h4 := hc 4 (by decide)
    exact ⟨v4, fun _ => ⟨⟨⟨_, h0⟩, ⟨_, h1⟩, ⟨_, h2⟩, ⟨_, h3⟩⟩, h4, ih _ (List.getElem_mem hj) v4 _ hR4⟩⟩
   ·exact ⟨.slice none 0 0, fun h => absurd h hj⟩
  obtain ⟨kv, hkv⟩ := Classical.axiomOfChoice H
  have hrow := ShEx.row (F := F) (w := w) g e.f3.length cap cur kv (fun j => iexM (e.f3.getD j z50)) (hF g hg (blk_lt hb)) hb hn hcap (fun j hj => (hkv j hj).1) (fun j hj => (hkv j hj).2.1) (fun j hj => by
   have := (hkv j hj).2.2
   simpa [List.getD_eq_getElem?_getD, hj] using this)
  rw [sumTo_list (fun x => 4 + iexM x) z50 e.f3] at hrow
  exact hrow
theorem shIn_of {F : Nat → Prop} {w : World} {base : Nat} (hF : ∀ b, base ≤ b → b < w.heap.size → F b) (l : List Int) (v : Value) (ok : Nat → Prop) (hR : Kd.R (Kd.int .i64) 3 w base ok v l) : ShIn F w v l.length := by
 rcases own_cells hR with ⟨rfl, hn⟩ | ⟨g, cap, cur, rfl, hg, hb, hn, hcap, hcs⟩
 ·rw [hn]; exact ShIn.nil
 ·have hrow := ShIn.row (F := F) (w := w) g l.length cap cur (hF g hg (blk_lt hb)) hb hn hcap (fun j hj => by
   obtain ⟨cs, hM, hc⟩ := hcs j hj
   obtain rfl : cs = [.int .i64 l[j]] := hM
   have h0 := hc 0 (by decide)
   have hz : (Kd.int .i64).sz = 1 := rfl
   rw [hz, Nat.mul_one] at h0
   exact ⟨_, h0⟩)
  have hs : sumTo (fun _ => 1) l.length = l.length := by
   have : ∀ n, sumTo (fun _ => 1) n = n := by
    intro n
    induction n with
    | zero => rfl
    | succ n ih => rw [sumTo_succ, ih]
   exact this _
  rwa [hs] at hrow
end Go.Proofs.Ytlmchfcfkfegaaa.B
/- laws.markChart, over shapes. -/
namespace Go.Proofs.Ytlmchfcfkfegaaa.B
open Go.RowKit Go.Shelf Go.Proofs.YtlmchfcfkfegaaaW.PrintWords Go.Proofs.YtlmchfcfkfegaaaW.PrintLast Go.Proofs.YtlmchfcfkfegaaaW.PrintMore
set_option linter.unusedVariables false

def trM (x : ITr) : Nat := 4 + x.f0.length + x.f1.length + iexM x.f2
theorem shTr_of {F : Nat → Prop} {w : World} {base : Nat} (hF : ∀ b, base ≤ b → b < w.heap.size → F b) (l : List ITr) (v : Value) (ok : Nat → Prop) (hR : Kd.R k52 52 w base ok v l) : ShTr F w v (l.map trM).sum := by
 rcases own_cells hR with ⟨rfl, hn⟩ | ⟨g, cap, cur, rfl, hg, hb, hn, hcap, hcs⟩
 ·rw [hn]; exact ShTr.nil
 ·have H : ∀ j, ∃ q : Value × Value × Value, (hj : j < l.length) → (IntAt cur (j * 7 + 2) ∧ IntAt cur (j * 7 + 3) ∧ IntAt cur (j * 7 + 4) ∧ IntAt cur (j * 7 + 5)) ∧ (cur[j * 7]? = some q.1 ∧ cur[j * 7 + 1]? = some q.2.1 ∧ cur[j * 7 + 6]? = some q.2.2) ∧ ShIn F w q.1 l[j].f0.length ∧ ShIn F w q.2.1 l[j].f1.length ∧ ShEx F w q.2.2 (iexM l[j].f2) := by
   intro j
   by_cases hj : j < l.length
   ·obtain ⟨cs, hM, hc⟩ := hcs j hj
    obtain ⟨v0, v1, v6, rfl, hR0, hR1, hR6⟩ := k52_openM hM
    have h0 := hc 0 (by decide); have h1 := hc 1 (by decide); have h2 := hc 2 (by decide); have h3 := hc 3 (by decide); have h4 := hc 4 (by decide); have h5 := hc 5 (by decide); have h6 := hc 6 (by decide)
    exact ⟨(v0, v1, v6), fun _ => ⟨⟨⟨_, h2⟩, ⟨_, h3⟩, ⟨_, h4⟩, ⟨_, h5⟩⟩, ⟨h0, h1, h6⟩, shIn_of hF _ _ _ hR0, shIn_of hF _ _ _ hR1, shEx_of hF _ _ _ hR6⟩⟩
   ·exact ⟨(.slice none 0 0, .slice none 0 0, .slice none 0 0), fun h => absurd h hj⟩
  obtain ⟨kv, hkv⟩ := Classical.axiomOfChoice H
  have hg' : ∀ j (hj : j < l.length), l.getD j z52 = l[j] := fun j hj => by simp [List.getD_eq_getElem?_getD, hj]
  have hrow := ShTr.row (F := F) (w := w) g l.length cap cur (fun j => (kv j).1) (fun j => (l.getD j z52).f0.length) (fun j => (kv j).2.1) (fun j => (l.getD j z52).f1.length) (fun j => (kv j).2.2) (fun j => iexM (l.getD j z52).f2) (hF g hg (blk_lt hb)) hb hn hcap
   (fun j hj => (hkv j hj).1) (fun j hj => (hkv j hj).2.1.1) (fun j hj => by rw [hg' j hj]; exact (hkv j hj).2.2.1) (fun j hj => (hkv j hj).2.1.2.1) (fun j hj => by rw [hg' j hj]; exact (hkv j hj).2.2.2.1) (fun j hj => (hkv j hj).2.1.2.2) (fun j hj => by rw [hg' j hj]; exact (hkv j hj).2.2.2.2)
  have hs := sumTo_list trM z52 l
  rw [← hs]
  exact hrow
theorem shAc_of {F : Nat → Prop} {w : World} {base : Nat} (hF : ∀ b, base ≤ b → b < w.heap.size → F b) (l : List IAc) (v : Value) (ok : Nat → Prop) (hR : Kd.R k92 92 w base ok v l) : ShAc F w v (4 * l.length) := by
 rcases own_cells hR with ⟨rfl, hn⟩ | ⟨g, cap, cur, rfl, hg, hb, hn, hcap, hcs⟩
 ·rw [hn]; exact ShAc.nil
 ·have hrow := ShAc.row (F := F) (w := w) g l.length cap cur (hF g hg (blk_lt hb)) hb hn hcap (fun j hj => by
   obtain ⟨cs, hM, hc⟩ := hcs j hj
   obtain rfl := k92_openM hM
   have h0 := hc 0 (by decide); have h1 := hc 1 (by decide); have h2 := hc 2 (by decide); have h3 := hc 3 (by decide)
   exact ⟨⟨_, h0⟩, ⟨_, h1⟩, ⟨_, h2⟩, ⟨_, h3⟩⟩)
  have hs : ∀ n, sumTo (fun _ => 4) n = 4 * n := by
   intro n
   induction n with
   | zero => rfl
   | succ n ih => rw [sumTo_succ, ih]; omega
  rwa [hs] at hrow
theorem trM_to (e : LTr) : trM (trTo e) ≤ 4 + 4 * trN e := by
 rw [trM, trN, trTo]
 show 4 + e.f0.length + e.f1.length + iexM (exTo e.f2) ≤ _
 rw [iexM_to]; omega
theorem trsM_to (l : List LTr) : ((l.map trTo).map trM).sum ≤ 4 * trsN l := by
 rw [trsN]
 induction l with
 | nil => simp
 | cons a l ih => rw [List.map_cons, List.map_cons, List.sum_cons, List.map_cons, List.sum_cons, List.length_cons]; have := trM_to a; omega
set_option maxRecDepth 100000 in
set_option maxHeartbeats 4000000 in
theorem markCh_any {F : Nat → Prop} {w0 : World} {v1 v2 : Value} {N1 N2 : Nat} (hF : ∀ b, F b → b < w0.heap.size) (h1 : ShTr F w0 v1 N1) (h2 : ShAc F w0 v2 N2) (s k : Int) (w : World) (hE : Ed F w0 w) (hk : 0 ≤ k) (hN : k + (N1 + N2 : Nat) ≤ 1000000000) :
  Calls Try.prog 18 #[.agg #[.int .i64 s, v1, v2], .int .i64 k] w fun e w' => e = .returned (.int .i64 (k + N1 + N2)) ∧ Ed F w w' := by
 obtain ⟨A1, n1, c1, rfl⟩ := h1.slice
 obtain ⟨A2, n2, c2, rfl⟩ := h2.slice
 have hb : Below w.heap.size w (w.alloc (.cells #[.int .i64 s, .slice A1 n1 c1, .slice A2 n2 c2] 31)) := (Below.refl _ _).alloc (Nat.le_refl _) _
 have HB := Aside0.mk (And.intro hE (Ed.of_below (F := F) hb))
 have HN := Aside0.mk (And.intro hk hN)
 have hj := heap_alloc_new w (.cells #[.int .i64 s, .slice A1 n1 c1, .slice A2 n2 c2] 31)
 have HJ := Aside0.mk (And.intro hj (show ¬ F w.heap.size from fun h => by have := hF _ h; have := hE.size; omega))
 have M1 := Aside0.mk (markTr_any h1)
 have M2 := Aside0.mk (markAc_any h2)
 clear hb hj hE hN
 go_enter Try.func18, Try.ntmps18
 go_wp2_with fail
 refine (M1.out k _ (HB.out.1.trans HB.out.2) hk (by have := HN.out.2; omega)).mono ?_
 rintro e w1 ⟨rfl, E1⟩
 have j1 := (E1.far _ (blk_lt HJ.out.1) HJ.out.2).trans HJ.out.1
 have x2 : w1.cell? ⟨w.heap.size, 2, none⟩ = some (.slice A2 n2 c2) := (blk_cell j1 2).trans rfl
 have HW := Aside0.mk (HB.out.2.trans E1)
 clear E1 j1
 go_wp2_with fail
 refine (M2.out (k + N1) _ (HB.out.1.trans HW.out) (by omega) (by have := HN.out.2; omega)).mono ?_
 rintro e w2 ⟨rfl, E2⟩
 have HW2 := Aside0.mk (HW.out.trans E2)
 clear E2 x2
 go_wp2
 go_ret
 exact ⟨rfl, HW2.out⟩
end Go.Proofs.Ytlmchfcfkfegaaa.B
