import Derived.Test.YtddnijmgipffeaaB0
import Derived.Outline
import Derived.RangeFuncBox
import Derived.Shelf.Abstract
import Derived.Deep.RegionHeld3
import Derived.Test.YtddnijmgipffeaaCntAll
import Derived.Test.YtddnijmgipffeaaPkB
/- impl's coder: an instruction is added. -/
namespace Go.Proofs.Ytddnijmgipffeaa.B
open Go.RowKit Go.Shelf Go.Proofs.YtddnijmgipffeaaW.PrintWords Go.Proofs.YtddnijmgipffeaaW.PrintLast Go.Proofs.YtddnijmgipffeaaW.PrintMore
set_option linter.unusedVariables false
set_option linter.unusedSimpArgs false

abbrev IIns := S39
/-- The coder's code: a row of the call's own, that its box holds. -/
structure Co (w0 : World) (base : Nat) (w : World) (g : Nat) (xs : List IIns) : Prop where
 ex : ∃ v, w.heap[g]? = some (.cells #[v] 73 (0, 0)) ∧ Kd.R k39 39 w base (fun _ => True) v xs
 below : Below base w0 w
 ge : base ≤ g
 le : base ≤ w.heap.size
/-- What is of another type than the row's, and not the box, stays. -/
def KeepT (w w' : World) (g : Nat) : Prop := w.heap.size ≤ w'.heap.size ∧ ∀ (b : Nat) (cs : Array Value) (t : TypeId), b ≠ g → t ≠ 39 → w.heap[b]? = some (.cells cs t (0, 0)) → w'.heap[b]? = some (.cells cs t (0, 0))
theorem KeepT.refl (w : World) (g : Nat) : KeepT w w g := ⟨Nat.le_refl _, fun _ _ _ _ _ h => h⟩
theorem KeepT.trans {w w1 w2 : World} {g : Nat} (h : KeepT w w1 g) (k : KeepT w1 w2 g) : KeepT w w2 g := ⟨Nat.le_trans h.1 k.1, fun b cs t hb ht hc => k.2 b cs t hb ht (h.2 b cs t hb ht hc)⟩
theorem KeepT.of_below {w w1 : World} {g : Nat} (h : Below w.heap.size w w1) : KeepT w w1 g := ⟨h.size, fun b cs t _ _ hc => (h.block b (blk_lt hc)).trans hc⟩
theorem KeepT.of_grown {w w1 : World} {g base : Nat} {v : Value} {xs : List IIns} {ok : Nat → Prop} (hR : Kd.R k39 39 w base ok v xs) (hg : w.grownBy w1 v.ownBlock) : KeepT w w1 g :=
 ⟨hg.size, fun b cs t _ ht hc => (hg.block b (blk_lt hc) (Kd.R_ne hR hc (fun h => ht h.symm))).trans hc⟩
theorem KeepT.set {w : World} {g : Nat} {cs : Array Value} {t : TypeId} (hb : w.heap[g]? = some (.cells cs t (0, 0))) (j : Nat) (u : Value) : KeepT w (w.setCell ⟨g, j, none⟩ u) g :=
 ⟨by simp [World.setCell], fun b cs t hn _ hc => (Below.heap_setCell w _ _ b hn).trans hc⟩
def addT : Bool × List (List Nat × List Nat) := (true, [([], []), ([], []), ([1], [1]), ([2], [2]), ([3], [3]), ([], []), ([5], [5]), ([4, 6], [4, 6]), ([0, 0, 1, 2, 3, 4, 5, 6, 7], [0]), ([8, 0, 1, 2, 3, 4, 5, 6, 7], [8]), ([9, 7, 7, 0, 1, 2, 3, 4, 5, 6, 7], [7, 9])])
def addB : List Nat := [0, 0, 2, 6, 14, 0, 32, 126, 255, 511, 1023]
theorem addTab : rtab .any (opsOf Try.f68 1) = addT := by kernel_rfl
theorem addBits : waitsOk addT.2 addB = true := by kernel_rfl
set_option maxRecDepth 100000 in
set_option maxHeartbeats 8000000 in
theorem add_any {w0 : World} {base : Nat} {w : World} {g : Nat} {xs : List IIns} (h : Co w0 base w g xs) (hx : xs.length ≤ 1000000) (i : IIns) :
  Calls Try.prog 68 #[.pointer (some ⟨g, 0, none⟩), .agg #[.int .i64 i.f0, .int .i64 i.f1, .int .i64 i.f2.f0, .int .i64 i.f2.f1]] w fun e w' => e = .returned (.int .i64 xs.length) ∧ Co w0 base w' g (xs ++ [i]) ∧ KeepT w w' g := by
 obtain ⟨⟨v, hg, hR⟩, hb, hge, hle⟩ := h
 obtain ⟨A, c, rfl⟩ := Kd.R_slice hR
 have j1 := heap_alloc_new w (.cells #[.int .i64 i.f0, .int .i64 i.f1, .int .i64 i.f2.f0, .int .i64 i.f2.f1] 39)
 have hb1 : Below w.heap.size w (w.alloc (.cells #[.int .i64 i.f0, .int .i64 i.f1, .int .i64 i.f2.f0, .int .i64 i.f2.f1] 39)) := (Below.refl _ _).alloc (Nat.le_refl _) _
 have HX := Aside0.mk (And.intro hx (And.intro hge hle))
 go_enter Try.func68, Try.ntmps68
 go_upto_region 1 with (fail)
 generalize w.alloc (.cells #[.int .i64 i.f0, .int .i64 i.f1, .int .i64 i.f2.f0, .int .i64 i.f2.f1] 39) = W1 at j1 hb1 ⊢
 have hg1 := (hb1.block _ (blk_lt hg)).trans hg
 have hR1 := Kd.R_below hR hb1
 have hbB : Below base w0 W1 := hb.trans ⟨hb1.os, hb1.tape, hb1.output, hb1.size, fun k hk => hb1.block k (Nat.lt_of_lt_of_le hk HX.out.2.2)⟩
 have hK1 : KeepT w W1 g := KeepT.of_below hb1
 have hlt : g < w.heap.size := blk_lt hg
 have HS := Aside0.mk (And.intro hb1.size (And.intro hlt hK1))
 have BKg := Aside0.mk (show (W1.drew).heap[g]? = some (.cells #[.slice A xs.length c] 73 (0, 0)) from hg1)
 have BKi := Aside0.mk (show (W1.drew).heap[w.heap.size]? = some (.cells #[.int .i64 i.f0, .int .i64 i.f1, .int .i64 i.f2.f0, .int .i64 i.f2.f1] 39 (0, 0)) from j1)
 have HR := Aside0.mk (Kd.R_drew hR1)
 have HB := Aside0.mk (below_drew1 hbB)
 have HNE := Aside0.mk (show some w.heap.size ≠ (Value.slice A xs.length c).ownBlock from fun he => by
  obtain ⟨inner, ho⟩ := Kd.R_own hR
  have := own_lt ho _ he.symm
  omega)
 have HZ := Aside0.mk (show W1.heap.size ≤ W1.drew.heap.size from Nat.le_refl _)
 have hW1 : KeepT W1 W1.drew g := KeepT.of_below (below_drew1 (Below.refl _ _))
 have HK := Aside0.mk hW1
 clear hg hR hb j1 hb1 hg1 hR1 hbB hK1 hlt hW1 hx hge hle
 refine start_ (n := 11) (S := fun w' => w'.cell? ⟨g, 0, none⟩ = some (.slice A xs.length c) ∧ w'.cell? ⟨w.heap.size, 0, none⟩ = some (.int .i64 i.f0) ∧ w'.cell? ⟨w.heap.size, 1, none⟩ = some (.int .i64 i.f1) ∧ w'.cell? ⟨w.heap.size, 2, none⟩ = some (.int .i64 i.f2.f0) ∧ w'.cell? ⟨w.heap.size, 3, none⟩ = some (.int .i64 i.f2.f1)) (ds := [10]) #[false, false, false, false, false, false, false, false, false, false, false] (by kernel_rfl) rfl rfl ⟨(blk_cell BKg.out 0).trans rfl, (blk_cell BKi.out 0).trans rfl, (blk_cell BKi.out 1).trans rfl, (blk_cell BKi.out 2).trans rfl, (blk_cell BKi.out 3).trans rfl⟩ (fun hHeld => ?_)
 refine with_tabW addTab addBits (fun HT_ HW_ => ?_)
 generalize W1.drew = w2 at BKg BKi HR HB HZ HK hHeld ⊢
 refine pure_ (i := 0) (N := some 5) (v := ?_) (a' := ?_) #[true, false, false, false, false, false, false, false, false, false, false] rfl rfl (any_of HT_.out (by kernel_rfl)) (fun _ _ _ h => h) (Or.inl ⟨by rfl, ?_⟩) ?_ ?_
 rotate_left
 ·intro w'
  go_simp
  with_reducible rfl
 rotate_left
 ·simp only [Act.put, List.setIfInBounds_toArray, List.set_cons_zero, List.set_cons_succ, i64_w, i32_w]
  rfl
 refine pure_ (i := 1) (N := some 6) (v := ?_) (a' := ?_) #[true, true, false, false, false, false, false, false, false, false, false] rfl rfl (any_of HT_.out (by kernel_rfl)) (fun _ _ _ h => h) (Or.inl ⟨by rfl, ?_⟩) ?_ ?_
 rotate_left
 ·intro w'
  go_simp
  with_reducible rfl
 rotate_left
 ·simp only [Act.put, List.setIfInBounds_toArray, List.set_cons_zero, List.set_cons_succ, i64_w, i32_w]
  rfl
 refine pure_ (i := 2) (N := some 7) (v := ?_) (a' := ?_) #[true, true, true, false, false, false, false, false, false, false, false] rfl rfl (any_of HT_.out (by kernel_rfl)) (fun _ _ _ h => h) (Or.inl ⟨by rfl, ?_⟩) ?_ ?_
 rotate_left
 ·intro w'
  go_simp
  with_reducible rfl
 rotate_left
 ·simp only [Act.put, List.setIfInBounds_toArray, List.set_cons_zero, List.set_cons_succ, i64_w, i32_w]
  rfl
 refine pure_ (i := 3) (N := some 8) (v := ?_) (a' := ?_) #[true, true, true, true, false, false, false, false, false, false, false] rfl rfl (any_of HT_.out (by kernel_rfl)) (fun _ _ _ h => h) (Or.inl ⟨by rfl, ?_⟩) ?_ ?_
 rotate_left
 ·intro w'
  go_simp
  with_reducible rfl
 rotate_left
 ·simp only [Act.put, List.setIfInBounds_toArray, List.set_cons_zero, List.set_cons_succ, i64_w, i32_w]
  rfl
 refine take_ (i := 4) (N := some 9) (v := ?_) (a' := ?_) #[true, true, true, true, true, false, false, false, false, false, false] rfl rfl (take_ofW HT_.out HW_.out (by kernel_rfl)) (fun _ _ _ h => h) (Or.inl ⟨by rfl, ?_⟩) hHeld ?_ ?_
 rotate_left
 ·rintro w' ⟨s0, s1, s2, s3, s4⟩
  go_simp
  with_reducible rfl
 rotate_left
 ·simp only [Act.put, List.setIfInBounds_toArray, List.set_cons_zero, List.set_cons_succ, i64_w, i32_w]
  rfl
 refine take_ (i := 5) (N := some 10) (v := ?_) (a' := ?_) #[true, true, true, true, true, true, false, false, false, false, false] rfl rfl (take_ofW HT_.out HW_.out (by kernel_rfl)) (fun _ _ _ h => h) (Or.inl ⟨by rfl, ?_⟩) hHeld ?_ ?_
 rotate_left
 ·rintro w' ⟨s0, s1, s2, s3, s4⟩
  go_simp
  with_reducible rfl
 rotate_left
 ·simp only [Act.put, List.setIfInBounds_toArray, List.set_cons_zero, List.set_cons_succ, i64_w, i32_w]
  rfl
 refine one_ (i := 6) (N := some 11) #[true, true, true, true, true, true, true, false, false, false, false] rfl rfl (one_of HT_.out (by kernel_rfl)) (by decide) (fun K hK => ?_)
 refine value_ (w1 := ?_) (v := ?_) (by rfl) rfl ?_ ?_
 rotate_left 2
 ·go_simp
  constructor
  ·rfl
  ·rfl
 refine hK.out _ _ ⟨(blk_cell (blk_alloc BKg.out _) 0).trans rfl, (blk_cell (blk_alloc BKi.out _) 0).trans rfl, (blk_cell (blk_alloc BKi.out _) 1).trans rfl, (blk_cell (blk_alloc BKi.out _) 2).trans rfl, (blk_cell (blk_alloc BKi.out _) 3).trans rfl⟩ (fun hHeld => ?_)
 clear hK K
 refine norm_ (a' := ?_) ?_ ?_
 rotate_left
 ·show Act.put _ (some 11) _ = _
  simp only [Act.put, List.setIfInBounds_toArray, List.set_cons_zero, List.set_cons_succ, i64_w, i32_w]
  rfl
 refine one_ (i := 7) (N := some 12) #[true, true, true, true, true, true, true, true, false, false, false] rfl rfl (one_of HT_.out (by kernel_rfl)) (by decide) (fun K hK => ?_)
 refine Kd.R_append_step k39 (w0 := w0) base (by rfl) (.tmp 9) (.tmp 11) 24 39 (.agg #[(.int .i64 0), (.int .i64 0), (.int .i64 0), (.int .i64 0)]) 32 rfl Try.underlying24 info39 rfl (by decide) (by omega) (.slice A xs.length c) xs i [.int .i64 i.f0, .int .i64 i.f1, .int .i64 i.f2.f0, .int .i64 i.f2.f1] (fun _ => True) (fun _ => False) rfl rfl ?aP (fun _ hk => hk.elim) ?aF ?aO HB.out ?aS ?aL ?_
 case aP => exact k39_mkM _ _ _ i
 case aF => exact (fun _ _ => trivial)
 case aO => exact HR.out
 case aS => have h1 := HX.out.2.2; have h2 := HS.out.1; have h3 := HZ.out; exact Nat.le_trans h1 (Nat.le_trans h2 h3)
 case aL => have := HX.out.1; omega
 intro v1 w3 ho hb3 hgr hat
 have hKr : KeepT w2 w3 g := KeepT.of_grown HR.out hgr
 have hbg := blk_grown (g := g) BKg.out hgr (Kd.R_ne HR.out BKg.out (by decide))
 have hbi := blk_grown (g := w.heap.size) BKi.out hgr HNE.out
 obtain ⟨n, hn⟩ : ∃ n, n = (xs ++ [i]).length := ⟨_, rfl⟩
 obtain ⟨A1, c1, rfl⟩ := Kd.R_slice ho
 rw [← hn] at ho
 have HO := Aside0.mk (And.intro ho (And.intro hb3 (And.intro hKr (And.intro hbg hn))))
 rw [← hn]
 refine hK.out _ _ ⟨(blk_cell hbg 0).trans rfl, (blk_cell hbi 0).trans rfl, (blk_cell hbi 1).trans rfl, (blk_cell hbi 2).trans rfl, (blk_cell hbi 3).trans rfl⟩ (fun hHeld => ?_)
 clear hK K ho hb3 hKr hbg hbi hn hgr hat
 refine norm_ (a' := ?_) ?_ ?_
 rotate_left
 ·show Act.put _ (some 12) _ = _
  simp only [Act.put, List.setIfInBounds_toArray, List.set_cons_zero, List.set_cons_succ, i64_w, i32_w]
  rfl
 refine pure_ (i := 8) (N := some 13) (v := ?_) (a' := ?_) #[true, true, true, true, true, true, true, true, true, false, false] rfl rfl (any_of HT_.out (by kernel_rfl)) (fun _ _ _ h => h) (Or.inl ⟨by rfl, ?_⟩) ?_ ?_
 rotate_left
 ·intro w'
  go_simp
  with_reducible rfl
 rotate_left
 ·simp only [Act.put, List.setIfInBounds_toArray, List.set_cons_zero, List.set_cons_succ, i64_w, i32_w]
  rfl
 refine pure_ (i := 9) (N := some 14) (v := ?_) (a' := ?_) #[true, true, true, true, true, true, true, true, true, true, false] rfl rfl (any_of HT_.out (by kernel_rfl)) (fun _ _ _ h => h) (Or.inl ⟨by rfl, ?_⟩) ?_ ?_
 rotate_left
 ·intro w'
  go_simp
  with_reducible rfl
 rotate_left
 ·simp only [Act.put, List.setIfInBounds_toArray, List.set_cons_zero, List.set_cons_succ, i64_w, i32_w]
  rfl
 refine last_ (i := 10) (N := none) #[true, true, true, true, true, true, true, true, true, true, true] rfl rfl (one_of HT_.out (by kernel_rfl)) (by decide) (fun K hK => ?_)
 have hs9 : w3.cell? ⟨g, 0, none⟩ = some (.slice A xs.length c) := (blk_cell HO.out.2.2.2.1 0).trans rfl
 have hfs9 := blk_frozen HO.out.2.2.2.1 0
 refine skip_ (w1 := ?_) (by rfl) rfl ?_ ?_
 rotate_left
 ·go_simp
  rfl
 refine hK.out _ _ ?_
 clear hK K
 refine done_ (done_of HT_.out (by kernel_rfl)) ?_
 have hset : (w3.setCell ⟨g, 0, none⟩ (.slice A1 n c1)).heap[g]? = some (.cells #[.slice A1 n c1] 73 (0, 0)) := blk_set HO.out.2.2.2.1 0 _
 have HF := Aside0.mk (show Co w0 base (w3.setCell ⟨g, 0, none⟩ (.slice A1 n c1)) g (xs ++ [i]) from ⟨⟨_, hset, Kd.R_set HO.out.1 HO.out.2.2.2.1 (by decide) 0 _⟩, Below.setCell HO.out.2.1 (p := ⟨g, 0, none⟩) HX.out.2.1 _, HX.out.2.1, by have h1 := HX.out.2.2; have h2 := HS.out.1; have h3 := HZ.out; have h4 := HO.out.2.2.1.1; have h5 := (KeepT.set HO.out.2.2.2.1 0 (Value.slice A1 n c1)).1; omega⟩)
 have HKT := Aside0.mk (HS.out.2.2.trans (HK.out.trans (HO.out.2.2.1.trans (KeepT.set HO.out.2.2.2.1 0 (Value.slice A1 n c1)))))
 have q0 : (w3.setCell ⟨g, 0, none⟩ (.slice A1 n c1)).cell? ⟨g, 0, none⟩ = some (.slice A1 n c1) := (blk_cell hset 0).trans rfl
 have hn1 : n = xs.length + 1 := by rw [HO.out.2.2.2.2]; simp
 have hn2 : n ≤ 1000001 := by have := HX.out.1; omega
 have HN := Aside0.mk hn1
 generalize w3.setCell ⟨g, 0, none⟩ (.slice A1 n c1) = w4 at HF HKT q0 ⊢
 clear hset hs9 hfs9 hn1
 go_wp2
 go_ret
 exact ⟨by have := HN.out; show Ending.returned (Value.int .i64 ((n : Int) - 1)) = _; rw [show ((n : Int) - 1) = (xs.length : Int) by omega], HF.out, HKT.out⟩
end Go.Proofs.Ytddnijmgipffeaa.B
/- impl's coder: an instruction lands where the code ends. -/
namespace Go.Proofs.Ytddnijmgipffeaa.B
open Go.RowKit Go.Shelf Go.Proofs.YtddnijmgipffeaaW.PrintWords Go.Proofs.YtddnijmgipffeaaW.PrintLast Go.Proofs.YtddnijmgipffeaaW.PrintMore
set_option linter.unusedVariables false
set_option linter.unusedSimpArgs false

def insV (x : IIns) : Nat → Value
 | 0 => .int .i64 x.f0
 | 1 => .int .i64 x.f1
 | 2 => .int .i64 x.f2.f0
 | _ => .int .i64 x.f2.f1
theorem ins_cells {w : World} {base : Nat} {ok : Nat → Prop} {v : Value} {xs : List IIns} (h : Kd.R k39 39 w base ok v xs) (hx : 0 < xs.length) :
  ∃ (b cap : Nat) (cur : Array Value), v = .slice (some ⟨b, 0, none⟩) xs.length cap ∧ base ≤ b ∧ w.heap[b]? = some (.cells cur 39 (0, 0)) ∧ xs.length ≤ cap ∧ cap ≤ maxLen ∧ cur.size = cap * 4 ∧ ∀ (j : Nat) (hj : j < xs.length) (i : Nat), i < 4 → cur[j * 4 + i]? = some (insV xs[j] i) := by
 obtain ⟨h0, inner, ⟨hlen, ho⟩, hr1, hr2⟩ := h
 rcases ho with ⟨rfl, hn⟩ | ⟨g, cap, cur, rfl, hg, hb, hn, hcap, hs, htake⟩
 ·omega
 ·refine ⟨g, cap, cur, rfl, hg, hb, hn, hcap, hs, fun j hj i hi => ?_⟩
  have hM := hr2 j xs[j] (List.getElem?_eq_getElem hj)
  have hcs := k39_openM hM
  have hm : j * 4 + i < xs.length * 4 := by omega
  have e1 : cur[j * 4 + i]? = ((inner.drop (j * 4)).take 4)[i]? := by
   have hsz : (k39).sz = 4 := rfl
   rw [hsz] at htake
   rw [List.getElem?_take_of_lt hi, List.getElem?_drop, ← htake, List.getElem?_take_of_lt hm, Array.getElem?_toList]
  have hsz : (k39).sz = 4 := rfl
  rw [hsz] at hcs
  rw [e1, hcs]
  match i, hi with
  | 0, _ => rfl
  | 1, _ => rfl
  | 2, _ => rfl
  | 3, _ => rfl
theorem ins_row {w : World} {base : Nat} {b cap : Nat} {cur : Array Value} {xs : List IIns} (hg : base ≤ b) (hb : w.heap[b]? = some (.cells cur 39 (0, 0))) (hn : xs.length ≤ cap) (hcap : cap ≤ maxLen) (hs : cur.size = cap * 4)
  (hc : ∀ (j : Nat) (hj : j < xs.length) (i : Nat), i < 4 → cur[j * 4 + i]? = some (insV xs[j] i)) : Kd.R k39 39 w base (fun _ => True) (.slice (some ⟨b, 0, none⟩) xs.length cap) xs := by
 have hl : (cur.toList.take (xs.length * 4)).length = xs.length * 4 := by
  have h1 : cur.toList.length = cap * 4 := by simpa using hs
  rw [List.length_take, h1]; omega
 refine ⟨fun _ _ => trivial, cur.toList.take (xs.length * 4), ⟨hl, .inr ⟨b, cap, cur, rfl, hg, hb, hn, hcap, hs, rfl⟩⟩, hl, fun j p hp => ?_⟩
 obtain ⟨hj, rfl⟩ := List.getElem?_eq_some_iff.1 hp
 have e : ((cur.toList.take (xs.length * 4)).drop (j * 4)).take 4 = [.int .i64 xs[j].f0, .int .i64 xs[j].f1, .int .i64 xs[j].f2.f0, .int .i64 xs[j].f2.f1] := by
  apply List.ext_getElem?
  intro i
  by_cases hi : i < 4
  ·rw [List.getElem?_take_of_lt hi, List.getElem?_drop, List.getElem?_take_of_lt (by omega), Array.getElem?_toList, hc j hj i hi]
   match i, hi with
   | 0, _ => rfl
   | 1, _ => rfl
   | 2, _ => rfl
   | 3, _ => rfl
  ·rw [List.getElem?_eq_none (by rw [List.length_take]; omega), List.getElem?_eq_none (by simp; omega)]
 show (k39).M w base _ xs[j] (((cur.toList.take (xs.length * 4)).drop (j * 4)).take 4)
 rw [e]
 exact k39_mkM _ _ _ xs[j]
def landL (xs : List IIns) (j : Nat) : List IIns := xs.modify j (fun x => ⟨x.f0, (xs.length : Int), x.f2⟩)
theorem landL_len (xs : List IIns) (j : Nat) : (landL xs j).length = xs.length := by simp [landL]
def landT : Bool × List (List Nat × List Nat) := (true, [([], []), ([0], [0]), ([1], [1]), ([2], [2]), ([], []), ([], []), ([5], [5]), ([6], [6]), ([7], [7]), ([8], [8]), ([3, 4, 0, 1, 2, 3, 4, 5, 6, 7, 8, 9], [3, 4]), ([10, 0, 1, 2, 3, 4, 5, 6, 7, 8, 9], [10]), ([11, 9, 0, 1, 2, 3, 4, 5, 6, 7, 8, 9], [9, 11])])
def landB : List Nat := [0, 1, 3, 7, 0, 0, 32, 96, 224, 480, 1023, 2047, 4095]
theorem landTab : rtab .any (opsOf Try.f69 0) = landT := by kernel_rfl
theorem landBits : waitsOk landT.2 landB = true := by kernel_rfl
set_option maxRecDepth 100000 in
set_option maxHeartbeats 8000000 in
theorem land_any {w0 : World} {base : Nat} {w : World} {g : Nat} {xs : List IIns} (h : Co w0 base w g xs) (hx : xs.length ≤ 1000000) (j : Nat) (hj : j < xs.length) :
  Calls Try.prog 69 #[.pointer (some ⟨g, 0, none⟩), .int .i64 j] w fun e w' => e = .returned (.tuple #[]) ∧ Co w0 base w' g (landL xs j) ∧ KeepT w w' g := by
 obtain ⟨⟨v, hg, hR⟩, hb, hge, hle⟩ := h
 obtain ⟨b, cap, cur, rfl, hgb, hbb, hn, hcap, hs, hc⟩ := ins_cells hR (by omega)
 obtain ⟨n, hnn⟩ : ∃ n, n = xs.length := ⟨_, rfl⟩
 have hne : b ≠ g := by
  rintro rfl
  rw [hg] at hbb
  injection hbb with hbb
  injection hbb with _ hbb
  exact absurd hbb (by decide)
 have HX := Aside0.mk (And.intro hx (And.intro hge (And.intro hle (And.intro hgb (And.intro hn (And.intro hcap (And.intro hs (And.intro hc (And.intro hne (And.intro hnn hj))))))))))
 rw [← hnn] at hg hR hj
 have BKg := Aside0.mk (show (w.drew).heap[g]? = some (.cells #[.slice (some ⟨b, 0, none⟩) n cap] 73 (0, 0)) from hg)
 have BKb := Aside0.mk (show (w.drew).heap[b]? = some (.cells cur 39 (0, 0)) from hbb)
 have HB := Aside0.mk (below_drew1 hb)
 have HK := Aside0.mk (show KeepT w w.drew g from KeepT.of_below (below_drew1 (Below.refl _ _)))
 have HZ := Aside0.mk (show w.heap.size ≤ w.drew.heap.size from Nat.le_refl _)
 have p0 : (0 ≤ (j : Int)) = True := eq_true (by omega)
 have q0 : ((j : Int) < (n : Int)) = True := eq_true (by omega)
 clear hg hR hb hge hle hx hgb hbb hn hcap hs hc hne hnn hj
 go_enter Try.func69, Try.ntmps69
 refine start_ (n := 13) (S := fun w' => w'.cell? ⟨g, 0, none⟩ = some (.slice (some ⟨b, 0, none⟩) n cap)) (ds := [12]) #[false, false, false, false, false, false, false, false, false, false, false, false, false] (by kernel_rfl) rfl rfl ((blk_cell BKg.out 0).trans rfl) (fun hHeld => ?_)
 refine with_tabW landTab landBits (fun HT_ HW_ => ?_)
 generalize w.drew = w2 at BKg BKb HB HZ HK hHeld ⊢
 refine pure_ (i := 0) (N := some 4) (v := ?_) (a' := ?_) #[true, false, false, false, false, false, false, false, false, false, false, false, false] rfl rfl (any_of HT_.out (by kernel_rfl)) (fun _ _ _ h => h) (Or.inl ⟨by rfl, ?_⟩) ?_ ?_
 rotate_left
 ·intro w'
  go_simp
  with_reducible rfl
 rotate_left
 ·simp only [Act.put, List.setIfInBounds_toArray, List.set_cons_zero, List.set_cons_succ, i64_w, i32_w]
  rfl
 refine pure_ (i := 1) (N := some 5) (v := ?_) (a' := ?_) #[true, true, false, false, false, false, false, false, false, false, false, false, false] rfl rfl (any_of HT_.out (by kernel_rfl)) (fun _ _ _ h => h) (Or.inl ⟨by rfl, ?_⟩) ?_ ?_
 rotate_left
 ·intro w'
  go_simp
  with_reducible rfl
 rotate_left
 ·simp only [Act.put, List.setIfInBounds_toArray, List.set_cons_zero, List.set_cons_succ, i64_w, i32_w]
  rfl
 refine pure_ (i := 2) (N := some 6) (v := ?_) (a' := ?_) #[true, true, true, false, false, false, false, false, false, false, false, false, false] rfl rfl (any_of HT_.out (by kernel_rfl)) (fun _ _ _ h => h) (Or.inl ⟨by rfl, ?_⟩) ?_ ?_
 rotate_left
 ·intro w'
  go_simp
  with_reducible rfl
 rotate_left
 ·simp only [Act.put, List.setIfInBounds_toArray, List.set_cons_zero, List.set_cons_succ, i64_w, i32_w]
  rfl
 refine take_ (i := 3) (N := some 7) (v := ?_) (a' := ?_) #[true, true, true, true, false, false, false, false, false, false, false, false, false] rfl rfl (take_ofW HT_.out HW_.out (by kernel_rfl)) (fun _ _ _ h => h) (Or.inl ⟨by rfl, ?_⟩) hHeld ?_ ?_
 rotate_left
 ·rintro w' s0
  go_simp
  with_reducible rfl
 rotate_left
 ·simp only [Act.put, List.setIfInBounds_toArray, List.set_cons_zero, List.set_cons_succ, i64_w, i32_w]
  rfl
 refine pure_ (i := 4) (N := some 8) (v := ?_) (a' := ?_) #[true, true, true, true, true, false, false, false, false, false, false, false, false] rfl rfl (any_of HT_.out (by kernel_rfl)) (fun _ _ _ h => h) (Or.inl ⟨by rfl, ?_⟩) ?_ ?_
 rotate_left
 ·intro w'
  go_simp
  with_reducible rfl
 rotate_left
 ·simp only [Act.put, List.setIfInBounds_toArray, List.set_cons_zero, List.set_cons_succ, i64_w, i32_w]
  rfl
 refine pure_ (i := 5) (N := some 9) (v := ?_) (a' := ?_) #[true, true, true, true, true, true, false, false, false, false, false, false, false] rfl rfl (any_of HT_.out (by kernel_rfl)) (fun _ _ _ h => h) (Or.inl ⟨by rfl, ?_⟩) ?_ ?_
 rotate_left
 ·intro w'
  go_simp
  with_reducible rfl
 rotate_left
 ·simp only [Act.put, List.setIfInBounds_toArray, List.set_cons_zero, List.set_cons_succ, i64_w, i32_w]
  rfl
 refine pure_ (i := 6) (N := some 10) (v := ?_) (a' := ?_) #[true, true, true, true, true, true, true, false, false, false, false, false, false] rfl rfl (any_of HT_.out (by kernel_rfl)) (fun _ _ _ h => h) (Or.inl ⟨by rfl, ?_⟩) ?_ ?_
 rotate_left
 ·intro w'
  go_simp
  with_reducible rfl
 rotate_left
 ·simp only [Act.put, List.setIfInBounds_toArray, List.set_cons_zero, List.set_cons_succ, i64_w, i32_w]
  rfl
 refine pure_ (i := 7) (N := some 11) (v := ?_) (a' := ?_) #[true, true, true, true, true, true, true, true, false, false, false, false, false] rfl rfl (any_of HT_.out (by kernel_rfl)) (fun _ _ _ h => h) (Or.inl ⟨by rfl, ?_⟩) ?_ ?_
 rotate_left
 ·intro w'
  go_simp
  with_reducible rfl
 rotate_left
 ·simp only [Act.put, List.setIfInBounds_toArray, List.set_cons_zero, List.set_cons_succ, i64_w, i32_w]
  rfl
 refine take_ (i := 8) (N := some 12) (v := ?_) (a' := ?_) #[true, true, true, true, true, true, true, true, true, false, false, false, false] rfl rfl (take_ofW HT_.out HW_.out (by kernel_rfl)) (fun _ _ _ h => h) (Or.inl ⟨by rfl, ?_⟩) hHeld ?_ ?_
 rotate_left
 ·rintro w' s0
  go_simp
  with_reducible rfl
 rotate_left
 ·simp only [Act.put, List.setIfInBounds_toArray, List.set_cons_zero, List.set_cons_succ, i64_w, i32_w]
  rfl
 refine pure_ (i := 9) (N := some 13) (v := ?_) (a' := ?_) #[true, true, true, true, true, true, true, true, true, true, false, false, false] rfl rfl (any_of HT_.out (by kernel_rfl)) (fun _ _ _ h => h) (Or.inl ⟨by rfl, ?_⟩) ?_ ?_
 rotate_left
 ·intro w'
  go_simp
  with_reducible rfl
 rotate_left
 ·simp only [Act.put, List.setIfInBounds_toArray, List.set_cons_zero, List.set_cons_succ, i64_w, i32_w]
  rfl
 refine pure_ (i := 10) (N := some 14) (v := ?_) (a' := ?_) #[true, true, true, true, true, true, true, true, true, true, true, false, false] rfl rfl (any_of HT_.out (by kernel_rfl)) (fun _ _ _ h => h) (Or.inl ⟨by rfl, ?_⟩) ?_ ?_
 rotate_left
 ·intro w'
  go_simp
  with_reducible rfl
 rotate_left
 ·simp only [Act.put, List.setIfInBounds_toArray, List.set_cons_zero, List.set_cons_succ, i64_w, i32_w]
  rfl
 refine pure_ (i := 11) (N := some 15) (v := ?_) (a' := ?_) #[true, true, true, true, true, true, true, true, true, true, true, true, false] rfl rfl (any_of HT_.out (by kernel_rfl)) (fun _ _ _ h => h) (Or.inl ⟨by rfl, ?_⟩) ?_ ?_
 rotate_left
 ·intro w'
  go_simp
  with_reducible rfl
 rotate_left
 ·simp only [Act.put, List.setIfInBounds_toArray, List.set_cons_zero, List.set_cons_succ, i64_w, i32_w]
  rfl
 have hz : cur[j * 4 + 1]? = some (.int .i64 (xs[j]'(by have := HX.out; omega)).f1) := by
  have := HX.out.2.2.2.2.2.2.2.1 j (by have := HX.out; omega) 1 (by decide)
  exact this
 have hs9 : w2.cell? ⟨b, j * 4 + 1, none⟩ = some (.int .i64 (xs[j]'(by have := HX.out; omega)).f1) := (blk_cell BKb.out _).trans hz
 have hfs9 : w2.frozen? ⟨b, j * 4 + 1, none⟩ = false := blk_frozen BKb.out _
 refine last_ (i := 12) (N := none) #[true, true, true, true, true, true, true, true, true, true, true, true, true] rfl rfl (one_of HT_.out (by kernel_rfl)) (by decide) (fun K hK => ?_)
 refine skip_ (w1 := ?_) (by rfl) rfl ?_ ?_
 rotate_left
 ·go_simp
  rfl
 refine hK.out _ _ ?_
 clear hK K
 refine done_ (done_of HT_.out (by kernel_rfl)) ?_
 have hlen : n = (landL xs j).length := by rw [landL_len]; exact HX.out.2.2.2.2.2.2.2.2.2.1
 have hsb : (w2.setCell ⟨b, j * 4 + 1, none⟩ (.int .i64 n)).heap[b]? = some (.cells (cur.setIfInBounds (j * 4 + 1) (.int .i64 n)) 39 (0, 0)) := blk_set BKb.out _ _
 have hsg : (w2.setCell ⟨b, j * 4 + 1, none⟩ (.int .i64 n)).heap[g]? = some (.cells #[.slice (some ⟨b, 0, none⟩) n cap] 73 (0, 0)) := (Below.heap_setCell w2 _ _ g (fun h => HX.out.2.2.2.2.2.2.2.2.1 h.symm)).trans BKg.out
 have hrow : Kd.R k39 39 (w2.setCell ⟨b, j * 4 + 1, none⟩ (.int .i64 n)) base (fun _ => True) (.slice (some ⟨b, 0, none⟩) n cap) (landL xs j) := by
  rw [hlen]
  rw [hlen] at hsb
  refine ins_row HX.out.2.2.2.1 hsb (by rw [landL_len]; exact HX.out.2.2.2.2.1) HX.out.2.2.2.2.2.1 (by rw [Array.size_setIfInBounds]; exact HX.out.2.2.2.2.2.2.1) (fun q hq i hi => ?_)
  have hq' : q < xs.length := by rw [landL_len] at hq; exact hq
  have hold := HX.out.2.2.2.2.2.2.2.1 q hq' i hi
  have hsz : j * 4 + 1 < cur.size := (Array.getElem?_eq_some_iff.1 hz).1
  by_cases hqj : j = q
  ·subst hqj
   have hel : (landL xs j)[j] = ⟨xs[j].f0, (xs.length : Int), xs[j].f2⟩ := by simp [landL]
   rw [hel]
   by_cases hi1 : i = 1
   ·subst hi1
    rw [Array.getElem?_setIfInBounds_self_of_lt hsz, landL_len]
    rfl
   ·rw [Array.getElem?_setIfInBounds_ne (by omega), hold]
    match i, hi, hi1 with
    | 0, _, _ => rfl
    | 1, _, h => exact absurd rfl h
    | 2, _, _ => rfl
    | 3, _, _ => rfl
  ·have hel : (landL xs j)[q] = xs[q] := by simp [landL, List.getElem_modify, hqj]
   rw [hel, Array.getElem?_setIfInBounds_ne (by omega), hold]
 have hsz4 : w2.heap.size ≤ (w2.setCell ⟨b, j * 4 + 1, none⟩ (.int .i64 n)).heap.size := by simp [World.setCell]
 have hle4 : base ≤ (w2.setCell ⟨b, j * 4 + 1, none⟩ (.int .i64 n)).heap.size := by have h1 := HX.out.2.2.1; have h3 := HZ.out; omega
 have HF := Aside0.mk (show Co w0 base (w2.setCell ⟨b, j * 4 + 1, none⟩ (.int .i64 n)) g (landL xs j) from ⟨⟨_, hsg, hrow⟩, Below.setCell HB.out (p := ⟨b, j * 4 + 1, none⟩) HX.out.2.2.2.1 _, HX.out.2.1, hle4⟩)
 have HKT := Aside0.mk (show KeepT w (w2.setCell ⟨b, j * 4 + 1, none⟩ (.int .i64 n)) g from HK.out.trans ⟨by simp [World.setCell], fun k cs t hk ht hc => (Below.heap_setCell w2 _ _ k (fun hkb => by
  have hkb' : k = b := hkb
  subst hkb'
  rw [BKb.out] at hc
  injection hc with hc
  injection hc with _ hc
  exact ht hc.symm)).trans hc⟩)
 clear hsb hsg hrow hs9 hfs9 hz hsz4 hle4
 generalize w2.setCell ⟨b, j * 4 + 1, none⟩ (.int .i64 n) = w4 at HF HKT ⊢
 go_wp2
 refine bodyPost_end (results_none rfl _ _ _) rfl ?_
 exact ⟨rfl, HF.out, HKT.out⟩
end Go.Proofs.Ytddnijmgipffeaa.B
/- impl's coder: the code of an expression. -/
namespace Go.Proofs.Ytddnijmgipffeaa.B
open Go.RowKit Go.Shelf Go.Proofs.YtddnijmgipffeaaW.PrintWords Go.Proofs.YtddnijmgipffeaaW.PrintLast Go.Proofs.YtddnijmgipffeaaW.PrintMore
set_option linter.unusedVariables false

theorem cxInd {P : S46 → Prop} (h : ∀ e : S46, (∀ x ∈ e.f3, P x) → P e) : ∀ e, P e
 | ⟨a, b, c, l⟩ => h _ (fun x hx => cxInd h x)
termination_by e => SizeOf.sizeOf e
decreasing_by have := List.sizeOf_lt_of_mem hx; simp at this ⊢; omega
def insOf (k n a b : Int) : IIns := if k = 1 then ⟨1, n, ⟨0, 0⟩⟩ else if k = 2 then ⟨2, 0, ⟨a, b⟩⟩ else if k = 10 then ⟨5, 0, ⟨0, 0⟩⟩ else ⟨4, k, ⟨0, 0⟩⟩
def codeE : S46 → List IIns
 | ⟨k, n, c, l⟩ => (l.attach.flatMap fun x => codeE x.1) ++ [insOf k n c.f0 c.f1]
termination_by e => SizeOf.sizeOf e
decreasing_by have := List.sizeOf_lt_of_mem x.2; simp; omega
theorem codeE_eq (e : S46) : codeE e = e.f3.flatMap codeE ++ [insOf e.f0 e.f1 e.f2.f0 e.f2.f1] := by
 cases e with
 | mk a b c l =>
  rw [codeE]
  congr 1
  induction l with
  | nil => rfl
  | cons x l ih => simp [List.attach_cons, List.flatMap_cons, List.flatMap_map] at ih ⊢ <;> try exact ih
def CxCon (e : S46) : Prop := ∀ (A : Option Addr) (c : Nat) (w0 w : World) (g : Nat) (xs : List IIns), Co w0 w0.heap.size w g xs → xs.length + (codeE e).length ≤ 1000000 → Kd.C k46 w0 A e.f3.length e.f3 → e.f3.length ≤ c →
 Calls Try.prog 67 #[.pointer (some ⟨g, 0, none⟩), .agg #[.int .i64 e.f0, .int .i64 e.f1, .int .i64 e.f2.f0, .int .i64 e.f2.f1, .slice A e.f3.length c]] w fun en w' => en = .returned (.tuple #[]) ∧ Co w0 w0.heap.size w' g (xs ++ codeE e) ∧ KeepT w w' g
theorem Co.below' {w0 w w' : World} {g : Nat} {xs : List IIns} (h : Co w0 w0.heap.size w g xs) (hb : Below w.heap.size w w') : Co w0 w0.heap.size w' g xs := by
 obtain ⟨⟨v, hg, hR⟩, h2, h3, h4⟩ := h
 exact ⟨⟨v, (hb.block _ (blk_lt hg)).trans hg, Kd.R_below hR hb⟩, h2.trans (hb.mono h4), h3, Nat.le_trans h4 hb.size⟩
theorem Co.lt {w0 w : World} {g base : Nat} {xs : List IIns} (h : Co w0 base w g xs) : g < w.heap.size := by
 obtain ⟨v, hg, _⟩ := h.ex
 exact blk_lt hg
set_option maxRecDepth 100000 in
set_option maxHeartbeats 8000000 in
theorem codeEx_any (e : S46) : CxCon e := by
 induction e using cxInd with
 | h e ih =>
 intro A c w0 w g xs hco hlen hC hc
 have hmax : e.f3.length ≤ 9223372036854775807 := hC.2.1
 rw [codeE_eq] at hlen ⊢
 obtain ⟨l, hl⟩ : ∃ l, l = e.f3 := ⟨_, rfl⟩
 rw [← hl] at hlen hC hc hmax ih ⊢
 have HI := Aside0.mk (And.intro hco (And.intro hlen (And.intro hC (And.intro hc ih))))
 have j0 := heap_alloc_new w (.cells #[.int .i64 e.f0, .int .i64 e.f1, .int .i64 e.f2.f0, .int .i64 e.f2.f1, .slice A l.length c] 46)
 have hb0 : Below w.heap.size w (w.alloc (.cells #[.int .i64 e.f0, .int .i64 e.f1, .int .i64 e.f2.f0, .int .i64 e.f2.f1, .slice A l.length c] 46)) := (Below.refl _ _).alloc (Nat.le_refl _) _
 have H0 := Aside0.mk (And.intro (hco.below' hb0) (And.intro (KeepT.of_below (g := g) hb0) j0))
 have HLT := Aside0.mk (show w.heap.size ≠ g from by have := hco.lt; omega)
 clear hco hlen hC hc ih j0 hb0 hl
 go_enter Try.func67, Try.ntmps67
 go_wp2
 go_loopw [5, 9] (fun _ i wr => ∃ (j : Nat), i = .int .i64 j ∧ Aside0 (j ≤ l.length ∧ Co w0 w0.heap.size wr g (xs ++ (l.take j).flatMap codeE) ∧ KeepT w wr g ∧ wr.heap[w.heap.size]? = some (.cells #[.int .i64 e.f0, .int .i64 e.f1, .int .i64 e.f2.f0, .int .i64 e.f2.f1, .slice A l.length c] 46 (0, 0)))) (fun _ i _ => l.length - (intOf i).toNat)
 case atStart => exact ⟨0, rfl, ⟨Nat.zero_le _, by simpa using H0.out.1, H0.out.2.1, H0.out.2.2⟩⟩
 case round =>
  obtain ⟨j, rfl, HR⟩ := hrel
  by_cases hj : j < l.length
  ·obtain ⟨ad, A4, c4, hA, e0, e1, e2, e3, e4, hl4, hi4⟩ := at_T46 HI.out.2.2.1 (j : Int) (by omega) (by omega)
   cases hA
   have hkid : rd_T46 l (j : Int) = l[j] := by simp [rd_T46, hj]
   have hb := HR.out.2.1.below
   replace e0 := (hb.cell (World.block_lt_of_cell? w0 _ e0)).trans e0
   replace e1 := (hb.cell (World.block_lt_of_cell? w0 _ e1)).trans e1
   replace e2 := (hb.cell (World.block_lt_of_cell? w0 _ e2)).trans e2
   replace e3 := (hb.cell (World.block_lt_of_cell? w0 _ e3)).trans e3
   replace e4 := (hb.cell (World.block_lt_of_cell? w0 _ e4)).trans e4
   rw [hkid] at e0 e1 e2 e3 e4 hl4 hi4
   simp only [Int.toNat_natCast] at e0 e1 e2 e3 e4
   obtain ⟨x, hx⟩ : ∃ x, x = l[j] := ⟨_, rfl⟩
   rw [← hx] at e0 e1 e2 e3 e4 hl4 hi4
   have hmem : x ∈ l := by rw [hx]; exact List.getElem_mem hj
   have htk : (l.take (j + 1)).flatMap codeE = (l.take j).flatMap codeE ++ codeE x := by rw [List.take_succ_eq_append_getElem hj, List.flatMap_append, hx]; simp
   have hbound : (xs ++ (l.take j).flatMap codeE).length + (codeE x).length ≤ 1000000 := by
    have h1 := HI.out.2.1
    have h2 : ((l.take (j + 1)).flatMap codeE).length ≤ (l.flatMap codeE).length := by
     have : l.flatMap codeE = (l.take (j + 1)).flatMap codeE ++ (l.drop (j + 1)).flatMap codeE := by rw [← List.flatMap_append, List.take_append_drop]
     rw [this, List.length_append]; omega
    rw [htk] at h2
    simp only [List.length_append] at h1 h2 ⊢
    omega
   have HK := Aside0.mk (fun (W : World) (hW : Co w0 w0.heap.size W g (xs ++ (l.take j).flatMap codeE)) => HI.out.2.2.2.2 x hmem A4 c4 w0 W g _ hW hbound hi4 hl4)
   have HX := Aside0.mk (And.intro htk (And.intro hj hmax))
   clear hb hkid hx hi4 hl4 hmem htk hbound
   go_upto_region 4 with (fail)
   have j1 := heap_alloc_new wr (.cells #[.int .i64 x.f0, .int .i64 x.f1, .int .i64 x.f2.f0, .int .i64 x.f2.f1, .slice A4 x.f3.length c4] 46)
   have hb1 : Below wr.heap.size wr (wr.alloc (.cells #[.int .i64 x.f0, .int .i64 x.f1, .int .i64 x.f2.f0, .int .i64 x.f2.f1, .slice A4 x.f3.length c4] 46)) := (Below.refl _ _).alloc (Nat.le_refl _) _
   generalize wr.alloc (.cells #[.int .i64 x.f0, .int .i64 x.f1, .int .i64 x.f2.f0, .int .i64 x.f2.f1, .slice A4 x.f3.length c4] 46) = W1 at j1 hb1 ⊢
   have HW1 := Aside0.mk (And.intro (HR.out.2.1.below' hb1) (And.intro (HR.out.2.2.1.trans (KeepT.of_below hb1)) ((hb1.block _ (blk_lt HR.out.2.2.2)).trans HR.out.2.2.2)))
   clear e0 e1 e2 e3 e4 hb1
   have e0 : W1.cell? ⟨wr.heap.size, 0, none⟩ = some (.int .i64 x.f0) := (blk_cell j1 0).trans rfl
   have e1 : W1.cell? ⟨wr.heap.size, 1, none⟩ = some (.int .i64 x.f1) := (blk_cell j1 1).trans rfl
   have e2 : W1.cell? ⟨wr.heap.size, 2, none⟩ = some (.int .i64 x.f2.f0) := (blk_cell j1 2).trans rfl
   have e3 : W1.cell? ⟨wr.heap.size, 3, none⟩ = some (.int .i64 x.f2.f1) := (blk_cell j1 3).trans rfl
   have e4 : W1.cell? ⟨wr.heap.size, 4, none⟩ = some (.slice A4 x.f3.length c4) := (blk_cell j1 4).trans rfl
   clear j1
   go_wp2_with fail
   refine (HK.out W1 HW1.out.1).mono ?_
   clear HK
   rintro en w2 ⟨rfl, hco2, hkt2⟩
   rw [List.append_assoc, ← HX.out.1] at hco2
   have HW2 := Aside0.mk (And.intro hco2 (And.intro (HW1.out.2.1.trans hkt2) (hkt2.2 _ _ _ HLT.out (by decide) HW1.out.2.2)))
   clear hco2 hkt2 e0 e1 e2 e3 e4
   go_wp2
   go_roundw
   case rel => exact ⟨j + 1, by go_num, ⟨HX.out.2.1, HW2.out.1, HW2.out.2.1, HW2.out.2.2⟩⟩
   case measure => have := HX.out.2.1; simp [intOf]; omega
  ·have hjl : j = l.length := by have := HR.out.1; omega
   have hco := HR.out.2.1
   rw [hjl, List.take_of_length_le (Nat.le_refl _)] at hco
   have hbx := HR.out.2.2.2
   have k0 : wr.cell? ⟨w.heap.size, 0, none⟩ = some (.int .i64 e.f0) := (blk_cell hbx 0).trans rfl
   have k1 : wr.cell? ⟨w.heap.size, 1, none⟩ = some (.int .i64 e.f1) := (blk_cell hbx 1).trans rfl
   have k2 : wr.cell? ⟨w.heap.size, 2, none⟩ = some (.int .i64 e.f2.f0) := (blk_cell hbx 2).trans rfl
   have k3 : wr.cell? ⟨w.heap.size, 3, none⟩ = some (.int .i64 e.f2.f1) := (blk_cell hbx 3).trans rfl
   have hbound : (xs ++ l.flatMap codeE).length ≤ 1000000 := by have := HI.out.2.1; simp only [List.length_append] at this ⊢; omega
   have HCO := Aside0.mk (fun (i : IIns) => add_any hco hbound i)
   clear hjl hco hbx hbound
   by_cases h1 : e.f0 = 1
   ·have b1 : (e.f0 == 1) = true := beq_iff_eq.2 h1
    have HI1 := Aside0.mk (show insOf e.f0 e.f1 e.f2.f0 e.f2.f1 = ⟨1, e.f1, ⟨0, 0⟩⟩ by rw [insOf, if_pos h1]); clear h1
    go_wp2_with fail
    refine (HCO.out ⟨1, e.f1, ⟨0, 0⟩⟩).mono ?_
    rintro en w2 ⟨rfl, hco2, hkt2⟩
    rw [List.append_assoc, ← HI1.out] at hco2
    have HW2 := Aside0.mk (And.intro hco2 (HR.out.2.2.1.trans hkt2))
    clear hco2 hkt2 k0 k1 k2 k3
    go_wp2
    refine bodyPost_end (results_none rfl _ _ _) rfl ?_
    exact ⟨rfl, HW2.out⟩
   have b1 : (e.f0 == 1) = false := beq_false_of_ne h1
   by_cases h2 : e.f0 = 2
   ·have b2 : (e.f0 == 2) = true := beq_iff_eq.2 h2
    have HI1 := Aside0.mk (show insOf e.f0 e.f1 e.f2.f0 e.f2.f1 = ⟨2, 0, ⟨e.f2.f0, e.f2.f1⟩⟩ by rw [insOf, if_neg h1, if_pos h2]); clear h1 h2
    go_wp2_with fail
    refine (HCO.out ⟨2, 0, ⟨e.f2.f0, e.f2.f1⟩⟩).mono ?_
    rintro en w2 ⟨rfl, hco2, hkt2⟩
    rw [List.append_assoc, ← HI1.out] at hco2
    have HW2 := Aside0.mk (And.intro hco2 (HR.out.2.2.1.trans hkt2))
    clear hco2 hkt2 k0 k1 k2 k3
    go_wp2
    refine bodyPost_end (results_none rfl _ _ _) rfl ?_
    exact ⟨rfl, HW2.out⟩
   have b2 : (e.f0 == 2) = false := beq_false_of_ne h2
   by_cases h3 : e.f0 = 10
   ·have b3 : (e.f0 == 10) = true := beq_iff_eq.2 h3
    have HI1 := Aside0.mk (show insOf e.f0 e.f1 e.f2.f0 e.f2.f1 = ⟨5, 0, ⟨0, 0⟩⟩ by rw [insOf, if_neg h1, if_neg h2, if_pos h3]); clear h1 h2 h3
    go_wp2_with fail
    refine (HCO.out ⟨5, 0, ⟨0, 0⟩⟩).mono ?_
    rintro en w2 ⟨rfl, hco2, hkt2⟩
    rw [List.append_assoc, ← HI1.out] at hco2
    have HW2 := Aside0.mk (And.intro hco2 (HR.out.2.2.1.trans hkt2))
    clear hco2 hkt2 k0 k1 k2 k3
    go_wp2
    refine bodyPost_end (results_none rfl _ _ _) rfl ?_
    exact ⟨rfl, HW2.out⟩
   have b3 : (e.f0 == 10) = false := beq_false_of_ne h3
   have HI1 := Aside0.mk (show insOf e.f0 e.f1 e.f2.f0 e.f2.f1 = ⟨4, e.f0, ⟨0, 0⟩⟩ by rw [insOf, if_neg h1, if_neg h2, if_neg h3]); clear h1 h2 h3
   go_wp2_with fail
   refine (HCO.out ⟨4, e.f0, ⟨0, 0⟩⟩).mono ?_
   rintro en w2 ⟨rfl, hco2, hkt2⟩
   rw [List.append_assoc, ← HI1.out] at hco2
   have HW2 := Aside0.mk (And.intro hco2 (HR.out.2.2.1.trans hkt2))
   clear hco2 hkt2 k0 k1 k2 k3
   go_wp2
   refine bodyPost_end (results_none rfl _ _ _) rfl ?_
   exact ⟨rfl, HW2.out⟩
end Go.Proofs.Ytddnijmgipffeaa.B
/- impl's coder: the code of statements. -/
namespace Go.Proofs.Ytddnijmgipffeaa.B
open Go.RowKit Go.Shelf Go.Proofs.YtddnijmgipffeaaW.PrintWords Go.Proofs.YtddnijmgipffeaaW.PrintLast Go.Proofs.YtddnijmgipffeaaW.PrintMore
set_option linter.unusedVariables false

abbrev StRow := List S69
mutual
def codeOne : S69 → Nat → List IIns
 | ⟨k, tgt, e, th, el⟩, at0 =>
  if k = 1 then codeE e ++ [⟨3, 0, tgt⟩]
  else if k = 2 then codeE e ++ [⟨6, ((at0 + (codeE e).length + 1 + (codeS th (at0 + (codeE e).length + 1)).length + 1 : Nat) : Int), ⟨0, 0⟩⟩] ++ codeS th (at0 + (codeE e).length + 1) ++ [⟨7, ((at0 + (codeE e).length + 1 + (codeS th (at0 + (codeE e).length + 1)).length + 1 + (codeS el (at0 + (codeE e).length + 1 + (codeS th (at0 + (codeE e).length + 1)).length + 1)).length : Nat) : Int), ⟨0, 0⟩⟩] ++ codeS el (at0 + (codeE e).length + 1 + (codeS th (at0 + (codeE e).length + 1)).length + 1)
  else if k = 3 then codeE e ++ [⟨6, ((at0 + (codeE e).length + 1 + (codeS th (at0 + (codeE e).length + 1)).length + 1 : Nat) : Int), ⟨0, 0⟩⟩] ++ codeS th (at0 + (codeE e).length + 1) ++ [⟨8, (at0 : Int), ⟨0, 0⟩⟩]
  else codeE e
def codeS : StRow → Nat → List IIns
 | [], _ => []
 | s :: l, at0 => codeOne s at0 ++ codeS l (at0 + (codeOne s at0).length)
end
theorem codeS_append (l1 l2 : StRow) (n : Nat) : codeS (l1 ++ l2) n = codeS l1 n ++ codeS l2 (n + (codeS l1 n).length) := by
 induction l1 generalizing n with
 | nil => simp [codeS]
 | cons s l ih => simp only [List.cons_append, codeS, ih, List.append_assoc, List.length_append, Nat.add_assoc]
theorem codeS_take (l : StRow) (j : Nat) (hj : j < l.length) (n : Nat) : codeS (l.take (j + 1)) n = codeS (l.take j) n ++ codeOne l[j] (n + (codeS (l.take j) n).length) := by
 rw [List.take_succ_eq_append_getElem hj, codeS_append]
 simp [codeS]
theorem codeS_len (l : StRow) (j : Nat) (n : Nat) : (codeS (l.take j) n).length ≤ (codeS l n).length := by
 have h : codeS l n = codeS (l.take j) n ++ codeS (l.drop j) (n + (codeS (l.take j) n).length) := by rw [← codeS_append, List.take_append_drop]
 rw [h, List.length_append]; omega
theorem codeOne_eq (x : S69) (n : Nat) : codeOne x n = if x.f0 = 1 then codeE x.f2 ++ [⟨3, 0, x.f1⟩]
  else if x.f0 = 2 then codeE x.f2 ++ [⟨6, ((n + (codeE x.f2).length + 1 + (codeS x.f3 (n + (codeE x.f2).length + 1)).length + 1 : Nat) : Int), ⟨0, 0⟩⟩] ++ codeS x.f3 (n + (codeE x.f2).length + 1) ++ [⟨7, ((n + (codeE x.f2).length + 1 + (codeS x.f3 (n + (codeE x.f2).length + 1)).length + 1 + (codeS x.f4 (n + (codeE x.f2).length + 1 + (codeS x.f3 (n + (codeE x.f2).length + 1)).length + 1)).length : Nat) : Int), ⟨0, 0⟩⟩] ++ codeS x.f4 (n + (codeE x.f2).length + 1 + (codeS x.f3 (n + (codeE x.f2).length + 1)).length + 1)
  else if x.f0 = 3 then codeE x.f2 ++ [⟨6, ((n + (codeE x.f2).length + 1 + (codeS x.f3 (n + (codeE x.f2).length + 1)).length + 1 : Nat) : Int), ⟨0, 0⟩⟩] ++ codeS x.f3 (n + (codeE x.f2).length + 1) ++ [⟨8, (n : Int), ⟨0, 0⟩⟩]
  else codeE x.f2 := by
 cases x with
 | mk k tgt e th el => rw [codeOne]
theorem modify_mid {α : Type} (f : α → α) (xs ys : List α) (i : α) : (xs ++ i :: ys).modify xs.length f = xs ++ f i :: ys := by
 induction xs with
 | nil => rfl
 | cons a xs ih => simpa using ih
theorem landL_at (xs ys : List IIns) (i : IIns) (n : Nat) (hn : n = xs.length) : landL (xs ++ [i] ++ ys) n = xs ++ [⟨i.f0, ((xs.length + 1 + ys.length : Nat) : Int), i.f2⟩] ++ ys := by
 subst hn
 rw [landL, List.append_assoc, List.singleton_append, modify_mid, List.append_assoc, List.singleton_append]
 simp only [List.length_append, List.length_cons]
 congr 4
 omega
theorem codeOne_ge (x : S69) (n : Nat) : (codeE x.f2).length ≤ (codeOne x n).length := by
 rw [codeOne_eq]
 by_cases h1 : x.f0 = 1
 ·rw [if_pos h1, List.length_append]; omega
 rw [if_neg h1]
 by_cases h2 : x.f0 = 2
 ·rw [if_pos h2]; simp only [List.length_append]; omega
 rw [if_neg h2]
 by_cases h3 : x.f0 = 3
 ·rw [if_pos h3]; simp only [List.length_append]; omega
 rw [if_neg h3]; omega
theorem rowInd {P : StRow → Prop} (h : ∀ l : StRow, (∀ x ∈ l, P x.f3 ∧ P x.f4) → P l) (l : StRow) : P l := by
 suffices H : ∀ (n : Nat) (l : StRow), SizeOf.sizeOf l ≤ n → P l from H _ l (Nat.le_refl _)
 intro n
 induction n with
 | zero => intro l hl; cases l <;> simp at hl
 | succ n ih =>
  intro l hl
  refine h l (fun x hx => ?_)
  have hs := List.sizeOf_lt_of_mem hx
  obtain ⟨a, b, c, th, el⟩ := x
  simp at hs
  exact ⟨ih _ (by simp; omega), ih _ (by simp; omega)⟩
def StC (l : StRow) : Prop := ∀ (A : Option Addr) (c : Nat) (w0 w : World) (g : Nat) (xs : List IIns), Co w0 w0.heap.size w g xs → xs.length + (codeS l xs.length).length ≤ 1000000 → Kd.C k69 w0 A l.length l → l.length ≤ c →
 Calls Try.prog 37 #[.pointer (some ⟨g, 0, none⟩), .slice A l.length c] w fun en w' => en = .returned (.tuple #[]) ∧ Co w0 w0.heap.size w' g (xs ++ codeS l xs.length) ∧ KeepT w w' g
theorem cells10 {w : World} {b : Nat} {v0 v1 v2 v3 v4 v5 v6 v7 v8 v9 : Value} {t : TypeId} (h : w.heap[b]? = some (.cells #[v0, v1, v2, v3, v4, v5, v6, v7, v8, v9] t (0, 0))) :
  w.cell? ⟨b, 0, none⟩ = some v0 ∧ w.cell? ⟨b, 1, none⟩ = some v1 ∧ w.cell? ⟨b, 2, none⟩ = some v2 ∧ w.cell? ⟨b, 3, none⟩ = some v3 ∧ w.cell? ⟨b, 4, none⟩ = some v4 ∧ w.cell? ⟨b, 5, none⟩ = some v5 ∧ w.cell? ⟨b, 6, none⟩ = some v6 ∧ w.cell? ⟨b, 7, none⟩ = some v7 ∧ w.cell? ⟨b, 8, none⟩ = some v8 ∧ w.cell? ⟨b, 9, none⟩ = some v9 :=
 ⟨(blk_cell h 0).trans rfl, (blk_cell h 1).trans rfl, (blk_cell h 2).trans rfl, (blk_cell h 3).trans rfl, (blk_cell h 4).trans rfl, (blk_cell h 5).trans rfl, (blk_cell h 6).trans rfl, (blk_cell h 7).trans rfl, (blk_cell h 8).trans rfl, (blk_cell h 9).trans rfl⟩
theorem Co.cell {w0 w : World} {g base : Nat} {xs : List IIns} (h : Co w0 base w g xs) : ∃ A c, w.cell? ⟨g, 0, none⟩ = some (.slice A xs.length c) := by
 obtain ⟨⟨v, hg, hR⟩, h2, h3, h4⟩ := h
 obtain ⟨A, c, rfl⟩ := Kd.R_slice hR
 exact ⟨A, c, (blk_cell hg 0).trans rfl⟩
set_option maxRecDepth 100000 in
set_option maxHeartbeats 8000000 in
theorem codeSt_any (l : StRow) : StC l := by
 induction l using rowInd with
 | h l ih =>
 intro A c w0 w g xs hco hlen hC hc
 have hmax : l.length ≤ 9223372036854775807 := hC.2.1
 have HI := Aside0.mk (And.intro hco (And.intro hlen (And.intro hC (And.intro hc ih))))
 clear hco hlen hC hc ih
 go_enter Try.func37, Try.ntmps37
 go_wp2
 go_loopw [5, 12] (fun _ i wr => ∃ (j : Nat), i = .int .i64 j ∧ Aside0 (j ≤ l.length ∧ Co w0 w0.heap.size wr g (xs ++ codeS (l.take j) xs.length) ∧ KeepT w wr g)) (fun _ i _ => l.length - (intOf i).toNat)
 case atStart => exact ⟨0, rfl, ⟨Nat.zero_le _, by simpa [codeS] using HI.out.1, KeepT.refl _ _⟩⟩
 case round =>
  obtain ⟨j, rfl, HR⟩ := hrel
  by_cases hj : j < l.length
  ·obtain ⟨ad, A7, c7, A8, c8, A9, c9, hA, e0, e1, e2, e3, e4, e5, e6, e7, e8, e9, hl7, hi7, hl8, hi8, hl9, hi9⟩ := at_T69 HI.out.2.2.1 (j : Int) (by omega) (by omega)
   cases hA
   have hkid : rd_T69 l (j : Int) = l[j] := by simp [rd_T69, hj]
   have hb := HR.out.2.1.below
   replace e0 := (hb.cell (World.block_lt_of_cell? w0 _ e0)).trans e0
   replace e1 := (hb.cell (World.block_lt_of_cell? w0 _ e1)).trans e1
   replace e2 := (hb.cell (World.block_lt_of_cell? w0 _ e2)).trans e2
   replace e3 := (hb.cell (World.block_lt_of_cell? w0 _ e3)).trans e3
   replace e4 := (hb.cell (World.block_lt_of_cell? w0 _ e4)).trans e4
   replace e5 := (hb.cell (World.block_lt_of_cell? w0 _ e5)).trans e5
   replace e6 := (hb.cell (World.block_lt_of_cell? w0 _ e6)).trans e6
   replace e7 := (hb.cell (World.block_lt_of_cell? w0 _ e7)).trans e7
   replace e8 := (hb.cell (World.block_lt_of_cell? w0 _ e8)).trans e8
   replace e9 := (hb.cell (World.block_lt_of_cell? w0 _ e9)).trans e9
   rw [hkid] at e0 e1 e2 e3 e4 e5 e6 e7 e8 e9 hl7 hi7 hl8 hi8 hl9 hi9
   simp only [Int.toNat_natCast] at e0 e1 e2 e3 e4 e5 e6 e7 e8 e9
   obtain ⟨x, hx⟩ : ∃ x, x = l[j] := ⟨_, rfl⟩
   rw [← hx] at e0 e1 e2 e3 e4 e5 e6 e7 e8 e9 hl7 hi7 hl8 hi8 hl9 hi9
   have hmem : x ∈ l := by rw [hx]; exact List.getElem_mem hj
   obtain ⟨ys, hys⟩ : ∃ ys, ys = xs ++ codeS (l.take j) xs.length := ⟨_, rfl⟩
   have htk : xs ++ codeS (l.take (j + 1)) xs.length = ys ++ codeOne x ys.length := by rw [codeS_take l j hj, ← List.append_assoc, ← hys, ← hx, hys, List.length_append]
   have hbound : ys.length + (codeOne x ys.length).length ≤ 1000000 := by have h1 := HI.out.2.1; have h2 := codeS_len l (j + 1) xs.length; have h3 := congrArg List.length htk; simp only [List.length_append] at h3; omega
   have hcoY : Co w0 w0.heap.size wr g ys := by rw [hys]; exact HR.out.2.1
   have hih := HI.out.2.2.2.2 x hmem
   have HE := Aside0.mk (fun (W : World) (zs : List IIns) (hW : Co w0 w0.heap.size W g zs) (hL : zs.length + (codeE x.f2).length ≤ 1000000) => codeEx_any x.f2 A7 c7 w0 W g zs hW hL hi7 hl7)
   have HT := Aside0.mk (fun (W : World) (zs : List IIns) (hW : Co w0 w0.heap.size W g zs) (hL : zs.length + (codeS x.f3 zs.length).length ≤ 1000000) => hih.1 A8 c8 w0 W g zs hW hL hi8 hl8)
   have HL := Aside0.mk (fun (W : World) (zs : List IIns) (hW : Co w0 w0.heap.size W g zs) (hL : zs.length + (codeS x.f4 zs.length).length ≤ 1000000) => hih.2 A9 c9 w0 W g zs hW hL hi9 hl9)
   have HX := Aside0.mk (And.intro htk (And.intro hj (And.intro hmax hbound)))
   have HCO := Aside0.mk hcoY
   clear hb hkid hx hi7 hl7 hi8 hl8 hi9 hl9 hmem htk hbound hcoY hih hys
   go_upto_region 3 with (fail)
   have j1 := heap_alloc_new wr (.cells #[.int .i64 x.f0, .int .i64 x.f1.f0, .int .i64 x.f1.f1, .int .i64 x.f2.f0, .int .i64 x.f2.f1, .int .i64 x.f2.f2.f0, .int .i64 x.f2.f2.f1, .slice A7 x.f2.f3.length c7, .slice A8 x.f3.length c8, .slice A9 x.f4.length c9] 69)
   have hb1 : Below wr.heap.size wr (wr.alloc (.cells #[.int .i64 x.f0, .int .i64 x.f1.f0, .int .i64 x.f1.f1, .int .i64 x.f2.f0, .int .i64 x.f2.f1, .int .i64 x.f2.f2.f0, .int .i64 x.f2.f2.f1, .slice A7 x.f2.f3.length c7, .slice A8 x.f3.length c8, .slice A9 x.f4.length c9] 69)) := (Below.refl _ _).alloc (Nat.le_refl _) _
   generalize wr.alloc (.cells #[.int .i64 x.f0, .int .i64 x.f1.f0, .int .i64 x.f1.f1, .int .i64 x.f2.f0, .int .i64 x.f2.f1, .int .i64 x.f2.f2.f0, .int .i64 x.f2.f2.f1, .slice A7 x.f2.f3.length c7, .slice A8 x.f3.length c8, .slice A9 x.f4.length c9] 69) = W1 at j1 hb1 ⊢
   have HLT := Aside0.mk (show wr.heap.size ≠ g from by have := HCO.out.lt; omega)
   have H1 := Aside0.mk (And.intro (HCO.out.below' hb1) (And.intro (HR.out.2.2.trans (KeepT.of_below hb1)) j1))
   clear e0 e1 e2 e3 e4 e5 e6 e7 e8 e9 hb1 j1
   obtain ⟨e0, e1, e2, e3, e4, e5, e6, e7, e8, e9⟩ := cells10 H1.out.2.2
   obtain ⟨Ay, cy, ey⟩ := H1.out.1.cell
   have hbE : ys.length + (codeE x.f2).length ≤ 1000000 := by have h := HX.out.2.2.2; have h2 := codeOne_ge x ys.length; omega
   go_wp2_with fail
   refine (HE.out W1 ys H1.out.1 hbE).mono ?_
   rintro en w2 ⟨rfl, hco2, hkt2⟩
   have H2 := Aside0.mk (And.intro hco2 (And.intro (H1.out.2.1.trans hkt2) (hkt2.2 _ _ _ HLT.out (by decide) H1.out.2.2)))
   clear hco2 hkt2 e0 e1 e2 e3 e4 e5 e6 e7 e8 e9
   obtain ⟨e0, e1, e2, e3, e4, e5, e6, e7, e8, e9⟩ := cells10 H2.out.2.2
   clear hbE ey
   obtain ⟨es, hes⟩ : ∃ es, es = codeE x.f2 := ⟨_, rfl⟩
   rw [← hes] at H2
   have HES := Aside0.mk hes
   clear hes HE
   by_cases h1 : x.f0 = 1
   ·have b1 : (x.f0 == 1) = true := beq_iff_eq.2 h1
    have HK := Aside0.mk (show codeOne x ys.length = es ++ [⟨3, 0, x.f1⟩] by rw [codeOne_eq, if_pos h1, HES.out])
    have hbE : (ys ++ es).length ≤ 1000000 := by have h := HX.out.2.2.2; rw [HK.out] at h; simp only [List.length_append, List.length_cons, List.length_nil] at h ⊢; omega
    clear h1
    go_wp2_with fail
    refine (add_any H2.out.1 hbE ⟨3, 0, x.f1⟩).mono ?_
    rintro en w3 ⟨rfl, hco2, hkt2⟩
    have H3 := Aside0.mk (And.intro hco2 (And.intro (H2.out.2.1.trans hkt2) (hkt2.2 _ _ _ HLT.out (by decide) H2.out.2.2)))
    clear hco2 hkt2 e0 e1 e2 e3 e4 e5 e6 e7 e8 e9
    obtain ⟨e0, e1, e2, e3, e4, e5, e6, e7, e8, e9⟩ := cells10 H3.out.2.2
    clear hbE
    go_wp2
    go_roundw
    case rel => exact ⟨j + 1, by go_num, ⟨HX.out.2.1, by rw [HX.out.1, HK.out, ← List.append_assoc]; exact H3.out.1, H3.out.2.1⟩⟩
    case measure => have := HX.out.2.1; simp [intOf]; omega
   have b1 : (x.f0 == 1) = false := beq_false_of_ne h1
   obtain ⟨zs, hzs⟩ : ∃ zs, zs = ys ++ es := ⟨_, rfl⟩
   rw [← hzs] at H2
   have hzl : zs.length = ys.length + es.length := by rw [hzs, List.length_append]
   have HZ := Aside0.mk (And.intro hzs hzl)
   clear hzs hzl
   by_cases h2 : x.f0 = 2
   ·have b2 : (x.f0 == 2) = true := beq_iff_eq.2 h2
    obtain ⟨ts, hts⟩ : ∃ ts, ts = codeS x.f3 (zs.length + 1) := ⟨_, rfl⟩
    obtain ⟨us, hus⟩ : ∃ us, us = codeS x.f4 (zs.length + 1 + ts.length + 1) := ⟨_, rfl⟩
    have HK := Aside0.mk (show ys ++ codeOne x ys.length = zs ++ [⟨6, ((zs.length + 1 + ts.length + 1 : Nat) : Int), ⟨0, 0⟩⟩] ++ ts ++ [⟨7, ((zs.length + 1 + ts.length + 1 + us.length : Nat) : Int), ⟨0, 0⟩⟩] ++ us by rw [hus, hts, codeOne_eq, if_neg h1, if_pos h2, ← HES.out, ← HZ.out.2, ← hts, ← hus, HZ.out.1]; simp only [List.append_assoc])
    have hbE : zs.length + 1 + ts.length + 1 + us.length ≤ 1000000 := by have h := HX.out.2.2.2; have h3 := congrArg List.length HK.out; simp only [List.length_append, List.length_cons, List.length_nil] at h3; omega
    have HB := Aside0.mk hbE
    have HTS := Aside0.mk (And.intro hts hus)
    clear h1 h2 hbE hts hus
    have hb3 : zs.length ≤ 1000000 := by have := HB.out; omega
    go_wp2_with fail
    refine (add_any H2.out.1 hb3 ⟨6, 0, ⟨0, 0⟩⟩).mono ?_
    rintro en w3 ⟨rfl, hco2, hkt2⟩
    have H3 := Aside0.mk (And.intro hco2 (And.intro (H2.out.2.1.trans hkt2) (hkt2.2 _ _ _ HLT.out (by decide) H2.out.2.2)))
    clear hco2 hkt2 e0 e1 e2 e3 e4 e5 e6 e7 e8 e9
    obtain ⟨e0, e1, e2, e3, e4, e5, e6, e7, e8, e9⟩ := cells10 H3.out.2.2
    clear hb3
    have hb3 : (zs ++ [(⟨6, 0, ⟨0, 0⟩⟩ : IIns)]).length = zs.length + 1 := by simp
    have hb4 : (zs ++ [(⟨6, 0, ⟨0, 0⟩⟩ : IIns)]).length + (codeS x.f3 (zs ++ [(⟨6, 0, ⟨0, 0⟩⟩ : IIns)]).length).length ≤ 1000000 := by rw [hb3, ← HTS.out.1]; have := HB.out; omega
    go_wp2_with fail
    refine (HT.out w3 _ H3.out.1 hb4).mono ?_
    rintro en w4 ⟨rfl, hco2, hkt2⟩
    rw [hb3, ← HTS.out.1] at hco2
    have H4 := Aside0.mk (And.intro hco2 (And.intro (H3.out.2.1.trans hkt2) (hkt2.2 _ _ _ HLT.out (by decide) H3.out.2.2)))
    clear hco2 hkt2 e0 e1 e2 e3 e4 e5 e6 e7 e8 e9
    obtain ⟨e0, e1, e2, e3, e4, e5, e6, e7, e8, e9⟩ := cells10 H4.out.2.2
    clear hb3 hb4
    have hb3 : (zs ++ [(⟨6, 0, ⟨0, 0⟩⟩ : IIns)] ++ ts).length = zs.length + 1 + ts.length := by simp only [List.length_append, List.length_cons, List.length_nil]
    have hb4 : (zs ++ [(⟨6, 0, ⟨0, 0⟩⟩ : IIns)] ++ ts).length ≤ 1000000 := by rw [hb3]; have := HB.out; omega
    obtain ⟨vs, hvs⟩ : ∃ vs, vs = zs ++ [(⟨6, 0, ⟨0, 0⟩⟩ : IIns)] ++ ts := ⟨_, rfl⟩
    rw [← hvs] at hb3 hb4 H4
    have HV := Aside0.mk (And.intro hvs hb3)
    clear hvs hb3
    go_wp2_with fail
    refine (add_any H4.out.1 hb4 ⟨7, 0, ⟨0, 0⟩⟩).mono ?_
    rintro en w5 ⟨rfl, hco2, hkt2⟩
    have H5 := Aside0.mk (And.intro hco2 (And.intro (H4.out.2.1.trans hkt2) (hkt2.2 _ _ _ HLT.out (by decide) H4.out.2.2)))
    clear hco2 hkt2 e0 e1 e2 e3 e4 e5 e6 e7 e8 e9
    obtain ⟨e0, e1, e2, e3, e4, e5, e6, e7, e8, e9⟩ := cells10 H5.out.2.2
    clear hb4
    have hb3 : (vs ++ [(⟨7, 0, ⟨0, 0⟩⟩ : IIns)]).length = zs.length + 1 + ts.length + 1 := by rw [List.length_append, HV.out.2]; rfl
    have hb4 : (vs ++ [(⟨7, 0, ⟨0, 0⟩⟩ : IIns)]).length ≤ 1000000 := by rw [hb3]; have := HB.out; omega
    have hb5 : zs.length < (vs ++ [(⟨7, 0, ⟨0, 0⟩⟩ : IIns)]).length := by rw [hb3]; omega
    have hlan : landL (vs ++ [(⟨7, 0, ⟨0, 0⟩⟩ : IIns)]) zs.length = zs ++ [⟨6, ((zs.length + 1 + ts.length + 1 : Nat) : Int), ⟨0, 0⟩⟩] ++ ts ++ [⟨7, 0, ⟨0, 0⟩⟩] := by rw [HV.out.1, List.append_assoc (zs ++ _) ts, landL_at _ _ _ _ rfl]; simp only [List.length_append, List.length_cons, List.length_nil, List.append_assoc, Nat.add_assoc]
    have HLA := Aside0.mk hlan
    clear hlan hb3
    go_wp2_with fail
    refine (land_any H5.out.1 hb4 zs.length hb5).mono ?_
    rintro en w6 ⟨rfl, hco2, hkt2⟩
    rw [HLA.out] at hco2
    have H6 := Aside0.mk (And.intro hco2 (And.intro (H5.out.2.1.trans hkt2) (hkt2.2 _ _ _ HLT.out (by decide) H5.out.2.2)))
    clear hco2 hkt2 e0 e1 e2 e3 e4 e5 e6 e7 e8 e9
    obtain ⟨e0, e1, e2, e3, e4, e5, e6, e7, e8, e9⟩ := cells10 H6.out.2.2
    clear hb4 hb5 HLA
    obtain ⟨rs, hrs⟩ : ∃ rs, rs = zs ++ [(⟨6, ((zs.length + 1 + ts.length + 1 : Nat) : Int), ⟨0, 0⟩⟩ : IIns)] ++ ts := ⟨_, rfl⟩
    rw [← hrs] at H6
    have hrl : rs.length = vs.length := by rw [hrs, HV.out.2]; simp only [List.length_append, List.length_cons, List.length_nil]
    have hb3 : (rs ++ [(⟨7, 0, ⟨0, 0⟩⟩ : IIns)]).length = zs.length + 1 + ts.length + 1 := by rw [List.length_append, hrl, HV.out.2]; rfl
    have hb4 : (rs ++ [(⟨7, 0, ⟨0, 0⟩⟩ : IIns)]).length + (codeS x.f4 (rs ++ [(⟨7, 0, ⟨0, 0⟩⟩ : IIns)]).length).length ≤ 1000000 := by rw [hb3, ← HTS.out.2]; have := HB.out; omega
    have HRS := Aside0.mk (And.intro hrs (And.intro hrl hb3))
    clear hrs hrl hb3
    go_wp2_with fail
    refine (HL.out w6 _ H6.out.1 hb4).mono ?_
    rintro en w7 ⟨rfl, hco2, hkt2⟩
    rw [HRS.out.2.2, ← HTS.out.2] at hco2
    have H7 := Aside0.mk (And.intro hco2 (And.intro (H6.out.2.1.trans hkt2) (hkt2.2 _ _ _ HLT.out (by decide) H6.out.2.2)))
    clear hco2 hkt2 e0 e1 e2 e3 e4 e5 e6 e7 e8 e9
    obtain ⟨e0, e1, e2, e3, e4, e5, e6, e7, e8, e9⟩ := cells10 H7.out.2.2
    clear hb4
    have hb3 : (rs ++ [(⟨7, 0, ⟨0, 0⟩⟩ : IIns)] ++ us).length = zs.length + 1 + ts.length + 1 + us.length := by rw [List.length_append, HRS.out.2.2]
    have hb4 : (rs ++ [(⟨7, 0, ⟨0, 0⟩⟩ : IIns)] ++ us).length ≤ 1000000 := by rw [hb3]; exact HB.out
    have hb5 : vs.length < (rs ++ [(⟨7, 0, ⟨0, 0⟩⟩ : IIns)] ++ us).length := by rw [hb3, HV.out.2]; omega
    have hlan : landL (rs ++ [(⟨7, 0, ⟨0, 0⟩⟩ : IIns)] ++ us) vs.length = ys ++ codeOne x ys.length := by rw [landL_at _ _ _ _ HRS.out.2.1.symm, HK.out, HRS.out.2.1, HV.out.2, HRS.out.1]
    have HLA := Aside0.mk hlan
    clear hlan hb3
    go_wp2_with fail
    refine (land_any H7.out.1 hb4 vs.length hb5).mono ?_
    rintro en w8 ⟨rfl, hco2, hkt2⟩
    rw [HLA.out] at hco2
    have H8 := Aside0.mk (And.intro hco2 (And.intro (H7.out.2.1.trans hkt2) (hkt2.2 _ _ _ HLT.out (by decide) H7.out.2.2)))
    clear hco2 hkt2 e0 e1 e2 e3 e4 e5 e6 e7 e8 e9
    obtain ⟨e0, e1, e2, e3, e4, e5, e6, e7, e8, e9⟩ := cells10 H8.out.2.2
    clear hb4 hb5 HLA
    go_wp2
    go_roundw
    case rel => exact ⟨j + 1, by go_num, ⟨HX.out.2.1, by rw [HX.out.1]; exact H8.out.1, H8.out.2.1⟩⟩
    case measure => have := HX.out.2.1; simp [intOf]; omega
   have b2 : (x.f0 == 2) = false := beq_false_of_ne h2
   by_cases h3 : x.f0 = 3
   ·have b3 : (x.f0 == 3) = true := beq_iff_eq.2 h3
    obtain ⟨ts, hts⟩ : ∃ ts, ts = codeS x.f3 (zs.length + 1) := ⟨_, rfl⟩
    have HK := Aside0.mk (show ys ++ codeOne x ys.length = zs ++ [⟨6, ((zs.length + 1 + ts.length + 1 : Nat) : Int), ⟨0, 0⟩⟩] ++ ts ++ [⟨8, (ys.length : Int), ⟨0, 0⟩⟩] by rw [hts, codeOne_eq, if_neg h1, if_neg h2, if_pos h3, ← HES.out, ← HZ.out.2, ← hts, HZ.out.1]; simp only [List.append_assoc])
    have hbE : zs.length + 1 + ts.length + 1 ≤ 1000000 := by have h := HX.out.2.2.2; have h3 := congrArg List.length HK.out; simp only [List.length_append, List.length_cons, List.length_nil] at h3; omega
    have HB := Aside0.mk hbE
    have HTS := Aside0.mk hts
    clear h1 h2 h3 hbE hts
    have hb3 : zs.length ≤ 1000000 := by have := HB.out; omega
    go_wp2_with fail
    refine (add_any H2.out.1 hb3 ⟨6, 0, ⟨0, 0⟩⟩).mono ?_
    rintro en w3 ⟨rfl, hco2, hkt2⟩
    have H3 := Aside0.mk (And.intro hco2 (And.intro (H2.out.2.1.trans hkt2) (hkt2.2 _ _ _ HLT.out (by decide) H2.out.2.2)))
    clear hco2 hkt2 e0 e1 e2 e3 e4 e5 e6 e7 e8 e9
    obtain ⟨e0, e1, e2, e3, e4, e5, e6, e7, e8, e9⟩ := cells10 H3.out.2.2
    clear hb3
    have hb3 : (zs ++ [(⟨6, 0, ⟨0, 0⟩⟩ : IIns)]).length = zs.length + 1 := by simp
    have hb4 : (zs ++ [(⟨6, 0, ⟨0, 0⟩⟩ : IIns)]).length + (codeS x.f3 (zs ++ [(⟨6, 0, ⟨0, 0⟩⟩ : IIns)]).length).length ≤ 1000000 := by rw [hb3, ← HTS.out]; have := HB.out; omega
    go_wp2_with fail
    refine (HT.out w3 _ H3.out.1 hb4).mono ?_
    rintro en w4 ⟨rfl, hco2, hkt2⟩
    rw [hb3, ← HTS.out] at hco2
    have H4 := Aside0.mk (And.intro hco2 (And.intro (H3.out.2.1.trans hkt2) (hkt2.2 _ _ _ HLT.out (by decide) H3.out.2.2)))
    clear hco2 hkt2 e0 e1 e2 e3 e4 e5 e6 e7 e8 e9
    obtain ⟨e0, e1, e2, e3, e4, e5, e6, e7, e8, e9⟩ := cells10 H4.out.2.2
    clear hb3 hb4
    have hb3 : (zs ++ [(⟨6, 0, ⟨0, 0⟩⟩ : IIns)] ++ ts).length = zs.length + 1 + ts.length := by simp only [List.length_append, List.length_cons, List.length_nil]
    have hb4 : (zs ++ [(⟨6, 0, ⟨0, 0⟩⟩ : IIns)] ++ ts).length ≤ 1000000 := by rw [hb3]; have := HB.out; omega
    obtain ⟨vs, hvs⟩ : ∃ vs, vs = zs ++ [(⟨6, 0, ⟨0, 0⟩⟩ : IIns)] ++ ts := ⟨_, rfl⟩
    rw [← hvs] at hb3 hb4 H4
    have HV := Aside0.mk (And.intro hvs hb3)
    clear hvs hb3
    go_wp2_with fail
    refine (add_any H4.out.1 hb4 ⟨8, ys.length, ⟨0, 0⟩⟩).mono ?_
    rintro en w5 ⟨rfl, hco2, hkt2⟩
    have H5 := Aside0.mk (And.intro hco2 (And.intro (H4.out.2.1.trans hkt2) (hkt2.2 _ _ _ HLT.out (by decide) H4.out.2.2)))
    clear hco2 hkt2 e0 e1 e2 e3 e4 e5 e6 e7 e8 e9
    obtain ⟨e0, e1, e2, e3, e4, e5, e6, e7, e8, e9⟩ := cells10 H5.out.2.2
    clear hb4
    have hb3 : (vs ++ [(⟨8, ys.length, ⟨0, 0⟩⟩ : IIns)]).length = zs.length + 1 + ts.length + 1 := by rw [List.length_append, HV.out.2]; rfl
    have hb4 : (vs ++ [(⟨8, ys.length, ⟨0, 0⟩⟩ : IIns)]).length ≤ 1000000 := by rw [hb3]; exact HB.out
    have hb5 : zs.length < (vs ++ [(⟨8, ys.length, ⟨0, 0⟩⟩ : IIns)]).length := by rw [hb3]; omega
    have hlan : landL (vs ++ [(⟨8, ys.length, ⟨0, 0⟩⟩ : IIns)]) zs.length = ys ++ codeOne x ys.length := by rw [HK.out, HV.out.1, List.append_assoc (zs ++ _) ts, landL_at _ _ _ _ rfl]; simp only [List.length_append, List.length_cons, List.length_nil, List.append_assoc, Nat.add_assoc]
    have HLA := Aside0.mk hlan
    clear hlan hb3
    go_wp2_with fail
    refine (land_any H5.out.1 hb4 zs.length hb5).mono ?_
    rintro en w6 ⟨rfl, hco2, hkt2⟩
    rw [HLA.out] at hco2
    have H6 := Aside0.mk (And.intro hco2 (And.intro (H5.out.2.1.trans hkt2) (hkt2.2 _ _ _ HLT.out (by decide) H5.out.2.2)))
    clear hco2 hkt2 e0 e1 e2 e3 e4 e5 e6 e7 e8 e9
    obtain ⟨e0, e1, e2, e3, e4, e5, e6, e7, e8, e9⟩ := cells10 H6.out.2.2
    clear hb4 hb5 HLA
    go_wp2
    go_roundw
    case rel => exact ⟨j + 1, by go_num, ⟨HX.out.2.1, by rw [HX.out.1]; exact H6.out.1, H6.out.2.1⟩⟩
    case measure => have := HX.out.2.1; simp [intOf]; omega
   have b3 : (x.f0 == 3) = false := beq_false_of_ne h3
   have HK := Aside0.mk (show ys ++ codeOne x ys.length = zs by rw [codeOne_eq, if_neg h1, if_neg h2, if_neg h3, ← HES.out, HZ.out.1])
   clear h1 h2 h3
   go_wp2
   go_roundw
   case rel => exact ⟨j + 1, by go_num, ⟨HX.out.2.1, by rw [HX.out.1, HK.out]; exact H2.out.1, H2.out.2.1⟩⟩
   case measure => have := HX.out.2.1; simp [intOf]; omega
  ·have hjl : j = l.length := by have := HR.out.1; omega
   have hco := HR.out.2.1
   rw [hjl, List.take_of_length_le (Nat.le_refl _)] at hco
   have HF := Aside0.mk (And.intro hco HR.out.2.2)
   clear hco hjl
   go_wp2
   refine bodyPost_end (results_none rfl _ _ _) rfl ?_
   exact ⟨rfl, HF.out⟩
end Go.Proofs.Ytddnijmgipffeaa.B
/- Plain law: the specification's code of statements ends, and is the code that the coder makes. -/
namespace Go.Proofs.Ytddnijmgipffeaa.B
open Go.RowKit Go.Proofs.YtddnijmgipffeaaW.PrintWords Go.Proofs.YtddnijmgipffeaaW.PrintLast Go.Proofs.YtddnijmgipffeaaW.PrintMore
set_option linter.unusedVariables false

theorem flat_len (f : S46 → List IIns) (g : S46 → Nat) (l : List S46) (h : ∀ x ∈ l, (f x).length = g x) : (l.flatMap f).length = (l.map g).sum := by
 induction l with
 | nil => rfl
 | cons a l ih => rw [List.flatMap_cons, List.length_append, ih (fun x hx => h x (List.mem_cons_of_mem _ hx)), h a List.mem_cons_self, List.map_cons, List.sum_cons]
theorem codeE_many (d : Nat) : ∀ e : S46, formS d e = true → (codeE e).length = manyS d e := by
 induction d with
 | zero => intro e h; simp [formS] at h
 | succ d ih =>
  intro e h
  rw [formS, Bool.and_eq_true, List.all_eq_true] at h
  rw [codeE_eq, List.length_append, flat_len codeE (manyS d) e.f3 (fun x hx => ih x (h.2 x hx)), manyS, List.length_singleton]
  omega
theorem kid_le (d : Nat) (l : List S46) (j : Nat) (h : j < l.length) : manyS d l[j] ≤ (l.map (manyS d)).sum := mem_sum _ _ (List.mem_map_of_mem (List.getElem_mem h))
theorem exp_is (d : Nat) : ∀ e : S46, formS d e = true → manyS d e ≤ 1000 → Ends (fun k => spec_l5Expr.f k e.f0 e.f1 e.f2.f0 e.f2.f1 e.f3) (codeE e) := by
 induction d with
 | zero => intro e h; simp [formS] at h
 | succ d ih =>
  intro e h hm
  have hlen := codeE_many (d + 1) e h
  rw [formS, Bool.and_eq_true, List.all_eq_true] at h
  obtain ⟨hh, hk⟩ := h
  unfold headOk at hh
  simp only [Bool.and_eq_true, beq_iff_eq] at hh
  obtain ⟨⟨hkd, hn⟩, _⟩ := hh
  rw [manyS] at hm hlen
  rw [codeE_eq]
  obtain ⟨e0, e1, ⟨a, b⟩, l⟩ := e
  dsimp only at *
  by_cases h1 : e0 = 1
  ·rw [h1, kidsN, if_pos (.inl rfl)] at hn
   obtain rfl : l = [] := List.length_eq_zero_iff.1 (by omega)
   refine Ends.succ (fun k => by rw [spec_l5Expr.f, if_pos h1]) (Ends.const fun k => ?_)
   rw [insOf, if_pos h1]; rfl
  by_cases h2 : e0 = 2
  ·rw [h2, kidsN, if_pos (.inr rfl)] at hn
   obtain rfl : l = [] := List.length_eq_zero_iff.1 (by omega)
   refine Ends.succ (fun k => by rw [spec_l5Expr.f, if_neg h1, if_pos h2]) (Ends.const fun k => ?_)
   rw [insOf, if_neg h1, if_pos h2]; rfl
  have hkd' : 1 ≤ e0 ∧ e0 ≤ 10 := by simpa [kindOk] using hkd
  by_cases h3 : e0 = 10
  ·rw [h3, kidsN, if_neg (by omega), if_neg (by omega)] at hn
   obtain ⟨x, rfl⟩ := List.length_eq_one_iff.1 (show l.length = 1 by omega)
   have hx := ih x (hk x (by simp)) (by simp at hm; omega)
   have hxl := codeE_many d x (hk x (by simp))
   refine Ends.succ (fun k => by rw [spec_l5Expr.f, if_neg h1, if_neg h2, if_pos h3, if_pos (by simp), show rd_T46 [x] 0 = x from rfl]) ?_
   refine hx.bind (Ends.const fun k => ?_)
   rw [Option.bind_some, if_pos (by simp at hm ⊢; omega), insOf, if_neg h1, if_neg h2, if_pos h3]
   simp
  ·rw [kidsN, if_neg (by omega), if_pos (by omega)] at hn
   obtain ⟨x, y, rfl⟩ : ∃ x y, l = [x, y] := by
    match l, (show l.length = 2 by omega) with
    | [x, y], _ => exact ⟨x, y, rfl⟩
   simp at hm
   have hx := ih x (hk x (by simp)) (by omega)
   have hxl := codeE_many d x (hk x (by simp))
   have hy := ih y (hk y (by simp)) (by omega)
   have hyl := codeE_many d y (hk y (by simp))
   refine Ends.succ (fun k => by rw [spec_l5Expr.f, if_neg h1, if_neg h2, if_neg h3, if_pos (by simp), show rd_T46 [x, y] 0 = x from rfl]) ?_
   refine hx.bind ?_
   refine Ends.of ?_ (fun k => by rw [if_pos (by simp), show rd_T46 [x, y] 1 = y from rfl])
   refine hy.bind (Ends.const fun k => ?_)
   rw [if_pos (by omega), Option.bind_some, Option.bind_some, if_pos (by simp; omega), insOf, if_neg h1, if_neg h2, if_neg h3]
   simp
theorem head_ex {s : ISt} (h : headSt s = true) : plainL s = true ∧ formS 6 s.f2 = true ∧ manyS 6 s.f2 ≤ 14 := by
 rw [headSt, okL_eq, Bool.and_eq_true, Bool.and_eq_true, decide_eq_true_eq] at h
 exact h
theorem plain_kind {s : ISt} (h : plainL s = true) : s.f0 = 1 ∨ s.f0 = 2 ∨ s.f0 = 3 := by
 unfold plainL at h
 by_cases h1 : s.f0 = 1
 ·exact .inl h1
 by_cases h2 : s.f0 = 2
 ·exact .inr (.inl h2)
 by_cases h3 : s.f0 = 3
 ·exact .inr (.inr h3)
 rw [if_neg h1, if_neg h2, if_neg h3] at h; cases h
theorem codeS_lenO (N : ISt → Nat) (l : List ISt) (h : ∀ s ∈ l, ∀ n, (codeOne s n).length ≤ 16 * N s) : ∀ n, (codeS l n).length ≤ 16 * (l.map N).sum := by
 induction l with
 | nil => intro n; simp [codeS]
 | cons a l ih =>
  intro n
  rw [codeS, List.length_append, List.map_cons, List.sum_cons]
  have h1 := h a List.mem_cons_self n
  have h2 := ih (fun s hs => h s (List.mem_cons_of_mem _ hs)) (n + (codeOne a n).length)
  omega
theorem codeOne_len (s : ISt) (n M T1 T2 : Nat) (hM : (codeE s.f2).length ≤ 14) (h3 : ∀ m, (codeS s.f3 m).length ≤ 16 * T1) (h4 : ∀ m, (codeS s.f4 m).length ≤ 16 * T2) : (codeOne s n).length ≤ 16 * (1 + T1 + T2) := by
 rw [codeOne_eq]
 have a3 := h3 (n + (codeE s.f2).length + 1)
 have a4 := h4 (n + (codeE s.f2).length + 1 + (codeS s.f3 (n + (codeE s.f2).length + 1)).length + 1)
 by_cases k1 : s.f0 = 1
 ·rw [if_pos k1]; simp only [List.length_append, List.length_singleton]; omega
 by_cases k2 : s.f0 = 2
 ·rw [if_neg k1, if_pos k2]; simp only [List.length_append, List.length_singleton]; omega
 by_cases k3 : s.f0 = 3
 ·rw [if_neg k1, if_neg k2, if_pos k3]; simp only [List.length_append, List.length_singleton]; omega
 ·rw [if_neg k1, if_neg k2, if_neg k3]; omega
theorem sum_one (d : Nat) (l : List ISt) : (l.map fun s => 1 + manyT d s.f3 + manyT d s.f4).sum = l.length + (l.map fun s => manyT d s.f3 + manyT d s.f4).sum := by
 induction l with
 | nil => rfl
 | cons a l ih => simp only [List.map_cons, List.sum_cons, List.length_cons, ih]; omega
theorem codeS_many (d : Nat) : ∀ l : List ISt, formT d l = true → ∀ n, (codeS l n).length ≤ 16 * manyT d l := by
 induction d with
 | zero =>
  intro l h n
  rw [formT, List.isEmpty_iff] at h
  subst h
  simp [codeS]
 | succ d ih =>
  intro l h n
  rw [formT, List.all_eq_true] at h
  rw [manyT, ← sum_one]
  refine codeS_lenO (fun s => 1 + manyT d s.f3 + manyT d s.f4) l (fun s hs m => ?_) n
  have hs' := h s hs
  rw [Bool.and_eq_true, Bool.and_eq_true] at hs'
  have he := head_ex hs'.1
  exact codeOne_len s m 0 _ _ (by rw [codeE_many 6 _ he.2.1]; exact he.2.2) (ih _ hs'.2.1) (ih _ hs'.2.2)
theorem one_is (s : ISt) (hk : s.f0 = 1 ∨ s.f0 = 2 ∨ s.f0 = 3) (hM : (codeE s.f2).length ≤ 14) (he : Ends (fun k => spec_l5Expr.f k s.f2.f0 s.f2.f1 s.f2.f2.f0 s.f2.f2.f1 s.f2.f3) (codeE s.f2)) (n T1 T2 : Nat) (h3 : ∀ m, (codeS s.f3 m).length ≤ 16 * T1) (h4 : ∀ m, (codeS s.f4 m).length ≤ 16 * T2)
  (hb : n ≤ 150000) (hT : T1 + T2 ≤ 16) (e3 : ∀ m : Nat, m ≤ n + 600 → Ends (fun k => spec_l5Of.f k s.f3 (m : Int)) (codeS s.f3 m)) (e4 : ∀ m : Nat, m ≤ n + 600 → Ends (fun k => spec_l5Of.f k s.f4 (m : Int)) (codeS s.f4 m)) :
  Ends (fun k => spec_l5One.f k s.f0 s.f1.f0 s.f1.f1 s.f2.f0 s.f2.f1 s.f2.f2.f0 s.f2.f2.f1 s.f2.f3 s.f3 s.f4 (n : Int)) (codeOne s n) := by
 rw [codeOne_eq]
 refine Ends.succ (fun k => by rw [spec_l5One.f]) ?_
 refine he.bind ?_
 obtain ⟨es, hes⟩ : ∃ es, es = codeE s.f2 := ⟨_, rfl⟩
 rw [← hes] at hM ⊢
 by_cases k1 : s.f0 = 1
 ·refine Ends.const fun k => ?_
  rw [if_pos k1, if_pos (by omega), if_pos k1]
 by_cases k3 : s.f0 = 3
 ·have a3 := h3 (n + es.length + 1)
  have w1 : wrap64 ((n : Int) + wrap64 ((es.length : Int) + 1)) = ((n + es.length + 1 : Nat) : Int) := by rw [wrap_in (n := (es.length : Int) + 1) (by omega) (by omega), wrap_in (by omega) (by omega)]; omega
  refine Ends.of ?_ (fun k => by rw [if_neg k1, if_pos k3, w1])
  refine (e3 (n + es.length + 1) (by omega)).bind (Ends.const fun k => ?_)
  obtain ⟨ts, hts⟩ : ∃ ts, ts = codeS s.f3 (n + es.length + 1) := ⟨_, rfl⟩
  rw [← hts] at a3 ⊢
  have w2 : wrap64 (wrap64 (((n + es.length + 1 : Nat) : Int) + (ts.length : Int)) + 1) = ((n + es.length + 1 + ts.length + 1 : Nat) : Int) := by rw [wrap_in (n := ((n + es.length + 1 : Nat) : Int) + (ts.length : Int)) (by omega) (by omega), wrap_in (by omega) (by omega)]; omega
  rw [if_pos (by omega), Option.bind_some, if_pos (by rw [List.length_append, List.length_singleton]; omega), Option.bind_some, if_pos (by simp only [List.length_append, List.length_singleton]; omega), w2, if_neg k1, if_neg (by omega), if_pos k3]
 ·have k2 : s.f0 = 2 := by omega
  have a3 := h3 (n + es.length + 1)
  have w1 : wrap64 ((n : Int) + wrap64 ((es.length : Int) + 1)) = ((n + es.length + 1 : Nat) : Int) := by rw [wrap_in (n := (es.length : Int) + 1) (by omega) (by omega), wrap_in (by omega) (by omega)]; omega
  refine Ends.of ?_ (fun k => by rw [if_neg k1, if_neg k3, w1])
  refine (e3 (n + es.length + 1) (by omega)).bind ?_
  obtain ⟨ts, hts⟩ : ∃ ts, ts = codeS s.f3 (n + es.length + 1) := ⟨_, rfl⟩
  rw [← hts] at a3 ⊢
  have a4 := h4 (n + es.length + 1 + ts.length + 1)
  have w2 : wrap64 (wrap64 (((n + es.length + 1 : Nat) : Int) + (ts.length : Int)) + 1) = ((n + es.length + 1 + ts.length + 1 : Nat) : Int) := by rw [wrap_in (n := ((n + es.length + 1 : Nat) : Int) + (ts.length : Int)) (by omega) (by omega), wrap_in (by omega) (by omega)]; omega
  refine Ends.of ?_ (fun k => by rw [w2])
  refine (e4 (n + es.length + 1 + ts.length + 1) (by omega)).bind (Ends.const fun k => ?_)
  obtain ⟨us, hus⟩ : ∃ us, us = codeS s.f4 (n + es.length + 1 + ts.length + 1) := ⟨_, rfl⟩
  rw [← hus] at a4 ⊢
  have w3 : wrap64 (((n + es.length + 1 + ts.length + 1 : Nat) : Int) + (us.length : Int)) = ((n + es.length + 1 + ts.length + 1 + us.length : Nat) : Int) := by rw [wrap_in (by omega) (by omega)]; omega
  rw [if_pos (by omega), Option.bind_some, if_pos (by rw [List.length_append, List.length_singleton]; omega), Option.bind_some, if_pos (by simp only [List.length_append, List.length_singleton]; omega), Option.bind_some, if_pos (by simp only [List.length_append, List.length_singleton]; omega), w3, if_neg k1, if_pos k2]
theorem of_loop (l : List ISt) (n : Nat) (hb : n + (codeS l n).length ≤ 200000) (hl : l.length ≤ 1048576) (h : ∀ s ∈ l, ∀ m : Nat, m + (codeOne s m).length ≤ 200000 → m ≤ n + (codeS l n).length → Ends (fun k => spec_l5One.f k s.f0 s.f1.f0 s.f1.f1 s.f2.f0 s.f2.f1 s.f2.f2.f0 s.f2.f2.f1 s.f2.f3 s.f3 s.f4 (m : Int)) (codeOne s m)) :
  ∀ (e j : Nat), j + e = l.length → Ends (fun k => spec_l5Of.l0 k l (n : Int) (codeS (l.take j) n) (j : Int)) (codeS l n) := by
 intro e
 induction e with
 | zero =>
  intro j hj
  refine Ends.succ (fun k => by rw [spec_l5Of.l0, if_neg (by omega)]) (Ends.const fun k => ?_)
  rw [List.take_of_length_le (by omega)]
 | succ e ih =>
  intro j hj
  have hjl : j < l.length := by omega
  have h1 := codeS_len l j n
  have h2 := codeS_len l (j + 1) n
  rw [codeS_take l j hjl n, List.length_append] at h2
  have hn := ih (j + 1) (by omega)
  rw [codeS_take l j hjl n] at hn
  have hone := h l[j] (List.getElem_mem hjl) (n + (codeS (l.take j) n).length) (by omega) (by omega)
  refine Ends.succ (fun k => by rw [spec_l5Of.l0, if_pos (by omega), if_pos (by omega), rdI_st l j hjl, show wrap64 ((n : Int) + ((codeS (l.take j) n).length : Int)) = ((n + (codeS (l.take j) n).length : Nat) : Int) by rw [wrap_in (by omega) (by omega)]; omega]) ?_
  refine hone.bind ?_
  refine hn.of fun k => ?_
  rw [if_pos (by omega), show wrap64 ((j : Int) + 1) = ((j + 1 : Nat) : Int) by rw [wrap_in (by omega) (by omega)]; omega]
theorem sts_is (d : Nat) : ∀ (l : List ISt) (n : Nat), formT d l = true → manyT d l ≤ 16 → n + 1000 * d ≤ 100000 → Ends (fun k => spec_l5Of.f k l (n : Int)) (codeS l n) := by
 induction d with
 | zero =>
  intro l n h _ hn
  rw [formT, List.isEmpty_iff] at h
  subst h
  refine Ends.succ (fun k => by rw [spec_l5Of.f]) ?_
  exact Ends.succ (fun k => by rw [spec_l5Of.l0, if_neg (by simp)]) (Ends.const fun k => by simp [codeS])
 | succ d ih =>
  intro l n h hN16 hn
  have hlen := codeS_many (d + 1) l h n
  refine Ends.succ (fun k => by rw [spec_l5Of.f]) ?_
  rw [formT, List.all_eq_true] at h
  have hN : manyT (d + 1) l = l.length + (l.map fun s => manyT d s.f3 + manyT d s.f4).sum := rfl
  have := of_loop l n (by omega) (by omega) (fun s hs m hm hmn => ?_) l.length 0 (by omega)
  ·simpa [codeS] using this
  ·have hs' := h s hs
   rw [Bool.and_eq_true, Bool.and_eq_true] at hs'
   have he := head_ex hs'.1
   have hone : 1 + manyT d s.f3 + manyT d s.f4 ≤ manyT (d + 1) l := by
    rw [manyT, ← sum_one]
    exact mem_sum _ _ (List.mem_map_of_mem (f := fun s => 1 + manyT d s.f3 + manyT d s.f4) hs)
   exact one_is s (plain_kind he.1) (by rw [codeE_many 6 _ he.2.1]; exact he.2.2) (exp_is 6 s.f2 he.2.1 (by omega)) m _ _ (codeS_many d _ hs'.2.1) (codeS_many d _ hs'.2.2) (by omega) (by omega) (fun m' hm' => ih s.f3 m' hs'.2.1 (by omega) (by omega)) (fun m' hm' => ih s.f4 m' hs'.2.2 (by omega) (by omega))
/-- What CodeOf says. -/
def codeR (l : List ISt) : List IIns := if (countL 4 l 0).1 = true then codeS l 0 else []
theorem codeR_len (l : List ISt) : (codeR l).length ≤ 256 := by
 unfold codeR
 by_cases h : (countL 4 l 0).1 = true
 ·rw [if_pos h]
  rw [stOk_is, Bool.and_eq_true, decide_eq_true_eq] at h
  have := codeS_many 4 l h.1 0
  omega
 ·rw [if_neg h]; simp
theorem code_fit {l : List ISt} (h : (countL 4 l 0).1 = true) : (codeS l 0).length ≤ 256 := by
 rw [stOk_is, Bool.and_eq_true, decide_eq_true_eq] at h
 have := codeS_many 4 l h.1 0
 omega
theorem specCode_is (l : List ISt) (h1 : manyT 4 l ≤ 1048576) (h2 : ∀ s ∈ l, istOk s) : Ends (fun k => spec_CodeOf.f k l) (codeR l) := by
 refine ((spec_stOk l h1 h2).bind (g := fun k t => if t = true then ((spec_l5Of.f k l 0).bind fun t => some t) else some ([] : List IIns)) ?_).of fun k => by rw [spec_CodeOf.f]
 unfold codeR
 by_cases h : (countL 4 l 0).1 = true
 ·rw [if_pos h]
  have h' := h
  rw [stOk_is, Bool.and_eq_true, decide_eq_true_eq] at h'
  refine ((sts_is 4 l 0 h'.1 h'.2 (by omega)).bind (g := fun _ t => some t) (Ends.const fun k => rfl)).of fun k => by rw [if_pos h]; rfl
 ·rw [if_neg h]
  exact Ends.const fun k => by rw [if_neg h]
end Go.Proofs.Ytddnijmgipffeaa.B
