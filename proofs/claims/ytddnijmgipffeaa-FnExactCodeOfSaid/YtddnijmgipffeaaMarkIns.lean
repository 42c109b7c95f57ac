/- laws.markInsS, heldInsS, eqInsS: marks that are written and read back. -/
import Derived.Test.YtddnijmgipffeaaMarkAll
import Derived.Test.YtddnijmgipffeaaEnds
import Derived.Test.YtddnijmgipffeaaCodeAll
import Derived.Test.YtddnijmgipffeaaPkD
namespace Go.Proofs.Ytddnijmgipffeaa.B
open Go.RowKit Go.Shelf Go.Proofs.YtddnijmgipffeaaW.PrintWords Go.Proofs.YtddnijmgipffeaaW.PrintLast Go.Proofs.YtddnijmgipffeaaW.PrintMore
set_option linter.unusedVariables false

def markI (a : Int) (j : Nat) : IIns := ⟨a + 4 * j, a + 4 * j + 1, ⟨a + 4 * j + 2, a + 4 * j + 3⟩⟩
def markedI (a : Int) (n : Nat) : List IIns := (List.range n).map (markI a)
theorem markedI_len (a : Int) (n : Nat) : (markedI a n).length = n := by simp [markedI]
theorem markedI_get (a : Int) (n j : Nat) (h : j < (markedI a n).length) : (markedI a n)[j] = markI a j := by simp [markedI]
theorem rdI_ins (l : List IIns) (j : Nat) (h : j < l.length) : rd_T39 l (j : Int) = l[j] := by simp [rd_T39, h]
theorem heldI_loop (a : Int) (n : Nat) (ha : 0 ≤ a) (hn : a + 4 * n ≤ 1000000000) : ∀ (d j : Nat), j + d = n → Ends (fun k => laws_heldInsS.l0 k (markedI a n) (a + 4 * j) j) (a + 4 * n) := by
 intro d
 induction d with
 | zero =>
  intro j hj
  obtain rfl : j = n := by omega
  exact Ends.succ (fun k => by rw [laws_heldInsS.l0, if_neg (by rw [markedI_len]; omega)]) (Ends.const fun k => rfl)
 | succ d ih =>
  intro j hj
  have hlt : j < (markedI a n).length := by rw [markedI_len]; omega
  refine Ends.succ (fun k => ?_) (ih (j + 1) (by omega))
  rw [laws_heldInsS.l0, if_pos (by omega), if_pos (by omega), rdI_ins _ j hlt, markedI_get, markI, if_pos rfl]
  dsimp only
  rw [wrap_in (n := a + 4 * (j : Int) + 1) (by omega) (by omega), if_pos rfl, wrap_in (n := a + 4 * (j : Int) + 1 + 1) (by omega) (by omega), if_pos (by omega), wrap_in (n := a + 4 * (j : Int) + 1 + 1 + 1) (by omega) (by omega), if_pos (by omega), wrap_in (n := a + 4 * (j : Int) + 1 + 1 + 1 + 1) (by omega) (by omega), wrap_in (n := (j : Int) + 1) (by omega) (by omega)]
  rw [show a + 4 * (j : Int) + 1 + 1 + 1 + 1 = a + 4 * ((j + 1 : Nat) : Int) by omega, show (j : Int) + 1 = ((j + 1 : Nat) : Int) by omega]
theorem heldI_is (a : Int) (n : Nat) (ha : 0 ≤ a) (hn : a + 4 * n ≤ 1000000000) : Ends (fun k => laws_heldInsS.f k (markedI a n) a) (a + 4 * n) := by
 refine (heldI_loop a n ha hn n 0 (by omega)).of fun k => ?_
 rw [laws_heldInsS.f, show a + 4 * ((0 : Nat) : Int) = a by omega]; rfl
theorem eqI_is (l : List IIns) (hl : l.length ≤ 1000000) : Ends (fun k => laws_eqInsS.f k l l) true := by
 have : Ends (fun k => laws_eqInsS.l0 k l l ((0 : Nat) : Int)) true :=
  eq_loop (l0 := laws_eqInsS.l0) (g := fun _ x y => laws_eqIns.f x.f0 x.f1 x.f2.f0 x.f2.f1 y.f0 y.f1 y.f2.f0 y.f2.f1) rdI_ins (fun k xs ys j => by rw [laws_eqInsS.l0]) l (by omega) (fun x _ => Ends.const fun k => by rw [laws_eqIns.f, if_pos rfl, if_pos rfl, laws_eqAddr.f, if_pos rfl, if_pos rfl]; rfl) l.length 0 (by omega)
 exact this.of fun k => by rw [laws_eqInsS.f, if_pos rfl]; rfl
/-- A whole number is written over. -/
theorem set_step {F : Nat → Prop} {w : World} {g t : Nat} {cur : Array Value} (hF : F g) (hb : w.heap[g]? = some (.cells cur t (0, 0))) {i : Nat} {z : Int} (hi : cur[i]? = some (.int .i64 z)) (z' : Int) :
  ∃ c' : Array Value, (w.setCell ⟨g, i, none⟩ (.int .i64 z')).heap[g]? = some (.cells c' t (0, 0)) ∧ (∀ i', i ≠ i' → c'[i']? = cur[i']?) ∧ c'[i]? = some (.int .i64 z') ∧ c'.size = cur.size ∧ Ed F w (w.setCell ⟨g, i, none⟩ (.int .i64 z')) :=
 ⟨_, blk_set hb i _, fun i' h => Array.getElem?_setIfInBounds_ne h, Array.getElem?_setIfInBounds_self_of_lt (Array.getElem?_eq_some_iff.1 hi).1, by simp, Ed.set hF hb i z hi z'⟩
theorem near_int {F : Nat → Prop} {cs cs' : Array Value} (q : ∀ j : Nat, SameInt cs[j]? cs'[j]?) {i : Nat} (h : ∃ z : Int, cs[i]? = some (.int .i64 z)) : ∃ z : Int, cs'[i]? = some (.int .i64 z) := by
 obtain ⟨z, hz⟩ := h
 rcases q i with h | ⟨a, b, _, h⟩
 ·exact ⟨z, h.trans hz⟩
 ·exact ⟨b, h⟩
/-- Whole numbers at a row's cells, the first j told. -/
structure Mkd (k : Int) (g n size : Nat) (w : World) (j : Nat) : Prop where
 ex : ∃ cur : Array Value, w.heap[g]? = some (.cells cur 39 (0, 0)) ∧ cur.size = size ∧ (∀ q i, q < j → i < 4 → cur[q * 4 + i]? = some (.int .i64 (k + 4 * q + i))) ∧ (∀ q i, q < n → i < 4 → ∃ z : Int, cur[q * 4 + i]? = some (.int .i64 z))
set_option maxRecDepth 100000 in
set_option maxHeartbeats 8000000 in
theorem markIns_row (g n cap : Nat) (cur : Array Value) (k : Int) (w : World) (hk0 : 0 ≤ k) (hk1 : k + 4 * n ≤ 1000000000) (hn : n ≤ cap) (hcap : cap ≤ 9223372036854775807) (hM : Mkd k g n (cap * 4) w 0) :
  Calls Try.prog 15 #[.slice (some ⟨g, 0, none⟩) n cap, .int .i64 k] w fun e w' => e = .returned (.int .i64 (k + 4 * n)) ∧ Mkd k g n (cap * 4) w' n ∧ Ed (fun b => b = g) w w' := by
 have HI := Aside0.mk (And.intro hM (And.intro hk0 (And.intro hk1 hn)))
 have hmax : n ≤ 9223372036854775807 := by omega
 clear hM hk0 hk1 hn
 go_enter Try.func15, Try.ntmps15
 go_wp2
 go_loopw [1, 5] (fun kv iv wr => ∃ (j : Nat), iv = .int .i64 j ∧ kv = .int .i64 (k + 4 * j) ∧ Aside0 (j ≤ n ∧ Mkd k g n (cap * 4) wr j ∧ Ed (fun b => b = g) w wr)) (fun _ iv _ => n - (intOf iv).toNat)
 case atStart => exact ⟨0, rfl, by simp, ⟨Nat.zero_le _, HI.out.1, Ed.refl _ _⟩⟩
 case round =>
  obtain ⟨j, rfl, rfl, HR⟩ := hrel
  by_cases hj : j < n
  ·obtain ⟨c1, b1, s1, d1, i1⟩ := HR.out.2.1.ex
   obtain ⟨z0, e0⟩ := i1 j 0 hj (by omega)
   obtain ⟨z1, e1⟩ := i1 j 1 hj (by omega)
   obtain ⟨z2, e2⟩ := i1 j 2 hj (by omega)
   obtain ⟨z3, e3⟩ := i1 j 3 hj (by omega)
   simp only [Nat.add_zero] at e0
   obtain ⟨kk, hkk⟩ : ∃ kk, kk = k + 4 * (j : Int) := ⟨_, rfl⟩
   have k0 : 0 ≤ kk := by have := HI.out.2.1; omega
   have k1 : kk + 4 ≤ 1000000000 := by have := HI.out.2.2.1; omega
   rw [← hkk]
   have HJ := Aside0.mk (And.intro hj (And.intro hkk (And.intro s1 (And.intro d1 i1))))
   have HW := Aside0.mk (Ed.refl (fun b => b = g) wr)
   clear hkk s1 d1 i1
   have x0 : wr.cell? ⟨g, j * 4, none⟩ = some (.int .i64 z0) := (blk_cell b1 _).trans e0
   have y0 : wr.frozen? ⟨g, j * 4, none⟩ = false := blk_frozen b1 _
   go_upto_region 5 with (fail)
   obtain ⟨c2, b2, q2, v2, s2, E2⟩ := set_step (F := fun b => b = g) rfl b1 e0 kk
   generalize wr.setCell ⟨g, j * 4, none⟩ (.int .i64 kk) = W1 at b2 E2 ⊢
   rw [← q2 _ (by omega)] at e1 e2 e3
   have HQ2 := Aside0.mk (And.intro q2 (And.intro v2 s2))
   replace HW := Aside0.mk (HW.out.trans E2)
   clear x0 y0 b1 q2 v2 s2 E2 e0
   have x0 : W1.cell? ⟨g, j * 4 + 1, none⟩ = some (.int .i64 z1) := (blk_cell b2 _).trans e1
   have y0 : W1.frozen? ⟨g, j * 4 + 1, none⟩ = false := blk_frozen b2 _
   go_upto_region 7 with (fail)
   obtain ⟨c3, b3, q3, v3, s3, E3⟩ := set_step (F := fun b => b = g) rfl b2 e1 (kk + 1)
   generalize W1.setCell ⟨g, j * 4 + 1, none⟩ (.int .i64 (kk + 1)) = W2 at b3 E3 ⊢
   rw [← q3 _ (by omega)] at e2 e3
   have HQ3 := Aside0.mk (And.intro q3 (And.intro v3 s3))
   replace HW := Aside0.mk (HW.out.trans E3)
   clear x0 y0 b2 q3 v3 s3 E3 e1
   have x0 : W2.cell? ⟨g, j * 4 + 2, none⟩ = some (.int .i64 z2) := (blk_cell b3 _).trans e2
   have y0 : W2.frozen? ⟨g, j * 4 + 2, none⟩ = false := blk_frozen b3 _
   go_upto_region 9 with (fail)
   obtain ⟨c4, b4, q4, v4, s4, E4⟩ := set_step (F := fun b => b = g) rfl b3 e2 (kk + 1 + 1)
   generalize W2.setCell ⟨g, j * 4 + 2, none⟩ (.int .i64 (kk + 1 + 1)) = W3 at b4 E4 ⊢
   rw [← q4 _ (by omega)] at e3
   have HQ4 := Aside0.mk (And.intro q4 (And.intro v4 s4))
   replace HW := Aside0.mk (HW.out.trans E4)
   clear x0 y0 b3 q4 v4 s4 E4 e2
   have x0 : W3.cell? ⟨g, j * 4 + 3, none⟩ = some (.int .i64 z3) := (blk_cell b4 _).trans e3
   have y0 : W3.frozen? ⟨g, j * 4 + 3, none⟩ = false := blk_frozen b4 _
   go_upto_region 11 with (fail)
   obtain ⟨c5, b5, q5, v5, s5, E5⟩ := set_step (F := fun b => b = g) rfl b4 e3 (kk + 1 + 1 + 1)
   generalize W3.setCell ⟨g, j * 4 + 3, none⟩ (.int .i64 (kk + 1 + 1 + 1)) = W4 at b5 E5 ⊢
   have HQ5 := Aside0.mk (And.intro q5 (And.intro v5 s5))
   replace HW := Aside0.mk (HW.out.trans E5)
   clear x0 y0 b4 q5 v5 s5 E5 e3
   have HD := Aside0.mk (show Mkd k g n (cap * 4) W4 (j + 1) from ⟨c5, b5, by rw [HQ5.out.2.2, HQ4.out.2.2, HQ3.out.2.2, HQ2.out.2.2]; exact HJ.out.2.2.1, fun q i hq hi => by
    have hkk := HJ.out.2.1
    by_cases hqj : q = j
    ·subst hqj
     match i, hi with
     | 0, _ => rw [HQ5.out.1 _ (by omega), HQ4.out.1 _ (by omega), HQ3.out.1 _ (by omega)]; simp only [Nat.add_zero]; rw [HQ2.out.2.1, hkk]; simp
     | 1, _ => rw [HQ5.out.1 _ (by omega), HQ4.out.1 _ (by omega), HQ3.out.2.1, hkk]; simp
     | 2, _ => rw [HQ5.out.1 _ (by omega), HQ4.out.2.1, hkk, show k + 4 * (q : Int) + 1 + 1 = k + 4 * (q : Int) + ((2 : Nat) : Int) by omega]
     | 3, _ => rw [HQ5.out.2.1, hkk, show k + 4 * (q : Int) + 1 + 1 + 1 = k + 4 * (q : Int) + ((3 : Nat) : Int) by omega]
    ·rw [HQ5.out.1 _ (by omega), HQ4.out.1 _ (by omega), HQ3.out.1 _ (by omega), HQ2.out.1 _ (by omega)]
     exact HJ.out.2.2.2.1 q i (by omega) hi, fun q i hq hi => by
    by_cases hqj : q = j
    ·subst hqj
     match i, hi with
     | 0, _ => exact ⟨_, by rw [HQ5.out.1 _ (by omega), HQ4.out.1 _ (by omega), HQ3.out.1 _ (by omega)]; simp only [Nat.add_zero]; exact HQ2.out.2.1⟩
     | 1, _ => exact ⟨_, by rw [HQ5.out.1 _ (by omega), HQ4.out.1 _ (by omega)]; exact HQ3.out.2.1⟩
     | 2, _ => exact ⟨_, by rw [HQ5.out.1 _ (by omega)]; exact HQ4.out.2.1⟩
     | 3, _ => exact ⟨_, HQ5.out.2.1⟩
    ·rw [HQ5.out.1 _ (by omega), HQ4.out.1 _ (by omega), HQ3.out.1 _ (by omega), HQ2.out.1 _ (by omega)]
     exact HJ.out.2.2.2.2 q i hq hi⟩)
   clear b5
   go_wp2
   go_roundw
   case rel => exact ⟨j + 1, by go_num, by rw [HJ.out.2.1]; go_num; try omega, ⟨HJ.out.1, HD.out, HR.out.2.2.trans HW.out⟩⟩
   case measure => have := HJ.out.1; simp [intOf]; omega
  ·have hjl : j = n := by have := HR.out.1; omega
   subst hjl
   go_wp2
   go_ret
   exact ⟨rfl, HR.out.2⟩
end Go.Proofs.Ytddnijmgipffeaa.B
