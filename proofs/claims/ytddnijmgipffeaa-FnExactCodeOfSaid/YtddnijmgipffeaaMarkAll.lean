import Derived.Test.YtddnijmgipffeaaB0
import Derived.Outline
import Derived.Shelf.Abstract
/- Worlds in which only whole numbers of some blocks have been written over: what the laws' own marks do. -/
namespace Go.Proofs.Ytddnijmgipffeaa.B
open Go.RowKit Go.Proofs.YtddnijmgipffeaaW.PrintWords Go.Proofs.YtddnijmgipffeaaW.PrintLast Go.Proofs.YtddnijmgipffeaaW.PrintMore
set_option linter.unusedVariables false

def SameInt (a b : Option Value) : Prop := b = a ∨ ∃ z z' : Int, a = some (.int .i64 z) ∧ b = some (.int .i64 z')
/-- Elder blocks stay, but for whole numbers in blocks of F. -/
structure Ed (F : Nat → Prop) (w w' : World) : Prop where
 os : w'.os = w.os
 tape : w'.tape = w.tape
 output : w'.output = w.output
 size : w.heap.size ≤ w'.heap.size
 far : ∀ i, i < w.heap.size → ¬ F i → w'.heap[i]? = w.heap[i]?
 near : ∀ i (cs : Array Value) (t : TypeId), F i → w.heap[i]? = some (.cells cs t (0, 0)) → ∃ cs' : Array Value, w'.heap[i]? = some (.cells cs' t (0, 0)) ∧ cs'.size = cs.size ∧ ∀ j : Nat, SameInt cs[j]? cs'[j]?
theorem SameInt.trans {a b c : Option Value} (h : SameInt a b) (k : SameInt b c) : SameInt a c := by
 rcases h with rfl | ⟨z, z', rfl, rfl⟩
 ·exact k
 ·rcases k with rfl | ⟨y, y', h1, rfl⟩
  ·exact .inr ⟨z, z', rfl, rfl⟩
  ·exact .inr ⟨z, y', rfl, rfl⟩
theorem Ed.refl (F : Nat → Prop) (w : World) : Ed F w w := ⟨rfl, rfl, rfl, Nat.le_refl _, fun _ _ _ => rfl, fun i cs t _ h => ⟨cs, h, rfl, fun _ => .inl rfl⟩⟩
theorem Ed.trans {F : Nat → Prop} {w w1 w2 : World} (h : Ed F w w1) (k : Ed F w1 w2) : Ed F w w2 :=
 ⟨k.os.trans h.os, k.tape.trans h.tape, k.output.trans h.output, Nat.le_trans h.size k.size, fun i hi hn => (k.far i (Nat.lt_of_lt_of_le hi h.size) hn).trans (h.far i hi hn), fun i cs t hf hc => by
  obtain ⟨c1, h1, s1, q1⟩ := h.near i cs t hf hc
  obtain ⟨c2, h2, s2, q2⟩ := k.near i c1 t hf h1
  exact ⟨c2, h2, s2.trans s1, fun j => (q1 j).trans (q2 j)⟩⟩
theorem Ed.of_below {F : Nat → Prop} {w w' : World} (h : Below w.heap.size w w') : Ed F w w' :=
 ⟨h.os, h.tape, h.output, h.size, fun i hi _ => h.block i hi, fun i cs t _ hc => ⟨cs, (h.block i (blk_lt hc)).trans hc, rfl, fun _ => .inl rfl⟩⟩
theorem Ed.set {F : Nat → Prop} {w : World} {g t : Nat} {cur : Array Value} (hF : F g) (hb : w.heap[g]? = some (.cells cur t (0, 0))) (i : Nat) (z : Int) (hi : cur[i]? = some (.int .i64 z)) (z' : Int) : Ed F w (w.setCell ⟨g, i, none⟩ (.int .i64 z')) := by
 have hs : (w.setCell ⟨g, i, none⟩ (.int .i64 z')).heap[g]? = some (.cells (cur.setIfInBounds i (.int .i64 z')) t (0, 0)) := blk_set hb i _
 have ho : ∀ k, k ≠ g → (w.setCell ⟨g, i, none⟩ (.int .i64 z')).heap[k]? = w.heap[k]? := fun k hk => Below.heap_setCell w _ _ k hk
 refine ⟨rfl, rfl, rfl, ?_, fun k hk hn => ho k (fun h => hn (h ▸ hF)), fun k cs t' hf hc => ?_⟩
 ·refine Nat.le_of_not_lt (fun h => ?_)
  by_cases hg : (w.setCell ⟨g, i, none⟩ (.int .i64 z')).heap.size = g
  ·have := blk_lt hs; omega
  ·have h1 := ho _ hg
   rw [Array.getElem?_eq_none (Nat.le_refl _), Array.getElem?_eq_getElem h] at h1
   cases h1
 ·by_cases hk : k = g
  ·subst hk
   rw [hb] at hc
   injection hc with hc
   injection hc with h1 h2
   subst h1 h2
   refine ⟨_, hs, by simp, fun j => ?_⟩
   by_cases hj : i = j
   ·subst hj
    refine .inr ⟨z, z', hi, ?_⟩
    rw [Array.getElem?_setIfInBounds_self_of_lt]
    exact (Array.getElem?_eq_some_iff.1 hi).1
   ·exact .inl (Array.getElem?_setIfInBounds_ne hj)
  ·exact ⟨cs, (ho k hk).trans hc, rfl, fun _ => .inl rfl⟩
theorem Ed.below {F : Nat → Prop} {w w' : World} {B : Nat} (h : Ed F w w') (hF : ∀ b, F b → B ≤ b) (hB : B ≤ w.heap.size) : Below B w w' :=
 ⟨h.os, h.tape, h.output, h.size, fun k hk => h.far k (by omega) (fun hf => by have := hF k hf; omega)⟩
theorem R_ed {F : Nat → Prop} {w w' : World} {α : Type} {d : Kd α} {e base : Nat} {ok : Nat → Prop} {v : Value} {xs : List α} (h : d.R e w base ok v xs) (E : Ed F w w') (hF : ∀ b, F b → b < base) : d.R e w' base ok v xs :=
 Kd.R_mono (Kd.R_step (Kd.R_bound h) (fun k hk hlt => E.far k hlt (fun hf => by have h1 := hF k hf; have h2 := hk.2.1; omega))) (fun _ hk => hk.1)
theorem ed_step {F : Nat → Prop} {w : World} {g t : Nat} {cur : Array Value} (hF : F g) (hb : w.heap[g]? = some (.cells cur t (0, 0))) {i : Nat} {z : Int} (hi : cur[i]? = some (.int .i64 z)) (z' : Int) :
  ∃ c' : Array Value, (w.setCell ⟨g, i, none⟩ (.int .i64 z')).heap[g]? = some (.cells c' t (0, 0)) ∧ (∀ i', i ≠ i' → c'[i']? = cur[i']?) ∧ Ed F w (w.setCell ⟨g, i, none⟩ (.int .i64 z')) :=
 ⟨_, blk_set hb i _, fun i' h => Array.getElem?_setIfInBounds_ne h, Ed.set hF hb i z hi z'⟩
def IntAt (cur : Array Value) (i : Nat) : Prop := ∃ z : Int, cur[i]? = some (.int .i64 z)
theorem IntAt.same {c c' : Array Value} {i : Nat} (h : IntAt c i) (q : SameInt c[i]? c'[i]?) : IntAt c' i := by
 obtain ⟨z, hz⟩ := h
 rcases q with q | ⟨_, z', _, q⟩
 ·exact ⟨z, q.trans hz⟩
 ·exact ⟨z', q⟩
theorem SameInt.slice {a b : Option Value} {A : Option Addr} {n c : Nat} (q : SameInt a b) (h : a = some (.slice A n c)) : b = some (.slice A n c) := by
 rcases q with q | ⟨z, _, hz, _⟩
 ·exact q.trans h
 ·rw [h] at hz; cases hz
/-- How many numbers the first j elements hold. -/
def sumTo (kN : Nat → Nat) (j : Nat) : Nat := ((List.range j).map kN).sum
theorem sumTo_succ (kN : Nat → Nat) (j : Nat) : sumTo kN (j + 1) = sumTo kN j + kN j := by
 rw [sumTo, List.range_succ, List.map_append, List.sum_append]; simp [sumTo]
theorem sumTo_le (kN : Nat → Nat) {j n : Nat} (h : j ≤ n) : sumTo kN j ≤ sumTo kN n := by
 induction n with
 | zero =>
  obtain rfl : j = 0 := by omega
  exact Nat.le_refl _
 | succ n ih =>
  rw [sumTo_succ]
  by_cases hj : j = n + 1
  ·subst hj; rw [sumTo_succ]; exact Nat.le_refl _
  ·have := ih (by omega); omega
def MarkCon (f : Nat) (F : Nat → Prop) (w0 : World) (v : Value) (N : Nat) : Prop := ∀ (k : Int) (w : World), Ed F w0 w → 0 ≤ k → k + N ≤ 1000000000 → Calls Try.prog f #[v, .int .i64 k] w fun e w' => e = .returned (.int .i64 (k + N)) ∧ Ed F w w'
end Go.Proofs.Ytddnijmgipffeaa.B
/- laws.markExprS: it writes whole numbers into a row of its caller's own blocks, and counts them. -/
namespace Go.Proofs.Ytddnijmgipffeaa.B
open Go.RowKit Go.Shelf Go.Proofs.YtddnijmgipffeaaW.PrintWords Go.Proofs.YtddnijmgipffeaaW.PrintLast Go.Proofs.YtddnijmgipffeaaW.PrintMore
set_option linter.unusedVariables false

/-- A row of impl.Expr that lies in blocks of F; N numbers in all. -/
inductive ShEx (F : Nat → Prop) (w : World) : Value → Nat → Prop
 | nil : ShEx F w (.slice none 0 0) 0
 | row (g n cap : Nat) (cur : Array Value) (kv4 : Nat → Value) (kN4 : Nat → Nat) (hF : F g) (hb : w.heap[g]? = some (.cells cur 46 (0, 0))) (hn : n ≤ cap) (hc : cap ≤ 9223372036854775807)
   (hi : ∀ j, j < n → IntAt cur (j * 5) ∧ IntAt cur (j * 5 + 1) ∧ IntAt cur (j * 5 + 2) ∧ IntAt cur (j * 5 + 3)) (hk4 : ∀ j, j < n → cur[j * 5 + 4]? = some (kv4 j)) (hr4 : ∀ j, j < n → ShEx F w (kv4 j) (kN4 j)) :
   ShEx F w (.slice (some ⟨g, 0, none⟩) n cap) (sumTo (fun j => 4 + kN4 j) n)
theorem ShEx.slice {F : Nat → Prop} {w : World} {v : Value} {N : Nat} (h : ShEx F w v N) : ∃ A n c, v = .slice A n c := by
 cases h with
 | nil => exact ⟨_, _, _, rfl⟩
 | row => exact ⟨_, _, _, rfl⟩
set_option maxRecDepth 100000 in
set_option maxHeartbeats 4000000 in
theorem markEx_any {F : Nat → Prop} {w0 : World} {v : Value} {N : Nat} (h : ShEx F w0 v N) : MarkCon 40 F w0 v N := by
 induction h with
 | nil =>
  intro k w hE hk hN
  have HE := Aside0.mk (Ed.refl F w)
  clear hE hN hk
  go_enter Try.func40, Try.ntmps40
  go_wp2
  go_loopw [1, 5] (fun kv iv wr => iv = .int .i64 0 ∧ kv = .int .i64 k ∧ Aside0 (wr = w)) (fun _ _ _ => 0)
  case atStart => exact ⟨rfl, rfl, ⟨rfl⟩⟩
  case round =>
   obtain ⟨rfl, rfl, HR⟩ := hrel
   go_wp2
   go_ret
   exact ⟨by simp, by rw [HR.out]; exact HE.out⟩
 | row g n cap cur kv4 kN4 hF hb hn hc hi hk4 hr4 ih4 =>
  intro k w hE hpos hN
  have HI := Aside0.mk (And.intro hF (And.intro hb (And.intro hn (And.intro hi (And.intro hk4 (And.intro hr4 ih4))))))
  have HE := Aside0.mk (And.intro hE (And.intro hpos hN))
  have hmax : n ≤ 9223372036854775807 := by omega
  clear hF hb hi hk4 hr4 ih4 hE hpos hN
  go_enter Try.func40, Try.ntmps40
  go_wp2
  go_loopw [1, 5] (fun kval iv wr => ∃ (j : Nat), iv = .int .i64 j ∧ kval = .int .i64 (k + (sumTo (fun j => 4 + kN4 j) j : Nat)) ∧ Aside0 (j ≤ n ∧ Ed F w wr)) (fun _ iv _ => n - (intOf iv).toNat)
  case atStart => exact ⟨0, rfl, by simp [sumTo], ⟨Nat.zero_le _, Ed.refl _ _⟩⟩
  case round =>
   obtain ⟨j, rfl, rfl, HR⟩ := hrel
   by_cases hj : j < n
   ·obtain ⟨hF, hb, hn', hi, hk4, hr4, ih4⟩ := HI.out
    obtain ⟨c1, b1, s1, q1⟩ := (HE.out.1.trans HR.out.2).near g cur _ hF hb
    obtain ⟨i0, i1, i2, i3⟩ := hi j hj
    obtain ⟨A4, m4, cc4, hkv4⟩ := (hr4 j hj).slice
    have e4 : c1[j * 5 + 4]? = some (.slice A4 m4 cc4) := (q1 _).slice (by rw [← hkv4]; exact hk4 j hj)
    obtain ⟨z0, e0⟩ := i0.same (q1 _)
    obtain ⟨z1, e1⟩ := i1.same (q1 _)
    obtain ⟨z2, e2⟩ := i2.same (q1 _)
    obtain ⟨z3, e3⟩ := i3.same (q1 _)
    obtain ⟨kk, hkk⟩ : ∃ kk, kk = k + (sumTo (fun j => 4 + kN4 j) j : Nat) := ⟨_, rfl⟩
    have hle := sumTo_le (fun j => 4 + kN4 j) (show j + 1 ≤ n by omega)
    rw [sumTo_succ] at hle
    have k0 : 0 ≤ kk := by have := HE.out.2.1; omega
    have k1 : kk + 4 + (kN4 j : Nat) ≤ 1000000000 := by have := HE.out.2.2; omega
    rw [← hkk]
    have HJ := Aside0.mk (And.intro hj (And.intro hkk hle))
    have HH := Aside0.mk (And.intro hF (And.intro (And.intro hkv4 (ih4 j hj)) trivial))
    clear hi hb q1 i0 i1 i2 i3 hk4 hr4 ih4 hle hF
    have HW := Aside0.mk (Ed.refl F wr)
    have x0 : wr.cell? ⟨g, j * 5, none⟩ = some (.int .i64 z0) := (blk_cell b1 _).trans e0
    have y0 : wr.frozen? ⟨g, j * 5, none⟩ = false := blk_frozen b1 _
    go_upto_region 5 with (fail)
    rw [← hkk]
    clear hkk
    obtain ⟨c2, b2, q2, E2⟩ := ed_step HH.out.1 b1 e0 (kk)
    generalize wr.setCell ⟨g, j * 5, none⟩ (.int .i64 kk) = W1 at b2 E2 ⊢
    rw [← q2 _ (by omega)] at e1 e2 e3 e4
    replace HW := Aside0.mk (HW.out.trans E2)
    clear x0 y0 b1 q2 E2 e0
    have x0 : W1.cell? ⟨g, j * 5 + 1, none⟩ = some (.int .i64 z1) := (blk_cell b2 _).trans e1
    have y0 : W1.frozen? ⟨g, j * 5 + 1, none⟩ = false := blk_frozen b2 _
    go_upto_region 7 with (fail)
    obtain ⟨c3, b3, q3, E3⟩ := ed_step HH.out.1 b2 e1 (kk + 1)
    generalize W1.setCell ⟨g, j * 5 + 1, none⟩ (.int .i64 (kk + 1)) = W2 at b3 E3 ⊢
    rw [← q3 _ (by omega)] at e2 e3 e4
    replace HW := Aside0.mk (HW.out.trans E3)
    clear x0 y0 b2 q3 E3 e1
    have x0 : W2.cell? ⟨g, j * 5 + 2, none⟩ = some (.int .i64 z2) := (blk_cell b3 _).trans e2
    have y0 : W2.frozen? ⟨g, j * 5 + 2, none⟩ = false := blk_frozen b3 _
    go_upto_region 9 with (fail)
    obtain ⟨c4, b4, q4, E4⟩ := ed_step HH.out.1 b3 e2 (kk + 1 + 1)
    generalize W2.setCell ⟨g, j * 5 + 2, none⟩ (.int .i64 (kk + 1 + 1)) = W3 at b4 E4 ⊢
    rw [← q4 _ (by omega)] at e3 e4
    replace HW := Aside0.mk (HW.out.trans E4)
    clear x0 y0 b3 q4 E4 e2
    have x0 : W3.cell? ⟨g, j * 5 + 3, none⟩ = some (.int .i64 z3) := (blk_cell b4 _).trans e3
    have y0 : W3.frozen? ⟨g, j * 5 + 3, none⟩ = false := blk_frozen b4 _
    go_upto_region 11 with (fail)
    obtain ⟨c5, b5, q5, E5⟩ := ed_step HH.out.1 b4 e3 (kk + 1 + 1 + 1)
    generalize W3.setCell ⟨g, j * 5 + 3, none⟩ (.int .i64 (kk + 1 + 1 + 1)) = W4 at b5 E5 ⊢
    rw [← q5 _ (by omega)] at e4
    replace HW := Aside0.mk (HW.out.trans E5)
    clear x0 y0 b4 q5 E5 e3
    have x0 : W4.cell? ⟨g, j * 5 + 4, none⟩ = some (.slice A4 m4 cc4) := (blk_cell b5 _).trans e4
    have HBK := Aside0.mk b5
    clear b5 e4
    go_wp2_with fail
    have hcall := HH.out.2.1.2 (kk + 1 + 1 + 1 + 1) W4 (HE.out.1.trans (HR.out.2.trans HW.out)) (by omega) (by omega)
    rw [HH.out.2.1.1] at hcall
    refine hcall.mono ?_
    clear hcall x0
    rintro e W5 ⟨rfl, E6⟩
    replace HW := Aside0.mk (HW.out.trans E6)
    clear E6 HBK
    have HW6 := Aside0.mk (HR.out.2.trans HW.out)
    clear HW
    go_wp2
    go_roundw
    case rel => exact ⟨j + 1, by go_num, by rw [sumTo_succ, HJ.out.2.1]; congr 1; push_cast; omega, ⟨HJ.out.1, HW6.out⟩⟩
    case measure => have := HJ.out.1; simp [intOf]; omega
   ·have hjn : j = n := by have := HR.out.1; omega
    subst hjn
    go_wp2
    go_ret
    exact ⟨rfl, HR.out.2⟩
end Go.Proofs.Ytddnijmgipffeaa.B
/- laws.markStmtS: it writes whole numbers into a row of its caller's own blocks, and counts them. -/
namespace Go.Proofs.Ytddnijmgipffeaa.B
open Go.RowKit Go.Shelf Go.Proofs.YtddnijmgipffeaaW.PrintWords Go.Proofs.YtddnijmgipffeaaW.PrintLast Go.Proofs.YtddnijmgipffeaaW.PrintMore
set_option linter.unusedVariables false

/-- A row of impl.Stmt that lies in blocks of F; N numbers in all. -/
inductive ShSt (F : Nat → Prop) (w : World) : Value → Nat → Prop
 | nil : ShSt F w (.slice none 0 0) 0
 | row (g n cap : Nat) (cur : Array Value) (kv7 : Nat → Value) (kN7 : Nat → Nat) (kv8 : Nat → Value) (kN8 : Nat → Nat) (kv9 : Nat → Value) (kN9 : Nat → Nat) (hF : F g) (hb : w.heap[g]? = some (.cells cur 69 (0, 0))) (hn : n ≤ cap) (hc : cap ≤ 9223372036854775807)
   (hi : ∀ j, j < n → IntAt cur (j * 10) ∧ IntAt cur (j * 10 + 1) ∧ IntAt cur (j * 10 + 2) ∧ IntAt cur (j * 10 + 3) ∧ IntAt cur (j * 10 + 4) ∧ IntAt cur (j * 10 + 5) ∧ IntAt cur (j * 10 + 6)) (hk7 : ∀ j, j < n → cur[j * 10 + 7]? = some (kv7 j)) (hr7 : ∀ j, j < n → ShEx F w (kv7 j) (kN7 j)) (hk8 : ∀ j, j < n → cur[j * 10 + 8]? = some (kv8 j)) (hr8 : ∀ j, j < n → ShSt F w (kv8 j) (kN8 j)) (hk9 : ∀ j, j < n → cur[j * 10 + 9]? = some (kv9 j)) (hr9 : ∀ j, j < n → ShSt F w (kv9 j) (kN9 j)) :
   ShSt F w (.slice (some ⟨g, 0, none⟩) n cap) (sumTo (fun j => 7 + kN7 j + kN8 j + kN9 j) n)
theorem ShSt.slice {F : Nat → Prop} {w : World} {v : Value} {N : Nat} (h : ShSt F w v N) : ∃ A n c, v = .slice A n c := by
 cases h with
 | nil => exact ⟨_, _, _, rfl⟩
 | row => exact ⟨_, _, _, rfl⟩
set_option maxRecDepth 100000 in
set_option maxHeartbeats 4000000 in
theorem markSt_any {F : Nat → Prop} {w0 : World} {v : Value} {N : Nat} (h : ShSt F w0 v N) : MarkCon 14 F w0 v N := by
 induction h with
 | nil =>
  intro k w hE hk hN
  have HE := Aside0.mk (Ed.refl F w)
  clear hE hN hk
  go_enter Try.func14, Try.ntmps14
  go_wp2
  go_loopw [1, 5] (fun kv iv wr => iv = .int .i64 0 ∧ kv = .int .i64 k ∧ Aside0 (wr = w)) (fun _ _ _ => 0)
  case atStart => exact ⟨rfl, rfl, ⟨rfl⟩⟩
  case round =>
   obtain ⟨rfl, rfl, HR⟩ := hrel
   go_wp2
   go_ret
   exact ⟨by simp, by rw [HR.out]; exact HE.out⟩
 | row g n cap cur kv7 kN7 kv8 kN8 kv9 kN9 hF hb hn hc hi hk7 hr7 hk8 hr8 hk9 hr9 ih8 ih9 =>
  intro k w hE hpos hN
  have HI := Aside0.mk (And.intro hF (And.intro hb (And.intro hn (And.intro hi (And.intro hk7 (And.intro hr7 (And.intro hk8 (And.intro hr8 (And.intro hk9 (And.intro hr9 (And.intro ih8 ih9)))))))))))
  have HE := Aside0.mk (And.intro hE (And.intro hpos hN))
  have hmax : n ≤ 9223372036854775807 := by omega
  clear hF hb hi hk7 hr7 hk8 hr8 hk9 hr9 ih8 ih9 hE hpos hN
  go_enter Try.func14, Try.ntmps14
  go_wp2
  go_loopw [1, 5] (fun kval iv wr => ∃ (j : Nat), iv = .int .i64 j ∧ kval = .int .i64 (k + (sumTo (fun j => 7 + kN7 j + kN8 j + kN9 j) j : Nat)) ∧ Aside0 (j ≤ n ∧ Ed F w wr)) (fun _ iv _ => n - (intOf iv).toNat)
  case atStart => exact ⟨0, rfl, by simp [sumTo], ⟨Nat.zero_le _, Ed.refl _ _⟩⟩
  case round =>
   obtain ⟨j, rfl, rfl, HR⟩ := hrel
   by_cases hj : j < n
   ·obtain ⟨hF, hb, hn', hi, hk7, hr7, hk8, hr8, hk9, hr9, ih8, ih9⟩ := HI.out
    obtain ⟨c1, b1, s1, q1⟩ := (HE.out.1.trans HR.out.2).near g cur _ hF hb
    obtain ⟨i0, i1, i2, i3, i4, i5, i6⟩ := hi j hj
    obtain ⟨A7, m7, cc7, hkv7⟩ := (hr7 j hj).slice
    have e7 : c1[j * 10 + 7]? = some (.slice A7 m7 cc7) := (q1 _).slice (by rw [← hkv7]; exact hk7 j hj)
    obtain ⟨A8, m8, cc8, hkv8⟩ := (hr8 j hj).slice
    have e8 : c1[j * 10 + 8]? = some (.slice A8 m8 cc8) := (q1 _).slice (by rw [← hkv8]; exact hk8 j hj)
    obtain ⟨A9, m9, cc9, hkv9⟩ := (hr9 j hj).slice
    have e9 : c1[j * 10 + 9]? = some (.slice A9 m9 cc9) := (q1 _).slice (by rw [← hkv9]; exact hk9 j hj)
    obtain ⟨z0, e0⟩ := i0.same (q1 _)
    obtain ⟨z1, e1⟩ := i1.same (q1 _)
    obtain ⟨z2, e2⟩ := i2.same (q1 _)
    obtain ⟨z3, e3⟩ := i3.same (q1 _)
    obtain ⟨z4, e4⟩ := i4.same (q1 _)
    obtain ⟨z5, e5⟩ := i5.same (q1 _)
    obtain ⟨z6, e6⟩ := i6.same (q1 _)
    obtain ⟨kk, hkk⟩ : ∃ kk, kk = k + (sumTo (fun j => 7 + kN7 j + kN8 j + kN9 j) j : Nat) := ⟨_, rfl⟩
    have hle := sumTo_le (fun j => 7 + kN7 j + kN8 j + kN9 j) (show j + 1 ≤ n by omega)
    rw [sumTo_succ] at hle
    have k0 : 0 ≤ kk := by have := HE.out.2.1; omega
    have k1 : kk + 7 + (kN7 j : Nat) + (kN8 j : Nat) + (kN9 j : Nat) ≤ 1000000000 := by have := HE.out.2.2; omega
    rw [← hkk]
    have HJ := Aside0.mk (And.intro hj (And.intro hkk hle))
    have HH := Aside0.mk (And.intro hF (And.intro (And.intro hkv7 (markEx_any (hr7 j hj))) (And.intro (And.intro hkv8 (ih8 j hj)) (And.intro (And.intro hkv9 (ih9 j hj)) trivial))))
    clear hi hb q1 i0 i1 i2 i3 i4 i5 i6 hk7 hr7 hk8 hr8 hk9 hr9 ih8 ih9 hle hF
    have HW := Aside0.mk (Ed.refl F wr)
    have x0 : wr.cell? ⟨g, j * 10, none⟩ = some (.int .i64 z0) := (blk_cell b1 _).trans e0
    have y0 : wr.frozen? ⟨g, j * 10, none⟩ = false := blk_frozen b1 _
    go_upto_region 5 with (fail)
    rw [← hkk]
    clear hkk
    obtain ⟨c2, b2, q2, E2⟩ := ed_step HH.out.1 b1 e0 (kk)
    generalize wr.setCell ⟨g, j * 10, none⟩ (.int .i64 kk) = W1 at b2 E2 ⊢
    rw [← q2 _ (by omega)] at e1 e2 e3 e4 e5 e6 e7 e8 e9
    replace HW := Aside0.mk (HW.out.trans E2)
    clear x0 y0 b1 q2 E2 e0
    have x0 : W1.cell? ⟨g, j * 10 + 1, none⟩ = some (.int .i64 z1) := (blk_cell b2 _).trans e1
    have y0 : W1.frozen? ⟨g, j * 10 + 1, none⟩ = false := blk_frozen b2 _
    go_upto_region 7 with (fail)
    obtain ⟨c3, b3, q3, E3⟩ := ed_step HH.out.1 b2 e1 (kk + 1)
    generalize W1.setCell ⟨g, j * 10 + 1, none⟩ (.int .i64 (kk + 1)) = W2 at b3 E3 ⊢
    rw [← q3 _ (by omega)] at e2 e3 e4 e5 e6 e7 e8 e9
    replace HW := Aside0.mk (HW.out.trans E3)
    clear x0 y0 b2 q3 E3 e1
    have x0 : W2.cell? ⟨g, j * 10 + 2, none⟩ = some (.int .i64 z2) := (blk_cell b3 _).trans e2
    have y0 : W2.frozen? ⟨g, j * 10 + 2, none⟩ = false := blk_frozen b3 _
    go_upto_region 9 with (fail)
    obtain ⟨c4, b4, q4, E4⟩ := ed_step HH.out.1 b3 e2 (kk + 1 + 1)
    generalize W2.setCell ⟨g, j * 10 + 2, none⟩ (.int .i64 (kk + 1 + 1)) = W3 at b4 E4 ⊢
    rw [← q4 _ (by omega)] at e3 e4 e5 e6 e7 e8 e9
    replace HW := Aside0.mk (HW.out.trans E4)
    clear x0 y0 b3 q4 E4 e2
    have x0 : W3.cell? ⟨g, j * 10 + 3, none⟩ = some (.int .i64 z3) := (blk_cell b4 _).trans e3
    have y0 : W3.frozen? ⟨g, j * 10 + 3, none⟩ = false := blk_frozen b4 _
    go_upto_region 11 with (fail)
    obtain ⟨c5, b5, q5, E5⟩ := ed_step HH.out.1 b4 e3 (kk + 1 + 1 + 1)
    generalize W3.setCell ⟨g, j * 10 + 3, none⟩ (.int .i64 (kk + 1 + 1 + 1)) = W4 at b5 E5 ⊢
    rw [← q5 _ (by omega)] at e4 e5 e6 e7 e8 e9
    replace HW := Aside0.mk (HW.out.trans E5)
    clear x0 y0 b4 q5 E5 e3
    have x0 : W4.cell? ⟨g, j * 10 + 4, none⟩ = some (.int .i64 z4) := (blk_cell b5 _).trans e4
    have y0 : W4.frozen? ⟨g, j * 10 + 4, none⟩ = false := blk_frozen b5 _
    go_upto_region 13 with (fail)
    obtain ⟨c6, b6, q6, E6⟩ := ed_step HH.out.1 b5 e4 (kk + 1 + 1 + 1 + 1)
    generalize W4.setCell ⟨g, j * 10 + 4, none⟩ (.int .i64 (kk + 1 + 1 + 1 + 1)) = W5 at b6 E6 ⊢
    rw [← q6 _ (by omega)] at e5 e6 e7 e8 e9
    replace HW := Aside0.mk (HW.out.trans E6)
    clear x0 y0 b5 q6 E6 e4
    have x0 : W5.cell? ⟨g, j * 10 + 5, none⟩ = some (.int .i64 z5) := (blk_cell b6 _).trans e5
    have y0 : W5.frozen? ⟨g, j * 10 + 5, none⟩ = false := blk_frozen b6 _
    go_upto_region 15 with (fail)
    obtain ⟨c7, b7, q7, E7⟩ := ed_step HH.out.1 b6 e5 (kk + 1 + 1 + 1 + 1 + 1)
    generalize W5.setCell ⟨g, j * 10 + 5, none⟩ (.int .i64 (kk + 1 + 1 + 1 + 1 + 1)) = W6 at b7 E7 ⊢
    rw [← q7 _ (by omega)] at e6 e7 e8 e9
    replace HW := Aside0.mk (HW.out.trans E7)
    clear x0 y0 b6 q7 E7 e5
    have x0 : W6.cell? ⟨g, j * 10 + 6, none⟩ = some (.int .i64 z6) := (blk_cell b7 _).trans e6
    have y0 : W6.frozen? ⟨g, j * 10 + 6, none⟩ = false := blk_frozen b7 _
    go_upto_region 17 with (fail)
    obtain ⟨c8, b8, q8, E8⟩ := ed_step HH.out.1 b7 e6 (kk + 1 + 1 + 1 + 1 + 1 + 1)
    generalize W6.setCell ⟨g, j * 10 + 6, none⟩ (.int .i64 (kk + 1 + 1 + 1 + 1 + 1 + 1)) = W7 at b8 E8 ⊢
    rw [← q8 _ (by omega)] at e7 e8 e9
    replace HW := Aside0.mk (HW.out.trans E8)
    clear x0 y0 b7 q8 E8 e6
    have x0 : W7.cell? ⟨g, j * 10 + 7, none⟩ = some (.slice A7 m7 cc7) := (blk_cell b8 _).trans e7
    have HBK := Aside0.mk b8
    clear b8 e7
    have HLT := Aside0.mk (And.intro e8 e9)
    clear e8 e9
    go_wp2_with fail
    have hcall := HH.out.2.1.2 (kk + 1 + 1 + 1 + 1 + 1 + 1 + 1) W7 (HE.out.1.trans (HR.out.2.trans HW.out)) (by omega) (by omega)
    rw [HH.out.2.1.1] at hcall
    refine hcall.mono ?_
    clear hcall x0
    rintro e W8 ⟨rfl, E9⟩
    obtain ⟨c9, b9, _, q9⟩ := E9.near g _ _ HH.out.1 HBK.out
    have e8 := (q9 _).slice (HLT.out.1)
    have e9 := (q9 _).slice (HLT.out.2)
    clear q9 HLT
    replace HW := Aside0.mk (HW.out.trans E9)
    clear E9 HBK
    have x0 : W8.cell? ⟨g, j * 10 + 8, none⟩ = some (.slice A8 m8 cc8) := (blk_cell b9 _).trans e8
    have HBK := Aside0.mk b9
    clear b9 e8
    have HLT := Aside0.mk e9
    clear e9
    go_wp2_with fail
    have hcall := HH.out.2.2.1.2 (kk + 1 + 1 + 1 + 1 + 1 + 1 + 1 + (kN7 j : Nat)) W8 (HE.out.1.trans (HR.out.2.trans HW.out)) (by omega) (by omega)
    rw [HH.out.2.2.1.1] at hcall
    refine hcall.mono ?_
    clear hcall x0
    rintro e W9 ⟨rfl, E10⟩
    obtain ⟨c10, b10, _, q10⟩ := E10.near g _ _ HH.out.1 HBK.out
    have e9 := (q10 _).slice (HLT.out)
    clear q10 HLT
    replace HW := Aside0.mk (HW.out.trans E10)
    clear E10 HBK
    have x0 : W9.cell? ⟨g, j * 10 + 9, none⟩ = some (.slice A9 m9 cc9) := (blk_cell b10 _).trans e9
    have HBK := Aside0.mk b10
    clear b10 e9
    go_wp2_with fail
    have hcall := HH.out.2.2.2.1.2 (kk + 1 + 1 + 1 + 1 + 1 + 1 + 1 + (kN7 j : Nat) + (kN8 j : Nat)) W9 (HE.out.1.trans (HR.out.2.trans HW.out)) (by omega) (by omega)
    rw [HH.out.2.2.2.1.1] at hcall
    refine hcall.mono ?_
    clear hcall x0
    rintro e W10 ⟨rfl, E11⟩
    replace HW := Aside0.mk (HW.out.trans E11)
    clear E11 HBK
    have HW6 := Aside0.mk (HR.out.2.trans HW.out)
    clear HW
    go_wp2
    go_roundw
    case rel => exact ⟨j + 1, by go_num, by rw [sumTo_succ, HJ.out.2.1]; congr 1; push_cast; omega, ⟨HJ.out.1, HW6.out⟩⟩
    case measure => have := HJ.out.1; simp [intOf]; omega
   ·have hjn : j = n := by have := HR.out.1; omega
    subst hjn
    go_wp2
    go_ret
    exact ⟨rfl, HR.out.2⟩
end Go.Proofs.Ytddnijmgipffeaa.B
