import Derived.Test.YtendbgedpjcocaaGreatDoorPkB
import Derived.Laws.BitsLemmas
import Derived.Test.YtendbgedpjcocaaGreatDoorB0
import Derived.Outline
import Derived.Test.YtendbgedpjcocaaGreatDoorJnC
import Derived.Test.YtendbgedpjcocaaGreatDoorJnF
import Derived.Test.YtendbgedpjcocaaGreatDoorJnE
import Derived.Ground.Names2Prog
import Derived.Shelf.Slices.Clone
import Derived.Ground.SlgnProg
import Derived.Shelf.SlicesE.Clone
import Derived.Test.YtendbgedpjcocaaGreatDoorProg
/- The draws' pick ends, and is in its bounds. -/
namespace Go.Proofs.YtendbgedpjcocaaGreatDoor.B
open Go.RowKit Go.Proofs.YtendbgedpjcocaaGreatDoorW.PrintWords Go.Proofs.YtendbgedpjcocaaGreatDoorW.PrintLast Go.Proofs.YtendbgedpjcocaaGreatDoorW.PrintMore
set_option linter.unusedVariables false

theorem wrap_id {n : Int} (h0 : -9223372036854775808 ≤ n) (h1 : n ≤ 9223372036854775807) : wrap64 n = n := by
 unfold wrap64
 omega
theorem xor_nonneg (a b : Int) (ha : 0 ≤ a) (ha1 : a < 2 ^ 62) (hb : 0 ≤ b) (hb1 : b < 2 ^ 62) : 0 ≤ Go.bits .xor .i64 a b := by
 obtain ⟨m, rfl⟩ := Int.eq_ofNat_of_zero_le ha
 obtain ⟨n, rfl⟩ := Int.eq_ofNat_of_zero_le hb
 have hm : m < 2 ^ 62 := by omega
 have hn : n < 2 ^ 62 := by omega
 have hx := Nat.xor_lt_two_pow hm hn
 have ha' : m % 2 ^ 64 = m := Nat.mod_eq_of_lt (by omega)
 have hb' : n % 2 ^ 64 = n := Nat.mod_eq_of_lt (by omega)
 have hq : (BitVec.ofNat 64 m ^^^ BitVec.ofNat 64 n).toNat = m ^^^ n := by rw [BitVec.toNat_xor, BitVec.toNat_ofNat, BitVec.toNat_ofNat, ha', hb']
 show 0 ≤ IntKind.i64.wrap (((BitVec.ofInt 64 (m : Int)) ^^^ (BitVec.ofInt 64 (n : Int))).toNat : Int)
 rw [BitVec.ofInt_natCast, BitVec.ofInt_natCast, hq, IntKind.wrap_i64]
 omega
theorem tmod_in (a n : Int) (ha : 0 ≤ a) (hn : 1 ≤ n) : 0 ≤ Int.tmod a n ∧ Int.tmod a n < n := by
 rw [Int.tmod_eq_emod_of_nonneg ha]
 exact ⟨Int.emod_nonneg _ (by omega), Int.emod_lt_of_pos _ (by omega)⟩
theorem tdiv_in (a n : Int) (ha : 0 ≤ a) (hn : 1 ≤ n) : 0 ≤ Int.tdiv a n ∧ Int.tdiv a n ≤ a := by
 rw [Int.tdiv_eq_ediv_of_nonneg ha]
 exact ⟨Int.ediv_nonneg ha (by omega), Int.ediv_le_self _ ha⟩
def Bytes (s : List Int) : Prop := ∀ x ∈ s, 0 ≤ x ∧ x < 256
theorem rd_byte (s : List Int) (hs : Bytes s) (i : Int) (h0 : 0 ≤ i) (h1 : i < s.length) : 0 ≤ rd s i ∧ rd s i < 256 := by
 have : i.toNat < s.length := by omega
 have e : rd s i = s[i.toNat] := by simp [rd, this]
 rw [e]; exact hs _ (List.getElem_mem this)
theorem pick_total (s : List Int) (hs : Bytes s) (hl : s.length ≤ 2000) (p n : Int) (hp : 0 ≤ p) (hp1 : p < 1099511627776) (hn : 1 ≤ n) (hn1 : n < 2147483648) :
  ∃ r, 0 ≤ r ∧ r < n ∧ ∀ k, spec_l12Rd_pick.f (k + 1) s p n = some (r, p + 1) := by
 have e1 : wrap64 (p + 1) = p + 1 := wrap_id (by omega) (by omega)
 have e2 : wrap64 (p + 1 - 1) = p := by rw [show p + 1 - 1 = p by omega]; exact wrap_id (by omega) (by omega)
 by_cases hz : s.length = 0
 ·refine ⟨0, by omega, by omega, fun k => ?_⟩
  have hz' : ((s.length : Int) == 0) = true := by rw [hz]; rfl
  rw [spec_l12Rd_pick.f, if_neg (by omega), spec_l12Rd_pick.j0, if_pos hz', e1]
 ·have hz' : ((s.length : Int) == 0) = false := beq_false_of_ne (by omega)
  by_cases hlt : p < (s.length : Int)
  ·have hb := rd_byte s hs p hp hlt
   have hw : wrap64 (rd s p) = rd s p := wrap_id (by omega) (by omega)
   have hm := tmod_in (rd s p) n hb.1 hn
   refine ⟨Int.tmod (rd s p) n, hm.1, hm.2, fun k => ?_⟩
   rw [spec_l12Rd_pick.f, if_neg (by omega), spec_l12Rd_pick.j0, hz', if_neg (by decide), e1, e2, if_pos hlt, if_pos hp, if_neg (by omega), hw]
  ·have i1 := tmod_in p (s.length : Int) hp (by omega)
   have w7 : wrap64 (p * 7) = p * 7 := wrap_id (by omega) (by omega)
   have w73 : wrap64 (p * 7 + 3) = p * 7 + 3 := wrap_id (by omega) (by omega)
   have i2 := tmod_in (p * 7 + 3) (s.length : Int) (by omega) (by omega)
   have q1 := rd_byte s hs _ i1.1 i1.2
   have q2 := rd_byte s hs _ i2.1 i2.2
   have dv := tdiv_in p (s.length : Int) hp (by omega)
   obtain ⟨a, ha⟩ : ∃ a, a = rd s (Int.tmod p (s.length : Int)) := ⟨_, rfl⟩
   obtain ⟨b, hb⟩ : ∃ b, b = rd s (Int.tmod (p * 7 + 3) (s.length : Int)) := ⟨_, rfl⟩
   obtain ⟨d, hd⟩ : ∃ d, d = Int.tdiv p (s.length : Int) := ⟨_, rfl⟩
   rw [← ha] at q1
   rw [← hb] at q2
   rw [← hd] at dv
   have wa : wrap64 a = a := wrap_id (by omega) (by omega)
   have wb : wrap64 b = b := wrap_id (by omega) (by omega)
   have wa1 : wrap64 (a * 131) = a * 131 := wrap_id (by omega) (by omega)
   have wb1 : wrap64 (b * 1117) = b * 1117 := wrap_id (by omega) (by omega)
   have wab : wrap64 (a * 131 + b * 1117) = a * 131 + b * 1117 := wrap_id (by omega) (by omega)
   have wp : wrap64 (p * 29) = p * 29 := wrap_id (by omega) (by omega)
   have wabp : wrap64 (a * 131 + b * 1117 + p * 29) = a * 131 + b * 1117 + p * 29 := wrap_id (by omega) (by omega)
   have wd0 : wrap64 d = d := wrap_id (by omega) (by omega)
   have wd : wrap64 (d * 53) = d * 53 := wrap_id (by omega) (by omega)
   have wx : wrap64 (a * 131 + b * 1117 + p * 29 + d * 53) = a * 131 + b * 1117 + p * 29 + d * 53 := wrap_id (by omega) (by omega)
   have dx := tdiv_in (a * 131 + b * 1117 + p * 29 + d * 53) 64 (by omega) (by omega)
   have wdx : wrap64 (Int.tdiv (a * 131 + b * 1117 + p * 29 + d * 53) 64) = Int.tdiv (a * 131 + b * 1117 + p * 29 + d * 53) 64 := wrap_id (by omega) (by omega)
   have hx := xor_nonneg (a * 131 + b * 1117 + p * 29 + d * 53) (Int.tdiv (a * 131 + b * 1117 + p * 29 + d * 53) 64) (by omega) (by omega) dx.1 (by omega)
   have hm := tmod_in _ n hx hn
   refine ⟨_, hm.1, hm.2, fun k => ?_⟩
   rw [spec_l12Rd_pick.f, if_neg (by omega), spec_l12Rd_pick.j0, hz', if_neg (by decide), e1, e2, if_neg hlt, if_neg (by omega), w7, w73, if_pos i1.1, if_pos i1.2, if_pos i2.1, if_pos i2.2, if_neg (by omega), ← ha, ← hb, ← hd]
   simp only [wa, wb, wa1, wb1, wab, wp, wabp, wd0, wd, wx, wdx]
end Go.Proofs.YtendbgedpjcocaaGreatDoor.B
/- Worlds in which only whole numbers of some blocks have been written over: what the laws' own marks do. -/
namespace Go.Proofs.YtendbgedpjcocaaGreatDoor.B
open Go.RowKit Go.Proofs.YtendbgedpjcocaaGreatDoorW.PrintWords Go.Proofs.YtendbgedpjcocaaGreatDoorW.PrintLast Go.Proofs.YtendbgedpjcocaaGreatDoorW.PrintMore
set_option linter.unusedVariables false

def SameInt (a b : Option Value) : Prop := b = a ∨ ∃ z z' : Int, a = some (.int .i64 z) ∧ b = some (.int .i64 z')
/-- Elder blocks stay, but for whole numbers in blocks of F. -/
structure Ed (F : Nat → Prop) (w w' : World) : Prop where
 os : w'.os = w.os
 tape : w'.tape = w.tape
 output : w'.output = w.output
 size : w.heap.size ≤ w'.heap.size
 far : ∀ i, i < w.heap.size → ¬ F i → w'.heap[i]? = w.heap[i]?
 near : ∀ i (cs : Array Value) (t : TypeId), F i → w.heap[i]? = some (.cells cs t (0, 0)) → ∃ cs' : Array Value, w'.heap[i]? = some (.cells cs' t (0, 0)) ∧ cs'.size = cs.size ∧ ∀ j : Nat, SameInt cs[j]? cs'[j]?
theorem SameInt.trans {a b c : Option Value} (h : SameInt a b) (k : SameInt b c) : SameInt a c := by
 rcases h with rfl | ⟨z, z', rfl, rfl⟩
 ·exact k
 ·rcases k with rfl | ⟨y, y', h1, rfl⟩
  ·exact .inr ⟨z, z', rfl, rfl⟩
  ·exact .inr ⟨z, y', rfl, rfl⟩
theorem Ed.refl (F : Nat → Prop) (w : World) : Ed F w w := ⟨rfl, rfl, rfl, Nat.le_refl _, fun _ _ _ => rfl, fun i cs t _ h => ⟨cs, h, rfl, fun _ => .inl rfl⟩⟩
theorem Ed.trans {F : Nat → Prop} {w w1 w2 : World} (h : Ed F w w1) (k : Ed F w1 w2) : Ed F w w2 :=
 ⟨k.os.trans h.os, k.tape.trans h.tape, k.output.trans h.output, Nat.le_trans h.size k.size, fun i hi hn => (k.far i (Nat.lt_of_lt_of_le hi h.size) hn).trans (h.far i hi hn), fun i cs t hf hc => by
  obtain ⟨c1, h1, s1, q1⟩ := h.near i cs t hf hc
  obtain ⟨c2, h2, s2, q2⟩ := k.near i c1 t hf h1
  exact ⟨c2, h2, s2.trans s1, fun j => (q1 j).trans (q2 j)⟩⟩
theorem Ed.of_below {F : Nat → Prop} {w w' : World} (h : Below w.heap.size w w') : Ed F w w' :=
 ⟨h.os, h.tape, h.output, h.size, fun i hi _ => h.block i hi, fun i cs t _ hc => ⟨cs, (h.block i (blk_lt hc)).trans hc, rfl, fun _ => .inl rfl⟩⟩
theorem Ed.set {F : Nat → Prop} {w : World} {g t : Nat} {cur : Array Value} (hF : F g) (hb : w.heap[g]? = some (.cells cur t (0, 0))) (i : Nat) (z : Int) (hi : cur[i]? = some (.int .i64 z)) (z' : Int) : Ed F w (w.setCell ⟨g, i, none⟩ (.int .i64 z')) := by
 have hs : (w.setCell ⟨g, i, none⟩ (.int .i64 z')).heap[g]? = some (.cells (cur.setIfInBounds i (.int .i64 z')) t (0, 0)) := blk_set hb i _
 have ho : ∀ k, k ≠ g → (w.setCell ⟨g, i, none⟩ (.int .i64 z')).heap[k]? = w.heap[k]? := fun k hk => Below.heap_setCell w _ _ k hk
 refine ⟨rfl, rfl, rfl, ?_, fun k hk hn => ho k (fun h => hn (h ▸ hF)), fun k cs t' hf hc => ?_⟩
 ·refine Nat.le_of_not_lt (fun h => ?_)
  by_cases hg : (w.setCell ⟨g, i, none⟩ (.int .i64 z')).heap.size = g
  ·have := blk_lt hs; omega
  ·have h1 := ho _ hg
   rw [Array.getElem?_eq_none (Nat.le_refl _), Array.getElem?_eq_getElem h] at h1
   cases h1
 ·by_cases hk : k = g
  ·subst hk
   rw [hb] at hc
   injection hc with hc
   injection hc with h1 h2
   subst h1 h2
   refine ⟨_, hs, by simp, fun j => ?_⟩
   by_cases hj : i = j
   ·subst hj
    refine .inr ⟨z, z', hi, ?_⟩
    rw [Array.getElem?_setIfInBounds_self_of_lt]
    exact (Array.getElem?_eq_some_iff.1 hi).1
   ·exact .inl (Array.getElem?_setIfInBounds_ne hj)
  ·exact ⟨cs, (ho k hk).trans hc, rfl, fun _ => .inl rfl⟩
theorem Ed.below {F : Nat → Prop} {w w' : World} {B : Nat} (h : Ed F w w') (hF : ∀ b, F b → B ≤ b) (hB : B ≤ w.heap.size) : Below B w w' :=
 ⟨h.os, h.tape, h.output, h.size, fun k hk => h.far k (by omega) (fun hf => by have := hF k hf; omega)⟩
end Go.Proofs.YtendbgedpjcocaaGreatDoor.B
/- Plain law: count and the specification's reckoning of statements agree. -/
namespace Go.Proofs.YtendbgedpjcocaaGreatDoor.B
open Go.RowKit Go.Proofs.YtendbgedpjcocaaGreatDoorW.PrintWords Go.Proofs.YtendbgedpjcocaaGreatDoorW.PrintLast Go.Proofs.YtendbgedpjcocaaGreatDoorW.PrintMore
set_option linter.unusedVariables false

def stepOk (d : Nat) (s : ISt) : Bool := headSt s && (formT d s.f3 && formT d s.f4)
def stepN (d : Nat) (s : ISt) : Nat := 1 + manyT d s.f3 + manyT d s.f4
def CntR (r : Bool × Int) (b : Bool) (n : Int) : Prop := r.1 = (b && decide (n ≤ 16)) ∧ (r.1 = true → r.2 = n)
theorem step_law (d : Nat) (ih : ∀ (l : List ISt) (m : Int), m ≤ 16 → CntR (countL d l m) (formT d l) (m + manyT d l)) (s : ISt) (m : Int) (hm : m ≤ 16) : CntR (cntStep d s m) (stepOk d s) (m + stepN d s) := by
 unfold cntStep stepOk stepN
 by_cases h : (decide (m + 1 > 16) || !headSt s) = true
 ·rw [if_pos h]
  rw [Bool.or_eq_true, decide_eq_true_eq] at h
  refine ⟨?_, fun h => by cases h⟩
  rcases h with h | h
  ·rw [decide_eq_false (by omega), Bool.and_false]
  ·rw [Bool.not_eq_true'] at h
   rw [h]; rfl
 ·rw [if_neg h]
  simp only [Bool.or_eq_true, decide_eq_true_eq, not_or, Bool.not_eq_true', Bool.not_eq_false] at h
  rw [h.2, Bool.true_and]
  have h1 := ih s.f3 (m + 1) (by omega)
  cases hr : (countL d s.f3 (m + 1)).1 with
  | false =>
   simp only [hr]
   refine ⟨?_, fun h => by rw [if_neg (by simp)] at h; rw [hr] at h; cases h⟩
   rw [if_neg (by simp), hr]
   have := h1.1
   rw [hr] at this
   cases hf : formT d s.f3 with
   | false => rfl
   | true =>
    rw [hf, Bool.true_and] at this
    have := of_decide_eq_false this.symm
    rw [decide_eq_false (by omega), Bool.and_false]
  | true =>
   simp only [hr, if_true]
   have h2 := h1.2 hr
   have h3 := h1.1
   rw [hr] at h3
   have h4 := Bool.and_eq_true_iff.1 h3.symm
   have h5 := of_decide_eq_true h4.2
   have h6 := ih s.f4 (countL d s.f3 (m + 1)).2 (by rw [h2]; omega)
   rw [h4.1, Bool.true_and]
   rw [h2] at h6 ⊢
   rw [show m + ((1 + manyT d s.f3 + manyT d s.f4 : Nat) : Int) = m + 1 + (manyT d s.f3 : Int) + (manyT d s.f4 : Int) by omega]
   exact h6
theorem count_law (d : Nat) : ∀ (l : List ISt) (m : Int), m ≤ 16 → CntR (countL d l m) (formT d l) (m + manyT d l) := by
 induction d with
 | zero =>
  intro l m hm
  cases l with
  | nil => exact ⟨by show true = (true && decide (m + 0 ≤ 16)); rw [decide_eq_true (by omega)]; rfl, fun _ => by show m = m + 0; omega⟩
  | cons a l => exact ⟨rfl, fun h => by cases h⟩
 | succ d ih =>
  intro l
  induction l with
  | nil => intro m hm; exact ⟨by show true = (true && decide (m + 0 ≤ 16)); rw [decide_eq_true (by omega)]; rfl, fun _ => by show m = m + 0; omega⟩
  | cons a l ihl =>
   intro m hm
   have hs := step_law d ih a m hm
   rw [countL_succ, List.foldl_cons]
   have hf : formT (d + 1) (a :: l) = (stepOk d a && formT (d + 1) l) := rfl
   have hn : ((manyT (d + 1) (a :: l) : Nat) : Int) = (stepN d a : Int) + (manyT (d + 1) l : Int) := by
    have : manyT (d + 1) (a :: l) = stepN d a + manyT (d + 1) l := by
     rw [manyT, manyT, stepN, List.map_cons, List.sum_cons, List.length_cons]; omega
    omega
   rw [hf, hn]
   simp only [if_true]
   obtain ⟨r, hr⟩ : ∃ r, r = cntStep d a m := ⟨_, rfl⟩
   rw [← hr] at hs ⊢
   obtain ⟨b, n⟩ := r
   cases b with
   | false =>
    rw [cnt_stop]
    refine ⟨?_, fun h => by cases h⟩
    have h1 : false = (stepOk d a && decide (m + stepN d a ≤ 16)) := hs.1
    cases ha : stepOk d a with
    | false => rfl
    | true =>
     rw [ha, Bool.true_and] at h1
     have := of_decide_eq_false h1.symm
     rw [decide_eq_false (by omega), Bool.and_false]
   | true =>
    have h1 : true = (stepOk d a && decide (m + stepN d a ≤ 16)) := hs.1
    have h2 : n = m + stepN d a := hs.2 rfl
    have h4 := Bool.and_eq_true_iff.1 h1.symm
    have h5 := of_decide_eq_true h4.2
    have h6 := ihl n (by omega)
    rw [countL_succ] at h6
    rw [h4.1, Bool.true_and]
    rw [h2] at h6 ⊢
    rw [← Int.add_assoc]
    exact h6
/-- StmtsOk, StmtsMany: what they say. -/
theorem stOk_is (l : List ISt) : (countL 4 l 0).1 = (formT 4 l && decide (manyT 4 l ≤ 16)) := by
 rw [(count_law 4 l 0 (by omega)).1]
 congr 1
 by_cases h : manyT 4 l ≤ 16
 ·rw [decide_eq_true (by omega), decide_eq_true h]
 ·rw [decide_eq_false (by omega), decide_eq_false h]
end Go.Proofs.YtendbgedpjcocaaGreatDoor.B
/- Plain law: the specification's own reckoning of ExprOf ends, and says so. -/
namespace Go.Proofs.YtendbgedpjcocaaGreatDoor.B
open Go.RowKit Go.Proofs.YtendbgedpjcocaaGreatDoorW.PrintWords Go.Proofs.YtendbgedpjcocaaGreatDoorW.PrintLast Go.Proofs.YtendbgedpjcocaaGreatDoorW.PrintMore
set_option linter.unusedVariables false

theorem cut_eq (n : Int) : spec_NumCut.f n = impl_NumCut.f n := by
 rw [numCut_is, impl_NumCut.f]
 congr 1
 unfold mn mx
 by_cases h1 : n < -1000000
 ·simp [h1]
 ·by_cases h2 : (1000000 : Int) < n
  ·simp [h1, h2]
  ·simp [h1, h2]
theorem two_eq (k a b : Int) : spec_l3Two.f k a b = some (twoI k a b) := by
 rw [← two_some]
 unfold spec_l3Two.f impl_two.f spec_NumAdd.f spec_NumSub.f spec_NumMul.f impl_NumAdd.f impl_NumSub.f impl_NumMul.f impl_maker_of.f spec_NumIs.f spec_NumOn.f impl_NumIs.f impl_NumOn.f
 simp [cut_eq]
theorem get_eq (l0 l1 l2 : List Int) (h0 : l0.length = 6) (h1 : l1.length = 6) (h2 : l2.length = 6) (k a : Int) (h : addrOkL k a = true) : spec_l2Get.f l0 l1 l2 k a = some (getL (l0 ++ l1 ++ l2) k a) := by
 obtain ⟨hk, ha⟩ := addr_cases h
 rw [getL, if_pos h]
 obtain ⟨x0, x1, x2, x3, x4, x5, rfl⟩ := six l0 h0
 obtain ⟨y0, y1, y2, y3, y4, y5, rfl⟩ := six l1 h1
 obtain ⟨z0, z1, z2, z3, z4, z5, rfl⟩ := six l2 h2
 rcases hk with rfl | rfl | rfl <;> rcases ha with rfl | rfl | rfl | rfl | rfl | rfl <;> rfl
theorem mono_o (a b c d : Int) (l : List Ex) (l0 l1 l2 : List Int) : ∀ k, LeO (spec_l3Of.f k a b c d l l0 l1 l2) (spec_l3Of.f (k + 1) a b c d l l0 l1 l2) := fun k => spec_l3Of.mono_l k a b c d l l0 l1 l2
theorem of_spec (l0 l1 l2 : List Int) (h0 : l0.length = 6) (h1 : l1.length = 6) (h2 : l2.length = 6) (d : Nat) : ∀ e : Ex, formS d e = true → ∃ k, spec_l3Of.f k e.f0 e.f1 e.f2.f0 e.f2.f1 e.f3 l0 l1 l2 = some (evalI (l0 ++ l1 ++ l2) e) := by
 induction d with
 | zero => intro e h; cases h
 | succ d ih =>
  intro e h
  rw [formS, Bool.and_eq_true] at h
  have hkids : ∀ x ∈ e.f3, _ := fun x hx => ih x (List.all_eq_true.1 h.2 x hx)
  have hh := h.1
  unfold headOk at hh
  simp only [Bool.and_eq_true, beq_iff_eq] at hh
  obtain ⟨⟨hk, hl⟩, hs⟩ := hh
  have hk' : 1 ≤ e.f0 ∧ e.f0 ≤ 10 := of_decide_eq_true hk
  by_cases c1 : e.f0 = 1
  ·exact ⟨1, by rw [spec_l3Of.f, if_pos c1, evalI_eq, if_pos c1]⟩
  ·by_cases c2 : e.f0 = 2
   ·have ha : addrOkL e.f2.f0 e.f2.f1 = true := by
     rw [shapeL, if_neg c1, if_pos c2, Bool.and_eq_true] at hs; exact hs.1
    exact ⟨1, by rw [spec_l3Of.f, if_neg c1, if_pos c2, get_eq l0 l1 l2 h0 h1 h2 _ _ ha, evalI_eq, if_neg c1, if_pos c2]; rfl⟩
   ·by_cases c10 : e.f0 = 10
    ·have hl' : e.f3.length = 1 := by
      rw [kidsN, if_neg (by omega), if_neg (by omega)] at hl; omega
     obtain ⟨k, hk0⟩ := hkids e.f3[0] (List.getElem_mem (by omega))
     refine ⟨k + 1, ?_⟩
     have hr : rd_T27 e.f3 0 = e.f3[0] := rd_get e.f3 0 (by omega)
     have hv : (e.f3.map (evalI (l0 ++ l1 ++ l2))).getD 0 0 = evalI (l0 ++ l1 ++ l2) e.f3[0] := by
      rw [List.getD_eq_getElem?_getD, List.getElem?_map, List.getElem?_eq_getElem (by omega)]; rfl
     rw [spec_l3Of.f, if_neg c1, if_neg c2, if_pos c10, if_pos (by omega), hr, hk0, evalI_eq _ e, if_neg c1, if_neg c2, if_pos c10, hv]
     by_cases hz : evalI (l0 ++ l1 ++ l2) e.f3[0] = 0
     ·rw [hz]; rfl
     ·rw [if_neg hz]
      simp only [Option.bind_some, spec_NumOn.f, spec_NumIs.f, show (evalI (l0 ++ l1 ++ l2) e.f3[0] != 0) = true from bne_iff_ne.mpr hz, Bool.not_true, Bool.false_eq_true, if_false]
    ·have h39 : 3 ≤ e.f0 ∧ e.f0 ≤ 9 := by omega
     have hl' : e.f3.length = 2 := by
      rw [kidsN, if_neg (by omega), if_pos h39] at hl; omega
     obtain ⟨k0, hk0⟩ := hkids e.f3[0] (List.getElem_mem (by omega))
     obtain ⟨k1, hk1⟩ := hkids e.f3[1] (List.getElem_mem (by omega))
     refine ⟨k0 + k1 + 1, ?_⟩
     have hr0 : rd_T27 e.f3 0 = e.f3[0] := rd_get e.f3 0 (by omega)
     have hr1 : rd_T27 e.f3 1 = e.f3[1] := rd_get e.f3 1 (by omega)
     have hv0 : (e.f3.map (evalI (l0 ++ l1 ++ l2))).getD 0 0 = evalI (l0 ++ l1 ++ l2) e.f3[0] := by
      rw [List.getD_eq_getElem?_getD, List.getElem?_map, List.getElem?_eq_getElem (by omega)]; rfl
     have hv1 : (e.f3.map (evalI (l0 ++ l1 ++ l2))).getD 1 0 = evalI (l0 ++ l1 ++ l2) e.f3[1] := by
      rw [List.getD_eq_getElem?_getD, List.getElem?_map, List.getElem?_eq_getElem (by omega)]; rfl
     rw [spec_l3Of.f, if_neg c1, if_neg c2, if_neg c10, if_pos (by omega), hr0, hr1, up_le (mono_o _ _ _ _ _ _ _ _) (Nat.le_add_right k0 k1) hk0, Option.bind_some, if_pos (by omega), up_le (mono_o _ _ _ _ _ _ _ _) (Nat.le_add_left k1 k0) hk1, Option.bind_some, two_eq, evalI_eq _ e, if_neg c1, if_neg c2, if_neg c10, hv0, hv1]
     rfl
theorem mono_l2 (l : List Int) (j : Int) : ∀ k, LeO (spec_l2List.l0 k l j) (spec_l2List.l0 (k + 1) l j) := fun k => spec_l2List.mono_l k l j
theorem list_loop (l : List Int) (hl : l.length < 9223372036854775807) : ∀ (n j : Nat), n + j = l.length → ∃ k, spec_l2List.l0 k l j = some (l.length == 6 && !(l.drop j).any fun n => !isNumL n) := by
 intro n
 induction n with
 | zero =>
  intro j hj
  refine ⟨1, ?_⟩
  rw [spec_l2List.l0, if_neg (by omega), List.drop_eq_nil_of_le (by omega)]
  by_cases h6 : l.length = 6
  ·simp [h6]
  ·have q1 : ((l.length : Int) == 6) = false := beq_false_of_ne (by omega)
   have q2 : (l.length == 6) = false := beq_false_of_ne h6
   rw [q1, q2]; rfl
 | succ n ihn =>
  intro j hj
  have hlt : j < l.length := by omega
  obtain ⟨k2, h2⟩ := ihn (j + 1) (by omega)
  refine ⟨k2 + 1, ?_⟩
  have hr : rd l (j : Int) = l[j] := by simp [rd, hlt]
  rw [spec_l2List.l0, if_pos (by omega), if_pos (by omega), hr, numCut_is, Option.bind_some, wrap_small (by omega) (by omega), List.drop_eq_getElem_cons hlt, List.any_cons]
  by_cases c1 : l[j] < -1000000
  ·have q1 : ¬ (-1000000 : Int) = l[j] := by omega
   have q2 : isNumL l[j] = false := by unfold isNumL; exact decide_eq_false (by omega)
   simp [c1, q1, q2]
  ·by_cases c2 : 1000000 < l[j]
   ·have q1 : ¬ (1000000 : Int) = l[j] := by omega
    have q2 : isNumL l[j] = false := by unfold isNumL; exact decide_eq_false (by omega)
    simp [c1, c2, q1, q2]
   ·have q2 : isNumL l[j] = true := by unfold isNumL; exact decide_eq_true (by omega)
    simp only [c1, c2, if_false, if_true, q2, Bool.not_true, Bool.false_or]
    exact h2
theorem list_spec (l : List Int) (hl : l.length < 9223372036854775807) : ∃ k, spec_l2List.f k l = some (listOk l) := by
 obtain ⟨k, h⟩ := list_loop l hl l.length 0 (by omega)
 exact ⟨k, h⟩
theorem mono_l2f (l : List Int) : ∀ k, LeO (spec_l2List.f k l) (spec_l2List.f (k + 1) l) := fun k => mono_l2 l 0 k
theorem memOk_spec (l0 l1 l2 : List Int) (h0 : l0.length < 9223372036854775807) (h1 : l1.length < 9223372036854775807) (h2 : l2.length < 9223372036854775807) : ∃ k, spec_MemOk.f k l0 l1 l2 = some (memOkL l0 l1 l2) := by
 obtain ⟨k0, e0⟩ := list_spec l0 h0
 obtain ⟨k1, e1⟩ := list_spec l1 h1
 obtain ⟨k2, e2⟩ := list_spec l2 h2
 refine ⟨k0 + k1 + k2, ?_⟩
 unfold spec_MemOk.f memOkL
 rw [up_le (mono_l2f l0) (by omega) e0, up_le (mono_l2f l1) (by omega) e1, up_le (mono_l2f l2) (by omega) e2]
 cases listOk l0 <;> cases listOk l1 <;> simp
end Go.Proofs.YtendbgedpjcocaaGreatDoor.B
/- What is reckoned of two and of one: plain facts. -/
namespace Go.Proofs.YtendbgedpjcocaaGreatDoor.B
open Go.RowKit Go.Proofs.YtendbgedpjcocaaGreatDoorW.PrintWords Go.Proofs.YtendbgedpjcocaaGreatDoorW.PrintLast Go.Proofs.YtendbgedpjcocaaGreatDoorW.PrintMore
set_option linter.unusedVariables false

def cutL (n : Int) : Int := if n < -1000000 then -1000000 else if 1000000 < n then 1000000 else n
theorem cutI (n : Int) : impl_NumCut.f n = some (cutL n) := by rw [← cut_eq, numCut_is]; rfl
end Go.Proofs.YtendbgedpjcocaaGreatDoor.B
/- Plain law: statements are run: what a run leaves, how it ends, how much fuel is left. -/
namespace Go.Proofs.YtendbgedpjcocaaGreatDoor.B
open Go.RowKit Go.Proofs.YtendbgedpjcocaaGreatDoorW.PrintWords Go.Proofs.YtendbgedpjcocaaGreatDoorW.PrintLast Go.Proofs.YtendbgedpjcocaaGreatDoorW.PrintMore
set_option linter.unusedVariables false

/-- A number is put at a place, cut, if something can be put there. -/
def putB (bs : List Int) (k a n : Int) : List Int := if putsL k a = true then bs.set ((k - 1) * 6 + a).toNat (cutL n) else bs
/-- The numbers, how it ends (0: well, 1: too long), the fuel that is left. -/
abbrev Res := List Int × Int × Int
/-- A list is run; with so many steps at most. -/
def runL : Nat → List Int → List St → Int → Option Res
 | 0, _, _, _ => none
 | _ + 1, bs, [], f => some (bs, 0, f)
 | k + 1, bs, s :: l, f =>
  (if s.f0 = 1 then some (putB bs s.f1.f0 s.f1.f1 (evalI bs s.f2), 0, f)
   else if s.f0 = 3 then (if evalI bs s.f2 = 0 then some (bs, 0, f) else (runL k bs s.f3 f).bind fun r => if r.2.1 = 0 then (if r.2.2 < 1 then some (r.1, 1, 0) else runL k r.1 [s] (r.2.2 - 1)) else some r)
   else runL k bs (if evalI bs s.f2 = 0 then s.f4 else s.f3) f).bind fun r => if r.2.1 = 0 then runL k r.1 l r.2.2 else some r
/-- The first of a list. -/
def stepR (k : Nat) (bs : List Int) (s : St) (f : Int) : Option Res :=
 if s.f0 = 1 then some (putB bs s.f1.f0 s.f1.f1 (evalI bs s.f2), 0, f)
 else if s.f0 = 3 then (if evalI bs s.f2 = 0 then some (bs, 0, f) else (runL k bs s.f3 f).bind fun r => if r.2.1 = 0 then (if r.2.2 < 1 then some (r.1, 1, 0) else runL k r.1 [s] (r.2.2 - 1)) else some r)
 else runL k bs (if evalI bs s.f2 = 0 then s.f4 else s.f3) f
theorem runL_nil (k : Nat) (bs : List Int) (f : Int) : runL (k + 1) bs [] f = some (bs, 0, f) := by rw [runL]
theorem runL_cons (k : Nat) (bs : List Int) (s : St) (l : List St) (f : Int) : runL (k + 1) bs (s :: l) f = (stepR k bs s f).bind fun r => if r.2.1 = 0 then runL k r.1 l r.2.2 else some r := by rw [runL]; rfl
theorem stepR_mono {k : Nat} (ih : ∀ bs l f, LeO (runL k bs l f) (runL (k + 1) bs l f)) (bs : List Int) (s : St) (f : Int) : LeO (stepR k bs s f) (stepR (k + 1) bs s f) := by
 intro r h
 unfold stepR at h ⊢
 by_cases h1 : s.f0 = 1
 ·rw [if_pos h1] at h ⊢; exact h
 ·rw [if_neg h1] at h ⊢
  by_cases h3 : s.f0 = 3
  ·rw [if_pos h3] at h ⊢
   by_cases he : evalI bs s.f2 = 0
   ·rw [if_pos he] at h ⊢; exact h
   ·rw [if_neg he] at h ⊢
    obtain ⟨r1, hr1, h⟩ := Option.bind_eq_some_iff.1 h
    rw [ih _ _ _ r1 hr1, Option.bind_some]
    by_cases hc : r1.2.1 = 0
    ·rw [if_pos hc] at h ⊢
     by_cases hf : r1.2.2 < 1
     ·rw [if_pos hf] at h ⊢; exact h
     ·rw [if_neg hf] at h ⊢; exact ih _ _ _ r h
    ·rw [if_neg hc] at h ⊢; exact h
  ·rw [if_neg h3] at h ⊢
   exact ih _ _ _ r h
theorem runL_mono : ∀ k bs l f, LeO (runL k bs l f) (runL (k + 1) bs l f) := by
 intro k
 induction k with
 | zero => intro bs l f r h; rw [runL] at h; cases h
 | succ k ih =>
  intro bs l f r h
  cases l with
  | nil => rw [runL_nil] at h ⊢; exact h
  | cons s l =>
   rw [runL_cons] at h ⊢
   obtain ⟨r1, hr1, h⟩ := Option.bind_eq_some_iff.1 h
   rw [stepR_mono ih bs s f r1 hr1, Option.bind_some]
   by_cases hc : r1.2.1 = 0
   ·rw [if_pos hc] at h ⊢; exact ih _ _ _ r h
   ·rw [if_neg hc] at h ⊢; exact h
theorem runL_up {k k' : Nat} (hk : k ≤ k') {bs : List Int} {l : List St} {f : Int} {r : Res} (h : runL k bs l f = some r) : runL k' bs l f = some r := up_le (f := fun k => runL k bs l f) (fun k => runL_mono k bs l f) hk h
theorem stepR_up {k k' : Nat} (hk : k ≤ k') {bs : List Int} {s : St} {f : Int} {r : Res} (h : stepR k bs s f = some r) : stepR k' bs s f = some r := up_le (f := fun k => stepR k bs s f) (fun k => stepR_mono (runL_mono k) bs s f) hk h
/-- A list's run. -/
def Run (bs : List Int) (l : List St) (f : Int) (r : Res) : Prop := ∃ k, runL k bs l f = some r
theorem Run.one {bs : List Int} {l : List St} {f : Int} {r r' : Res} (h : Run bs l f r) (h' : Run bs l f r') : r = r' := by
 obtain ⟨k, hk⟩ := h
 obtain ⟨k', hk'⟩ := h'
 have := (runL_up (Nat.le_max_left k k') hk).symm.trans (runL_up (Nat.le_max_right k k') hk')
 exact Option.some.inj this
theorem Run.nil (bs : List Int) (f : Int) : Run bs [] f (bs, 0, f) := ⟨1, runL_nil 0 bs f⟩
/-- The first's run. -/
def RunS (bs : List Int) (s : St) (f : Int) (r : Res) : Prop := ∃ k, stepR k bs s f = some r
theorem Run.cons {bs : List Int} {s : St} {l : List St} {f : Int} {r1 r : Res} (h : RunS bs s f r1) (h' : if r1.2.1 = 0 then Run r1.1 l r1.2.2 r else r = r1) : Run bs (s :: l) f r := by
 obtain ⟨k, hk⟩ := h
 by_cases hc : r1.2.1 = 0
 ·rw [if_pos hc] at h'
  obtain ⟨k', hk'⟩ := h'
  refine ⟨max k k' + 1, ?_⟩
  rw [runL_cons, stepR_up (Nat.le_max_left k k') hk, Option.bind_some, if_pos hc]
  exact runL_up (Nat.le_max_right k k') hk'
 ·rw [if_neg hc] at h'
  refine ⟨k + 1, ?_⟩
  rw [runL_cons, hk, Option.bind_some, if_neg hc, h']
theorem Run.uncons {bs : List Int} {s : St} {l : List St} {f : Int} {r : Res} (h : Run bs (s :: l) f r) : ∃ r1, RunS bs s f r1 ∧ (if r1.2.1 = 0 then Run r1.1 l r1.2.2 r else r = r1) := by
 obtain ⟨k, hk⟩ := h
 cases k with
 | zero => rw [runL] at hk; cases hk
 | succ k =>
  rw [runL_cons] at hk
  obtain ⟨r1, hr1, h⟩ := Option.bind_eq_some_iff.1 hk
  refine ⟨r1, ⟨k, hr1⟩, ?_⟩
  by_cases hc : r1.2.1 = 0
  ·rw [if_pos hc] at h ⊢; exact ⟨k, h⟩
  ·rw [if_neg hc] at h ⊢; exact (Option.some.inj h).symm
theorem RunS.set {bs : List Int} {s : St} {f : Int} (h1 : s.f0 = 1) : RunS bs s f (putB bs s.f1.f0 s.f1.f1 (evalI bs s.f2), 0, f) := ⟨0, by rw [stepR, if_pos h1]⟩
theorem RunS.if {bs : List Int} {s : St} {f : Int} {r : Res} (h1 : s.f0 = 2) (h : Run bs (if evalI bs s.f2 = 0 then s.f4 else s.f3) f r) : RunS bs s f r := by
 obtain ⟨k, hk⟩ := h
 exact ⟨k, by rw [stepR, if_neg (by omega), if_neg (by omega)]; exact hk⟩
theorem RunS.off {bs : List Int} {s : St} {f : Int} (h1 : s.f0 = 3) (he : evalI bs s.f2 = 0) : RunS bs s f (bs, 0, f) := ⟨0, by rw [stepR, if_neg (by omega), if_pos h1, if_pos he]⟩
theorem RunS.stop {bs : List Int} {s : St} {f : Int} {r : Res} (h1 : s.f0 = 3) (he : evalI bs s.f2 ≠ 0) (h : Run bs s.f3 f r) (hc : r.2.1 ≠ 0) : RunS bs s f r := by
 obtain ⟨k, hk⟩ := h
 exact ⟨k, by rw [stepR, if_neg (by omega), if_pos h1, if_neg he, hk, Option.bind_some, if_neg hc]⟩
theorem RunS.long {bs : List Int} {s : St} {f : Int} {r : Res} (h1 : s.f0 = 3) (he : evalI bs s.f2 ≠ 0) (h : Run bs s.f3 f r) (hc : r.2.1 = 0) (hf : r.2.2 < 1) : RunS bs s f (r.1, 1, 0) := by
 obtain ⟨k, hk⟩ := h
 exact ⟨k, by rw [stepR, if_neg (by omega), if_pos h1, if_neg he, hk, Option.bind_some, if_pos hc, if_pos hf]⟩
theorem RunS.again {bs : List Int} {s : St} {f : Int} {r r' : Res} (h1 : s.f0 = 3) (he : evalI bs s.f2 ≠ 0) (h : Run bs s.f3 f r) (hc : r.2.1 = 0) (hf : ¬ r.2.2 < 1) (h' : Run r.1 [s] (r.2.2 - 1) r') : RunS bs s f r' := by
 obtain ⟨k, hk⟩ := h
 obtain ⟨k', hk'⟩ := h'
 exact ⟨max k k', by rw [stepR, if_neg (by omega), if_pos h1, if_neg he, runL_up (Nat.le_max_left k k') hk, Option.bind_some, if_pos hc, if_neg hf]; exact runL_up (Nat.le_max_right k k') hk'⟩
theorem Run.single {bs : List Int} {s : St} {f : Int} {r : Res} : Run bs [s] f r ↔ RunS bs s f r := by
 constructor
 ·intro h
  obtain ⟨r1, h1, h2⟩ := h.uncons
  by_cases hc : r1.2.1 = 0
  ·rw [if_pos hc] at h2
   have := (Run.nil r1.1 r1.2.2).one h2
   obtain ⟨a, b, c⟩ := r1
   simp only at hc
   subst hc
   rw [← this]; exact h1
  ·rw [if_neg hc] at h2; rw [h2]; exact h1
 ·intro h
  refine Run.cons h ?_
  by_cases hc : r.2.1 = 0
  ·rw [if_pos hc]
   obtain ⟨a, b, c⟩ := r
   simp only at hc
   subst hc
   exact Run.nil a c
  ·rw [if_neg hc]
/-- What every run's end is like. -/
structure Fits (f : Int) (r : Res) : Prop where
 lo : 0 ≤ r.2.2
 hi : r.2.2 ≤ f
 how : r.2.1 = 0 ∨ r.2.1 = 1 ∧ r.2.2 = 0
theorem run_total (d : Nat) : ∀ l : List St, formT d l = true → ∀ (f : Int) (bs : List Int), 0 ≤ f → ∃ r, Run bs l f r ∧ Fits f r := by
 induction d with
 | zero =>
  intro l hl f bs hf
  cases l with
  | nil => exact ⟨_, Run.nil bs f, ⟨hf, Int.le_refl _, .inl rfl⟩⟩
  | cons s l => cases hl
 | succ d ih =>
  have one : ∀ s : St, headSt s = true → formT d s.f3 = true → formT d s.f4 = true → ∀ (n : Nat) (f : Int) (bs : List Int), 0 ≤ f → f.toNat ≤ n → ∃ r, RunS bs s f r ∧ Fits f r := by
   intro s hs h3 h4 n
   have hk : s.f0 = 1 ∨ s.f0 = 2 ∨ s.f0 = 3 := by
    unfold headSt plainL at hs
    by_cases h1 : s.f0 = 1
    ·exact .inl h1
    ·by_cases h2 : s.f0 = 2
     ·exact .inr (.inl h2)
     ·by_cases h3 : s.f0 = 3
      ·exact .inr (.inr h3)
      ·rw [if_neg h1, if_neg h2, if_neg h3] at hs; simp at hs
   induction n with
   | zero =>
    intro f bs hf hn
    obtain rfl : f = 0 := by omega
    rcases hk with h | h | h
    ·exact ⟨_, RunS.set h, ⟨Int.le_refl _, Int.le_refl _, .inl rfl⟩⟩
    ·obtain ⟨r, hr, hF⟩ := ih (if evalI bs s.f2 = 0 then s.f4 else s.f3) (by split <;> assumption) 0 bs hf
     exact ⟨r, RunS.if h hr, hF⟩
    ·by_cases he : evalI bs s.f2 = 0
     ·exact ⟨_, RunS.off h he, ⟨Int.le_refl _, Int.le_refl _, .inl rfl⟩⟩
     ·obtain ⟨r, hr, hF⟩ := ih s.f3 h3 0 bs hf
      by_cases hc : r.2.1 = 0
      ·exact ⟨_, RunS.long h he hr hc (by have := hF.hi; omega), ⟨Int.le_refl _, Int.le_refl _, .inr ⟨rfl, rfl⟩⟩⟩
      ·exact ⟨r, RunS.stop h he hr hc, hF⟩
   | succ n ihn =>
    intro f bs hf hn
    rcases hk with h | h | h
    ·exact ⟨_, RunS.set h, ⟨hf, Int.le_refl _, .inl rfl⟩⟩
    ·obtain ⟨r, hr, hF⟩ := ih (if evalI bs s.f2 = 0 then s.f4 else s.f3) (by split <;> assumption) f bs hf
     exact ⟨r, RunS.if h hr, hF⟩
    ·by_cases he : evalI bs s.f2 = 0
     ·exact ⟨_, RunS.off h he, ⟨hf, Int.le_refl _, .inl rfl⟩⟩
     ·obtain ⟨r, hr, hF⟩ := ih s.f3 h3 f bs hf
      by_cases hc : r.2.1 = 0
      ·by_cases hl : r.2.2 < 1
       ·exact ⟨_, RunS.long h he hr hc hl, ⟨Int.le_refl _, hf, .inr ⟨rfl, rfl⟩⟩⟩
       ·have h1 := hF.hi
        obtain ⟨r', hr', hF'⟩ := ihn (r.2.2 - 1) r.1 (by omega) (by omega)
        have h2 := hF'.hi
        exact ⟨r', RunS.again h he hr hc hl (Run.single.2 hr'), ⟨hF'.lo, by omega, hF'.how⟩⟩
      ·exact ⟨r, RunS.stop h he hr hc, hF⟩
  intro l
  induction l with
  | nil => intro _ f bs hf; exact ⟨_, Run.nil bs f, ⟨hf, Int.le_refl _, .inl rfl⟩⟩
  | cons s l ihl =>
   intro hl f bs hf
   have hl' : (headSt s && (formT d s.f3 && formT d s.f4)) = true ∧ formT (d + 1) l = true := by
    have : formT (d + 1) (s :: l) = ((headSt s && (formT d s.f3 && formT d s.f4)) && formT (d + 1) l) := rfl
    rw [this, Bool.and_eq_true] at hl; exact hl
   simp only [Bool.and_eq_true] at hl'
   obtain ⟨⟨hs, h3, h4⟩, hl2⟩ := hl'
   obtain ⟨r1, hr1, hF1⟩ := one s hs h3 h4 f.toNat f bs hf (Nat.le_refl _)
   by_cases hc : r1.2.1 = 0
   ·obtain ⟨r, hr, hF⟩ := ihl hl2 r1.2.2 r1.1 hF1.lo
    have h1 := hF.hi; have h2 := hF1.hi
    exact ⟨r, Run.cons hr1 (by rw [if_pos hc]; exact hr), ⟨hF.lo, by omega, hF.how⟩⟩
   ·exact ⟨r1, Run.cons hr1 (by rw [if_neg hc]), hF1⟩
/-- What holds at the beginning of a run and is kept by each number that is put holds at its end. -/
theorem run_keeps (P : List Int → Prop) : ∀ (k : Nat) (l : List St) (W : St → Prop), (∀ s, W s → ∀ x ∈ s.f3, W x) → (∀ s, W s → ∀ x ∈ s.f4, W x) → (∀ s, W s → s.f0 = 1 → ∀ bs, P bs → P (putB bs s.f1.f0 s.f1.f1 (evalI bs s.f2))) →
  (∀ s ∈ l, W s) → ∀ (bs : List Int) (f : Int) (r : Res), P bs → runL k bs l f = some r → P r.1 := by
 intro k
 induction k with
 | zero => intro l W _ _ _ _ bs f r _ h; rw [runL] at h; cases h
 | succ k ih =>
  intro l W h3 h4 hP hl bs f r hb h
  cases l with
  | nil => rw [runL_nil] at h; cases h; exact hb
  | cons s l =>
   rw [runL_cons] at h
   obtain ⟨r1, hr1, h⟩ := Option.bind_eq_some_iff.1 h
   have hs := hl s List.mem_cons_self
   have hp1 : P r1.1 := by
    unfold stepR at hr1
    by_cases k1 : s.f0 = 1
    ·rw [if_pos k1] at hr1; cases hr1; exact hP s hs k1 bs hb
    ·rw [if_neg k1] at hr1
     by_cases k3 : s.f0 = 3
     ·rw [if_pos k3] at hr1
      by_cases he : evalI bs s.f2 = 0
      ·rw [if_pos he] at hr1; cases hr1; exact hb
      ·rw [if_neg he] at hr1
       obtain ⟨r2, hr2, hr1⟩ := Option.bind_eq_some_iff.1 hr1
       have hp2 := ih s.f3 W h3 h4 hP (h3 s hs) bs f r2 hb hr2
       by_cases hc : r2.2.1 = 0
       ·rw [if_pos hc] at hr1
        by_cases hf : r2.2.2 < 1
        ·rw [if_pos hf] at hr1; cases hr1; exact hp2
        ·rw [if_neg hf] at hr1
         exact ih [s] W h3 h4 hP (fun x hx => by rw [List.mem_singleton] at hx; rw [hx]; exact hs) _ _ _ hp2 hr1
       ·rw [if_neg hc] at hr1; cases hr1; exact hp2
     ·rw [if_neg k3] at hr1
      refine ih _ W h3 h4 hP ?_ bs f r1 hb hr1
      split
      ·exact h4 s hs
      ·exact h3 s hs
   by_cases hc : r1.2.1 = 0
   ·rw [if_pos hc] at h
    exact ih l W h3 h4 hP (fun x hx => hl x (List.mem_cons_of_mem _ hx)) _ _ _ hp1 h
   ·rw [if_neg hc] at h; cases h; exact hp1
end Go.Proofs.YtendbgedpjcocaaGreatDoor.B
/- A drawn region whose last operation, or last two, behind all others, do whatever they do (append, store, a call that writes). -/
namespace Go.Proofs.YtendbgedpjcocaaGreatDoor.B
open Go Go.RowKit

section
variable {P : Program} {ops : Array Oper} {Q : Exit → Act → World → Prop} {md : Region.Mode}
/-- What stands before the operations of L, as far as n steps reach. -/
def reachW (ops : Array Oper) : Nat → List Nat → List Nat
 | 0, L => L
 | n + 1, L => reachW ops n (L ++ L.flatMap fun i => match ops[i]? with | some o => waitsOn o | none => []).eraseDups
theorem reachW_all {l : Nat → Bool} (hd : ∀ (i : Nat) (o : Oper), ops[i]? = some o → l i = true → ∀ j ∈ waitsOn o, l j = true) : ∀ (n : Nat) (L : List Nat), (∀ j ∈ L, l j = true) → ∀ j ∈ reachW ops n L, l j = true := by
 intro n
 induction n with
 | zero => exact fun _ h => h
 | succ n ih =>
  intro L h
  refine ih _ fun j hj => ?_
  rw [List.mem_eraseDups, List.mem_append] at hj
  rcases hj with hj | hj
  ·exact h j hj
  ·obtain ⟨i, hi, hji⟩ := List.mem_flatMap.1 hj
   cases ho : ops[i]? with
   | none => rw [ho] at hji; cases hji
   | some o => rw [ho] at hji; exact hd i o ho (h i hi) j hji
/-- A drawn region that makes memory, and whose last operation, behind all others, does whatever it does. -/
theorem weaveLast_ {id : Nat} {a0 : Act} {w : World} (m : Nat) (hm1 : ops.size = m + 1) (p : World → Prop) (hp : Lasts p) (h0 : p w) (ds : List (Tmp × Nat)) (Fs : List (Value → World → Prop)) (hm : P.follows .mixedOrders = true) (hB : weaveB ops ds = true) (hF : LastAll Fs)
  (hall : (match ops[m]? with | some o => (List.range m).all fun j => (reachW ops m (waitsOn o)).contains j | none => false) = true)
  (hwait : ((List.range m).all fun i => match ops[i]? with | some o => (waitsOn o).all fun j => decide (j < m) | none => true) = true)
  (hstep : OpsAll (fun i o => i < m → ∀ vs W, p W → (∀ j ∈ waitsOn o, FAt Fs j (vs j) W) → ∀ b, Sees a0 ds o vs b → StepOK P ops o b W fun v W' => Below W.heap.size W W' ∧ FAt Fs i v W') ops.toList 0)
  (Ψ : Value → World → Prop) (hlast : ∀ o, ops[m]? = some o → ∀ vs W, p W → (∀ j, j < m → FAt Fs j (vs j) W) → ∀ b, Sees a0 ds o vs b → StepOK P ops o b W Ψ)
  (hend : ∀ (vs : Nat → Value) W, Ψ (vs m) W → Q .normal (putL a0 (ds.map fun q => (q.1, vs q.2))) W) : (Code.region id ops true).wp P Q a0 w := by
 refine weave (fun l vs W => (∀ (i : Nat) (o : Oper), ops[i]? = some o → l i = true → ∀ j ∈ waitsOn o, l j = true) ∧ (l m = false → p W ∧ ∀ j, j < m → l j = true → FAt Fs j (vs j) W) ∧ (l m = true → Ψ (vs m) W)) ds hm hB ?_ ?_ ?_
 ·exact ⟨(fun _ _ _ h => absurd h (by simp)), (fun _ => ⟨hp _ _ (drew_below w) h0, (fun _ _ h => absurd h (by simp))⟩), (fun h => absurd h (by simp))⟩
 ·intro i o ho l vs W ⟨hc, hI, _⟩ hli hw b hsee
  have hlt := (Array.getElem?_eq_some_iff.1 ho).1
  obtain ⟨om, hom⟩ : ∃ o, ops[m]? = some o := ⟨ops[m], by simp [show m < ops.size by omega]⟩
  have hbelow : (∀ j ∈ waitsOn om, l j = true) → ∀ j, j < m → l j = true := fun hh j hj => by
   rw [hom] at hall
   exact reachW_all hc m _ hh j (by simpa using List.all_eq_true.1 hall j (List.mem_range.2 hj))
  have hdc : ∀ (i' : Nat) (o' : Oper), ops[i']? = some o' → (i' == i || l i') = true → ∀ j ∈ waitsOn o', (j == i || l j) = true := by
   intro i' o' ho' hh j hj
   by_cases hii : i' = i
   ·subst hii
    have : o' = o := Option.some.inj (ho'.symm.trans ho)
    subst this
    simp [hw j hj]
   ·have : l i' = true := by simpa [hii] using hh
    simp [hc i' o' ho' this j hj]
  by_cases hin : i < m
  ·have hlm : l m = false := by
    cases hq : l m with
    | false => rfl
    | true => rw [hbelow (hc m om hom hq) i hin] at hli; cases hli
   obtain ⟨h1, h2⟩ := hI hlm
   have hst := OpsAll.at ops.toList 0 hstep i o (by rw [Array.getElem?_toList]; exact ho)
   rw [Nat.zero_add] at hst
   have hmi : (m == i) = false := by simp; omega
   intro K Q' hK
   refine hst hin vs W h1 (fun j hj => ?_) b hsee K Q' fun v W' hv => hK v W' ⟨hdc, fun _ => ⟨hp _ _ hv.1 h1, fun j hj hlj => ?_⟩, fun hh => by simp [hmi, hlm] at hh⟩
   ·have hjm : j < m := by
     have := List.all_eq_true.1 hwait i (List.mem_range.2 hin)
     rw [ho] at this
     simpa using List.all_eq_true.1 this j hj
    exact h2 j hjm (hw j hj)
   ·by_cases hji : j = i
    ·subst hji
     simpa using hv.2
    ·simp only [hji, if_false]
     exact FAt.last Fs hF j _ _ _ hv.1 (h2 j hj (by simpa [hji] using hlj))
  ·have him : i = m := by omega
   subst him
   obtain ⟨h1, h2⟩ := hI hli
   have : o = om := Option.some.inj (ho.symm.trans hom)
   subst this
   have hl := hbelow hw
   intro K Q' hK
   exact hlast o ho vs W h1 (fun j hj => h2 j hj (hl j hj)) b hsee K Q' fun v W' hv => hK v W' ⟨hdc, fun hh => by simp at hh, fun _ => by simpa using hv⟩
 ·intro l vs W hl hI
  exact hend vs W (hI.2.2 (hl m (by omega)))
/-- A drawn region that makes memory, and whose last two operations, behind all others, do whatever they do, one behind the other. -/
theorem weaveTail_ {id : Nat} {a0 : Act} {w : World} (m : Nat) (hm1 : ops.size = m + 2) (p : World → Prop) (hp : Lasts p) (h0 : p w) (ds : List (Tmp × Nat)) (Fs : List (Value → World → Prop)) (hm : P.follows .mixedOrders = true) (hB : weaveB ops ds = true) (hF : LastAll Fs)
  (hall : (match ops[m]? with | some o => (List.range m).all fun j => (reachW ops m (waitsOn o)).contains j | none => false) = true)
  (hall2 : (match ops[m + 1]? with | some o => (waitsOn o).contains m | none => false) = true)
  (hwait : ((List.range m).all fun i => match ops[i]? with | some o => (waitsOn o).all fun j => decide (j < m) | none => true) = true)
  (hstep : OpsAll (fun i o => i < m → ∀ vs W, p W → (∀ j ∈ waitsOn o, FAt Fs j (vs j) W) → ∀ b, Sees a0 ds o vs b → StepOK P ops o b W fun v W' => Below W.heap.size W W' ∧ FAt Fs i v W') ops.toList 0)
  (Ψ Φ : Value → World → Prop) (hlast : ∀ o, ops[m]? = some o → ∀ vs W, p W → (∀ j, j < m → FAt Fs j (vs j) W) → ∀ b, Sees a0 ds o vs b → StepOK P ops o b W Ψ)
  (hlast2 : ∀ o, ops[m + 1]? = some o → ∀ vs W, Ψ (vs m) W → ∀ b, Sees a0 ds o vs b → StepOK P ops o b W Φ)
  (hend : ∀ (vs : Nat → Value) W, Φ (vs (m + 1)) W → Q .normal (putL a0 (ds.map fun q => (q.1, vs q.2))) W) : (Code.region id ops true).wp P Q a0 w := by
 refine weave (fun l vs W => (∀ (i : Nat) (o : Oper), ops[i]? = some o → l i = true → ∀ j ∈ waitsOn o, l j = true) ∧ (l m = false → p W ∧ ∀ j, j < m → l j = true → FAt Fs j (vs j) W) ∧ (l m = true → l (m + 1) = false → Ψ (vs m) W) ∧ (l (m + 1) = true → Φ (vs (m + 1)) W)) ds hm hB ?_ ?_ ?_
 ·exact ⟨(fun _ _ _ h => absurd h (by simp)), (fun _ => ⟨hp _ _ (drew_below w) h0, (fun _ _ h => absurd h (by simp))⟩), (fun h => absurd h (by simp)), (fun h => absurd h (by simp))⟩
 ·intro i o ho l vs W ⟨hc, hI, hJ, _⟩ hli hw b hsee
  have hlt := (Array.getElem?_eq_some_iff.1 ho).1
  have hom : ∃ o, ops[m]? = some o := ⟨ops[m], by simp [show m < ops.size by omega]⟩
  obtain ⟨om, hom⟩ := hom
  have hom1 : ∃ o, ops[m + 1]? = some o := ⟨ops[m + 1], by simp [show m + 1 < ops.size by omega]⟩
  obtain ⟨om1, hom1⟩ := hom1
  have hbelow : (∀ j ∈ waitsOn om, l j = true) → ∀ j, j < m → l j = true := fun hh j hj => by
   rw [hom] at hall
   exact reachW_all hc m _ hh j (by simpa using List.all_eq_true.1 hall j (List.mem_range.2 hj))
  have hm1m : l (m + 1) = true → l m = true := fun hh => hc _ _ hom1 hh m (by rw [hom1] at hall2; simpa using hall2)
  have hdc : ∀ (i' : Nat) (o' : Oper), ops[i']? = some o' → (i' == i || l i') = true → ∀ j ∈ waitsOn o', (j == i || l j) = true := by
   intro i' o' ho' hh j hj
   by_cases hii : i' = i
   ·subst hii
    have : o' = o := Option.some.inj (ho'.symm.trans ho)
    subst this
    simp [hw j hj]
   ·have : l i' = true := by simpa [hii] using hh
    simp [hc i' o' ho' this j hj]
  by_cases hin : i < m
  ·have hlm : l m = false := by
    cases hq : l m with
    | false => rfl
    | true => rw [hbelow (hc m om hom hq) i hin] at hli; cases hli
   have hlm1 : l (m + 1) = false := by
    cases hq : l (m + 1) with
    | false => rfl
    | true => rw [hm1m hq] at hlm; cases hlm
   obtain ⟨h1, h2⟩ := hI hlm
   have hst := OpsAll.at ops.toList 0 hstep i o (by rw [Array.getElem?_toList]; exact ho)
   rw [Nat.zero_add] at hst
   have hmi : (m == i) = false := by simp; omega
   have hmi1 : (m + 1 == i) = false := by simp; omega
   intro K Q' hK
   refine hst hin vs W h1 (fun j hj => ?_) b hsee K Q' fun v W' hv => hK v W' ⟨hdc, fun _ => ⟨hp _ _ hv.1 h1, fun j hj hlj => ?_⟩, fun hh => by simp [hmi, hlm] at hh, fun hh => by simp [hmi1, hlm1] at hh⟩
   ·have hjm : j < m := by
     have := List.all_eq_true.1 hwait i (List.mem_range.2 hin)
     rw [ho] at this
     simpa using List.all_eq_true.1 this j hj
    exact h2 j hjm (hw j hj)
   ·by_cases hji : j = i
    ·subst hji
     simpa using hv.2
    ·simp only [hji, if_false]
     exact FAt.last Fs hF j _ _ _ hv.1 (h2 j hj (by simpa [hji] using hlj))
  ·by_cases him : i = m
   ·subst him
    have hlm1 : l (i + 1) = false := by
     cases hq : l (i + 1) with
     | false => rfl
     | true => rw [hm1m hq] at hli; cases hli
    have : o = om := Option.some.inj (ho.symm.trans hom)
    subst this
    obtain ⟨h1, h2⟩ := hI hli
    intro K Q' hK
    exact hlast o ho vs W h1 (fun j hj => h2 j hj (hbelow hw j hj)) b hsee K Q' fun v W' hv => hK v W' ⟨hdc, fun hh => by simp at hh, fun _ _ => by simpa using hv, fun hh => by simp [hlm1] at hh⟩
   ·have hi1 : i = m + 1 := by omega
    subst hi1
    have : o = om1 := Option.some.inj (ho.symm.trans hom1)
    subst this
    have hlm : l m = true := hw m (by rw [hom1] at hall2; simpa using hall2)
    intro K Q' hK
    refine hlast2 o ho vs W (hJ hlm hli) b hsee K Q' fun v W' hv => hK v W' ⟨hdc, fun hh => by simp [hlm] at hh, fun _ hh => by simp at hh, fun _ => by simpa using hv⟩
 ·intro l vs W hl hI
  exact hend vs W (hI.2.2.2 (hl (m + 1) (by omega)))
/-- A drawn region that makes memory, whose values at S own new memory, each its own, and whose last two operations, behind all others, do whatever they do. -/
theorem weaveFresh_ {id : Nat} {a0 : Act} {w : World} (S : List Nat) (m : Nat) (hS : (S.all fun j => decide (j < m)) = true) (hm1 : ops.size = m + 2) (p : World → Prop) (hp : Lasts p) (h0 : p w) (ds : List (Tmp × Nat)) (Fs : List (Value → World → Prop)) (hm : P.follows .mixedOrders = true) (hB : weaveB ops ds = true) (hF : LastAll Fs)
  (hall : (match ops[m]? with | some o => (List.range m).all fun j => (reachW ops m (waitsOn o)).contains j | none => false) = true)
  (hall2 : (match ops[m + 1]? with | some o => (waitsOn o).contains m | none => false) = true)
  (hwait : ((List.range m).all fun i => match ops[i]? with | some o => (waitsOn o).all fun j => decide (j < m) | none => true) = true)
  (hstep : OpsAll (fun i o => i < m → ∀ vs W, p W → (∀ j ∈ waitsOn o, FAt Fs j (vs j) W) → ∀ b, Sees a0 ds o vs b → StepOK P ops o b W fun v W' => Below W.heap.size W W' ∧ FAt Fs i v W' ∧ (S.contains i = true → ∀ k, v.ownBlock = some k → W.heap.size ≤ k)) ops.toList 0)
  (hltS : ∀ j ∈ S, ∀ v W, FAt Fs j v W → ∀ k, v.ownBlock = some k → k < W.heap.size)
  (Ψ Φ : Value → World → Prop) (hlast : ∀ o, ops[m]? = some o → ∀ vs W, p W → (∀ j, j < m → FAt Fs j (vs j) W) → (∀ i ∈ S, ∀ j ∈ S, i ≠ j → ∀ k, (vs i).ownBlock = some k → (vs j).ownBlock ≠ some k) → ∀ b, Sees a0 ds o vs b → StepOK P ops o b W Ψ)
  (hlast2 : ∀ o, ops[m + 1]? = some o → ∀ vs W, Ψ (vs m) W → ∀ b, Sees a0 ds o vs b → StepOK P ops o b W Φ)
  (hend : ∀ (vs : Nat → Value) W, Φ (vs (m + 1)) W → Q .normal (putL a0 (ds.map fun q => (q.1, vs q.2))) W) : (Code.region id ops true).wp P Q a0 w := by
 refine weave (fun l vs W => (∀ (i : Nat) (o : Oper), ops[i]? = some o → l i = true → ∀ j ∈ waitsOn o, l j = true) ∧ (l m = false → (p W ∧ ∀ j, j < m → l j = true → FAt Fs j (vs j) W) ∧ (∀ i ∈ S, ∀ j ∈ S, i ≠ j → l i = true → l j = true → ∀ k, (vs i).ownBlock = some k → (vs j).ownBlock ≠ some k)) ∧ (l m = true → l (m + 1) = false → Ψ (vs m) W) ∧ (l (m + 1) = true → Φ (vs (m + 1)) W)) ds hm hB ?_ ?_ ?_
 ·exact ⟨(fun _ _ _ h => absurd h (by simp)), (fun _ => ⟨⟨hp _ _ (drew_below w) h0, (fun _ _ h => absurd h (by simp))⟩, fun _ _ _ _ _ h => absurd h (by simp)⟩), (fun h => absurd h (by simp)), (fun h => absurd h (by simp))⟩
 ·intro i o ho l vs W ⟨hc, hI, hJ, _⟩ hli hw b hsee
  have hlt := (Array.getElem?_eq_some_iff.1 ho).1
  have hom : ∃ o, ops[m]? = some o := ⟨ops[m], by simp [show m < ops.size by omega]⟩
  obtain ⟨om, hom⟩ := hom
  have hom1 : ∃ o, ops[m + 1]? = some o := ⟨ops[m + 1], by simp [show m + 1 < ops.size by omega]⟩
  obtain ⟨om1, hom1⟩ := hom1
  have hbelow : (∀ j ∈ waitsOn om, l j = true) → ∀ j, j < m → l j = true := fun hh j hj => by
   rw [hom] at hall
   exact reachW_all hc m _ hh j (by simpa using List.all_eq_true.1 hall j (List.mem_range.2 hj))
  have hm1m : l (m + 1) = true → l m = true := fun hh => hc _ _ hom1 hh m (by rw [hom1] at hall2; simpa using hall2)
  have hdc : ∀ (i' : Nat) (o' : Oper), ops[i']? = some o' → (i' == i || l i') = true → ∀ j ∈ waitsOn o', (j == i || l j) = true := by
   intro i' o' ho' hh j hj
   by_cases hii : i' = i
   ·subst hii
    have : o' = o := Option.some.inj (ho'.symm.trans ho)
    subst this
    simp [hw j hj]
   ·have : l i' = true := by simpa [hii] using hh
    simp [hc i' o' ho' this j hj]
  by_cases hin : i < m
  ·have hlm : l m = false := by
    cases hq : l m with
    | false => rfl
    | true => rw [hbelow (hc m om hom hq) i hin] at hli; cases hli
   have hlm1 : l (m + 1) = false := by
    cases hq : l (m + 1) with
    | false => rfl
    | true => rw [hm1m hq] at hlm; cases hlm
   obtain ⟨⟨h1, h2⟩, hap⟩ := hI hlm
   have hst := OpsAll.at ops.toList 0 hstep i o (by rw [Array.getElem?_toList]; exact ho)
   rw [Nat.zero_add] at hst
   have hmi : (m == i) = false := by simp; omega
   have hmi1 : (m + 1 == i) = false := by simp; omega
   intro K Q' hK
   refine hst hin vs W h1 (fun j hj => ?_) b hsee K Q' fun v W' hv => hK v W' ⟨hdc, fun _ => ⟨⟨hp _ _ hv.1 h1, fun j hj hlj => ?_⟩, fun x hx y hy hxy hlx hly k hk => ?_⟩, fun hh => by simp [hmi, hlm] at hh, fun hh => by simp [hmi1, hlm1] at hh⟩
   ·have hjm : j < m := by
     have := List.all_eq_true.1 hwait i (List.mem_range.2 hin)
     rw [ho] at this
     simpa using List.all_eq_true.1 this j hj
    exact h2 j hjm (hw j hj)
   ·by_cases hji : j = i
    ·subst hji
     simpa using hv.2.1
    ·simp only [hji, if_false]
     exact FAt.last Fs hF j _ _ _ hv.1 (h2 j hj (by simpa [hji] using hlj))
   ·have hxm : x < m := of_decide_eq_true (List.all_eq_true.1 hS x hx)
    have hym : y < m := of_decide_eq_true (List.all_eq_true.1 hS y hy)
    by_cases hxi : x = i
    ·have hyi : y ≠ i := fun e => hxy (hxi.trans e.symm)
     simp only [hxi, if_true] at hk
     simp only [hyi, if_false]
     intro hk'
     have q1 := hv.2.2 (by rw [← hxi]; exact List.contains_iff_mem.2 hx) k hk
     have q2 := hltS y hy _ _ (h2 y hym (by simpa [hyi] using hly)) k hk'
     omega
    ·simp only [hxi, if_false] at hk
     by_cases hyi : y = i
     ·simp only [hyi, if_true]
      intro hk'
      have q1 := hv.2.2 (by rw [← hyi]; exact List.contains_iff_mem.2 hy) k hk'
      have q2 := hltS x hx _ _ (h2 x hxm (by simpa [hxi] using hlx)) k hk
      omega
     ·simp only [hyi, if_false]
      exact hap x hx y hy hxy (by simpa [hxi] using hlx) (by simpa [hyi] using hly) k hk
  ·by_cases him : i = m
   ·subst him
    have hlm1 : l (i + 1) = false := by
     cases hq : l (i + 1) with
     | false => rfl
     | true => rw [hm1m hq] at hli; cases hli
    have : o = om := Option.some.inj (ho.symm.trans hom)
    subst this
    obtain ⟨⟨h1, h2⟩, hap⟩ := hI hli
    intro K Q' hK
    exact hlast o ho vs W h1 (fun j hj => h2 j hj (hbelow hw j hj)) (fun x hx y hy hxy => hap x hx y hy hxy (hbelow hw x (of_decide_eq_true (List.all_eq_true.1 hS x hx))) (hbelow hw y (of_decide_eq_true (List.all_eq_true.1 hS y hy)))) b hsee K Q' fun v W' hv => hK v W' ⟨hdc, fun hh => by simp at hh, fun _ _ => by simpa using hv, fun hh => by simp [hlm1] at hh⟩
   ·have hi1 : i = m + 1 := by omega
    subst hi1
    have : o = om1 := Option.some.inj (ho.symm.trans hom1)
    subst this
    have hlm : l m = true := hw m (by rw [hom1] at hall2; simpa using hall2)
    intro K Q' hK
    refine hlast2 o ho vs W (hJ hlm hli) b hsee K Q' fun v W' hv => hK v W' ⟨hdc, fun hh => by simp [hlm] at hh, fun _ hh => by simp at hh, fun _ => by simpa using hv⟩
 ·intro l vs W hl hI
  exact hend vs W (hI.2.2.2 (hl (m + 1) (by omega)))
end
end Go.Proofs.YtendbgedpjcocaaGreatDoor.B
/- Contracts of Go's library, laid out of the kit's shelf at this seat's program. -/
namespace Go.Proofs
open Go Go.Shelf Go.RowKit Go.Lib
def Tryz.laysNm215_ren : Go.Shelf.Ren := ⟨fun | 15 => 80 | n => n, fun | 22 => 28 | 3 => 3 | 4 => 4 | n => n, fun | n => n⟩
theorem Tryz.laysNm215 : Go.Proofs.Lays2.n15 Tryz.prog Tryz.laysNm215_ren := {
 mixed := by kernel_rfl
 f15 := Tryz.func80.trans (congrArg some (by kernel_rfl))
 t3 := Tryz.underlying3
 a3 := Tryz.isAgg3
 z3 := Tryz.sizeOf3
 v3 := Tryz.zeroValue3
 t4 := Tryz.underlying4
 a4 := Tryz.isAgg4
 z4 := Tryz.sizeOf4
 v4 := Tryz.zeroValue4
 t22 := Tryz.underlying28
 a22 := Tryz.isAgg28
 z22 := Tryz.sizeOf28
 v22 := Tryz.zeroValue28
 i3 := by kernel_rfl }
theorem Tryz.slices_Clone_int (b off n c : Nat) (zs : List Int) (w : World) (hz : n ≤ zs.length) (hbig : n * 8 ≤ 140737488355328) (hc : ∀ j, j < zs.length → w.cell? ⟨b, off + j, none⟩ = some (.int .i64 (zs.getD j 0))) :
  Calls Tryz.prog 80 #[.slice (some ⟨b, off, none⟩) n c] w fun e w' => ∃ v', e = .returned v' ∧ w'.ownsRow w.heap.size 3 1 v' n ((zs.take n).map (Value.int .i64)) ∧ v' ≠ .slice none 0 0 ∧ Below w.heap.size w w' := Any.slices_Clone_int Tryz.laysNm215 b off n c zs w hz hbig hc
end Go.Proofs
/- impl.ExprOf, in the print's form. -/
namespace Go.Proofs.YtendbgedpjcocaaGreatDoor.B
open Go.RowKit Go.Proofs.YtendbgedpjcocaaGreatDoorW.PrintWords Go.Proofs.YtendbgedpjcocaaGreatDoorW.PrintLast Go.Proofs.YtendbgedpjcocaaGreatDoorW.PrintMore
set_option linter.unusedVariables false

end Go.Proofs.YtendbgedpjcocaaGreatDoor.B
/- impl.MemGet, in the print's form. -/
namespace Go.Proofs.YtendbgedpjcocaaGreatDoor.B
open Go.RowKit Go.Proofs.YtendbgedpjcocaaGreatDoorW.PrintWords Go.Proofs.YtendbgedpjcocaaGreatDoorW.PrintLast Go.Proofs.YtendbgedpjcocaaGreatDoorW.PrintMore
set_option linter.unusedVariables false

end Go.Proofs.YtendbgedpjcocaaGreatDoor.B
