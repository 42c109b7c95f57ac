import Derived.Test.YtacbbpbopmdpeaaPkA
import Derived.Laws.BitsLemmas
import Derived.Test.YtacbbpbopmdpeaaOkSpec
import Derived.Test.YtacbbpbopmdpeaaPkB
/- The draws' pick ends, and is in its bounds. -/
namespace Go.Proofs.Ytacbbpbopmdpeaa.B
open Go.RowKit Go.Proofs.YtacbbpbopmdpeaaW.PrintWords Go.Proofs.YtacbbpbopmdpeaaW.PrintLast Go.Proofs.YtacbbpbopmdpeaaW.PrintMore
set_option linter.unusedVariables false

theorem wrap_id {n : Int} (h0 : -9223372036854775808 ≤ n) (h1 : n ≤ 9223372036854775807) : wrap64 n = n := by
 unfold wrap64
 omega
theorem xor_nonneg (a b : Int) (ha : 0 ≤ a) (ha1 : a < 2 ^ 62) (hb : 0 ≤ b) (hb1 : b < 2 ^ 62) : 0 ≤ Go.bits .xor .i64 a b := by
 obtain ⟨m, rfl⟩ := Int.eq_ofNat_of_zero_le ha
 obtain ⟨n, rfl⟩ := Int.eq_ofNat_of_zero_le hb
 have hm : m < 2 ^ 62 := by omega
 have hn : n < 2 ^ 62 := by omega
 have hx := Nat.xor_lt_two_pow hm hn
 have ha' : m % 2 ^ 64 = m := Nat.mod_eq_of_lt (by omega)
 have hb' : n % 2 ^ 64 = n := Nat.mod_eq_of_lt (by omega)
 have hq : (BitVec.ofNat 64 m ^^^ BitVec.ofNat 64 n).toNat = m ^^^ n := by rw [BitVec.toNat_xor, BitVec.toNat_ofNat, BitVec.toNat_ofNat, ha', hb']
 show 0 ≤ IntKind.i64.wrap (((BitVec.ofInt 64 (m : Int)) ^^^ (BitVec.ofInt 64 (n : Int))).toNat : Int)
 rw [BitVec.ofInt_natCast, BitVec.ofInt_natCast, hq, IntKind.wrap_i64]
 omega
theorem tmod_in (a n : Int) (ha : 0 ≤ a) (hn : 1 ≤ n) : 0 ≤ Int.tmod a n ∧ Int.tmod a n < n := by
 rw [Int.tmod_eq_emod_of_nonneg ha]
 exact ⟨Int.emod_nonneg _ (by omega), Int.emod_lt_of_pos _ (by omega)⟩
theorem tdiv_in (a n : Int) (ha : 0 ≤ a) (hn : 1 ≤ n) : 0 ≤ Int.tdiv a n ∧ Int.tdiv a n ≤ a := by
 rw [Int.tdiv_eq_ediv_of_nonneg ha]
 exact ⟨Int.ediv_nonneg ha (by omega), Int.ediv_le_self _ ha⟩
def Bytes (s : List Int) : Prop := ∀ x ∈ s, 0 ≤ x ∧ x < 256
theorem rd_byte (s : List Int) (hs : Bytes s) (i : Int) (h0 : 0 ≤ i) (h1 : i < s.length) : 0 ≤ rd s i ∧ rd s i < 256 := by
 have : i.toNat < s.length := by omega
 have e : rd s i = s[i.toNat] := by simp [rd, this]
 rw [e]; exact hs _ (List.getElem_mem this)
theorem pick_total (s : List Int) (hs : Bytes s) (hl : s.length ≤ 2000) (p n : Int) (hp : 0 ≤ p) (hp1 : p < 1099511627776) (hn : 1 ≤ n) (hn1 : n < 2147483648) :
  ∃ r, 0 ≤ r ∧ r < n ∧ ∀ k, spec_l12Rd_pick.f (k + 1) s p n = some (r, p + 1) := by
 have e1 : wrap64 (p + 1) = p + 1 := wrap_id (by omega) (by omega)
 have e2 : wrap64 (p + 1 - 1) = p := by rw [show p + 1 - 1 = p by omega]; exact wrap_id (by omega) (by omega)
 by_cases hz : s.length = 0
 ·refine ⟨0, by omega, by omega, fun k => ?_⟩
  have hz' : ((s.length : Int) == 0) = true := by rw [hz]; rfl
  rw [spec_l12Rd_pick.f, if_neg (by omega), spec_l12Rd_pick.j0, if_pos hz', e1]
 ·have hz' : ((s.length : Int) == 0) = false := beq_false_of_ne (by omega)
  by_cases hlt : p < (s.length : Int)
  ·have hb := rd_byte s hs p hp hlt
   have hw : wrap64 (rd s p) = rd s p := wrap_id (by omega) (by omega)
   have hm := tmod_in (rd s p) n hb.1 hn
   refine ⟨Int.tmod (rd s p) n, hm.1, hm.2, fun k => ?_⟩
   rw [spec_l12Rd_pick.f, if_neg (by omega), spec_l12Rd_pick.j0, hz', if_neg (by decide), e1, e2, if_pos hlt, if_pos hp, if_neg (by omega), hw]
  ·have i1 := tmod_in p (s.length : Int) hp (by omega)
   have w7 : wrap64 (p * 7) = p * 7 := wrap_id (by omega) (by omega)
   have w73 : wrap64 (p * 7 + 3) = p * 7 + 3 := wrap_id (by omega) (by omega)
   have i2 := tmod_in (p * 7 + 3) (s.length : Int) (by omega) (by omega)
   have q1 := rd_byte s hs _ i1.1 i1.2
   have q2 := rd_byte s hs _ i2.1 i2.2
   have dv := tdiv_in p (s.length : Int) hp (by omega)
   obtain ⟨a, ha⟩ : ∃ a, a = rd s (Int.tmod p (s.length : Int)) := ⟨_, rfl⟩
   obtain ⟨b, hb⟩ : ∃ b, b = rd s (Int.tmod (p * 7 + 3) (s.length : Int)) := ⟨_, rfl⟩
   obtain ⟨d, hd⟩ : ∃ d, d = Int.tdiv p (s.length : Int) := ⟨_, rfl⟩
   rw [← ha] at q1
   rw [← hb] at q2
   rw [← hd] at dv
   have wa : wrap64 a = a := wrap_id (by omega) (by omega)
   have wb : wrap64 b = b := wrap_id (by omega) (by omega)
   have wa1 : wrap64 (a * 131) = a * 131 := wrap_id (by omega) (by omega)
   have wb1 : wrap64 (b * 1117) = b * 1117 := wrap_id (by omega) (by omega)
   have wab : wrap64 (a * 131 + b * 1117) = a * 131 + b * 1117 := wrap_id (by omega) (by omega)
   have wp : wrap64 (p * 29) = p * 29 := wrap_id (by omega) (by omega)
   have wabp : wrap64 (a * 131 + b * 1117 + p * 29) = a * 131 + b * 1117 + p * 29 := wrap_id (by omega) (by omega)
   have wd0 : wrap64 d = d := wrap_id (by omega) (by omega)
   have wd : wrap64 (d * 53) = d * 53 := wrap_id (by omega) (by omega)
   have wx : wrap64 (a * 131 + b * 1117 + p * 29 + d * 53) = a * 131 + b * 1117 + p * 29 + d * 53 := wrap_id (by omega) (by omega)
   have dx := tdiv_in (a * 131 + b * 1117 + p * 29 + d * 53) 64 (by omega) (by omega)
   have wdx : wrap64 (Int.tdiv (a * 131 + b * 1117 + p * 29 + d * 53) 64) = Int.tdiv (a * 131 + b * 1117 + p * 29 + d * 53) 64 := wrap_id (by omega) (by omega)
   have hx := xor_nonneg (a * 131 + b * 1117 + p * 29 + d * 53) (Int.tdiv (a * 131 + b * 1117 + p * 29 + d * 53) 64) (by omega) (by omega) dx.1 (by omega)
   have hm := tmod_in _ n hx hn
   refine ⟨_, hm.1, hm.2, fun k => ?_⟩
   rw [spec_l12Rd_pick.f, if_neg (by omega), spec_l12Rd_pick.j0, hz', if_neg (by decide), e1, e2, if_neg hlt, if_neg (by omega), w7, w73, if_pos i1.1, if_pos i1.2, if_pos i2.1, if_pos i2.2, if_neg (by omega), ← ha, ← hb, ← hd]
   simp only [wa, wb, wa1, wb1, wab, wp, wabp, wd0, wd, wx, wdx]
end Go.Proofs.Ytacbbpbopmdpeaa.B
/- The draws of numbers, places and expressions end. -/
namespace Go.Proofs.Ytacbbpbopmdpeaa.B
open Go.RowKit Go.Proofs.YtacbbpbopmdpeaaW.PrintWords Go.Proofs.YtacbbpbopmdpeaaW.PrintLast Go.Proofs.YtacbbpbopmdpeaaW.PrintMore
set_option linter.unusedVariables false

/-- A tree whose lists are short indeed. -/
inductive Tiny : Ex → Prop
 | mk (e : Ex) : e.f3.length ≤ 1000 → (∀ x ∈ e.f3, Tiny x) → Tiny e
theorem Tiny.short {e : Ex} (h : Tiny e) : Short e := by
 induction h with
 | mk e hl _ ih => exact .mk e (by omega) ih
theorem rd_mem (l : List Int) (i : Int) (h0 : 0 ≤ i) (h1 : i < l.length) : rd l i ∈ l := by
 have : i.toNat < l.length := by omega
 have e : rd l i = l[i.toNat] := by simp [rd, this]
 rw [e]; exact List.getElem_mem this
theorem num_total (s : List Int) (hs : Bytes s) (hl : s.length ≤ 2000) (p : Int) (hp : 0 ≤ p) (hp1 : p < 1099511627776) (l : List Int) (h1 : 1 ≤ l.length) (h2 : l.length < 1000) :
  ∃ x, x ∈ l ∧ ∀ k, spec_l12Rd_num.f (k + 1) s p l = some (x, p + 1) := by
 obtain ⟨r, r0, r1, hr⟩ := pick_total s hs hl p l.length hp hp1 (by omega) (by omega)
 refine ⟨rd l r, rd_mem l r r0 r1, fun k => ?_⟩
 rw [spec_l12Rd_num.f, hr k]
 simp only [Option.bind_some, if_pos r0, if_pos r1]
theorem addr_total (s : List Int) (hs : Bytes s) (hl : s.length ≤ 2000) (p : Int) (hp : 0 ≤ p) (hp1 : p < 1099511627770) :
  ∃ a b : Int, (1 ≤ a ∧ a ≤ 3) ∧ (0 ≤ b ∧ b < 3) ∧ ∀ k, spec_l2Addr.f (k + 1) s p = some (a, b, p + 2) := by
 obtain ⟨r, r0, r1, hr⟩ := pick_total s hs hl p 3 hp (by omega) (by omega) (by omega)
 obtain ⟨q, q0, q1, hq⟩ := pick_total s hs hl (p + 1) 3 (by omega) (by omega) (by omega) (by omega)
 refine ⟨1 + r, q, by omega, by omega, fun k => ?_⟩
 rw [spec_l2Addr.f, hr k]
 simp only [Option.bind_some]
 rw [hq k]
 simp only [Option.bind_some]
 rw [wrap_id (by omega) (by omega), show p + 1 + 1 = p + 2 by omega]
/-- What a draw of an expression leaves. -/
def Drew1 (o : Option (Int × Int × Int × Int × List Ex × Int)) (e : Ex) (p : Int) : Prop := o = some (e.f0, e.f1, e.f2.f0, e.f2.f1, e.f3, p)
theorem leaf_total (s : List Int) (hs : Bytes s) (hl : s.length ≤ 2000) (p : Int) (hp : 0 ≤ p) (hp1 : p < 1099511627000) (a1 : Int) :
  ∃ (e : Ex) (p' : Int), Tiny e ∧ p ≤ p' ∧ p' ≤ p + 3 ∧ ∀ k, Drew1 (spec_l3Expr.j0 (k + 2) a1 true s p) e p' := by
 obtain ⟨r, r0, r1, hr⟩ := pick_total s hs hl p 3 hp (by omega) (by omega) (by omega)
 by_cases hz : r = 0
 ·obtain ⟨x, hx, hn⟩ := num_total s hs hl (p + 1) (by omega) (by omega) [0, 1, 2, 3, (-1), 5, 1000000] (by simp) (by simp)
  refine ⟨⟨1, x, ⟨0, 0⟩, []⟩, p + 1 + 1, .mk _ (by simp) (by simp), by omega, by omega, fun k => ?_⟩
  unfold Drew1
  rw [spec_l3Expr.j0, if_pos rfl, hr k]
  simp only [Option.bind_some, if_pos hz]
  rw [hn k]; rfl
 ·obtain ⟨a, b, ha, hb, hq⟩ := addr_total s hs hl (p + 1) (by omega) (by omega)
  refine ⟨⟨2, 0, ⟨a, b⟩, []⟩, p + 1 + 2, .mk _ (by simp) (by simp), by omega, by omega, fun k => ?_⟩
  unfold Drew1
  rw [spec_l3Expr.j0, if_pos rfl, hr k]
  simp only [Option.bind_some, if_neg hz]
  rw [hq k]; rfl
theorem mono_ef (s : List Int) (p a : Int) : ∀ k, LeO (spec_l3Expr.f k s p a) (spec_l3Expr.f (k + 1) s p a) := fun k => (spec_l3Expr.mono_l k).1 s p a
theorem mono_el (x n : Int) (s : List Int) (p a b c d : Int) (l : List Ex) : ∀ k, LeO (spec_l3Expr.l0 k x n s p a b c d l) (spec_l3Expr.l0 (k + 1) x n s p a b c d l) := fun k => (spec_l3Expr.mono_l k).2.2 x n s p a b c d l
def bnd : Nat → Int
 | 0 => 10
 | d + 1 => 10 + 2 * bnd d
theorem kids_total (s : List Int) (d : Nat) (kd : Int) (B : Int) (hB : 0 ≤ B) (ih : ∀ p : Int, 0 ≤ p → p + B < 1099510000000 → ∃ (e : Ex) (p' : Int) (k : Nat), Tiny e ∧ p ≤ p' ∧ p' ≤ p + B ∧ Drew1 (spec_l3Expr.f k s p d) e p') (hd : d < 1000) :
  ∀ (n : Nat) (p : Int) (acc : List Ex), 0 ≤ p → p + n * B < 1099510000000 → acc.length + n ≤ 2 → (∀ x ∈ acc, Tiny x) →
   ∃ (l : List Ex) (p' : Int) (k : Nat), l.length = acc.length + n ∧ (∀ x ∈ l, Tiny x) ∧ p ≤ p' ∧ p' ≤ p + n * B ∧ spec_l3Expr.l0 k ((d : Int) + 1) n s p kd 0 0 0 acc = some (kd, 0, 0, 0, l, p') := by
 intro n
 induction n with
 | zero =>
  intro p acc hp hpb ha hacc
  exact ⟨acc, p, 1, by omega, hacc, by omega, by omega, by rw [spec_l3Expr.l0, if_neg (by omega)]⟩
 | succ n ihn =>
  intro p acc hp hpb ha hacc
  have e1 : ((n + 1 : Nat) : Int) * B = n * B + B := by rw [Int.natCast_add, Int.add_mul]; simp
  have nb : 0 ≤ (n : Int) * B := Int.mul_nonneg (by omega) hB
  rw [e1] at hpb
  obtain ⟨e, p1, k1, he, q1, q2, hk1⟩ := ih p hp (by omega)
  obtain ⟨l, p2, k2, hl1, hl2, q3, q4, hk2⟩ := ihn p1 (acc ++ [e]) (by omega) (by omega) (by simp; omega) (by intro x hx; rcases List.mem_append.1 hx with hx | hx; exact hacc x hx; simp at hx; rw [hx]; exact he)
  refine ⟨l, p2, k1 + k2 + 1, by rw [hl1]; simp; omega, hl2, by omega, by rw [e1]; omega, ?_⟩
  unfold Drew1 at hk1
  rw [spec_l3Expr.l0, if_pos (by omega), show (d : Int) + 1 - 1 = d by omega, wrap_id (n := (d : Int)) (by omega) (by omega), up_le (mono_ef _ _ _) (Nat.le_add_right k1 k2) hk1]
  simp only [Option.bind_some]
  rw [if_pos (by omega), show (((n + 1 : Nat) : Int) - 1) = (n : Int) by omega, wrap_id (n := (n : Int)) (by omega) (by omega)]
  have eta : (⟨e.f0, e.f1, ⟨e.f2.f0, e.f2.f1⟩, e.f3⟩ : Ex) = e := by cases e with | mk a b c l => cases c; rfl
  rw [eta]
  exact up_le (mono_el _ _ _ _ _ _ _ _ _) (Nat.le_add_left k2 k1) hk2
theorem bnd_pos (d : Nat) : 10 ≤ bnd d := by
 induction d with
 | zero => simp [bnd]
 | succ d ih => simp [bnd]; omega
theorem bnd_le (d : Nat) : d ≤ 10 → bnd d ≤ 100000 := by
 intro h
 have : d = 0 ∨ d = 1 ∨ d = 2 ∨ d = 3 ∨ d = 4 ∨ d = 5 ∨ d = 6 ∨ d = 7 ∨ d = 8 ∨ d = 9 ∨ d = 10 := by omega
 rcases this with rfl | rfl | rfl | rfl | rfl | rfl | rfl | rfl | rfl | rfl | rfl <;> decide
theorem expr_total (s : List Int) (hs : Bytes s) (hl : s.length ≤ 2000) (d : Nat) : d ≤ 10 → ∀ p : Int, 0 ≤ p → p + bnd d < 1099510000000 → ∃ (e : Ex) (p' : Int) (k : Nat), Tiny e ∧ p ≤ p' ∧ p' ≤ p + bnd d ∧ Drew1 (spec_l3Expr.f k s p d) e p' := by
 induction d with
 | zero =>
  intro _ p hp hp1
  have h10 := bnd_pos 0
  obtain ⟨e, p', he, q1, q2, h⟩ := leaf_total s hs hl p hp (by omega) 0
  refine ⟨e, p', 3, he, q1, by simp only [bnd]; omega, ?_⟩
  have := h 0
  unfold Drew1 at this ⊢
  rw [spec_l3Expr.f, if_pos (by omega)]
  exact this
 | succ d ih =>
  intro hd p hp hp1
  have hb := bnd_pos d
  have hb2 := bnd_le d (by omega)
  have hbd : bnd (d + 1) = 10 + 2 * bnd d := rfl
  by_cases h0 : d = 0
  ·subst h0
   obtain ⟨e, p', he, q1, q2, h⟩ := leaf_total s hs hl p hp (by omega) 1
   refine ⟨e, p', 3, he, q1, by omega, ?_⟩
   have := h 0
   unfold Drew1 at this ⊢
   rw [spec_l3Expr.f, if_pos (by omega)]
   exact this
  ·obtain ⟨r, r0, r1, hr⟩ := pick_total s hs hl p 4 hp (by omega) (by omega) (by omega)
   by_cases hz : r = 0
   ·obtain ⟨e, p', he, q1, q2, h⟩ := leaf_total s hs hl (p + 1) (by omega) (by omega) ((d + 1 : Nat) : Int)
    refine ⟨e, p', 3, he, by omega, by omega, ?_⟩
    have := h 0
    unfold Drew1 at this ⊢
    rw [spec_l3Expr.f, if_neg (by omega), hr 1]
    simp only [Option.bind_some, hz]
    exact this
   ·obtain ⟨x, hx, hn⟩ := num_total s hs hl (p + 1) (by omega) (by omega) [3, 3, 4, 5, 6, 6, 7, 8, 9, 10] (by simp) (by simp)
    have hx' : 3 ≤ x ∧ x ≤ 10 := by
     simp only [List.mem_cons, List.mem_nil_iff, or_false] at hx
     omega
    have hk2 : kidsN x = 1 ∨ kidsN x = 2 := by
     unfold kidsN
     rw [if_neg (by omega)]
     split
     ·exact .inr rfl
     ·exact .inl rfl
    obtain ⟨n, hn2, hnk⟩ : ∃ n : Nat, n ≤ 2 ∧ kidsN x = (n : Int) := by
     rcases hk2 with h | h
     ·exact ⟨1, by omega, by rw [h]; rfl⟩
     ·exact ⟨2, by omega, by rw [h]; rfl⟩
    have hmul : (n : Int) * bnd d ≤ 2 * bnd d := Int.mul_le_mul_of_nonneg_right (by omega) (by omega)
    obtain ⟨l, p', k, hl1, hl2, q1, q2, h⟩ := kids_total s d x (bnd d) (by omega) (fun q hq0 hq1 => ih (by omega) q hq0 hq1) (by omega) n (p + 2) [] (by omega) (by omega) (by simpa using hn2) (by simp)
    simp only [List.length_nil, Nat.zero_add] at hl1
    refine ⟨⟨x, 0, ⟨0, 0⟩, l⟩, p', k + 4, .mk _ (by show l.length ≤ _; omega) hl2, by omega, by omega, ?_⟩
    unfold Drew1
    have hz' : (r == 0) = false := beq_false_of_ne hz
    have hko : kindOk x = true := by unfold kindOk; exact decide_eq_true (by omega)
    rw [spec_l3Expr.f, if_neg (by omega), hr (k + 2)]
    simp only [Option.bind_some, hz']
    rw [spec_l3Expr.j0, if_neg (by decide), hn (k + 1)]
    simp only [Option.bind_some]
    rw [l3Kids_is (k + 1), hko, if_pos rfl, hnk]
    simp only [Option.bind_some]
    rw [show p + 1 + 1 = p + 2 by omega, show ((d + 1 : Nat) : Int) = (d : Int) + 1 by omega]
    exact up_le (mono_el _ _ _ _ _ _ _ _ _) (by omega) h
end Go.Proofs.Ytacbbpbopmdpeaa.B
/- The draws of what is ok, and the copies, end. -/
namespace Go.Proofs.Ytacbbpbopmdpeaa.B
open Go.RowKit Go.Proofs.YtacbbpbopmdpeaaW.PrintWords Go.Proofs.YtacbbpbopmdpeaaW.PrintLast Go.Proofs.YtacbbpbopmdpeaaW.PrintMore
set_option linter.unusedVariables false

theorem some_total (s : List Int) (hs : Bytes s) (hl : s.length ≤ 2000) (p : Int) (hp : 0 ≤ p) (hp1 : p < 1099500000000) :
  ∃ (e : Ex) (p' : Int) (k : Nat), Tiny e ∧ p ≤ p' ∧ p' ≤ p + 200002 ∧ Drew1 (spec_l3Some.f k s p) e p' := by
 obtain ⟨r, r0, r1, hr⟩ := pick_total s hs hl p 4 hp (by omega) (by omega) (by omega)
 obtain ⟨d, hd⟩ := Int.eq_ofNat_of_zero_le r0
 have hd4 : d < 4 := by omega
 have b1 := bnd_le (d + 1) (by omega)
 have b2 := bnd_le 2 (by omega)
 have b3 := bnd_pos (d + 1)
 have b4 := bnd_pos 2
 obtain ⟨e, p1, k1, he, q1, q2, h1⟩ := expr_total s hs hl (d + 1) (by omega) (p + 1) (by omega) (by omega)
 obtain ⟨k2, h2⟩ := exprOk_spec e he.short
 obtain ⟨e', p2, k3, he', q3, q4, h3⟩ := expr_total s hs hl 2 (by omega) p1 (by omega) (by omega)
 unfold Drew1 at h1 h3
 have m1 : spec_l3Expr.f (k1 + k2 + k3 + 1) s (p + 1) ((d + 1 : Nat) : Int) = _ := up_le (mono_ef _ _ _) (by omega) h1
 have m2 : spec_ExprOk.f (k1 + k2 + k3 + 1) e.f0 e.f1 e.f2.f0 e.f2.f1 e.f3 = _ := up_le (f := fun k => spec_ExprOk.f k e.f0 e.f1 e.f2.f0 e.f2.f1 e.f3) (fun k => spec_ExprOk.mono _ _ _ _ _ k) (show k2 ≤ k1 + k2 + k3 + 1 by omega) h2
 have m3 : spec_l3Expr.f (k1 + k2 + k3 + 1) s p1 2 = _ := up_le (mono_ef _ _ _) (by omega) h3
 have e1 : wrap64 (1 + r) = ((d + 1 : Nat) : Int) := by rw [wrap_id (by omega) (by omega)]; omega
 cases hv : (formS 6 e && decide (manyS 6 e ≤ 14)) with
 | true =>
  refine ⟨e, p1, k1 + k2 + k3 + 1, he, by omega, by omega, ?_⟩
  unfold Drew1
  rw [spec_l3Some.f, hr (k1 + k2 + k3)]
  simp only [Option.bind_some]
  rw [e1, m1]
  simp only [Option.bind_some]
  rw [m2, hv]
  simp
 | false =>
  refine ⟨e', p2, k1 + k2 + k3 + 1, he', by omega, by omega, ?_⟩
  unfold Drew1
  rw [spec_l3Some.f, hr (k1 + k2 + k3)]
  simp only [Option.bind_some]
  rw [e1, m1]
  simp only [Option.bind_some]
  rw [m2, hv]
  simp only [Option.bind_some, Bool.false_eq_true, if_false]
  rw [m3]
  simp

theorem addrBent_total (s : List Int) (hs : Bytes s) (hl : s.length ≤ 2000) (p : Int) (hp : 0 ≤ p) (hp1 : p < 1099500000000) :
  ∃ (a b p' : Int), p ≤ p' ∧ p' ≤ p + 4 ∧ ∀ k, spec_l2AddrBent.f (k + 1) s p = some (a, b, p') := by
 obtain ⟨a, b, ha, hb, hq⟩ := addr_total s hs hl p hp (by omega)
 obtain ⟨r, r0, r1, hr⟩ := pick_total s hs hl (p + 2) 16 (by omega) (by omega) (by omega) (by omega)
 obtain ⟨x, hx, hn⟩ := num_total s hs hl (p + 2 + 1) (by omega) (by omega) [0, 4, (-1)] (by simp) (by simp)
 obtain ⟨y, hy, hm⟩ := num_total s hs hl (p + 2 + 1) (by omega) (by omega) [(-1), 6, 5] (by simp) (by simp)
 by_cases h0 : r = 0
 ·refine ⟨x, b, p + 2 + 1 + 1, by omega, by omega, fun k => ?_⟩
  rw [spec_l2AddrBent.f, hq k]
  simp only [Option.bind_some]
  rw [hr k]
  simp only [Option.bind_some, if_pos h0]
  rw [hn k]; rfl
 ·by_cases h1 : r = 1
  ·refine ⟨a, y, p + 2 + 1 + 1, by omega, by omega, fun k => ?_⟩
   rw [spec_l2AddrBent.f, hq k]
   simp only [Option.bind_some]
   rw [hr k]
   simp only [Option.bind_some, if_neg h0, if_pos h1]
   rw [hm k]; rfl
  ·refine ⟨a, b, p + 2 + 1, by omega, by omega, fun k => ?_⟩
   rw [spec_l2AddrBent.f, hq k]
   simp only [Option.bind_some]
   rw [hr k]
   simp only [Option.bind_some, if_neg h0, if_neg h1]
theorem mono_cf (a b c d : Int) (l : List Ex) : ∀ k, LeO (spec_l3Copy.f k a b c d l) (spec_l3Copy.f (k + 1) a b c d l) := fun k => (spec_l3Copy.mono_l k).1 a b c d l
theorem mono_cl (x a b c d : Int) (l : List Ex) (a' b' c' d' : Int) (l' : List Ex) : ∀ k, LeO (spec_l3Copy.l0 k x a b c d l a' b' c' d' l') (spec_l3Copy.l0 (k + 1) x a b c d l a' b' c' d' l') := fun k => (spec_l3Copy.mono_l k).2 x a b c d l a' b' c' d' l'
theorem copy_total (e : Ex) (he : Tiny e) : ∃ k, spec_l3Copy.f k e.f0 e.f1 e.f2.f0 e.f2.f1 e.f3 = some (e.f0, e.f1, e.f2.f0, e.f2.f1, e.f3) := by
 induction he with
 | mk e hl hk ih =>
  have loop : ∀ (n j : Nat), n + j = e.f3.length → ∃ k, spec_l3Copy.l0 k j e.f0 e.f1 e.f2.f0 e.f2.f1 e.f3 e.f0 e.f1 e.f2.f0 e.f2.f1 (e.f3.take j) = some (e.f0, e.f1, e.f2.f0, e.f2.f1, e.f3) := by
   intro n
   induction n with
   | zero => intro j hj; exact ⟨1, by rw [spec_l3Copy.l0, if_neg (by omega), List.take_of_length_le (by omega)]⟩
   | succ n ihn =>
    intro j hj
    have hlt : j < e.f3.length := by omega
    obtain ⟨k1, h1⟩ := ih e.f3[j] (List.getElem_mem hlt)
    obtain ⟨k2, h2⟩ := ihn (j + 1) (by omega)
    refine ⟨k1 + k2 + 1, ?_⟩
    have eta : (⟨e.f3[j].f0, e.f3[j].f1, ⟨e.f3[j].f2.f0, e.f3[j].f2.f1⟩, e.f3[j].f3⟩ : Ex) = e.f3[j] := by cases e.f3[j] with | mk a b c l => cases c; rfl
    rw [spec_l3Copy.l0, if_pos (by omega), if_pos (by omega), rd_get e.f3 j hlt, up_le (mono_cf _ _ _ _ _) (Nat.le_add_right k1 k2) h1]
    simp only [Option.bind_some]
    rw [if_pos (by simp; omega), wrap_id (by omega) (by omega), eta, ← List.take_succ_eq_append_getElem hlt]
    exact up_le (mono_cl _ _ _ _ _ _ _ _ _ _ _) (Nat.le_add_left k2 k1) h2
  obtain ⟨k, h⟩ := loop e.f3.length 0 (by omega)
  exact ⟨k + 1, by rw [spec_l3Copy.f]; simpa using h⟩
end Go.Proofs.Ytacbbpbopmdpeaa.B
/- The draw of an expression that may be bent ends. -/
namespace Go.Proofs.Ytacbbpbopmdpeaa.B
open Go.RowKit Go.Proofs.YtacbbpbopmdpeaaW.PrintWords Go.Proofs.YtacbbpbopmdpeaaW.PrintLast Go.Proofs.YtacbbpbopmdpeaaW.PrintMore
set_option linter.unusedVariables false

theorem ex_eta (e : Ex) : (⟨e.f0, e.f1, ⟨e.f2.f0, e.f2.f1⟩, e.f3⟩ : Ex) = e := by cases e with | mk a b c l => cases c; rfl
theorem bent_loop0 (s : List Int) (p : Int) : ∀ (n j : Nat), n + j = 6 → ∀ e : Ex, Tiny e → ∃ e', Tiny e' ∧ ∀ k, n + 1 ≤ k → Drew1 (spec_l3Bent.l0 k j s p e.f0 e.f1 e.f2.f0 e.f2.f1 e.f3) e' p := by
 intro n
 induction n with
 | zero =>
  intro j hj e he
  refine ⟨e, he, fun k hk => ?_⟩
  obtain ⟨k', rfl⟩ : ∃ k', k = k' + 1 := ⟨k - 1, by omega⟩
  unfold Drew1
  rw [spec_l3Bent.l0, if_neg (by omega)]
 | succ n ihn =>
  intro j hj e he
  obtain ⟨e', he', h⟩ := ihn (j + 1) (by omega) ⟨10, 0, ⟨0, 0⟩, [e]⟩ (.mk _ (by simp) (by intro x hx; simp at hx; rw [hx]; exact he))
  refine ⟨e', he', fun k hk => ?_⟩
  obtain ⟨k', rfl⟩ : ∃ k', k = k' + 1 := ⟨k - 1, by omega⟩
  have := h k' (by omega)
  unfold Drew1 at this ⊢
  rw [spec_l3Bent.l0, if_pos (by omega), wrap_id (by omega) (by omega), ex_eta]
  exact this
theorem bent_loop1 (s : List Int) (p : Int) : ∀ (n j : Nat), n + j = 4 → ∀ e : Ex, Tiny e → ∃ e' K, Tiny e' ∧ ∀ k, K ≤ k → Drew1 (spec_l3Bent.l1 k j s p e.f0 e.f1 e.f2.f0 e.f2.f1 e.f3) e' p := by
 intro n
 induction n with
 | zero =>
  intro j hj e he
  refine ⟨e, 1, he, fun k hk => ?_⟩
  obtain ⟨k', rfl⟩ : ∃ k', k = k' + 1 := ⟨k - 1, by omega⟩
  unfold Drew1
  rw [spec_l3Bent.l1, if_neg (by omega)]
 | succ n ihn =>
  intro j hj e he
  obtain ⟨kc, hc⟩ := copy_total e he
  obtain ⟨e', K, he', h⟩ := ihn (j + 1) (by omega) ⟨3, 0, ⟨0, 0⟩, [e, e]⟩ (.mk _ (by simp) (by intro x hx; simp at hx; rw [hx]; exact he))
  refine ⟨e', kc + K + 1, he', fun k hk => ?_⟩
  obtain ⟨k', rfl⟩ : ∃ k', k = k' + 1 := ⟨k - 1, by omega⟩
  have := h k' (by omega)
  unfold Drew1 at this ⊢
  rw [spec_l3Bent.l1, if_pos (by omega), up_le (mono_cf _ _ _ _ _) (show kc ≤ k' by omega) hc]
  simp only [Option.bind_some]
  rw [wrap_id (by omega) (by omega), ex_eta]
  exact this
theorem some_up (s : List Int) (p : Int) {k k' : Nat} (h : k ≤ k') {e : Ex} {q : Int} (hk : Drew1 (spec_l3Some.f k s p) e q) : Drew1 (spec_l3Some.f k' s p) e q := up_le (f := fun k => spec_l3Some.f k s p) (fun k => spec_l3Some.mono _ _ k) h hk
theorem bent_total (s : List Int) (hs : Bytes s) (hl : s.length ≤ 2000) (p : Int) (hp : 0 ≤ p) (hp1 : p < 1099400000000) :
  ∃ (e : Ex) (p' : Int) (K : Nat), Tiny e ∧ p ≤ p' ∧ p' ≤ p + 200007 ∧ ∀ k, K ≤ k → Drew1 (spec_l3Bent.f k s p) e p' := by
 obtain ⟨e, p1, k1, he, q1, q2, h1⟩ := some_total s hs hl p hp (by omega)
 obtain ⟨r, r0, r1, hr⟩ := pick_total s hs hl p1 60 (by omega) (by omega) (by omega) (by omega)
 have hs1 : ∀ k, k1 + 1 ≤ k → spec_l3Some.f k s p = some (e.f0, e.f1, e.f2.f0, e.f2.f1, e.f3, p1) ∧ spec_l12Rd_pick.f k s p1 60 = some (r, p1 + 1) := fun k hk => by
  obtain ⟨k', rfl⟩ : ∃ k', k = k' + 1 := ⟨k - 1, by omega⟩
  exact ⟨some_up s p (by omega) h1, hr k'⟩
 by_cases h0 : r = 0
 ·obtain ⟨x, hx, hn⟩ := num_total s hs hl (p1 + 1) (by omega) (by omega) [0, 11, 3, 10] (by simp) (by simp)
  refine ⟨⟨x, e.f1, e.f2, e.f3⟩, p1 + 1 + 1, k1 + 1, ?_, by omega, by omega, fun k hk => ?_⟩
  ·cases he with | mk _ a b => exact .mk _ a b
  ·obtain ⟨s1, s2⟩ := hs1 k hk
   obtain ⟨k', rfl⟩ : ∃ k', k = k' + 1 := ⟨k - 1, by omega⟩
   unfold Drew1
   rw [spec_l3Bent.f, s1]
   simp only [Option.bind_some]
   rw [s2]
   simp only [Option.bind_some, if_pos h0]
   rw [hn k']; rfl
 ·by_cases h1' : r = 1
  ·obtain ⟨x, hx, hn⟩ := num_total s hs hl (p1 + 1) (by omega) (by omega) [1, 1000001] (by simp) (by simp)
   refine ⟨⟨e.f0, x, e.f2, e.f3⟩, p1 + 1 + 1, k1 + 1, ?_, by omega, by omega, fun k hk => ?_⟩
   ·cases he with | mk _ a b => exact .mk _ a b
   ·obtain ⟨s1, s2⟩ := hs1 k hk
    obtain ⟨k', rfl⟩ : ∃ k', k = k' + 1 := ⟨k - 1, by omega⟩
    unfold Drew1
    rw [spec_l3Bent.f, s1]
    simp only [Option.bind_some]
    rw [s2]
    simp only [Option.bind_some, if_neg h0, if_pos h1']
    rw [hn k']; rfl
  ·by_cases h2 : r = 2
   ·obtain ⟨a, b, p2, q3, q4, hn⟩ := addrBent_total s hs hl (p1 + 1) (by omega) (by omega)
    refine ⟨⟨e.f0, e.f1, ⟨a, b⟩, e.f3⟩, p2, k1 + 1, ?_, by omega, by omega, fun k hk => ?_⟩
    ·cases he with | mk _ a b => exact .mk _ a b
    ·obtain ⟨s1, s2⟩ := hs1 k hk
     obtain ⟨k', rfl⟩ : ∃ k', k = k' + 1 := ⟨k - 1, by omega⟩
     unfold Drew1
     rw [spec_l3Bent.f, s1]
     simp only [Option.bind_some]
     rw [s2]
     simp only [Option.bind_some, if_neg h0, if_neg h1', if_pos h2]
     rw [hn k']; rfl
   ·by_cases h3 : r = 3
    ·obtain ⟨e', he', h⟩ := bent_loop0 s (p1 + 1) 6 0 (by omega) e he
     refine ⟨e', p1 + 1, k1 + 8, he', by omega, by omega, fun k hk => ?_⟩
     obtain ⟨s1, s2⟩ := hs1 k (by omega)
     have := h k (by omega)
     unfold Drew1 at this ⊢
     rw [spec_l3Bent.f, s1]
     simp only [Option.bind_some]
     rw [s2]
     simp only [Option.bind_some, if_neg h0, if_neg h1', if_neg h2, if_pos h3]
     exact this
    ·by_cases h4 : r = 4
     ·obtain ⟨e', K, he', h⟩ := bent_loop1 s (p1 + 1) 4 0 (by omega) e he
      refine ⟨e', p1 + 1, k1 + 1 + K, he', by omega, by omega, fun k hk => ?_⟩
      obtain ⟨s1, s2⟩ := hs1 k (by omega)
      have := h k (by omega)
      unfold Drew1 at this ⊢
      rw [spec_l3Bent.f, s1]
      simp only [Option.bind_some]
      rw [s2]
      simp only [Option.bind_some, if_neg h0, if_neg h1', if_neg h2, if_neg h3, if_pos h4]
      exact this
     ·refine ⟨e, p1 + 1, k1 + 1, he, by omega, by omega, fun k hk => ?_⟩
      obtain ⟨s1, s2⟩ := hs1 k hk
      unfold Drew1
      rw [spec_l3Bent.f, s1]
      simp only [Option.bind_some]
      rw [s2]
      simp only [Option.bind_some, if_neg h0, if_neg h1', if_neg h2, if_neg h3, if_neg h4]
/-- A code that came in: its bytes, its opening. -/
theorem open_total (l : List Int) (hw : ∀ x ∈ l, (Lit.int .u8 x).wf = true) : ∃ s, Bytes s ∧ s.length ≤ 2000 ∧ spec_l12Open.f l = some (s, 0) := by
 have hb : Bytes l := fun x hx => by
  have := hw x hx
  simp [Lit.wf, IntKind.min, IntKind.max, IntKind.signed, IntKind.bits] at this
  omega
 by_cases h : (l.length : Int) > 2000
 ·refine ⟨l.take 2000, fun x hx => hb x (List.mem_of_mem_take hx), by simp; omega, ?_⟩
  rw [spec_l12Open.f, if_pos h, if_pos (by omega)]
 ·exact ⟨l, hb, by omega, by rw [spec_l12Open.f, if_neg h]⟩
end Go.Proofs.Ytacbbpbopmdpeaa.B
/- The draw of a memory ends: three lists of six. -/
namespace Go.Proofs.Ytacbbpbopmdpeaa.B
open Go.RowKit Go.Proofs.YtacbbpbopmdpeaaW.PrintWords Go.Proofs.YtacbbpbopmdpeaaW.PrintLast Go.Proofs.YtacbbpbopmdpeaaW.PrintMore
set_option linter.unusedVariables false

theorem mem_loop (s : List Int) (hs : Bytes s) (hl : s.length ≤ 2000) : ∀ (n j : Nat), n + j = 4 → ∀ (p : Int) (l0 l1 l2 : List Int), 0 ≤ p → p + 3 * n < 1099500000000 → l0.length = 6 → l1.length = 6 → l2.length = 6 →
  ∃ (m0 m1 m2 : List Int) (p' : Int), m0.length = 6 ∧ m1.length = 6 ∧ m2.length = 6 ∧ p ≤ p' ∧ p' ≤ p + 3 * n ∧ ∀ k, n + 1 ≤ k → spec_l2Mem.l0 (k + 1) j s p l0 l1 l2 = some (m0, m1, m2, p') := by
 intro n
 induction n with
 | zero =>
  intro j hj p l0 l1 l2 hp hp1 h0 h1 h2
  exact ⟨l0, l1, l2, p, h0, h1, h2, by omega, by omega, fun k _ => by rw [spec_l2Mem.l0, if_neg (by omega)]⟩
 | succ n ihn =>
  intro j hj p l0 l1 l2 hp hp1 h0 h1 h2
  obtain ⟨x, hx, e0⟩ := num_total s hs hl p hp (by omega) [0, 0, 1, 1, 2, 5, (-1)] (by simp) (by simp)
  obtain ⟨y, hy, e1⟩ := num_total s hs hl (p + 1) (by omega) (by omega) [0, 0, 1, 3] (by simp) (by simp)
  obtain ⟨z, hz, e2⟩ := num_total s hs hl (p + 1 + 1) (by omega) (by omega) [0, 0, 1, 2, 7, 1000000] (by simp) (by simp)
  obtain ⟨m0, m1, m2, p', q0, q1, q2, q3, q4, h⟩ := ihn (j + 1) (by omega) (p + 1 + 1 + 1) (l0.set j x) (l1.set j y) (l2.set j z) (by omega) (by omega) (by simpa using h0) (by simpa using h1) (by simpa using h2)
  refine ⟨m0, m1, m2, p', q0, q1, q2, by omega, by omega, fun k hk => ?_⟩
  obtain ⟨k', rfl⟩ : ∃ k', k = k' + 1 := ⟨k - 1, by omega⟩
  rw [spec_l2Mem.l0, if_pos (by omega), e0 k']
  simp only [Option.bind_some]
  rw [if_pos (by omega), if_pos (by omega), e1 k']
  simp only [Option.bind_some]
  rw [if_pos (by omega), e2 k']
  simp only [Option.bind_some]
  rw [if_pos (by omega), wrap_id (by omega) (by omega), Int.toNat_natCast]
  exact h k' (by omega)
theorem mem_total (s : List Int) (hs : Bytes s) (hl : s.length ≤ 2000) (p : Int) (hp : 0 ≤ p) (hp1 : p < 1099400000000) :
  ∃ (m0 m1 m2 : List Int) (p' : Int), m0.length = 6 ∧ m1.length = 6 ∧ m2.length = 6 ∧ p ≤ p' ∧ p' ≤ p + 12 ∧ ∀ k, 5 ≤ k → spec_l2Mem.f (k + 1) s p = some (m0, m1, m2, p') := by
 obtain ⟨m0, m1, m2, p', q0, q1, q2, q3, q4, h⟩ := mem_loop s hs hl 4 0 (by omega) p (List.replicate 6 0) (List.replicate 6 0) (List.replicate 6 0) hp (by omega) (by simp) (by simp) (by simp)
 refine ⟨m0, m1, m2, p', q0, q1, q2, q3, by omega, fun k hk => ?_⟩
 rw [spec_l2Mem.f, spec_MemOpen.f, if_pos (by decide)]
 simp only [Option.bind_some]
 exact h k hk
end Go.Proofs.Ytacbbpbopmdpeaa.B
/- The draws of what may be bent end: an expression, a memory, both. -/
namespace Go.Proofs.Ytacbbpbopmdpeaa.B
open Go.RowKit Go.Proofs.YtacbbpbopmdpeaaW.PrintWords Go.Proofs.YtacbbpbopmdpeaaW.PrintLast Go.Proofs.YtacbbpbopmdpeaaW.PrintMore
set_option linter.unusedVariables false

/-- Three lists that are short. -/
def Mini (l0 l1 l2 : List Int) : Prop := l0.length ≤ 7 ∧ l1.length ≤ 7 ∧ l2.length ≤ 7
theorem memBent_total (s : List Int) (hs : Bytes s) (hl : s.length ≤ 2000) (p : Int) (hp : 0 ≤ p) (hp1 : p < 1099300000000) :
  ∃ (m0 m1 m2 : List Int) (p' : Int), Mini m0 m1 m2 ∧ p ≤ p' ∧ p' ≤ p + 13 ∧ ∀ k, 6 ≤ k → spec_l2MemBent.f k s p = some (m0, m1, m2, p') := by
 obtain ⟨m0, m1, m2, p1, l0, l1, l2, q1, q2, hm⟩ := mem_total s hs hl p hp (by omega)
 obtain ⟨r, r0, r1, hr⟩ := pick_total s hs hl p1 30 (by omega) (by omega) (by omega) (by omega)
 have hs1 : ∀ k, 6 ≤ k → spec_l2Mem.f k s p = some (m0, m1, m2, p1) ∧ spec_l12Rd_pick.f k s p1 30 = some (r, p1 + 1) := fun k hk => by
  obtain ⟨k', rfl⟩ : ∃ k', k = k' + 1 := ⟨k - 1, by omega⟩
  exact ⟨hm k' (by omega), hr k'⟩
 by_cases h0 : r = 0
 ·refine ⟨m0.take 2, m1, m2, p1 + 1, ⟨by simp; omega, by omega, by omega⟩, by omega, by omega, fun k hk => ?_⟩
  obtain ⟨s1, s2⟩ := hs1 k hk
  rw [spec_l2MemBent.f, s1]
  simp only [Option.bind_some]
  rw [s2]
  simp only [Option.bind_some, if_pos h0]
  rw [if_pos (by omega)]; rfl
 ·by_cases h1 : r = 1
  ·refine ⟨m0, m1, m2.set 0 1000001, p1 + 1, ⟨by omega, by omega, by simp; omega⟩, by omega, by omega, fun k hk => ?_⟩
   obtain ⟨s1, s2⟩ := hs1 k hk
   rw [spec_l2MemBent.f, s1]
   simp only [Option.bind_some]
   rw [s2]
   simp only [Option.bind_some, if_neg h0, if_pos h1]
   rw [if_pos (by omega)]; rfl
  ·by_cases h2 : r = 2
   ·refine ⟨m0, m1 ++ [0], m2, p1 + 1, ⟨by omega, by simp; omega, by omega⟩, by omega, by omega, fun k hk => ?_⟩
    obtain ⟨s1, s2⟩ := hs1 k hk
    rw [spec_l2MemBent.f, s1]
    simp only [Option.bind_some]
    rw [s2]
    simp only [Option.bind_some, if_neg h0, if_neg h1, if_pos h2]
    rw [if_pos (by omega)]
   ·refine ⟨m0, m1, m2, p1 + 1, ⟨by omega, by omega, by omega⟩, by omega, by omega, fun k hk => ?_⟩
    obtain ⟨s1, s2⟩ := hs1 k hk
    rw [spec_l2MemBent.f, s1]
    simp only [Option.bind_some]
    rw [s2]
    simp only [Option.bind_some, if_neg h0, if_neg h1, if_neg h2]
theorem drawOf_total (l : List Int) (hw : ∀ x ∈ l, (Lit.int .u8 x).wf = true) :
  ∃ (e : Ex) (m0 m1 m2 : List Int) (K : Nat), Tiny e ∧ Mini m0 m1 m2 ∧ ∀ k, K ≤ k → spec_DrawExprOf.f k l = some (e.f0, e.f1, e.f2.f0, e.f2.f1, e.f3, m0, m1, m2) := by
 obtain ⟨s, hs, hl, ho⟩ := open_total l hw
 obtain ⟨e, p1, K, he, q1, q2, h1⟩ := bent_total s hs hl 0 (by omega) (by omega)
 obtain ⟨m0, m1, m2, p2, hm, q3, q4, h2⟩ := memBent_total s hs hl p1 (by omega) (by omega)
 refine ⟨e, m0, m1, m2, K + 6, he, hm, fun k hk => ?_⟩
 have := h1 k (by omega)
 unfold Drew1 at this
 rw [spec_DrawExprOf.f, ho]
 simp only [Option.bind_some]
 rw [this]
 simp only [Option.bind_some]
 rw [h2 k (by omega)]; rfl
end Go.Proofs.Ytacbbpbopmdpeaa.B
