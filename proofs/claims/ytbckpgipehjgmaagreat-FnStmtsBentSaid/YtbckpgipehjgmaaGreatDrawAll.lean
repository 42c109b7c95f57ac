import Derived.Test.YtbckpgipehjgmaaGreatPkA
import Derived.Laws.BitsLemmas
import Derived.Test.YtbckpgipehjgmaaGreatOkSpec
import Derived.Test.YtbckpgipehjgmaaGreatPkC
import Derived.Test.YtbckpgipehjgmaaGreatCntAll
/- The draws' pick ends, and is in its bounds. -/
namespace Go.Proofs.YtbckpgipehjgmaaGreat.B
open Go.RowKit Go.Proofs.YtbckpgipehjgmaaGreatW.PrintWords Go.Proofs.YtbckpgipehjgmaaGreatW.PrintLast Go.Proofs.YtbckpgipehjgmaaGreatW.PrintMore
set_option linter.unusedVariables false

theorem wrap_id {n : Int} (h0 : -9223372036854775808 ≤ n) (h1 : n ≤ 9223372036854775807) : wrap64 n = n := by
 unfold wrap64
 omega
theorem xor_nonneg (a b : Int) (ha : 0 ≤ a) (ha1 : a < 2 ^ 62) (hb : 0 ≤ b) (hb1 : b < 2 ^ 62) : 0 ≤ Go.bits .xor .i64 a b := by
 obtain ⟨m, rfl⟩ := Int.eq_ofNat_of_zero_le ha
 obtain ⟨n, rfl⟩ := Int.eq_ofNat_of_zero_le hb
 have hm : m < 2 ^ 62 := by omega
 have hn : n < 2 ^ 62 := by omega
 have hx := Nat.xor_lt_two_pow hm hn
 have ha' : m % 2 ^ 64 = m := Nat.mod_eq_of_lt (by omega)
 have hb' : n % 2 ^ 64 = n := Nat.mod_eq_of_lt (by omega)
 have hq : (BitVec.ofNat 64 m ^^^ BitVec.ofNat 64 n).toNat = m ^^^ n := by rw [BitVec.toNat_xor, BitVec.toNat_ofNat, BitVec.toNat_ofNat, ha', hb']
 show 0 ≤ IntKind.i64.wrap (((BitVec.ofInt 64 (m : Int)) ^^^ (BitVec.ofInt 64 (n : Int))).toNat : Int)
 rw [BitVec.ofInt_natCast, BitVec.ofInt_natCast, hq, IntKind.wrap_i64]
 omega
theorem tmod_in (a n : Int) (ha : 0 ≤ a) (hn : 1 ≤ n) : 0 ≤ Int.tmod a n ∧ Int.tmod a n < n := by
 rw [Int.tmod_eq_emod_of_nonneg ha]
 exact ⟨Int.emod_nonneg _ (by omega), Int.emod_lt_of_pos _ (by omega)⟩
theorem tdiv_in (a n : Int) (ha : 0 ≤ a) (hn : 1 ≤ n) : 0 ≤ Int.tdiv a n ∧ Int.tdiv a n ≤ a := by
 rw [Int.tdiv_eq_ediv_of_nonneg ha]
 exact ⟨Int.ediv_nonneg ha (by omega), Int.ediv_le_self _ ha⟩
def Bytes (s : List Int) : Prop := ∀ x ∈ s, 0 ≤ x ∧ x < 256
theorem rd_byte (s : List Int) (hs : Bytes s) (i : Int) (h0 : 0 ≤ i) (h1 : i < s.length) : 0 ≤ rd s i ∧ rd s i < 256 := by
 have : i.toNat < s.length := by omega
 have e : rd s i = s[i.toNat] := by simp [rd, this]
 rw [e]; exact hs _ (List.getElem_mem this)
theorem pick_total (s : List Int) (hs : Bytes s) (hl : s.length ≤ 2000) (p n : Int) (hp : 0 ≤ p) (hp1 : p < 1099511627776) (hn : 1 ≤ n) (hn1 : n < 2147483648) :
  ∃ r, 0 ≤ r ∧ r < n ∧ ∀ k, spec_l12Rd_pick.f (k + 1) s p n = some (r, p + 1) := by
 have e1 : wrap64 (p + 1) = p + 1 := wrap_id (by omega) (by omega)
 have e2 : wrap64 (p + 1 - 1) = p := by rw [show p + 1 - 1 = p by omega]; exact wrap_id (by omega) (by omega)
 by_cases hz : s.length = 0
 ·refine ⟨0, by omega, by omega, fun k => ?_⟩
  have hz' : ((s.length : Int) == 0) = true := by rw [hz]; rfl
  rw [spec_l12Rd_pick.f, if_neg (by omega), spec_l12Rd_pick.j0, if_pos hz', e1]
 ·have hz' : ((s.length : Int) == 0) = false := beq_false_of_ne (by omega)
  by_cases hlt : p < (s.length : Int)
  ·have hb := rd_byte s hs p hp hlt
   have hw : wrap64 (rd s p) = rd s p := wrap_id (by omega) (by omega)
   have hm := tmod_in (rd s p) n hb.1 hn
   refine ⟨Int.tmod (rd s p) n, hm.1, hm.2, fun k => ?_⟩
   rw [spec_l12Rd_pick.f, if_neg (by omega), spec_l12Rd_pick.j0, hz', if_neg (by decide), e1, e2, if_pos hlt, if_pos hp, if_neg (by omega), hw]
  ·have i1 := tmod_in p (s.length : Int) hp (by omega)
   have w7 : wrap64 (p * 7) = p * 7 := wrap_id (by omega) (by omega)
   have w73 : wrap64 (p * 7 + 3) = p * 7 + 3 := wrap_id (by omega) (by omega)
   have i2 := tmod_in (p * 7 + 3) (s.length : Int) (by omega) (by omega)
   have q1 := rd_byte s hs _ i1.1 i1.2
   have q2 := rd_byte s hs _ i2.1 i2.2
   have dv := tdiv_in p (s.length : Int) hp (by omega)
   obtain ⟨a, ha⟩ : ∃ a, a = rd s (Int.tmod p (s.length : Int)) := ⟨_, rfl⟩
   obtain ⟨b, hb⟩ : ∃ b, b = rd s (Int.tmod (p * 7 + 3) (s.length : Int)) := ⟨_, rfl⟩
   obtain ⟨d, hd⟩ : ∃ d, d = Int.tdiv p (s.length : Int) := ⟨_, rfl⟩
   rw [← ha] at q1
   rw [← hb] at q2
   rw [← hd] at dv
   have wa : wrap64 a = a := wrap_id (by omega) (by omega)
   have wb : wrap64 b = b := wrap_id (by omega) (by omega)
   have wa1 : wrap64 (a * 131) = a * 131 := wrap_id (by omega) (by omega)
   have wb1 : wrap64 (b * 1117) = b * 1117 := wrap_id (by omega) (by omega)
   have wab : wrap64 (a * 131 + b * 1117) = a * 131 + b * 1117 := wrap_id (by omega) (by omega)
   have wp : wrap64 (p * 29) = p * 29 := wrap_id (by omega) (by omega)
   have wabp : wrap64 (a * 131 + b * 1117 + p * 29) = a * 131 + b * 1117 + p * 29 := wrap_id (by omega) (by omega)
   have wd0 : wrap64 d = d := wrap_id (by omega) (by omega)
   have wd : wrap64 (d * 53) = d * 53 := wrap_id (by omega) (by omega)
   have wx : wrap64 (a * 131 + b * 1117 + p * 29 + d * 53) = a * 131 + b * 1117 + p * 29 + d * 53 := wrap_id (by omega) (by omega)
   have dx := tdiv_in (a * 131 + b * 1117 + p * 29 + d * 53) 64 (by omega) (by omega)
   have wdx : wrap64 (Int.tdiv (a * 131 + b * 1117 + p * 29 + d * 53) 64) = Int.tdiv (a * 131 + b * 1117 + p * 29 + d * 53) 64 := wrap_id (by omega) (by omega)
   have hx := xor_nonneg (a * 131 + b * 1117 + p * 29 + d * 53) (Int.tdiv (a * 131 + b * 1117 + p * 29 + d * 53) 64) (by omega) (by omega) dx.1 (by omega)
   have hm := tmod_in _ n hx hn
   refine ⟨_, hm.1, hm.2, fun k => ?_⟩
   rw [spec_l12Rd_pick.f, if_neg (by omega), spec_l12Rd_pick.j0, hz', if_neg (by decide), e1, e2, if_neg hlt, if_neg (by omega), w7, w73, if_pos i1.1, if_pos i1.2, if_pos i2.1, if_pos i2.2, if_neg (by omega), ← ha, ← hb, ← hd]
   simp only [wa, wb, wa1, wb1, wab, wp, wabp, wd0, wd, wx, wdx]
end Go.Proofs.YtbckpgipehjgmaaGreat.B
/- The draws of numbers, places and expressions end. -/
namespace Go.Proofs.YtbckpgipehjgmaaGreat.B
open Go.RowKit Go.Proofs.YtbckpgipehjgmaaGreatW.PrintWords Go.Proofs.YtbckpgipehjgmaaGreatW.PrintLast Go.Proofs.YtbckpgipehjgmaaGreatW.PrintMore
set_option linter.unusedVariables false

/-- A tree whose lists are short indeed. -/
inductive Tiny : Ex → Prop
 | mk (e : Ex) : e.f3.length ≤ 1000 → (∀ x ∈ e.f3, Tiny x) → Tiny e
theorem Tiny.short {e : Ex} (h : Tiny e) : Short e := by
 induction h with
 | mk e hl _ ih => exact .mk e (by omega) ih
theorem rd_mem (l : List Int) (i : Int) (h0 : 0 ≤ i) (h1 : i < l.length) : rd l i ∈ l := by
 have : i.toNat < l.length := by omega
 have e : rd l i = l[i.toNat] := by simp [rd, this]
 rw [e]; exact List.getElem_mem this
theorem num_total (s : List Int) (hs : Bytes s) (hl : s.length ≤ 2000) (p : Int) (hp : 0 ≤ p) (hp1 : p < 1099511627776) (l : List Int) (h1 : 1 ≤ l.length) (h2 : l.length < 1000) :
  ∃ x, x ∈ l ∧ ∀ k, spec_l12Rd_num.f (k + 1) s p l = some (x, p + 1) := by
 obtain ⟨r, r0, r1, hr⟩ := pick_total s hs hl p l.length hp hp1 (by omega) (by omega)
 refine ⟨rd l r, rd_mem l r r0 r1, fun k => ?_⟩
 rw [spec_l12Rd_num.f, hr k]
 simp only [Option.bind_some, if_pos r0, if_pos r1]
theorem addr_total (s : List Int) (hs : Bytes s) (hl : s.length ≤ 2000) (p : Int) (hp : 0 ≤ p) (hp1 : p < 1099511627770) :
  ∃ a b : Int, (1 ≤ a ∧ a ≤ 3) ∧ (0 ≤ b ∧ b < 3) ∧ ∀ k, spec_l2Addr.f (k + 1) s p = some (a, b, p + 2) := by
 obtain ⟨r, r0, r1, hr⟩ := pick_total s hs hl p 3 hp (by omega) (by omega) (by omega)
 obtain ⟨q, q0, q1, hq⟩ := pick_total s hs hl (p + 1) 3 (by omega) (by omega) (by omega) (by omega)
 refine ⟨1 + r, q, by omega, by omega, fun k => ?_⟩
 rw [spec_l2Addr.f, hr k]
 simp only [Option.bind_some]
 rw [hq k]
 simp only [Option.bind_some]
 rw [wrap_id (by omega) (by omega), show p + 1 + 1 = p + 2 by omega]
/-- What a draw of an expression leaves. -/
def Drew1 (o : Option (Int × Int × Int × Int × List Ex × Int)) (e : Ex) (p : Int) : Prop := o = some (e.f0, e.f1, e.f2.f0, e.f2.f1, e.f3, p)
theorem leaf_total (s : List Int) (hs : Bytes s) (hl : s.length ≤ 2000) (p : Int) (hp : 0 ≤ p) (hp1 : p < 1099511627000) (a1 : Int) :
  ∃ (e : Ex) (p' : Int), Tiny e ∧ p ≤ p' ∧ p' ≤ p + 3 ∧ ∀ k, Drew1 (spec_l3Expr.j0 (k + 2) a1 true s p) e p' := by
 obtain ⟨r, r0, r1, hr⟩ := pick_total s hs hl p 3 hp (by omega) (by omega) (by omega)
 by_cases hz : r = 0
 ·obtain ⟨x, hx, hn⟩ := num_total s hs hl (p + 1) (by omega) (by omega) [0, 1, 2, 3, (-1), 5, 1000000] (by simp) (by simp)
  refine ⟨⟨1, x, ⟨0, 0⟩, []⟩, p + 1 + 1, .mk _ (by simp) (by simp), by omega, by omega, fun k => ?_⟩
  unfold Drew1
  rw [spec_l3Expr.j0, if_pos rfl, hr k]
  simp only [Option.bind_some, if_pos hz]
  rw [hn k]; rfl
 ·obtain ⟨a, b, ha, hb, hq⟩ := addr_total s hs hl (p + 1) (by omega) (by omega)
  refine ⟨⟨2, 0, ⟨a, b⟩, []⟩, p + 1 + 2, .mk _ (by simp) (by simp), by omega, by omega, fun k => ?_⟩
  unfold Drew1
  rw [spec_l3Expr.j0, if_pos rfl, hr k]
  simp only [Option.bind_some, if_neg hz]
  rw [hq k]; rfl
theorem mono_ef (s : List Int) (p a : Int) : ∀ k, LeO (spec_l3Expr.f k s p a) (spec_l3Expr.f (k + 1) s p a) := fun k => (spec_l3Expr.mono_l k).1 s p a
theorem mono_el (x n : Int) (s : List Int) (p a b c d : Int) (l : List Ex) : ∀ k, LeO (spec_l3Expr.l0 k x n s p a b c d l) (spec_l3Expr.l0 (k + 1) x n s p a b c d l) := fun k => (spec_l3Expr.mono_l k).2.2 x n s p a b c d l
def bnd : Nat → Int
 | 0 => 10
 | d + 1 => 10 + 2 * bnd d
theorem kids_total (s : List Int) (d : Nat) (kd : Int) (B : Int) (hB : 0 ≤ B) (ih : ∀ p : Int, 0 ≤ p → p + B < 1099510000000 → ∃ (e : Ex) (p' : Int) (k : Nat), Tiny e ∧ p ≤ p' ∧ p' ≤ p + B ∧ Drew1 (spec_l3Expr.f k s p d) e p') (hd : d < 1000) :
  ∀ (n : Nat) (p : Int) (acc : List Ex), 0 ≤ p → p + n * B < 1099510000000 → acc.length + n ≤ 2 → (∀ x ∈ acc, Tiny x) →
   ∃ (l : List Ex) (p' : Int) (k : Nat), l.length = acc.length + n ∧ (∀ x ∈ l, Tiny x) ∧ p ≤ p' ∧ p' ≤ p + n * B ∧ spec_l3Expr.l0 k ((d : Int) + 1) n s p kd 0 0 0 acc = some (kd, 0, 0, 0, l, p') := by
 intro n
 induction n with
 | zero =>
  intro p acc hp hpb ha hacc
  exact ⟨acc, p, 1, by omega, hacc, by omega, by omega, by rw [spec_l3Expr.l0, if_neg (by omega)]⟩
 | succ n ihn =>
  intro p acc hp hpb ha hacc
  have e1 : ((n + 1 : Nat) : Int) * B = n * B + B := by rw [Int.natCast_add, Int.add_mul]; simp
  have nb : 0 ≤ (n : Int) * B := Int.mul_nonneg (by omega) hB
  rw [e1] at hpb
  obtain ⟨e, p1, k1, he, q1, q2, hk1⟩ := ih p hp (by omega)
  obtain ⟨l, p2, k2, hl1, hl2, q3, q4, hk2⟩ := ihn p1 (acc ++ [e]) (by omega) (by omega) (by simp; omega) (by intro x hx; rcases List.mem_append.1 hx with hx | hx; exact hacc x hx; simp at hx; rw [hx]; exact he)
  refine ⟨l, p2, k1 + k2 + 1, by rw [hl1]; simp; omega, hl2, by omega, by rw [e1]; omega, ?_⟩
  unfold Drew1 at hk1
  rw [spec_l3Expr.l0, if_pos (by omega), show (d : Int) + 1 - 1 = d by omega, wrap_id (n := (d : Int)) (by omega) (by omega), up_le (mono_ef _ _ _) (Nat.le_add_right k1 k2) hk1]
  simp only [Option.bind_some]
  rw [if_pos (by omega), show (((n + 1 : Nat) : Int) - 1) = (n : Int) by omega, wrap_id (n := (n : Int)) (by omega) (by omega)]
  have eta : (⟨e.f0, e.f1, ⟨e.f2.f0, e.f2.f1⟩, e.f3⟩ : Ex) = e := by cases e with | mk a b c l => cases c; rfl
  rw [eta]
  exact up_le (mono_el _ _ _ _ _ _ _ _ _) (Nat.le_add_left k2 k1) hk2
theorem bnd_pos (d : Nat) : 10 ≤ bnd d := by
 induction d with
 | zero => simp [bnd]
 | succ d ih => simp [bnd]; omega
theorem bnd_le (d : Nat) : d ≤ 10 → bnd d ≤ 100000 := by
 intro h
 have : d = 0 ∨ d = 1 ∨ d = 2 ∨ d = 3 ∨ d = 4 ∨ d = 5 ∨ d = 6 ∨ d = 7 ∨ d = 8 ∨ d = 9 ∨ d = 10 := by omega
 rcases this with rfl | rfl | rfl | rfl | rfl | rfl | rfl | rfl | rfl | rfl | rfl <;> decide
theorem expr_total (s : List Int) (hs : Bytes s) (hl : s.length ≤ 2000) (d : Nat) : d ≤ 10 → ∀ p : Int, 0 ≤ p → p + bnd d < 1099510000000 → ∃ (e : Ex) (p' : Int) (k : Nat), Tiny e ∧ p ≤ p' ∧ p' ≤ p + bnd d ∧ Drew1 (spec_l3Expr.f k s p d) e p' := by
 induction d with
 | zero =>
  intro _ p hp hp1
  have h10 := bnd_pos 0
  obtain ⟨e, p', he, q1, q2, h⟩ := leaf_total s hs hl p hp (by omega) 0
  refine ⟨e, p', 3, he, q1, by simp only [bnd]; omega, ?_⟩
  have := h 0
  unfold Drew1 at this ⊢
  rw [spec_l3Expr.f, if_pos (by omega)]
  exact this
 | succ d ih =>
  intro hd p hp hp1
  have hb := bnd_pos d
  have hb2 := bnd_le d (by omega)
  have hbd : bnd (d + 1) = 10 + 2 * bnd d := rfl
  by_cases h0 : d = 0
  ·subst h0
   obtain ⟨e, p', he, q1, q2, h⟩ := leaf_total s hs hl p hp (by omega) 1
   refine ⟨e, p', 3, he, q1, by omega, ?_⟩
   have := h 0
   unfold Drew1 at this ⊢
   rw [spec_l3Expr.f, if_pos (by omega)]
   exact this
  ·obtain ⟨r, r0, r1, hr⟩ := pick_total s hs hl p 4 hp (by omega) (by omega) (by omega)
   by_cases hz : r = 0
   ·obtain ⟨e, p', he, q1, q2, h⟩ := leaf_total s hs hl (p + 1) (by omega) (by omega) ((d + 1 : Nat) : Int)
    refine ⟨e, p', 3, he, by omega, by omega, ?_⟩
    have := h 0
    unfold Drew1 at this ⊢
    rw [spec_l3Expr.f, if_neg (by omega), hr 1]
    simp only [Option.bind_some, hz]
    exact this
   ·obtain ⟨x, hx, hn⟩ := num_total s hs hl (p + 1) (by omega) (by omega) [3, 3, 4, 5, 6, 6, 7, 8, 9, 10] (by simp) (by simp)
    have hx' : 3 ≤ x ∧ x ≤ 10 := by
     simp only [List.mem_cons, List.mem_nil_iff, or_false] at hx
     omega
    have hk2 : kidsN x = 1 ∨ kidsN x = 2 := by
     unfold kidsN
     rw [if_neg (by omega)]
     split
     ·exact .inr rfl
     ·exact .inl rfl
    obtain ⟨n, hn2, hnk⟩ : ∃ n : Nat, n ≤ 2 ∧ kidsN x = (n : Int) := by
     rcases hk2 with h | h
     ·exact ⟨1, by omega, by rw [h]; rfl⟩
     ·exact ⟨2, by omega, by rw [h]; rfl⟩
    have hmul : (n : Int) * bnd d ≤ 2 * bnd d := Int.mul_le_mul_of_nonneg_right (by omega) (by omega)
    obtain ⟨l, p', k, hl1, hl2, q1, q2, h⟩ := kids_total s d x (bnd d) (by omega) (fun q hq0 hq1 => ih (by omega) q hq0 hq1) (by omega) n (p + 2) [] (by omega) (by omega) (by simpa using hn2) (by simp)
    simp only [List.length_nil, Nat.zero_add] at hl1
    refine ⟨⟨x, 0, ⟨0, 0⟩, l⟩, p', k + 4, .mk _ (by show l.length ≤ _; omega) hl2, by omega, by omega, ?_⟩
    unfold Drew1
    have hz' : (r == 0) = false := beq_false_of_ne hz
    have hko : kindOk x = true := by unfold kindOk; exact decide_eq_true (by omega)
    rw [spec_l3Expr.f, if_neg (by omega), hr (k + 2)]
    simp only [Option.bind_some, hz']
    rw [spec_l3Expr.j0, if_neg (by decide), hn (k + 1)]
    simp only [Option.bind_some]
    rw [l3Kids_is (k + 1), hko, if_pos rfl, hnk]
    simp only [Option.bind_some]
    rw [show p + 1 + 1 = p + 2 by omega, show ((d + 1 : Nat) : Int) = (d : Int) + 1 by omega]
    exact up_le (mono_el _ _ _ _ _ _ _ _ _) (by omega) h
end Go.Proofs.YtbckpgipehjgmaaGreat.B
/- The draws of what is ok, and the copies, end. -/
namespace Go.Proofs.YtbckpgipehjgmaaGreat.B
open Go.RowKit Go.Proofs.YtbckpgipehjgmaaGreatW.PrintWords Go.Proofs.YtbckpgipehjgmaaGreatW.PrintLast Go.Proofs.YtbckpgipehjgmaaGreatW.PrintMore
set_option linter.unusedVariables false

theorem some_total (s : List Int) (hs : Bytes s) (hl : s.length ≤ 2000) (p : Int) (hp : 0 ≤ p) (hp1 : p < 1099500000000) :
  ∃ (e : Ex) (p' : Int) (k : Nat), Tiny e ∧ p ≤ p' ∧ p' ≤ p + 200002 ∧ Drew1 (spec_l3Some.f k s p) e p' := by
 obtain ⟨r, r0, r1, hr⟩ := pick_total s hs hl p 4 hp (by omega) (by omega) (by omega)
 obtain ⟨d, hd⟩ := Int.eq_ofNat_of_zero_le r0
 have hd4 : d < 4 := by omega
 have b1 := bnd_le (d + 1) (by omega)
 have b2 := bnd_le 2 (by omega)
 have b3 := bnd_pos (d + 1)
 have b4 := bnd_pos 2
 obtain ⟨e, p1, k1, he, q1, q2, h1⟩ := expr_total s hs hl (d + 1) (by omega) (p + 1) (by omega) (by omega)
 obtain ⟨k2, h2⟩ := exprOk_spec e he.short
 obtain ⟨e', p2, k3, he', q3, q4, h3⟩ := expr_total s hs hl 2 (by omega) p1 (by omega) (by omega)
 unfold Drew1 at h1 h3
 have m1 : spec_l3Expr.f (k1 + k2 + k3 + 1) s (p + 1) ((d + 1 : Nat) : Int) = _ := up_le (mono_ef _ _ _) (by omega) h1
 have m2 : spec_ExprOk.f (k1 + k2 + k3 + 1) e.f0 e.f1 e.f2.f0 e.f2.f1 e.f3 = _ := up_le (f := fun k => spec_ExprOk.f k e.f0 e.f1 e.f2.f0 e.f2.f1 e.f3) (fun k => spec_ExprOk.mono _ _ _ _ _ k) (show k2 ≤ k1 + k2 + k3 + 1 by omega) h2
 have m3 : spec_l3Expr.f (k1 + k2 + k3 + 1) s p1 2 = _ := up_le (mono_ef _ _ _) (by omega) h3
 have e1 : wrap64 (1 + r) = ((d + 1 : Nat) : Int) := by rw [wrap_id (by omega) (by omega)]; omega
 cases hv : (formS 6 e && decide (manyS 6 e ≤ 14)) with
 | true =>
  refine ⟨e, p1, k1 + k2 + k3 + 1, he, by omega, by omega, ?_⟩
  unfold Drew1
  rw [spec_l3Some.f, hr (k1 + k2 + k3)]
  simp only [Option.bind_some]
  rw [e1, m1]
  simp only [Option.bind_some]
  rw [m2, hv]
  simp
 | false =>
  refine ⟨e', p2, k1 + k2 + k3 + 1, he', by omega, by omega, ?_⟩
  unfold Drew1
  rw [spec_l3Some.f, hr (k1 + k2 + k3)]
  simp only [Option.bind_some]
  rw [e1, m1]
  simp only [Option.bind_some]
  rw [m2, hv]
  simp only [Option.bind_some, Bool.false_eq_true, if_false]
  rw [m3]
  simp

theorem addrBent_total (s : List Int) (hs : Bytes s) (hl : s.length ≤ 2000) (p : Int) (hp : 0 ≤ p) (hp1 : p < 1099500000000) :
  ∃ (a b p' : Int), p ≤ p' ∧ p' ≤ p + 4 ∧ ∀ k, spec_l2AddrBent.f (k + 1) s p = some (a, b, p') := by
 obtain ⟨a, b, ha, hb, hq⟩ := addr_total s hs hl p hp (by omega)
 obtain ⟨r, r0, r1, hr⟩ := pick_total s hs hl (p + 2) 16 (by omega) (by omega) (by omega) (by omega)
 obtain ⟨x, hx, hn⟩ := num_total s hs hl (p + 2 + 1) (by omega) (by omega) [0, 4, (-1)] (by simp) (by simp)
 obtain ⟨y, hy, hm⟩ := num_total s hs hl (p + 2 + 1) (by omega) (by omega) [(-1), 6, 5] (by simp) (by simp)
 by_cases h0 : r = 0
 ·refine ⟨x, b, p + 2 + 1 + 1, by omega, by omega, fun k => ?_⟩
  rw [spec_l2AddrBent.f, hq k]
  simp only [Option.bind_some]
  rw [hr k]
  simp only [Option.bind_some, if_pos h0]
  rw [hn k]; rfl
 ·by_cases h1 : r = 1
  ·refine ⟨a, y, p + 2 + 1 + 1, by omega, by omega, fun k => ?_⟩
   rw [spec_l2AddrBent.f, hq k]
   simp only [Option.bind_some]
   rw [hr k]
   simp only [Option.bind_some, if_neg h0, if_pos h1]
   rw [hm k]; rfl
  ·refine ⟨a, b, p + 2 + 1, by omega, by omega, fun k => ?_⟩
   rw [spec_l2AddrBent.f, hq k]
   simp only [Option.bind_some]
   rw [hr k]
   simp only [Option.bind_some, if_neg h0, if_neg h1]
theorem mono_cf (a b c d : Int) (l : List Ex) : ∀ k, LeO (spec_l3Copy.f k a b c d l) (spec_l3Copy.f (k + 1) a b c d l) := fun k => (spec_l3Copy.mono_l k).1 a b c d l
theorem mono_cl (x a b c d : Int) (l : List Ex) (a' b' c' d' : Int) (l' : List Ex) : ∀ k, LeO (spec_l3Copy.l0 k x a b c d l a' b' c' d' l') (spec_l3Copy.l0 (k + 1) x a b c d l a' b' c' d' l') := fun k => (spec_l3Copy.mono_l k).2 x a b c d l a' b' c' d' l'
theorem copy_total (e : Ex) (he : Tiny e) : ∃ k, spec_l3Copy.f k e.f0 e.f1 e.f2.f0 e.f2.f1 e.f3 = some (e.f0, e.f1, e.f2.f0, e.f2.f1, e.f3) := by
 induction he with
 | mk e hl hk ih =>
  have loop : ∀ (n j : Nat), n + j = e.f3.length → ∃ k, spec_l3Copy.l0 k j e.f0 e.f1 e.f2.f0 e.f2.f1 e.f3 e.f0 e.f1 e.f2.f0 e.f2.f1 (e.f3.take j) = some (e.f0, e.f1, e.f2.f0, e.f2.f1, e.f3) := by
   intro n
   induction n with
   | zero => intro j hj; exact ⟨1, by rw [spec_l3Copy.l0, if_neg (by omega), List.take_of_length_le (by omega)]⟩
   | succ n ihn =>
    intro j hj
    have hlt : j < e.f3.length := by omega
    obtain ⟨k1, h1⟩ := ih e.f3[j] (List.getElem_mem hlt)
    obtain ⟨k2, h2⟩ := ihn (j + 1) (by omega)
    refine ⟨k1 + k2 + 1, ?_⟩
    have eta : (⟨e.f3[j].f0, e.f3[j].f1, ⟨e.f3[j].f2.f0, e.f3[j].f2.f1⟩, e.f3[j].f3⟩ : Ex) = e.f3[j] := by cases e.f3[j] with | mk a b c l => cases c; rfl
    rw [spec_l3Copy.l0, if_pos (by omega), if_pos (by omega), rd_get e.f3 j hlt, up_le (mono_cf _ _ _ _ _) (Nat.le_add_right k1 k2) h1]
    simp only [Option.bind_some]
    rw [if_pos (by simp; omega), wrap_id (by omega) (by omega), eta, ← List.take_succ_eq_append_getElem hlt]
    exact up_le (mono_cl _ _ _ _ _ _ _ _ _ _ _) (Nat.le_add_left k2 k1) h2
  obtain ⟨k, h⟩ := loop e.f3.length 0 (by omega)
  exact ⟨k + 1, by rw [spec_l3Copy.f]; simpa using h⟩
end Go.Proofs.YtbckpgipehjgmaaGreat.B
/- The draw of an expression that may be bent ends. -/
namespace Go.Proofs.YtbckpgipehjgmaaGreat.B
open Go.RowKit Go.Proofs.YtbckpgipehjgmaaGreatW.PrintWords Go.Proofs.YtbckpgipehjgmaaGreatW.PrintLast Go.Proofs.YtbckpgipehjgmaaGreatW.PrintMore
set_option linter.unusedVariables false

theorem ex_eta (e : Ex) : (⟨e.f0, e.f1, ⟨e.f2.f0, e.f2.f1⟩, e.f3⟩ : Ex) = e := by cases e with | mk a b c l => cases c; rfl
theorem bent_loop0 (s : List Int) (p : Int) : ∀ (n j : Nat), n + j = 6 → ∀ e : Ex, Tiny e → ∃ e', Tiny e' ∧ ∀ k, n + 1 ≤ k → Drew1 (spec_l3Bent.l0 k j s p e.f0 e.f1 e.f2.f0 e.f2.f1 e.f3) e' p := by
 intro n
 induction n with
 | zero =>
  intro j hj e he
  refine ⟨e, he, fun k hk => ?_⟩
  obtain ⟨k', rfl⟩ : ∃ k', k = k' + 1 := ⟨k - 1, by omega⟩
  unfold Drew1
  rw [spec_l3Bent.l0, if_neg (by omega)]
 | succ n ihn =>
  intro j hj e he
  obtain ⟨e', he', h⟩ := ihn (j + 1) (by omega) ⟨10, 0, ⟨0, 0⟩, [e]⟩ (.mk _ (by simp) (by intro x hx; simp at hx; rw [hx]; exact he))
  refine ⟨e', he', fun k hk => ?_⟩
  obtain ⟨k', rfl⟩ : ∃ k', k = k' + 1 := ⟨k - 1, by omega⟩
  have := h k' (by omega)
  unfold Drew1 at this ⊢
  rw [spec_l3Bent.l0, if_pos (by omega), wrap_id (by omega) (by omega), ex_eta]
  exact this
theorem bent_loop1 (s : List Int) (p : Int) : ∀ (n j : Nat), n + j = 4 → ∀ e : Ex, Tiny e → ∃ e' K, Tiny e' ∧ ∀ k, K ≤ k → Drew1 (spec_l3Bent.l1 k j s p e.f0 e.f1 e.f2.f0 e.f2.f1 e.f3) e' p := by
 intro n
 induction n with
 | zero =>
  intro j hj e he
  refine ⟨e, 1, he, fun k hk => ?_⟩
  obtain ⟨k', rfl⟩ : ∃ k', k = k' + 1 := ⟨k - 1, by omega⟩
  unfold Drew1
  rw [spec_l3Bent.l1, if_neg (by omega)]
 | succ n ihn =>
  intro j hj e he
  obtain ⟨kc, hc⟩ := copy_total e he
  obtain ⟨e', K, he', h⟩ := ihn (j + 1) (by omega) ⟨3, 0, ⟨0, 0⟩, [e, e]⟩ (.mk _ (by simp) (by intro x hx; simp at hx; rw [hx]; exact he))
  refine ⟨e', kc + K + 1, he', fun k hk => ?_⟩
  obtain ⟨k', rfl⟩ : ∃ k', k = k' + 1 := ⟨k - 1, by omega⟩
  have := h k' (by omega)
  unfold Drew1 at this ⊢
  rw [spec_l3Bent.l1, if_pos (by omega), up_le (mono_cf _ _ _ _ _) (show kc ≤ k' by omega) hc]
  simp only [Option.bind_some]
  rw [wrap_id (by omega) (by omega), ex_eta]
  exact this
theorem some_up (s : List Int) (p : Int) {k k' : Nat} (h : k ≤ k') {e : Ex} {q : Int} (hk : Drew1 (spec_l3Some.f k s p) e q) : Drew1 (spec_l3Some.f k' s p) e q := up_le (f := fun k => spec_l3Some.f k s p) (fun k => spec_l3Some.mono _ _ k) h hk
theorem bent_total (s : List Int) (hs : Bytes s) (hl : s.length ≤ 2000) (p : Int) (hp : 0 ≤ p) (hp1 : p < 1099400000000) :
  ∃ (e : Ex) (p' : Int) (K : Nat), Tiny e ∧ p ≤ p' ∧ p' ≤ p + 200007 ∧ ∀ k, K ≤ k → Drew1 (spec_l3Bent.f k s p) e p' := by
 obtain ⟨e, p1, k1, he, q1, q2, h1⟩ := some_total s hs hl p hp (by omega)
 obtain ⟨r, r0, r1, hr⟩ := pick_total s hs hl p1 60 (by omega) (by omega) (by omega) (by omega)
 have hs1 : ∀ k, k1 + 1 ≤ k → spec_l3Some.f k s p = some (e.f0, e.f1, e.f2.f0, e.f2.f1, e.f3, p1) ∧ spec_l12Rd_pick.f k s p1 60 = some (r, p1 + 1) := fun k hk => by
  obtain ⟨k', rfl⟩ : ∃ k', k = k' + 1 := ⟨k - 1, by omega⟩
  exact ⟨some_up s p (by omega) h1, hr k'⟩
 by_cases h0 : r = 0
 ·obtain ⟨x, hx, hn⟩ := num_total s hs hl (p1 + 1) (by omega) (by omega) [0, 11, 3, 10] (by simp) (by simp)
  refine ⟨⟨x, e.f1, e.f2, e.f3⟩, p1 + 1 + 1, k1 + 1, ?_, by omega, by omega, fun k hk => ?_⟩
  ·cases he with | mk _ a b => exact .mk _ a b
  ·obtain ⟨s1, s2⟩ := hs1 k hk
   obtain ⟨k', rfl⟩ : ∃ k', k = k' + 1 := ⟨k - 1, by omega⟩
   unfold Drew1
   rw [spec_l3Bent.f, s1]
   simp only [Option.bind_some]
   rw [s2]
   simp only [Option.bind_some, if_pos h0]
   rw [hn k']; rfl
 ·by_cases h1' : r = 1
  ·obtain ⟨x, hx, hn⟩ := num_total s hs hl (p1 + 1) (by omega) (by omega) [1, 1000001] (by simp) (by simp)
   refine ⟨⟨e.f0, x, e.f2, e.f3⟩, p1 + 1 + 1, k1 + 1, ?_, by omega, by omega, fun k hk => ?_⟩
   ·cases he with | mk _ a b => exact .mk _ a b
   ·obtain ⟨s1, s2⟩ := hs1 k hk
    obtain ⟨k', rfl⟩ : ∃ k', k = k' + 1 := ⟨k - 1, by omega⟩
    unfold Drew1
    rw [spec_l3Bent.f, s1]
    simp only [Option.bind_some]
    rw [s2]
    simp only [Option.bind_some, if_neg h0, if_pos h1']
    rw [hn k']; rfl
  ·by_cases h2 : r = 2
   ·obtain ⟨a, b, p2, q3, q4, hn⟩ := addrBent_total s hs hl (p1 + 1) (by omega) (by omega)
    refine ⟨⟨e.f0, e.f1, ⟨a, b⟩, e.f3⟩, p2, k1 + 1, ?_, by omega, by omega, fun k hk => ?_⟩
    ·cases he with | mk _ a b => exact .mk _ a b
    ·obtain ⟨s1, s2⟩ := hs1 k hk
     obtain ⟨k', rfl⟩ : ∃ k', k = k' + 1 := ⟨k - 1, by omega⟩
     unfold Drew1
     rw [spec_l3Bent.f, s1]
     simp only [Option.bind_some]
     rw [s2]
     simp only [Option.bind_some, if_neg h0, if_neg h1', if_pos h2]
     rw [hn k']; rfl
   ·by_cases h3 : r = 3
    ·obtain ⟨e', he', h⟩ := bent_loop0 s (p1 + 1) 6 0 (by omega) e he
     refine ⟨e', p1 + 1, k1 + 8, he', by omega, by omega, fun k hk => ?_⟩
     obtain ⟨s1, s2⟩ := hs1 k (by omega)
     have := h k (by omega)
     unfold Drew1 at this ⊢
     rw [spec_l3Bent.f, s1]
     simp only [Option.bind_some]
     rw [s2]
     simp only [Option.bind_some, if_neg h0, if_neg h1', if_neg h2, if_pos h3]
     exact this
    ·by_cases h4 : r = 4
     ·obtain ⟨e', K, he', h⟩ := bent_loop1 s (p1 + 1) 4 0 (by omega) e he
      refine ⟨e', p1 + 1, k1 + 1 + K, he', by omega, by omega, fun k hk => ?_⟩
      obtain ⟨s1, s2⟩ := hs1 k (by omega)
      have := h k (by omega)
      unfold Drew1 at this ⊢
      rw [spec_l3Bent.f, s1]
      simp only [Option.bind_some]
      rw [s2]
      simp only [Option.bind_some, if_neg h0, if_neg h1', if_neg h2, if_neg h3, if_pos h4]
      exact this
     ·refine ⟨e, p1 + 1, k1 + 1, he, by omega, by omega, fun k hk => ?_⟩
      obtain ⟨s1, s2⟩ := hs1 k hk
      unfold Drew1
      rw [spec_l3Bent.f, s1]
      simp only [Option.bind_some]
      rw [s2]
      simp only [Option.bind_some, if_neg h0, if_neg h1', if_neg h2, if_neg h3, if_neg h4]
/-- A code that came in: its bytes, its opening. -/
theorem open_total (l : List Int) (hw : ∀ x ∈ l, (Lit.int .u8 x).wf = true) : ∃ s, Bytes s ∧ s.length ≤ 2000 ∧ spec_l12Open.f l = some (s, 0) := by
 have hb : Bytes l := fun x hx => by
  have := hw x hx
  simp [Lit.wf, IntKind.min, IntKind.max, IntKind.signed, IntKind.bits] at this
  omega
 by_cases h : (l.length : Int) > 2000
 ·refine ⟨l.take 2000, fun x hx => hb x (List.mem_of_mem_take hx), by simp; omega, ?_⟩
  rw [spec_l12Open.f, if_pos h, if_pos (by omega)]
 ·exact ⟨l, hb, by omega, by rw [spec_l12Open.f, if_neg h]⟩
end Go.Proofs.YtbckpgipehjgmaaGreat.B
/- The draws of statements end. -/
namespace Go.Proofs.YtbckpgipehjgmaaGreat.B
open Go.RowKit Go.Proofs.YtbckpgipehjgmaaGreatW.PrintWords Go.Proofs.YtbckpgipehjgmaaGreatW.PrintLast Go.Proofs.YtbckpgipehjgmaaGreatW.PrintMore
set_option linter.unusedVariables false

theorem Ends.at1 {α : Type} {f : Nat → Option α} {r : α} (h : ∀ k, f (k + 1) = some r) : Ends f r := ⟨1, fun k hk => by obtain ⟨j, rfl⟩ : ∃ j, k = j + 1 := ⟨k - 1, by omega⟩; exact h j⟩
/-- A statement whose lists are short. -/
inductive TinyS : ISt → Prop
 | mk (s : ISt) : Tiny s.f2 → s.f3.length ≤ 2000 → s.f4.length ≤ 2000 → (∀ x ∈ s.f3, TinyS x) → (∀ x ∈ s.f4, TinyS x) → TinyS s
def cntS : ISt → Nat
 | ⟨_, _, _, l, l'⟩ => 1 + (l.attach.map fun x => cntS x.1).sum + (l'.attach.map fun x => cntS x.1).sum
termination_by e => SizeOf.sizeOf e
decreasing_by all_goals (have := List.sizeOf_lt_of_mem x.2; simp; omega)
theorem cntS_eq (e : ISt) : cntS e = 1 + (e.f3.map cntS).sum + (e.f4.map cntS).sum := by
 cases e with
 | mk a b c l l' => rw [cntS]; simp
/-- A list of few statements. -/
def Fit (n : Nat) (l : List ISt) : Prop := (l.map cntS).sum ≤ n ∧ ∀ x ∈ l, TinyS x
theorem Fit.len {n : Nat} {l : List ISt} (h : Fit n l) : l.length ≤ n := by
 have : ∀ l : List ISt, l.length ≤ (l.map cntS).sum := by
  intro l
  induction l with
  | nil => simp
  | cons a l ih => rw [List.map_cons, List.sum_cons, List.length_cons, cntS_eq]; omega
 exact Nat.le_trans (this l) h.1
theorem Fit.nil (n : Nat) : Fit n [] := ⟨by simp, by simp⟩
theorem Fit.snoc {n m : Nat} {l : List ISt} {x : ISt} (h : Fit n l) (hx : TinyS x) (hc : cntS x ≤ m) : Fit (n + m) (l ++ [x]) := by
 refine ⟨?_, fun y hy => ?_⟩
 ·have := h.1
  rw [List.map_append, List.sum_append, List.map_cons, List.map_nil, List.sum_cons, List.sum_nil]; omega
 ·rcases List.mem_append.1 hy with hy | hy
  ·exact h.2 y hy
  ·obtain rfl := List.mem_singleton.1 hy; exact hx
theorem Fit.mono {n m : Nat} {l : List ISt} (h : Fit n l) (hm : n ≤ m) : Fit m l := ⟨Nat.le_trans h.1 hm, h.2⟩
theorem Fit.mk1 {n m : Nat} {k : Int} {a : S28} {e : Ex} {l l' : List ISt} (he : Tiny e) (h : Fit n l) (h' : Fit m l') (hn : n ≤ 2000) (hm : m ≤ 2000) : TinyS ⟨k, a, e, l, l'⟩ ∧ cntS ⟨k, a, e, l, l'⟩ ≤ 1 + n + m :=
 ⟨.mk _ he (Nat.le_trans h.len hn) (Nat.le_trans h'.len hm) h.2 h'.2, by rw [cntS_eq]; have h1 := h.1; have h2 := h'.1; dsimp only; omega⟩
theorem manyT_cnt (d : Nat) : ∀ l : List ISt, manyT d l ≤ (l.map cntS).sum := by
 induction d with
 | zero =>
  intro l
  rw [manyT]
  induction l with
  | nil => simp
  | cons a l ih => rw [List.map_cons, List.sum_cons, List.length_cons, cntS_eq]; omega
 | succ d ih =>
  intro l
  rw [manyT]
  induction l with
  | nil => simp
  | cons a l ihl =>
   simp only [List.map_cons, List.sum_cons, List.length_cons]
   rw [cntS_eq]
   have h1 := ih a.f3
   have h2 := ih a.f4
   omega
theorem tiny_ok {e : Ex} (h : Tiny e) : iexOk e := by
 induction h with
 | mk e hl _ ih => exact (iexOk_eq e).2 ⟨by omega, ih⟩
theorem TinyS.ok {s : ISt} (h : TinyS s) : istOk s := by
 induction h with
 | mk s he h3 h4 _ _ ih3 ih4 => exact (istOk_eq s).2 ⟨tiny_ok he, ⟨by omega, ih3⟩, ⟨by omega, ih4⟩⟩
section
variable (s : List Int) (hs : Bytes s) (hl : s.length ≤ 2000)
include hs hl
theorem pick_ends (p n : Int) (hp : 0 ≤ p) (hp1 : p < 1099511627776) (hn : 1 ≤ n) (hn1 : n < 2147483648) : ∃ r, 0 ≤ r ∧ r < n ∧ Ends (fun k => spec_l12Rd_pick.f k s p n) (r, p + 1) := by
 obtain ⟨r, h0, h1, h⟩ := pick_total s hs hl p n hp hp1 hn hn1
 exact ⟨r, h0, h1, Ends.at1 h⟩
theorem num_ends (p : Int) (hp : 0 ≤ p) (hp1 : p < 1099511627776) (l : List Int) (h1 : 1 ≤ l.length) (h2 : l.length < 1000) : ∃ x, x ∈ l ∧ Ends (fun k => spec_l12Rd_num.f k s p l) (x, p + 1) := by
 obtain ⟨x, hx, h⟩ := num_total s hs hl p hp hp1 l h1 h2
 exact ⟨x, hx, Ends.at1 h⟩
theorem to_ends (p : Int) (hp : 0 ≤ p) (hp1 : p < 1099500000000) : ∃ a b : Int, Ends (fun k => spec_l2To.f k s p) (a, b, p + 2) := by
 obtain ⟨r, r0, r1, h⟩ := pick_ends s hs hl p 2 hp (by omega) (by omega) (by omega)
 obtain ⟨q, q0, q1, h'⟩ := pick_ends s hs hl (p + 1) 3 (by omega) (by omega) (by omega) (by omega)
 refine ⟨2 + r, q, ?_⟩
 refine Ends.of (g := fun k => (spec_l12Rd_pick.f k s p 2).bind fun bt => (spec_l12Rd_pick.f k s bt.2 3).bind fun bt2 => some (wrap64 (2 + bt.1), bt2.1, bt2.2)) ?_ (fun k => by rw [spec_l2To.f])
 refine h.bind (h'.bind (Ends.const fun k => ?_))
 rw [wrap_id (by omega) (by omega), show p + 1 + 1 = p + 2 by omega]
abbrev exU (e : Ex) (p : Int) := (e.f0, e.f1, e.f2.f0, e.f2.f1, e.f3, p)
theorem expr_ends (d : Nat) (hd : d ≤ 10) (p : Int) (hp : 0 ≤ p) (hp1 : p < 1099500000000) : ∃ (e : Ex) (p' : Int), Tiny e ∧ p ≤ p' ∧ p' ≤ p + 100000 ∧ Ends (fun k => spec_l3Expr.f k s p d) (exU e p') := by
 have hb := bnd_le d hd
 obtain ⟨e, p', k, he, h0, h1, h⟩ := expr_total s hs hl d hd p hp (by omega)
 exact ⟨e, p', he, h0, by omega, Ends.of_up (mono_ef s p d) ⟨k, h⟩⟩
theorem addrBent_ends (p : Int) (hp : 0 ≤ p) (hp1 : p < 1099400000000) : ∃ (a b p' : Int), p ≤ p' ∧ p' ≤ p + 1000000 ∧ Ends (fun k => spec_l2AddrBent.f k s p) (a, b, p') := by
 obtain ⟨a, b, p', h0, h1, h⟩ := addrBent_total s hs hl p hp (by omega)
 exact ⟨a, b, p', h0, by omega, Ends.at1 h⟩
theorem exBent_ends (p : Int) (hp : 0 ≤ p) (hp1 : p < 1099300000000) : ∃ (e : Ex) (p' : Int), Tiny e ∧ p ≤ p' ∧ p' ≤ p + 1000000 ∧ Ends (fun k => spec_l3Bent.f k s p) (exU e p') := by
 obtain ⟨e, p', K, he, h0, h1, h⟩ := bent_total s hs hl p hp (by omega)
 exact ⟨e, p', he, h0, by omega, K, h⟩
abbrev stU (x : ISt) (p : Int) := (x.f0, x.f1.f0, x.f1.f1, x.f2.f0, x.f2.f1, x.f2.f2.f0, x.f2.f2.f1, x.f2.f3, x.f3, x.f4, p)
theorem count_ends (p : Int) (hp : 0 ≤ p) (hp1 : p < 1099400000000) : ∃ (x : ISt) (p' : Int), TinyS x ∧ cntS x ≤ 3 ∧ p ≤ p' ∧ p' ≤ p + 200000 ∧ Ends (fun k => spec_l4Count.f k s p) (stU x p') := by
 obtain ⟨r, r0, r1, h1⟩ := pick_ends s hs hl p 3 hp (by omega) (by omega) (by omega)
 obtain ⟨n, hn, h2⟩ := num_ends s hs hl (p + 1) (by omega) (by omega) [1, 3, 5, 9, 200] (by simp) (by simp)
 obtain ⟨m, hm, h3⟩ := num_ends s hs hl (p + 1 + 1) (by omega) (by omega) [1, 1, 2, 0] (by simp) (by simp)
 obtain ⟨q, q0, q1, h4⟩ := pick_ends s hs hl (p + 1 + 1 + 1) 2 (by omega) (by omega) (by omega) (by omega)
 have htl : ∀ c : Int, Tiny (⟨2, 0, ⟨3, r⟩, []⟩ : Ex) ∧ Tiny (⟨1, c, ⟨0, 0⟩, []⟩ : Ex) := fun c => ⟨.mk _ (by simp) (by simp), .mk _ (by simp) (by simp)⟩
 have hE : ∀ (kd c : Int), Tiny (⟨kd, 0, ⟨0, 0⟩, [⟨2, 0, ⟨3, r⟩, []⟩, ⟨1, c, ⟨0, 0⟩, []⟩]⟩ : Ex) := fun kd c => .mk _ (by simp) (fun x hx => by
  simp only [List.mem_cons, List.mem_nil_iff, or_false] at hx
  rcases hx with rfl | rfl
  ·exact (htl c).1
  ·exact (htl c).2)
 obtain ⟨bd, hbd⟩ : ∃ bd : ISt, bd = ⟨1, ⟨3, r⟩, ⟨3, 0, ⟨0, 0⟩, [⟨2, 0, ⟨3, r⟩, []⟩, ⟨1, m, ⟨0, 0⟩, []⟩]⟩, [], []⟩ := ⟨_, rfl⟩
 have hb := Fit.mk1 (n := 0) (m := 0) (k := 1) (a := ⟨3, r⟩) (hE 3 m) (Fit.nil 0) (Fit.nil 0) (by omega) (by omega)
 rw [← hbd] at hb
 have hf1 : Fit 1 [bd] := by
  have := (Fit.nil 0).snoc hb.1 hb.2
  simpa using this
 by_cases hq : q = 0
 ·obtain ⟨a, b, h5⟩ := to_ends s hs hl (p + 1 + 1 + 1 + 1) (by omega) (by omega)
  obtain ⟨e, p', he, hp0, hp2, h6⟩ := expr_ends s hs hl 2 (by omega) (p + 1 + 1 + 1 + 1 + 2) (by omega) (by omega)
  have hx := Fit.mk1 (n := 0) (m := 0) (k := 1) (a := ⟨a, b⟩) he (Fit.nil 0) (Fit.nil 0) (by omega) (by omega)
  have hf2 : Fit 2 ([bd] ++ [⟨1, ⟨a, b⟩, e, [], []⟩]) := hf1.snoc hx.1 hx.2
  have hw := Fit.mk1 (k := 3) (a := ⟨0, 0⟩) (hE 6 n) hf2 (Fit.nil 0) (by omega) (by omega)
  refine ⟨⟨3, ⟨0, 0⟩, ⟨6, 0, ⟨0, 0⟩, [⟨2, 0, ⟨3, r⟩, []⟩, ⟨1, n, ⟨0, 0⟩, []⟩]⟩, [bd] ++ [⟨1, ⟨a, b⟩, e, [], []⟩], []⟩, p', hw.1, by omega, by omega, by omega, ?_⟩
  refine Ends.of ?_ (fun k => by rw [spec_l4Count.f])
  refine h1.bind (h2.bind ?_)
  refine Ends.of ?_ (fun k => by rw [Option.bind_some])
  refine h3.bind ?_
  refine Ends.of ?_ (fun k => by rw [Option.bind_some])
  refine h4.bind ?_
  refine Ends.of ?_ (fun k => by rw [if_pos hq])
  refine h5.bind (h6.bind (Ends.const fun k => ?_))
  rw [if_pos (by simp), hbd]
  dsimp only
  rw [ex_eta]
 ·have hw := Fit.mk1 (k := 3) (a := ⟨0, 0⟩) (hE 6 n) hf1 (Fit.nil 0) (by omega) (by omega)
  refine ⟨⟨3, ⟨0, 0⟩, ⟨6, 0, ⟨0, 0⟩, [⟨2, 0, ⟨3, r⟩, []⟩, ⟨1, n, ⟨0, 0⟩, []⟩]⟩, [bd], []⟩, p + 1 + 1 + 1 + 1, hw.1, by omega, by omega, by omega, ?_⟩
  refine Ends.of ?_ (fun k => by rw [spec_l4Count.f])
  refine h1.bind (h2.bind ?_)
  refine Ends.of ?_ (fun k => by rw [Option.bind_some])
  refine h3.bind ?_
  refine Ends.of ?_ (fun k => by rw [Option.bind_some])
  refine h4.bind (Ends.const fun k => ?_)
  rw [if_neg hq, hbd]
end
def cn : Nat → Nat
 | 0 => 0
 | d + 1 => 3 * (3 + 2 * cn d)
def lb : Nat → Int
 | 0 => 10
 | d + 1 => 10 + 3 * (1000000 + 2 * lb d)
theorem cn_le (d : Nat) (h : d ≤ 3) : cn d ≤ 400 := by
 have : d = 0 ∨ d = 1 ∨ d = 2 ∨ d = 3 := by omega
 rcases this with rfl | rfl | rfl | rfl <;> decide
theorem lb_le (d : Nat) (h : d ≤ 3) : 10 ≤ lb d ∧ lb d ≤ 200000000 := by
 have : d = 0 ∨ d = 1 ∨ d = 2 ∨ d = 3 := by omega
 rcases this with rfl | rfl | rfl | rfl <;> decide
def ListD (s : List Int) (d : Nat) : Prop := ∀ a : Int, a ≤ d → -10 ≤ a → ∀ p : Int, 0 ≤ p → p + lb d < 1099000000000 → ∃ (l : List ISt) (p' : Int), Fit (cn d) l ∧ p ≤ p' ∧ p' ≤ p + lb d ∧ Ends (fun k => spec_l4List.f k s p a) (l, p')
theorem list_none (s : List Int) (hs : Bytes s) (hl : s.length ≤ 2000) (d : Nat) (a : Int) (ha : a ≤ 0) (hd : d ≤ 3) (p : Int) (hp : 0 ≤ p) (hp1 : p + lb d < 1099000000000) : ∃ (l : List ISt) (p' : Int), Fit (cn d) l ∧ p ≤ p' ∧ p' ≤ p + lb d ∧ Ends (fun k => spec_l4List.f k s p a) (l, p') := by
 have hb := lb_le d hd
 obtain ⟨r, r0, r1, h⟩ := pick_ends s hs hl p 4 hp (by omega) (by omega) (by omega)
 refine ⟨[], p + 1, Fit.nil _, by omega, by omega, ?_⟩
 refine Ends.succ (fun k => by rw [spec_l4List.f]) (h.bind ?_)
 refine Ends.succ (fun k => ?_) (Ends.succ (g := fun _ => some (([] : List ISt), p + 1)) (f := fun k => spec_l4List.j1 k a [] r false s (p + 1)) (fun k => by rw [spec_l4List.j1, if_neg (by decide)]) (Ends.const fun k => rfl))
 rw [spec_l4List.l0]
 by_cases hr : r > 0
 ·rw [if_pos hr, decide_eq_false (by omega)]
 ·rw [if_neg hr]
theorem st_eta (x : ISt) : (⟨x.f0, ⟨x.f1.f0, x.f1.f1⟩, ⟨x.f2.f0, x.f2.f1, ⟨x.f2.f2.f0, x.f2.f2.f1⟩, x.f2.f3⟩, x.f3, x.f4⟩ : ISt) = x := by
 cases x with
 | mk a b c l l' => dsimp only; rw [ex_eta c]
theorem list_loop (s : List Int) (hs : Bytes s) (hl : s.length ≤ 2000) (d : Nat) (hd : d ≤ 2) (ih : ListD s d) (a : Int) (ha : 0 < a) (ha' : a ≤ d + 1) (C : Nat) (hC : C = 3 + 2 * cn d) (K : Int) (hK : K = 1000000 + 2 * lb d) :
  ∀ (n : Nat) (p : Int) (acc : List ISt) (m : Nat), n ≤ 3 → 0 ≤ p → p + n * K < 1099000000000 → Fit m acc → m + n * C ≤ 2000 → ∃ (l : List ISt) (p' : Int), Fit (m + n * C) l ∧ p ≤ p' ∧ p' ≤ p + n * K ∧ Ends (fun k => spec_l4List.l0 k a acc (n : Int) s p) (l, p') := by
 have hcn := cn_le d (by omega)
 have hlb := lb_le d (by omega)
 intro n
 induction n with
 | zero =>
  intro p acc m _ hp _ hf hm
  refine ⟨acc, p, by simpa using hf, by omega, by omega, ?_⟩
  exact Ends.succ (fun k => by rw [spec_l4List.l0, if_neg (by omega)]) (Ends.succ (fun k => by rw [spec_l4List.j1, if_neg (by decide)]) (Ends.const fun k => rfl))
 | succ n ihn =>
  intro p acc m hn3 hp hpb hf hm
  have hN : ((n + 1 : Nat) : Int) * K = (n : Int) * K + K := by rw [Int.natCast_add, Int.add_mul]; simp
  rw [hN] at hpb ⊢
  have hnn : (0 : Int) ≤ (n : Int) * K := Int.mul_nonneg (by omega) (by omega)
  have hM : m + (n + 1) * C = m + C + n * C := by rw [Nat.add_mul]; omega
  rw [hM] at hm ⊢
  generalize (n : Int) * K = nK at hpb hnn ihn ⊢
  have hlen := hf.len
  have w1 : wrap64 (((n + 1 : Nat) : Int) - 1) = (n : Int) := by rw [wrap_id (by omega) (by omega)]; omega
  have tail1 : ∀ (x : ISt) (q : Int), TinyS x ∧ cntS x ≤ C → p ≤ q → q ≤ p + K → ∃ (l : List ISt) (p' : Int), Fit (m + C + n * C) l ∧ p ≤ p' ∧ p' ≤ p + (nK + K) ∧ Ends (fun k => spec_l4List.l0 k a (acc ++ [x]) (n : Int) s q) (l, p') := by
   intro x q hx h0 h1
   obtain ⟨l, p', g1, g2, g3, g4⟩ := ihn q (acc ++ [x]) (m + C) (by omega) (by omega) (by omega) (hf.snoc hx.1 hx.2) (by omega)
   exact ⟨l, p', g1, by omega, by omega, g4⟩
  have tail0 : ∀ (q : Int), p ≤ q → q ≤ p + K → ∃ (l : List ISt) (p' : Int), Fit (m + C + n * C) l ∧ p ≤ p' ∧ p' ≤ p + (nK + K) ∧ Ends (fun k => spec_l4List.l0 k a acc (n : Int) s q) (l, p') := by
   intro q h0 h1
   obtain ⟨l, p', g1, g2, g3, g4⟩ := ihn q acc m (by omega) (by omega) (by omega) hf (by omega)
   exact ⟨l, p', g1.mono (by omega), by omega, by omega, g4⟩
  obtain ⟨r, r0, r1, hp7⟩ := pick_ends s hs hl p 7 hp (by omega) (by omega) (by omega)
  have wrapup : ∀ (flag : Bool), flag = (decide (r = 0) || decide (r = 1)) → (∃ (l : List ISt) (p' : Int), Fit (m + C + n * C) l ∧ p ≤ p' ∧ p' ≤ p + (nK + K) ∧ Ends (fun k => spec_l4List.j2 k a acc ((n + 1 : Nat) : Int) r flag s (p + 1)) (l, p')) → ∃ (l : List ISt) (p' : Int), Fit (m + C + n * C) l ∧ p ≤ p' ∧ p' ≤ p + (nK + K) ∧ Ends (fun k => spec_l4List.l0 k a acc ((n + 1 : Nat) : Int) s p) (l, p') := by
   intro flag hflag h
   obtain ⟨l, p', g1, g2, g3, g4⟩ := h
   refine ⟨l, p', g1, g2, g3, ?_⟩
   refine Ends.succ (fun k => by rw [spec_l4List.l0, if_pos (by omega), decide_eq_true (by omega)]) ?_
   refine Ends.succ (fun k => by rw [spec_l4List.j1, if_pos rfl]) ?_
   refine hp7.bind (g4.of fun k => ?_)
   dsimp only
   by_cases h0 : r = 0
   ·rw [if_pos h0, hflag, decide_eq_true h0, show (r == 0) = true from beq_iff_eq.2 h0, Bool.true_or]
   ·rw [if_neg h0, hflag, decide_eq_false h0, Bool.false_or]
    by_cases h1 : r = 1
    ·rw [decide_eq_true h1, show (r == 1) = true from beq_iff_eq.2 h1]
    ·rw [decide_eq_false h1, show (r == 1) = false from beq_false_of_ne h1]
  by_cases hA : r = 0 ∨ r = 1
  ·refine wrapup true (by rcases hA with h | h <;> simp [h]) ?_
   obtain ⟨e, p1, he, q0, q1, h1⟩ := expr_ends s hs hl 3 (by omega) (p + 1) (by omega) (by omega)
   obtain ⟨l1, p2, f1, q2, q3, h2⟩ := ih (a - 1) (by omega) (by omega) p1 (by omega) (by omega)
   obtain ⟨l2, p3, f2, q4, q5, h3⟩ := ih (a - 2) (by omega) (by omega) p2 (by omega) (by omega)
   have hx := Fit.mk1 (k := 2) (a := ⟨0, 0⟩) he f1 f2 (by omega) (by omega)
   obtain ⟨l, p', g1, g2, g3, g4⟩ := tail1 _ p3 ⟨hx.1, by omega⟩ (by omega) (by omega)
   refine ⟨l, p', g1, g2, g3, ?_⟩
   refine Ends.succ (fun k => by rw [spec_l4List.j2, if_pos rfl]) ?_
   refine h1.bind ?_
   refine Ends.of ?_ (fun k => by rw [show wrap64 (a - 1) = a - 1 from wrap_id (by omega) (by omega), show wrap64 (a - 2) = a - 2 from wrap_id (by omega) (by omega)])
   refine h2.bind (h3.bind (g4.of fun k => ?_))
   rw [if_pos (by omega), w1]
   dsimp only
   rw [ex_eta]
  refine wrapup false (by simp only [not_or] at hA; rw [decide_eq_false hA.1, decide_eq_false hA.2]; rfl) ?_
  by_cases hB : r = 2
  ·by_cases ha1 : a > 1
   ·obtain ⟨x, p1, ht, hc, q0, q1, h1⟩ := count_ends s hs hl (p + 1) (by omega) (by omega)
    obtain ⟨l, p', g1, g2, g3, g4⟩ := tail1 x p1 ⟨ht, by omega⟩ (by omega) (by omega)
    refine ⟨l, p', g1, g2, g3, ?_⟩
    refine Ends.succ (fun k => by rw [spec_l4List.j2, if_neg (by decide), if_pos hB, if_pos ha1]) ?_
    refine h1.bind (g4.of fun k => ?_)
    rw [if_pos (by omega), w1]
    dsimp only
    rw [st_eta]
   ·obtain ⟨l, p', g1, g2, g3, g4⟩ := tail0 (p + 1) (by omega) (by omega)
    refine ⟨l, p', g1, g2, g3, ?_⟩
    exact Ends.succ (fun k => by rw [spec_l4List.j2, if_neg (by decide), if_pos hB, if_neg ha1, w1]) g4
  by_cases hD : r = 3
  ·obtain ⟨q, q0, q1, h1⟩ := pick_ends s hs hl (p + 1) 3 (by omega) (by omega) (by omega) (by omega)
   by_cases hq : q = 0
   ·obtain ⟨e, p1, he, z0, z1, h2⟩ := expr_ends s hs hl 2 (by omega) (p + 1 + 1) (by omega) (by omega)
    obtain ⟨l1, p2, f1, z2, z3, h3⟩ := ih (a - 1) (by omega) (by omega) p1 (by omega) (by omega)
    have hx := Fit.mk1 (k := 3) (a := ⟨0, 0⟩) he f1 (Fit.nil 0) (by omega) (by omega)
    obtain ⟨l, p', g1, g2, g3, g4⟩ := tail1 _ p2 ⟨hx.1, by omega⟩ (by omega) (by omega)
    refine ⟨l, p', g1, g2, g3, ?_⟩
    refine Ends.succ (fun k => by rw [spec_l4List.j2, if_neg (by decide), if_neg hB, if_pos hD]) ?_
    refine h1.bind ?_
    refine Ends.of ?_ (fun k => by rw [if_pos hq])
    refine h2.bind ?_
    refine Ends.of ?_ (fun k => by rw [show wrap64 (a - 1) = a - 1 from wrap_id (by omega) (by omega)])
    refine h3.bind (g4.of fun k => ?_)
    rw [if_pos (by omega), w1]
    dsimp only
    rw [ex_eta]
   ·obtain ⟨l, p', g1, g2, g3, g4⟩ := tail0 (p + 1 + 1) (by omega) (by omega)
    refine ⟨l, p', g1, g2, g3, ?_⟩
    refine Ends.succ (fun k => by rw [spec_l4List.j2, if_neg (by decide), if_neg hB, if_pos hD]) ?_
    refine h1.bind (g4.of fun k => ?_)
    rw [if_neg hq, w1]
  ·obtain ⟨x, y, h1⟩ := to_ends s hs hl (p + 1) (by omega) (by omega)
   obtain ⟨e, p1, he, z0, z1, h2⟩ := expr_ends s hs hl 3 (by omega) (p + 1 + 2) (by omega) (by omega)
   have hx := Fit.mk1 (n := 0) (m := 0) (k := 1) (a := ⟨x, y⟩) he (Fit.nil 0) (Fit.nil 0) (by omega) (by omega)
   obtain ⟨l, p', g1, g2, g3, g4⟩ := tail1 _ p1 ⟨hx.1, by omega⟩ (by omega) (by omega)
   refine ⟨l, p', g1, g2, g3, ?_⟩
   refine Ends.succ (fun k => by rw [spec_l4List.j2, if_neg (by decide), if_neg hB, if_neg hD]) ?_
   refine h1.bind (h2.bind (g4.of fun k => ?_))
   rw [if_pos (by omega), w1]
   dsimp only
   rw [ex_eta]
theorem list_total (s : List Int) (hs : Bytes s) (hl : s.length ≤ 2000) (d : Nat) : d ≤ 3 → ListD s d := by
 induction d with
 | zero => intro hd a ha _ p hp hp1; exact list_none s hs hl 0 a (by omega) hd p hp hp1
 | succ d ih =>
  intro hd a ha ha0 p hp hp1
  by_cases hz : a ≤ 0
  ·exact list_none s hs hl (d + 1) a hz hd p hp hp1
  have hcn := cn_le d (by omega)
  have hlb := lb_le d (by omega)
  have hl3 := lb_le (d + 1) hd
  obtain ⟨r, r0, r1, h⟩ := pick_ends s hs hl p 4 hp (by omega) (by omega) (by omega)
  obtain ⟨C, hC⟩ : ∃ C, C = 3 + 2 * cn d := ⟨_, rfl⟩
  obtain ⟨K, hK⟩ : ∃ K, K = 1000000 + 2 * lb d := ⟨_, rfl⟩
  have hcd : cn (d + 1) = 3 * C := by rw [cn, hC]
  have hld : lb (d + 1) = 10 + 3 * K := by rw [lb, hK]
  obtain ⟨n, rfl⟩ := Int.eq_ofNat_of_zero_le r0
  have hn3 : n ≤ 3 := by omega
  have hnC : n * C ≤ 3 * C := Nat.mul_le_mul_right _ hn3
  have hnK : (n : Int) * K ≤ 3 * K := Int.mul_le_mul_of_nonneg_right (by omega) (by omega)
  have hnK0 : (0 : Int) ≤ (n : Int) * K := Int.mul_nonneg (by omega) (by omega)
  have hc3 := cn_le (d + 1) hd
  obtain ⟨l, p', g1, g2, g3, g4⟩ := list_loop s hs hl d (by omega) (ih (by omega)) a (by omega) (by omega) C hC K hK n (p + 1) [] 0 hn3 (by omega) (by omega) (Fit.nil 0) (by omega)
  refine ⟨l, p', g1.mono (by omega), by omega, by omega, ?_⟩
  refine Ends.succ (fun k => by rw [spec_l4List.f]) (h.bind ?_)
  exact g4
theorem Fit.ok {n : Nat} {l : List ISt} (h : Fit n l) (hn : n ≤ 100000) : manyT 4 l ≤ 1048576 ∧ ∀ x ∈ l, istOk x :=
 ⟨by have := manyT_cnt 4 l; have := h.1; omega, fun x hx => (h.2 x hx).ok⟩
theorem stSome_ends (s : List Int) (hs : Bytes s) (hl : s.length ≤ 2000) (p : Int) (hp : 0 ≤ p) (hp1 : p < 1098000000000) : ∃ (l : List ISt) (p' : Int), Fit 400 l ∧ p ≤ p' ∧ p' ≤ p + 300000000 ∧ Ends (fun k => spec_l4Some.f k s p) (l, p') := by
 have hlb := lb_le 3 (by omega)
 have hcn := cn_le 3 (by omega)
 obtain ⟨l, p1, f1, q0, q1, h1⟩ := list_total s hs hl 3 (by omega) 3 (by omega) (by omega) p hp (by omega)
 have hf := (f1.mono hcn).ok (by omega)
 have h2 := spec_stOk l hf.1 hf.2
 cases hv : (countL 4 l 0).1 with
 | true =>
  rw [hv] at h2
  refine ⟨l, p1, f1.mono hcn, q0, by omega, ?_⟩
  refine Ends.of ?_ (fun k => by rw [spec_l4Some.f])
  refine h1.bind (h2.bind (Ends.const fun k => ?_))
  rw [if_pos rfl]
 | false =>
  rw [hv] at h2
  obtain ⟨x, p2, ht, hc, z0, z1, h3⟩ := count_ends s hs hl p1 (by omega) (by omega)
  have hx : Fit 400 [x] := by
   have := (Fit.nil 0).snoc ht hc
   exact Fit.mono (by simpa using this) (by omega)
  refine ⟨[x], p2, hx, by omega, by omega, ?_⟩
  refine Ends.of ?_ (fun k => by rw [spec_l4Some.f])
  refine h1.bind (h2.bind ?_)
  refine Ends.of ?_ (fun k => by rw [if_neg (by decide)])
  refine h3.bind (Ends.const fun k => ?_)
  dsimp only
  rw [st_eta]
theorem Fit.set {n : Nat} {l : List ISt} (h : Fit n l) (i : Nat) (hi : i < l.length) (y : ISt) (hy : TinyS y) (hc : cntS y = cntS l[i]) : Fit n (l.set i y) := by
 refine ⟨?_, fun x hx => ?_⟩
 ·have : (l.set i y).map cntS = l.map cntS := by
   rw [List.map_set, hc]
   apply List.ext_getElem? 
   intro j
   rw [List.getElem?_set]
   split
   ·rename_i hij
    subst hij
    simp [hi]
   ·rfl
  rw [this]; exact h.1
 ·rcases List.mem_or_eq_of_mem_set hx with hx | rfl
  ·exact h.2 x hx
  ·exact hy
theorem wrap_ends (s : List Int) (hs : Bytes s) (hl : s.length ≤ 2000) : ∀ (n j : Nat), n + j = 4 → ∀ (p : Int) (l : List ISt) (m : Nat), 0 ≤ p → p + n * 100000 < 1098900000000 → Fit m l → m + n ≤ 1000 → ∃ (l' : List ISt) (p' : Int), Fit (m + n) l' ∧ p ≤ p' ∧ p' ≤ p + n * 100000 ∧ Ends (fun k => spec_l4Bent.l0 k l (j : Int) s p) (l', p') := by
 intro n
 induction n with
 | zero =>
  intro j hj p l m hp hp1 hf hm
  exact ⟨l, p, hf, by omega, by omega, Ends.succ (fun k => by rw [spec_l4Bent.l0, if_neg (by omega)]) (Ends.const fun k => rfl)⟩
 | succ n ih =>
  intro j hj p l m hp hp1 hf hm
  obtain ⟨e, p1, he, q0, q1, h1⟩ := expr_ends s hs hl 1 (by omega) p hp (by omega)
  have hx := Fit.mk1 (k := 2) (a := ⟨0, 0⟩) he hf (Fit.nil 0) (by omega) (by omega)
  have hfx : Fit (m + 1) [(⟨2, ⟨0, 0⟩, e, l, []⟩ : ISt)] := by
   have := (Fit.nil 0).snoc hx.1 hx.2
   exact Fit.mono (by simpa using this) (by omega)
  obtain ⟨l', p', g1, g2, g3, g4⟩ := ih (j + 1) (by omega) p1 _ (m + 1) (by omega) (by omega) hfx (by omega)
  refine ⟨l', p', g1.mono (by omega), by omega, by omega, ?_⟩
  refine Ends.succ (fun k => by rw [spec_l4Bent.l0, if_pos (by omega)]) ?_
  refine h1.bind (g4.of fun k => ?_)
  dsimp only
  rw [ex_eta, show wrap64 ((j : Int) + 1) = ((j + 1 : Nat) : Int) by rw [wrap_id (by omega) (by omega)]; omega]
theorem fill_ends (s : List Int) (hs : Bytes s) (hl : s.length ≤ 2000) : ∀ (n : Nat) (p : Int) (l : List ISt) (m : Nat), 17 ≤ l.length + n → 0 ≤ p → p + n * 200000 < 1098900000000 → Fit m l → m + n ≤ 1000 → ∃ (l' : List ISt) (p' : Int), Fit (m + n) l' ∧ p ≤ p' ∧ p' ≤ p + n * 200000 ∧ Ends (fun k => spec_l4Bent.l1 k l s p) (l', p') := by
 intro n
 induction n with
 | zero =>
  intro p l m hj hp hp1 hf hm
  exact ⟨l, p, hf, by omega, by omega, Ends.succ (fun k => by rw [spec_l4Bent.l1, if_neg (by omega)]) (Ends.const fun k => rfl)⟩
 | succ n ih =>
  intro p l m hj hp hp1 hf hm
  by_cases h16 : (l.length : Int) ≤ 16
  ·obtain ⟨x, y, h1⟩ := to_ends s hs hl p hp (by omega)
   obtain ⟨e, p1, he, q0, q1, h2⟩ := expr_ends s hs hl 1 (by omega) (p + 2) (by omega) (by omega)
   have hx := Fit.mk1 (n := 0) (m := 0) (k := 1) (a := ⟨x, y⟩) he (Fit.nil 0) (Fit.nil 0) (by omega) (by omega)
   obtain ⟨l', p', g1, g2, g3, g4⟩ := ih p1 (l ++ [⟨1, ⟨x, y⟩, e, [], []⟩]) (m + 1) (by rw [List.length_append, List.length_singleton]; omega) (by omega) (by omega) (hf.snoc hx.1 hx.2) (by omega)
   refine ⟨l', p', g1.mono (by omega), by omega, by omega, ?_⟩
   refine Ends.succ (fun k => by rw [spec_l4Bent.l1, if_pos h16]) ?_
   refine h1.bind (h2.bind (g4.of fun k => ?_))
   rw [if_pos (by omega)]
   dsimp only
   rw [ex_eta]
  ·exact ⟨l, p, hf.mono (by omega), by omega, by omega, Ends.succ (fun k => by rw [spec_l4Bent.l1, if_neg h16]) (Ends.const fun k => rfl)⟩
theorem stBent_ends (s : List Int) (hs : Bytes s) (hl : s.length ≤ 2000) (p : Int) (hp : 0 ≤ p) (hp1 : p < 1097000000000) : ∃ (l : List ISt) (p' : Int), Fit 500 l ∧ p ≤ p' ∧ p' ≤ p + 400000000 ∧ Ends (fun k => spec_l4Bent.f k s p) (l, p') := by
 obtain ⟨l, p1, f1, q0, q1, h1⟩ := stSome_ends s hs hl p hp (by omega)
 have hlen := f1.len
 by_cases h0 : (l.length : Int) = 0
 ·refine ⟨l, p1, f1.mono (by omega), q0, by omega, ?_⟩
  refine Ends.of ?_ (fun k => by rw [spec_l4Bent.f])
  exact h1.bind (Ends.const fun k => by rw [if_pos h0])
 obtain ⟨i, i0, i1, h2⟩ := pick_ends s hs hl p1 (l.length : Int) (by omega) (by omega) (by omega) (by omega)
 obtain ⟨r, r0, r1, h3⟩ := pick_ends s hs hl (p1 + 1) 50 (by omega) (by omega) (by omega) (by omega)
 have go : (∃ (l' : List ISt) (p' : Int), Fit 500 l' ∧ p ≤ p' ∧ p' ≤ p + 400000000 ∧ Ends (fun k => (if r = 0 then ((spec_l12Rd_num.f k s (p1 + 1 + 1) (([0, 4, 1, 2, 3] : List Int))).bind fun bt636 => (if 0 ≤ i then (if i < (l.length : Int) then (some ((l.set (i : Int).toNat (⟨bt636.1, (⟨(rd_T33 l i).f1.f0, (rd_T33 l i).f1.f1⟩), (⟨(rd_T33 l i).f2.f0, (rd_T33 l i).f2.f1, (⟨(rd_T33 l i).f2.f2.f0, (rd_T33 l i).f2.f2.f1⟩), (rd_T33 l i).f2.f3⟩), (rd_T33 l i).f3, (rd_T33 l i).f4⟩ : ISt)), bt636.2)) else (none)) else (none))) else (if r = 1 then ((spec_l2AddrBent.f k s (p1 + 1 + 1)).bind fun bt639 => (if 0 ≤ i then (if i < (l.length : Int) then (some ((l.set (i : Int).toNat (⟨(rd_T33 l i).f0, (⟨bt639.1, bt639.2.1⟩), (⟨(rd_T33 l i).f2.f0, (rd_T33 l i).f2.f1, (⟨(rd_T33 l i).f2.f2.f0, (rd_T33 l i).f2.f2.f1⟩), (rd_T33 l i).f2.f3⟩), (rd_T33 l i).f3, (rd_T33 l i).f4⟩ : ISt)), bt639.2.2)) else (none)) else (none))) else (if r = 2 then ((spec_l3Bent.f k s (p1 + 1 + 1)).bind fun bt643 => (if 0 ≤ i then (if i < (l.length : Int) then (some ((l.set (i : Int).toNat (⟨(rd_T33 l i).f0, (⟨(rd_T33 l i).f1.f0, (rd_T33 l i).f1.f1⟩), (⟨bt643.1, bt643.2.1, (⟨bt643.2.2.1, bt643.2.2.2.1⟩), bt643.2.2.2.2.1⟩), (rd_T33 l i).f3, (rd_T33 l i).f4⟩ : ISt)), bt643.2.2.2.2.2)) else (none)) else (none))) else (if r = 3 then (spec_l4Bent.l0 k l 0 s (p1 + 1 + 1)) else (if r = 4 then (spec_l4Bent.l1 k l s (p1 + 1 + 1)) else (some (l, (p1 + 1 + 1))))))))) (l', p')) → ∃ (l' : List ISt) (p' : Int), Fit 500 l' ∧ p ≤ p' ∧ p' ≤ p + 400000000 ∧ Ends (fun k => spec_l4Bent.f k s p) (l', p') := by
  intro h
  obtain ⟨l', p', g1, g2, g3, g4⟩ := h
  refine ⟨l', p', g1, g2, g3, ?_⟩
  refine Ends.of ?_ (fun k => by rw [spec_l4Bent.f])
  refine h1.bind ?_
  refine Ends.of ?_ (fun k => by rw [if_neg h0])
  refine h2.bind (h3.bind ?_)
  exact g4
 refine go ?_
 clear go h1 h2 h3
 obtain ⟨j, rfl⟩ := Int.eq_ofNat_of_zero_le i0
 have hj : j < l.length := by omega
 have hrd : rd_T33 l (j : Int) = l[j] := rdI_st l j hj
 have hT := f1.2 l[j] (List.getElem_mem hj)
 rw [hrd]
 obtain ⟨x, hx⟩ : ∃ x, x = l[j] := ⟨_, rfl⟩
 rw [← hx] at hT ⊢
 have hset : ∀ (k0 : Int) (a0 : S28) (e0 : Ex), Tiny e0 → Fit 500 (l.set j ⟨k0, a0, e0, x.f3, x.f4⟩) := fun k0 a0 e0 he => (f1.set j hj _ (by
  cases hT with
  | mk _ h2 h3 h4 h5 h6 => exact .mk _ he h3 h4 h5 h6) (by rw [cntS_eq, ← hx, cntS_eq x])).mono (by omega)
 have hTx : Tiny x.f2 := by cases hT with | mk _ h2 h3 h4 h5 h6 => exact h2
 by_cases z0 : r = 0
 ·obtain ⟨n, hn, h⟩ := num_ends s hs hl (p1 + 1 + 1) (by omega) (by omega) [0, 4, 1, 2, 3] (by simp) (by simp)
  refine ⟨_, p1 + 1 + 1 + 1, hset n x.f1 x.f2 hTx, by omega, by omega, ?_⟩
  refine Ends.of ?_ (fun k => by rw [if_pos z0])
  refine h.bind (Ends.const fun k => ?_)
  rw [if_pos (by omega), if_pos (by omega), ex_eta]
  rfl
 by_cases z1 : r = 1
 ·obtain ⟨a, b, p2, y0, y1, h⟩ := addrBent_ends s hs hl (p1 + 1 + 1) (by omega) (by omega)
  refine ⟨_, p2, hset x.f0 ⟨a, b⟩ x.f2 hTx, by omega, by omega, ?_⟩
  refine Ends.of ?_ (fun k => by rw [if_neg z0, if_pos z1])
  refine h.bind (Ends.const fun k => ?_)
  rw [if_pos (by omega), if_pos (by omega), ex_eta]
  rfl
 by_cases z2 : r = 2
 ·obtain ⟨e, p2, he, y0, y1, h⟩ := exBent_ends s hs hl (p1 + 1 + 1) (by omega) (by omega)
  refine ⟨_, p2, hset x.f0 x.f1 e he, by omega, by omega, ?_⟩
  refine Ends.of ?_ (fun k => by rw [if_neg z0, if_neg z1, if_pos z2])
  refine h.bind (Ends.const fun k => ?_)
  rw [if_pos (by omega), if_pos (by omega)]
  dsimp only
  rw [ex_eta]
  rfl
 by_cases z3 : r = 3
 ·obtain ⟨l', p', g1, g2, g3, g4⟩ := wrap_ends s hs hl 4 0 rfl (p1 + 1 + 1) l 400 (by omega) (by omega) f1 (by omega)
  refine ⟨l', p', g1.mono (by omega), by omega, by omega, ?_⟩
  exact g4.of fun k => by rw [if_neg z0, if_neg z1, if_neg z2, if_pos z3]; rfl
 by_cases z4 : r = 4
 ·obtain ⟨l', p', g1, g2, g3, g4⟩ := fill_ends s hs hl 17 (p1 + 1 + 1) l 400 (by omega) (by omega) (by omega) f1 (by omega)
  refine ⟨l', p', g1.mono (by omega), by omega, by omega, ?_⟩
  exact g4.of fun k => by rw [if_neg z0, if_neg z1, if_neg z2, if_neg z3, if_pos z4]
 refine ⟨l, p1 + 1 + 1, f1.mono (by omega), by omega, by omega, ?_⟩
 exact Ends.const fun k => by rw [if_neg z0, if_neg z1, if_neg z2, if_neg z3, if_neg z4]
end Go.Proofs.YtbckpgipehjgmaaGreat.B
