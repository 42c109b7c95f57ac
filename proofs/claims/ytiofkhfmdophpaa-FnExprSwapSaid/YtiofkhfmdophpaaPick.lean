/- The draws' pick ends, and is in its bounds. -/
import Derived.Test.YtiofkhfmdophpaaPkB
import Derived.Laws.BitsLemmas
namespace Go.Proofs.Ytiofkhfmdophpaa.B
open Go.RowKit Go.Proofs.YtiofkhfmdophpaaW.PrintWords Go.Proofs.YtiofkhfmdophpaaW.PrintLast Go.Proofs.YtiofkhfmdophpaaW.PrintMore
set_option linter.unusedVariables false

theorem wrap_id {n : Int} (h0 : -9223372036854775808 ≤ n) (h1 : n ≤ 9223372036854775807) : wrap64 n = n := by
 unfold wrap64
 omega
theorem xor_nonneg (a b : Int) (ha : 0 ≤ a) (ha1 : a < 2 ^ 62) (hb : 0 ≤ b) (hb1 : b < 2 ^ 62) : 0 ≤ Go.bits .xor .i64 a b := by
 obtain ⟨m, rfl⟩ := Int.eq_ofNat_of_zero_le ha
 obtain ⟨n, rfl⟩ := Int.eq_ofNat_of_zero_le hb
 have hm : m < 2 ^ 62 := by omega
 have hn : n < 2 ^ 62 := by omega
 have hx := Nat.xor_lt_two_pow hm hn
 have ha' : m % 2 ^ 64 = m := Nat.mod_eq_of_lt (by omega)
 have hb' : n % 2 ^ 64 = n := Nat.mod_eq_of_lt (by omega)
 have hq : (BitVec.ofNat 64 m ^^^ BitVec.ofNat 64 n).toNat = m ^^^ n := by rw [BitVec.toNat_xor, BitVec.toNat_ofNat, BitVec.toNat_ofNat, ha', hb']
 show 0 ≤ IntKind.i64.wrap (((BitVec.ofInt 64 (m : Int)) ^^^ (BitVec.ofInt 64 (n : Int))).toNat : Int)
 rw [BitVec.ofInt_natCast, BitVec.ofInt_natCast, hq, IntKind.wrap_i64]
 omega
theorem tmod_in (a n : Int) (ha : 0 ≤ a) (hn : 1 ≤ n) : 0 ≤ Int.tmod a n ∧ Int.tmod a n < n := by
 rw [Int.tmod_eq_emod_of_nonneg ha]
 exact ⟨Int.emod_nonneg _ (by omega), Int.emod_lt_of_pos _ (by omega)⟩
theorem tdiv_in (a n : Int) (ha : 0 ≤ a) (hn : 1 ≤ n) : 0 ≤ Int.tdiv a n ∧ Int.tdiv a n ≤ a := by
 rw [Int.tdiv_eq_ediv_of_nonneg ha]
 exact ⟨Int.ediv_nonneg ha (by omega), Int.ediv_le_self _ ha⟩
def Bytes (s : List Int) : Prop := ∀ x ∈ s, 0 ≤ x ∧ x < 256
theorem rd_byte (s : List Int) (hs : Bytes s) (i : Int) (h0 : 0 ≤ i) (h1 : i < s.length) : 0 ≤ rd s i ∧ rd s i < 256 := by
 have : i.toNat < s.length := by omega
 have e : rd s i = s[i.toNat] := by simp [rd, this]
 rw [e]; exact hs _ (List.getElem_mem this)
theorem pick_total (s : List Int) (hs : Bytes s) (hl : s.length ≤ 2000) (p n : Int) (hp : 0 ≤ p) (hp1 : p < 1099511627776) (hn : 1 ≤ n) (hn1 : n < 2147483648) :
  ∃ r, 0 ≤ r ∧ r < n ∧ ∀ k, spec_l12Rd_pick.f (k + 1) s p n = some (r, p + 1) := by
 have e1 : wrap64 (p + 1) = p + 1 := wrap_id (by omega) (by omega)
 have e2 : wrap64 (p + 1 - 1) = p := by rw [show p + 1 - 1 = p by omega]; exact wrap_id (by omega) (by omega)
 by_cases hz : s.length = 0
 ·refine ⟨0, by omega, by omega, fun k => ?_⟩
  have hz' : ((s.length : Int) == 0) = true := by rw [hz]; rfl
  rw [spec_l12Rd_pick.f, if_neg (by omega), spec_l12Rd_pick.j0, if_pos hz', e1]
 ·have hz' : ((s.length : Int) == 0) = false := beq_false_of_ne (by omega)
  by_cases hlt : p < (s.length : Int)
  ·have hb := rd_byte s hs p hp hlt
   have hw : wrap64 (rd s p) = rd s p := wrap_id (by omega) (by omega)
   have hm := tmod_in (rd s p) n hb.1 hn
   refine ⟨Int.tmod (rd s p) n, hm.1, hm.2, fun k => ?_⟩
   rw [spec_l12Rd_pick.f, if_neg (by omega), spec_l12Rd_pick.j0, hz', if_neg (by decide), e1, e2, if_pos hlt, if_pos hp, if_neg (by omega), hw]
  ·have i1 := tmod_in p (s.length : Int) hp (by omega)
   have w7 : wrap64 (p * 7) = p * 7 := wrap_id (by omega) (by omega)
   have w73 : wrap64 (p * 7 + 3) = p * 7 + 3 := wrap_id (by omega) (by omega)
   have i2 := tmod_in (p * 7 + 3) (s.length : Int) (by omega) (by omega)
   have q1 := rd_byte s hs _ i1.1 i1.2
   have q2 := rd_byte s hs _ i2.1 i2.2
   have dv := tdiv_in p (s.length : Int) hp (by omega)
   obtain ⟨a, ha⟩ : ∃ a, a = rd s (Int.tmod p (s.length : Int)) := ⟨_, rfl⟩
   obtain ⟨b, hb⟩ : ∃ b, b = rd s (Int.tmod (p * 7 + 3) (s.length : Int)) := ⟨_, rfl⟩
   obtain ⟨d, hd⟩ : ∃ d, d = Int.tdiv p (s.length : Int) := ⟨_, rfl⟩
   rw [← ha] at q1
   rw [← hb] at q2
   rw [← hd] at dv
   have wa : wrap64 a = a := wrap_id (by omega) (by omega)
   have wb : wrap64 b = b := wrap_id (by omega) (by omega)
   have wa1 : wrap64 (a * 131) = a * 131 := wrap_id (by omega) (by omega)
   have wb1 : wrap64 (b * 1117) = b * 1117 := wrap_id (by omega) (by omega)
   have wab : wrap64 (a * 131 + b * 1117) = a * 131 + b * 1117 := wrap_id (by omega) (by omega)
   have wp : wrap64 (p * 29) = p * 29 := wrap_id (by omega) (by omega)
   have wabp : wrap64 (a * 131 + b * 1117 + p * 29) = a * 131 + b * 1117 + p * 29 := wrap_id (by omega) (by omega)
   have wd0 : wrap64 d = d := wrap_id (by omega) (by omega)
   have wd : wrap64 (d * 53) = d * 53 := wrap_id (by omega) (by omega)
   have wx : wrap64 (a * 131 + b * 1117 + p * 29 + d * 53) = a * 131 + b * 1117 + p * 29 + d * 53 := wrap_id (by omega) (by omega)
   have dx := tdiv_in (a * 131 + b * 1117 + p * 29 + d * 53) 64 (by omega) (by omega)
   have wdx : wrap64 (Int.tdiv (a * 131 + b * 1117 + p * 29 + d * 53) 64) = Int.tdiv (a * 131 + b * 1117 + p * 29 + d * 53) 64 := wrap_id (by omega) (by omega)
   have hx := xor_nonneg (a * 131 + b * 1117 + p * 29 + d * 53) (Int.tdiv (a * 131 + b * 1117 + p * 29 + d * 53) 64) (by omega) (by omega) dx.1 (by omega)
   have hm := tmod_in _ n hx hn
   refine ⟨_, hm.1, hm.2, fun k => ?_⟩
   rw [spec_l12Rd_pick.f, if_neg (by omega), spec_l12Rd_pick.j0, hz', if_neg (by decide), e1, e2, if_neg hlt, if_neg (by omega), w7, w73, if_pos i1.1, if_pos i1.2, if_pos i2.1, if_pos i2.2, if_neg (by omega), ← ha, ← hb, ← hd]
   simp only [wa, wb, wa1, wb1, wab, wp, wabp, wd0, wd, wx, wdx]
end Go.Proofs.Ytiofkhfmdophpaa.B
