/- Plain law: the specification's decimal is the numeral that strconv writes. -/
import Derived.Test.YtddnijmgipffeaaDoorF13
import Derived.Lib.ItoaNum
import Derived.Lib.ItoaLen
namespace Go.Proofs.YtddnijmgipffeaaDoor.B
open Go Go.RowKit Go.Lib Go.Proofs.YtddnijmgipffeaaDoorW.PrintWords Go.Proofs.YtddnijmgipffeaaDoorW.PrintLast Go.Proofs.YtddnijmgipffeaaDoorW.PrintMore
set_option linter.unusedVariables false
theorem str1 (d : Nat) (h : d ≤ 9) : strOfNums [wrap64 (48 + (d : Int)) % 256] = (⟨#[UInt8.ofNat (48 + d)]⟩ : ByteArray) := by
  have e : (wrap64 (48 + (d : Int)) % 256).toNat = 48 + d := by unfold wrap64; omega
  unfold strOfNums
  simp only [List.map_cons, List.map_nil, e]
theorem ba_app (a b : List UInt8) : (⟨a.toArray⟩ : ByteArray) ++ ⟨b.toArray⟩ = ⟨(a ++ b).toArray⟩ := by
  apply ByteArray.ext
  simp
theorem ba_size (a : List UInt8) : (⟨a.toArray⟩ : ByteArray).size = a.length := by simp [ByteArray.size]
theorem l0_dec : ∀ (k u : Nat) (x : List UInt8), u < 9223372036854775808 → nDigits u ≤ k → x.length + nDigits u ≤ 1000 → spec_l12Dec.l0 k u ⟨x.toArray⟩ = some ⟨(decDigits u ++ x).toArray⟩ := by
  intro k
  induction k with
  | zero => intro u x _ h _; have := nDigits_pos u; omega
  | succ k ih =>
    intro u x hu hk hx
    rw [spec_l12Dec.l0]
    by_cases h : u < 10
    · rw [if_neg (by omega), Option.bind_some, str1 u (by omega)]
      rw [show (⟨#[UInt8.ofNat (48 + u)]⟩ : ByteArray) = ⟨[UInt8.ofNat (48 + u)].toArray⟩ from rfl, ba_size, ba_size, if_pos (by simp; omega), ba_app, decDigits, dif_pos h]
    · have e1 : Int.tmod (u : Int) 10 = ((u % 10 : Nat) : Int) := by rw [Int.tmod_eq_emod_of_nonneg (by omega)]; omega
      have e2 : wrap64 (Int.tdiv (u : Int) 10) = ((u / 10 : Nat) : Int) := by rw [Int.tdiv_eq_ediv_of_nonneg (by omega)]; unfold wrap64; omega
      have hd := nDigits_big h
      rw [if_pos (by omega), Option.bind_some, e1, e2, str1 (u % 10) (by omega)]
      rw [show (⟨#[UInt8.ofNat (48 + u % 10)]⟩ : ByteArray) = ⟨[UInt8.ofNat (48 + u % 10)].toArray⟩ from rfl, ba_size, ba_size, if_pos (by simp; omega), ba_app, ih (u / 10) _ (by omega) (by omega) (by simp; omega)]
      have hq : decDigits u = decDigits (u / 10) ++ [UInt8.ofNat (48 + u % 10)] := by
        conv => lhs; rw [decDigits, dif_neg h]
      rw [hq, List.append_assoc]
theorem dec_eq (n : Int) (h0 : -9223372036854775808 ≤ n) (h1 : n ≤ 9223372036854775807) : ∃ k, spec_l12Dec.f k n = some ⟨(itoa n).toArray⟩ := by
  have hpos : ∀ u : Nat, u < 9223372036854775808 → spec_l12Dec.f 31 (u : Int) = some ⟨(decDigits u).toArray⟩ := fun u hu => by
    have hn := nDigits_le20 u (by omega)
    rw [spec_l12Dec.f, if_neg (by omega), if_neg (by omega)]
    have := l0_dec 30 u [] hu (by omega) (by simp; omega)
    simpa using this
  by_cases hn : n < 0
  · by_cases hm : n < -9223372036854775807
    · obtain rfl : n = -9223372036854775808 := by omega
      exact ⟨1, by decide +kernel⟩
    · obtain ⟨u, rfl⟩ : ∃ u : Nat, n = -(u : Int) := ⟨n.natAbs, by omega⟩
      refine ⟨32, ?_⟩
      have hl := nDigits_le20 u (by omega)
      rw [spec_l12Dec.f, if_neg hm, if_pos hn, show wrap64 (- -(u : Int)) = (u : Int) by unfold wrap64; omega, hpos u (by omega), Option.bind_some, ba_size, if_pos (by rw [decDigits_length]; omega)]
      rw [show (⟨#[45]⟩ : ByteArray) = ⟨[45].toArray⟩ from rfl, ba_app, itoa, if_pos hn]
      simp
  · obtain ⟨u, rfl⟩ : ∃ u : Nat, n = u := ⟨n.toNat, by omega⟩
    exact ⟨31, by rw [hpos u (by omega), itoa, if_neg hn]; simp⟩
end Go.Proofs.YtddnijmgipffeaaDoor.B
