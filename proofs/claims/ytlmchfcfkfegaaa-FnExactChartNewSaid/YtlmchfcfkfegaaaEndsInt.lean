/- The laws' own helpers over whole numbers, in plain Lean. -/
import Derived.Test.YtlmchfcfkfegaaaEnds
import Derived.Test.YtlmchfcfkfegaaaPkA
namespace Go.Proofs.Ytlmchfcfkfegaaa.B
open Go.RowKit Go.Proofs.YtlmchfcfkfegaaaW.PrintWords Go.Proofs.YtlmchfcfkfegaaaW.PrintLast Go.Proofs.YtlmchfcfkfegaaaW.PrintMore
set_option linter.unusedVariables false

theorem szInts (l : List Int) (hl : l.length ≤ 9223372036854775807) (m : Int) (hm : Left m) : laws_szIntS.f l m = some (szV l.length m) := by
 have h0 := hm.1; have h1 := hm.2
 rw [laws_szIntS.f, wrap_in (by omega) (by omega), szV]
 by_cases h : (l.length : Int) ≤ m
 ·rw [if_neg (by omega), if_pos h]
 ·rw [if_pos (by omega), if_neg h]
theorem rd_intE (l : List Int) (j : Nat) (h : j < l.length) : rd l (j : Int) = l[j] := by simp [rd, h]
theorem toInts_loop (l : List Int) (hl : l.length ≤ 1048576) : ∀ (n j : Nat), n + j = l.length → Ends (fun k => laws_toIntS.l0 k l (l.take j ++ List.replicate n 0) j) l := by
 intro n
 induction n with
 | zero =>
  intro j hj
  refine Ends.succ (fun k => by rw [laws_toIntS.l0, if_neg (by omega)]) (Ends.const fun k => ?_)
  rw [List.take_of_length_le (by omega)]; simp
 | succ n ihn =>
  intro j hj
  have hlt : j < l.length := by omega
  have hlen : (l.take j).length = j := by simp; omega
  have e : l.take (j + 1) ++ List.replicate n 0 = l.take j ++ l[j] :: List.replicate n 0 := by rw [List.take_succ_eq_append_getElem hlt, List.append_assoc]; rfl
  have h := ihn (j + 1) (by omega)
  rw [e] at h
  refine Ends.succ (fun k => ?_) h
  rw [laws_toIntS.l0, if_pos (by omega), if_pos (by omega), if_pos (by simp; omega), wrap_in (by omega) (by omega), rd_intE l j hlt, Int.toNat_natCast, List.replicate_succ, List.set_append_right _ _ (by omega), hlen, Nat.sub_self, List.set_cons_zero]
  rfl
theorem toInts (l : List Int) (hl : l.length ≤ 1048576) : Ends (fun k => laws_toIntS.f k l) l := by
 have h := toInts_loop l hl l.length 0 (by omega)
 refine h.of fun k => ?_
 rw [laws_toIntS.f, if_pos (by omega), if_pos (by simp; omega)]
 simp
theorem eqInts_loop (l : List Int) (hl : l.length ≤ 9223372036854775807) : ∀ (n j : Nat), n + j = l.length → Ends (fun k => laws_eqIntS.l0 k l l j) true := by
 intro n
 induction n with
 | zero =>
  intro j hj
  exact Ends.succ (fun k => by rw [laws_eqIntS.l0, if_neg (by omega)]) (Ends.const fun k => rfl)
 | succ n ihn =>
  intro j hj
  have hlt : j < l.length := by omega
  refine Ends.succ (fun k => ?_) (ihn (j + 1) (by omega))
  rw [laws_eqIntS.l0, if_pos (by omega), if_pos (by omega), if_pos (by omega), if_pos rfl, wrap_in (by omega) (by omega)]
  rfl
theorem eqInts (l : List Int) (hl : l.length ≤ 9223372036854775807) : Ends (fun k => laws_eqIntS.f k l l) true := by
 refine (eqInts_loop l hl l.length 0 (by omega)).of fun k => ?_
 rw [laws_eqIntS.f, if_pos rfl]
 rfl
end Go.Proofs.Ytlmchfcfkfegaaa.B
