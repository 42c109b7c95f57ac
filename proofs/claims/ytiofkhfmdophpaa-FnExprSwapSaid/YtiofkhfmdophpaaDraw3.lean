/- The draw of a memory ends: three lists of six. -/
import Derived.Test.YtiofkhfmdophpaaDraw2
import Derived.Test.YtiofkhfmdophpaaPkC
namespace Go.Proofs.Ytiofkhfmdophpaa.B
open Go.RowKit Go.Proofs.YtiofkhfmdophpaaW.PrintWords Go.Proofs.YtiofkhfmdophpaaW.PrintLast Go.Proofs.YtiofkhfmdophpaaW.PrintMore
set_option linter.unusedVariables false

theorem mem_loop (s : List Int) (hs : Bytes s) (hl : s.length ≤ 2000) : ∀ (n j : Nat), n + j = 4 → ∀ (p : Int) (l0 l1 l2 : List Int), 0 ≤ p → p + 3 * n < 1099500000000 → l0.length = 6 → l1.length = 6 → l2.length = 6 →
  ∃ (m0 m1 m2 : List Int) (p' : Int), m0.length = 6 ∧ m1.length = 6 ∧ m2.length = 6 ∧ p ≤ p' ∧ p' ≤ p + 3 * n ∧ ∀ k, n + 1 ≤ k → spec_l2Mem.l0 (k + 1) j s p l0 l1 l2 = some (m0, m1, m2, p') := by
 intro n
 induction n with
 | zero =>
  intro j hj p l0 l1 l2 hp hp1 h0 h1 h2
  exact ⟨l0, l1, l2, p, h0, h1, h2, by omega, by omega, fun k _ => by rw [spec_l2Mem.l0, if_neg (by omega)]⟩
 | succ n ihn =>
  intro j hj p l0 l1 l2 hp hp1 h0 h1 h2
  obtain ⟨x, hx, e0⟩ := num_total s hs hl p hp (by omega) [0, 0, 1, 1, 2, 5, (-1)] (by simp) (by simp)
  obtain ⟨y, hy, e1⟩ := num_total s hs hl (p + 1) (by omega) (by omega) [0, 0, 1, 3] (by simp) (by simp)
  obtain ⟨z, hz, e2⟩ := num_total s hs hl (p + 1 + 1) (by omega) (by omega) [0, 0, 1, 2, 7, 1000000] (by simp) (by simp)
  obtain ⟨m0, m1, m2, p', q0, q1, q2, q3, q4, h⟩ := ihn (j + 1) (by omega) (p + 1 + 1 + 1) (l0.set j x) (l1.set j y) (l2.set j z) (by omega) (by omega) (by simpa using h0) (by simpa using h1) (by simpa using h2)
  refine ⟨m0, m1, m2, p', q0, q1, q2, by omega, by omega, fun k hk => ?_⟩
  obtain ⟨k', rfl⟩ : ∃ k', k = k' + 1 := ⟨k - 1, by omega⟩
  rw [spec_l2Mem.l0, if_pos (by omega), e0 k']
  simp only [Option.bind_some]
  rw [if_pos (by omega), if_pos (by omega), e1 k']
  simp only [Option.bind_some]
  rw [if_pos (by omega), e2 k']
  simp only [Option.bind_some]
  rw [if_pos (by omega), wrap_id (by omega) (by omega), Int.toNat_natCast]
  exact h k' (by omega)
theorem mem_total (s : List Int) (hs : Bytes s) (hl : s.length ≤ 2000) (p : Int) (hp : 0 ≤ p) (hp1 : p < 1099400000000) :
  ∃ (m0 m1 m2 : List Int) (p' : Int), m0.length = 6 ∧ m1.length = 6 ∧ m2.length = 6 ∧ p ≤ p' ∧ p' ≤ p + 12 ∧ ∀ k, 5 ≤ k → spec_l2Mem.f (k + 1) s p = some (m0, m1, m2, p') := by
 obtain ⟨m0, m1, m2, p', q0, q1, q2, q3, q4, h⟩ := mem_loop s hs hl 4 0 (by omega) p (List.replicate 6 0) (List.replicate 6 0) (List.replicate 6 0) hp (by omega) (by simp) (by simp) (by simp)
 refine ⟨m0, m1, m2, p', q0, q1, q2, q3, by omega, fun k hk => ?_⟩
 rw [spec_l2Mem.f, spec_MemOpen.f, if_pos (by decide)]
 simp only [Option.bind_some]
 exact h k hk
end Go.Proofs.Ytiofkhfmdophpaa.B
