/- The draws of what may be bent end: an expression, a memory, both. -/
import Derived.Test.YtiofkhfmdophpaaDraw3
import Derived.Test.YtiofkhfmdophpaaPkD
namespace Go.Proofs.Ytiofkhfmdophpaa.B
open Go.RowKit Go.Proofs.YtiofkhfmdophpaaW.PrintWords Go.Proofs.YtiofkhfmdophpaaW.PrintLast Go.Proofs.YtiofkhfmdophpaaW.PrintMore
set_option linter.unusedVariables false

theorem ex_eta (e : Ex) : (⟨e.f0, e.f1, ⟨e.f2.f0, e.f2.f1⟩, e.f3⟩ : Ex) = e := by cases e with | mk a b c l => cases c; rfl
theorem bent_loop0 (s : List Int) (p : Int) : ∀ (n j : Nat), n + j = 6 → ∀ e : Ex, Tiny e → ∃ e', Tiny e' ∧ ∀ k, n + 1 ≤ k → Drew1 (spec_l3Bent.l0 k j s p e.f0 e.f1 e.f2.f0 e.f2.f1 e.f3) e' p := by
 intro n
 induction n with
 | zero =>
  intro j hj e he
  refine ⟨e, he, fun k hk => ?_⟩
  obtain ⟨k', rfl⟩ : ∃ k', k = k' + 1 := ⟨k - 1, by omega⟩
  unfold Drew1
  rw [spec_l3Bent.l0, if_neg (by omega)]
 | succ n ihn =>
  intro j hj e he
  obtain ⟨e', he', h⟩ := ihn (j + 1) (by omega) ⟨10, 0, ⟨0, 0⟩, [e]⟩ (.mk _ (by simp) (by intro x hx; simp at hx; rw [hx]; exact he))
  refine ⟨e', he', fun k hk => ?_⟩
  obtain ⟨k', rfl⟩ : ∃ k', k = k' + 1 := ⟨k - 1, by omega⟩
  have := h k' (by omega)
  unfold Drew1 at this ⊢
  rw [spec_l3Bent.l0, if_pos (by omega), wrap_id (by omega) (by omega), ex_eta]
  exact this
theorem bent_loop1 (s : List Int) (p : Int) : ∀ (n j : Nat), n + j = 4 → ∀ e : Ex, Tiny e → ∃ e' K, Tiny e' ∧ ∀ k, K ≤ k → Drew1 (spec_l3Bent.l1 k j s p e.f0 e.f1 e.f2.f0 e.f2.f1 e.f3) e' p := by
 intro n
 induction n with
 | zero =>
  intro j hj e he
  refine ⟨e, 1, he, fun k hk => ?_⟩
  obtain ⟨k', rfl⟩ : ∃ k', k = k' + 1 := ⟨k - 1, by omega⟩
  unfold Drew1
  rw [spec_l3Bent.l1, if_neg (by omega)]
 | succ n ihn =>
  intro j hj e he
  obtain ⟨kc, hc⟩ := copy_total e he
  obtain ⟨e', K, he', h⟩ := ihn (j + 1) (by omega) ⟨3, 0, ⟨0, 0⟩, [e, e]⟩ (.mk _ (by simp) (by intro x hx; simp at hx; rw [hx]; exact he))
  refine ⟨e', kc + K + 1, he', fun k hk => ?_⟩
  obtain ⟨k', rfl⟩ : ∃ k', k = k' + 1 := ⟨k - 1, by omega⟩
  have := h k' (by omega)
  unfold Drew1 at this ⊢
  rw [spec_l3Bent.l1, if_pos (by omega), up_le (mono_cf _ _ _ _ _) (show kc ≤ k' by omega) hc]
  simp only [Option.bind_some]
  rw [wrap_id (by omega) (by omega), ex_eta]
  exact this
theorem some_up (s : List Int) (p : Int) {k k' : Nat} (h : k ≤ k') {e : Ex} {q : Int} (hk : Drew1 (spec_l3Some.f k s p) e q) : Drew1 (spec_l3Some.f k' s p) e q := up_le (f := fun k => spec_l3Some.f k s p) (fun k => spec_l3Some.mono _ _ k) h hk
theorem bent_total (s : List Int) (hs : Bytes s) (hl : s.length ≤ 2000) (p : Int) (hp : 0 ≤ p) (hp1 : p < 1099400000000) :
  ∃ (e : Ex) (p' : Int) (K : Nat), Tiny e ∧ p ≤ p' ∧ p' ≤ p + 200007 ∧ ∀ k, K ≤ k → Drew1 (spec_l3Bent.f k s p) e p' := by
 obtain ⟨e, p1, k1, he, q1, q2, h1⟩ := some_total s hs hl p hp (by omega)
 obtain ⟨r, r0, r1, hr⟩ := pick_total s hs hl p1 60 (by omega) (by omega) (by omega) (by omega)
 have hs1 : ∀ k, k1 + 1 ≤ k → spec_l3Some.f k s p = some (e.f0, e.f1, e.f2.f0, e.f2.f1, e.f3, p1) ∧ spec_l12Rd_pick.f k s p1 60 = some (r, p1 + 1) := fun k hk => by
  obtain ⟨k', rfl⟩ : ∃ k', k = k' + 1 := ⟨k - 1, by omega⟩
  exact ⟨some_up s p (by omega) h1, hr k'⟩
 by_cases h0 : r = 0
 ·obtain ⟨x, hx, hn⟩ := num_total s hs hl (p1 + 1) (by omega) (by omega) [0, 11, 3, 10] (by simp) (by simp)
  refine ⟨⟨x, e.f1, e.f2, e.f3⟩, p1 + 1 + 1, k1 + 1, ?_, by omega, by omega, fun k hk => ?_⟩
  ·cases he with | mk _ a b => exact .mk _ a b
  ·obtain ⟨s1, s2⟩ := hs1 k hk
   obtain ⟨k', rfl⟩ : ∃ k', k = k' + 1 := ⟨k - 1, by omega⟩
   unfold Drew1
   rw [spec_l3Bent.f, s1]
   simp only [Option.bind_some]
   rw [s2]
   simp only [Option.bind_some, if_pos h0]
   rw [hn k']; rfl
 ·by_cases h1' : r = 1
  ·obtain ⟨x, hx, hn⟩ := num_total s hs hl (p1 + 1) (by omega) (by omega) [1, 1000001] (by simp) (by simp)
   refine ⟨⟨e.f0, x, e.f2, e.f3⟩, p1 + 1 + 1, k1 + 1, ?_, by omega, by omega, fun k hk => ?_⟩
   ·cases he with | mk _ a b => exact .mk _ a b
   ·obtain ⟨s1, s2⟩ := hs1 k hk
    obtain ⟨k', rfl⟩ : ∃ k', k = k' + 1 := ⟨k - 1, by omega⟩
    unfold Drew1
    rw [spec_l3Bent.f, s1]
    simp only [Option.bind_some]
    rw [s2]
    simp only [Option.bind_some, if_neg h0, if_pos h1']
    rw [hn k']; rfl
  ·by_cases h2 : r = 2
   ·obtain ⟨a, b, p2, q3, q4, hn⟩ := addrBent_total s hs hl (p1 + 1) (by omega) (by omega)
    refine ⟨⟨e.f0, e.f1, ⟨a, b⟩, e.f3⟩, p2, k1 + 1, ?_, by omega, by omega, fun k hk => ?_⟩
    ·cases he with | mk _ a b => exact .mk _ a b
    ·obtain ⟨s1, s2⟩ := hs1 k hk
     obtain ⟨k', rfl⟩ : ∃ k', k = k' + 1 := ⟨k - 1, by omega⟩
     unfold Drew1
     rw [spec_l3Bent.f, s1]
     simp only [Option.bind_some]
     rw [s2]
     simp only [Option.bind_some, if_neg h0, if_neg h1', if_pos h2]
     rw [hn k']; rfl
   ·by_cases h3 : r = 3
    ·obtain ⟨e', he', h⟩ := bent_loop0 s (p1 + 1) 6 0 (by omega) e he
     refine ⟨e', p1 + 1, k1 + 8, he', by omega, by omega, fun k hk => ?_⟩
     obtain ⟨s1, s2⟩ := hs1 k (by omega)
     have := h k (by omega)
     unfold Drew1 at this ⊢
     rw [spec_l3Bent.f, s1]
     simp only [Option.bind_some]
     rw [s2]
     simp only [Option.bind_some, if_neg h0, if_neg h1', if_neg h2, if_pos h3]
     exact this
    ·by_cases h4 : r = 4
     ·obtain ⟨e', K, he', h⟩ := bent_loop1 s (p1 + 1) 4 0 (by omega) e he
      refine ⟨e', p1 + 1, k1 + 1 + K, he', by omega, by omega, fun k hk => ?_⟩
      obtain ⟨s1, s2⟩ := hs1 k (by omega)
      have := h k (by omega)
      unfold Drew1 at this ⊢
      rw [spec_l3Bent.f, s1]
      simp only [Option.bind_some]
      rw [s2]
      simp only [Option.bind_some, if_neg h0, if_neg h1', if_neg h2, if_neg h3, if_pos h4]
      exact this
     ·refine ⟨e, p1 + 1, k1 + 1, he, by omega, by omega, fun k hk => ?_⟩
      obtain ⟨s1, s2⟩ := hs1 k hk
      unfold Drew1
      rw [spec_l3Bent.f, s1]
      simp only [Option.bind_some]
      rw [s2]
      simp only [Option.bind_some, if_neg h0, if_neg h1', if_neg h2, if_neg h3, if_neg h4]
/-- Three lists that are short. -/
def Mini (l0 l1 l2 : List Int) : Prop := l0.length ≤ 7 ∧ l1.length ≤ 7 ∧ l2.length ≤ 7
theorem memBent_total (s : List Int) (hs : Bytes s) (hl : s.length ≤ 2000) (p : Int) (hp : 0 ≤ p) (hp1 : p < 1099300000000) :
  ∃ (m0 m1 m2 : List Int) (p' : Int), Mini m0 m1 m2 ∧ p ≤ p' ∧ p' ≤ p + 13 ∧ ∀ k, 6 ≤ k → spec_l2MemBent.f k s p = some (m0, m1, m2, p') := by
 obtain ⟨m0, m1, m2, p1, l0, l1, l2, q1, q2, hm⟩ := mem_total s hs hl p hp (by omega)
 obtain ⟨r, r0, r1, hr⟩ := pick_total s hs hl p1 30 (by omega) (by omega) (by omega) (by omega)
 have hs1 : ∀ k, 6 ≤ k → spec_l2Mem.f k s p = some (m0, m1, m2, p1) ∧ spec_l12Rd_pick.f k s p1 30 = some (r, p1 + 1) := fun k hk => by
  obtain ⟨k', rfl⟩ : ∃ k', k = k' + 1 := ⟨k - 1, by omega⟩
  exact ⟨hm k' (by omega), hr k'⟩
 by_cases h0 : r = 0
 ·refine ⟨m0.take 2, m1, m2, p1 + 1, ⟨by simp; omega, by omega, by omega⟩, by omega, by omega, fun k hk => ?_⟩
  obtain ⟨s1, s2⟩ := hs1 k hk
  rw [spec_l2MemBent.f, s1]
  simp only [Option.bind_some]
  rw [s2]
  simp only [Option.bind_some, if_pos h0]
  rw [if_pos (by omega)]; rfl
 ·by_cases h1 : r = 1
  ·refine ⟨m0, m1, m2.set 0 1000001, p1 + 1, ⟨by omega, by omega, by simp; omega⟩, by omega, by omega, fun k hk => ?_⟩
   obtain ⟨s1, s2⟩ := hs1 k hk
   rw [spec_l2MemBent.f, s1]
   simp only [Option.bind_some]
   rw [s2]
   simp only [Option.bind_some, if_neg h0, if_pos h1]
   rw [if_pos (by omega)]; rfl
  ·by_cases h2 : r = 2
   ·refine ⟨m0, m1 ++ [0], m2, p1 + 1, ⟨by omega, by simp; omega, by omega⟩, by omega, by omega, fun k hk => ?_⟩
    obtain ⟨s1, s2⟩ := hs1 k hk
    rw [spec_l2MemBent.f, s1]
    simp only [Option.bind_some]
    rw [s2]
    simp only [Option.bind_some, if_neg h0, if_neg h1, if_pos h2]
    rw [if_pos (by omega)]
   ·refine ⟨m0, m1, m2, p1 + 1, ⟨by omega, by omega, by omega⟩, by omega, by omega, fun k hk => ?_⟩
    obtain ⟨s1, s2⟩ := hs1 k hk
    rw [spec_l2MemBent.f, s1]
    simp only [Option.bind_some]
    rw [s2]
    simp only [Option.bind_some, if_neg h0, if_neg h1, if_neg h2]
/-- A code that came in: its bytes, its opening. -/
theorem open_total (l : List Int) (hw : ∀ x ∈ l, (Lit.int .u8 x).wf = true) : ∃ s, Bytes s ∧ s.length ≤ 2000 ∧ spec_l12Open.f l = some (s, 0) := by
 have hb : Bytes l := fun x hx => by
  have := hw x hx
  simp [Lit.wf, IntKind.min, IntKind.max, IntKind.signed, IntKind.bits] at this
  omega
 by_cases h : (l.length : Int) > 2000
 ·refine ⟨l.take 2000, fun x hx => hb x (List.mem_of_mem_take hx), by simp; omega, ?_⟩
  rw [spec_l12Open.f, if_pos h, if_pos (by omega)]
 ·exact ⟨l, hb, by omega, by rw [spec_l12Open.f, if_neg h]⟩
theorem drawOf_total (l : List Int) (hw : ∀ x ∈ l, (Lit.int .u8 x).wf = true) :
  ∃ (e : Ex) (m0 m1 m2 : List Int) (K : Nat), Tiny e ∧ Mini m0 m1 m2 ∧ ∀ k, K ≤ k → spec_DrawExprOf.f k l = some (e.f0, e.f1, e.f2.f0, e.f2.f1, e.f3, m0, m1, m2) := by
 obtain ⟨s, hs, hl, ho⟩ := open_total l hw
 obtain ⟨e, p1, K, he, q1, q2, h1⟩ := bent_total s hs hl 0 (by omega) (by omega)
 obtain ⟨m0, m1, m2, p2, hm, q3, q4, h2⟩ := memBent_total s hs hl p1 (by omega) (by omega)
 refine ⟨e, m0, m1, m2, K + 6, he, hm, fun k hk => ?_⟩
 have := h1 k (by omega)
 unfold Drew1 at this
 rw [spec_DrawExprOf.f, ho]
 simp only [Option.bind_some]
 rw [this]
 simp only [Option.bind_some]
 rw [h2 k (by omega)]; rfl
end Go.Proofs.Ytiofkhfmdophpaa.B
