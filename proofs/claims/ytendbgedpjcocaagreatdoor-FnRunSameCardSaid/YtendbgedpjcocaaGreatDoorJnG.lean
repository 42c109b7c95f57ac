import Derived.Test.YtendbgedpjcocaaGreatDoorPkB
import Derived.Test.YtendbgedpjcocaaGreatDoorF63
import Derived.Test.YtendbgedpjcocaaGreatDoorPkC
import Derived.Test.YtendbgedpjcocaaGreatDoorF10
import Derived.Test.YtendbgedpjcocaaGreatDoorJnC
import Derived.Test.YtendbgedpjcocaaGreatDoorJnI
import Derived.Test.YtendbgedpjcocaaGreatDoorJnE
import Derived.Test.YtendbgedpjcocaaGreatDoorPkA
import Derived.Test.YtendbgedpjcocaaGreatDoorJnH
/- The draws of what is ok, and the copies, end. -/
namespace Go.Proofs.YtendbgedpjcocaaGreatDoor.B
open Go.RowKit Go.Proofs.YtendbgedpjcocaaGreatDoorW.PrintWords Go.Proofs.YtendbgedpjcocaaGreatDoorW.PrintLast Go.Proofs.YtendbgedpjcocaaGreatDoorW.PrintMore
set_option linter.unusedVariables false

theorem some_total (s : List Int) (hs : Bytes s) (hl : s.length ≤ 2000) (p : Int) (hp : 0 ≤ p) (hp1 : p < 1099500000000) :
  ∃ (e : Ex) (p' : Int) (k : Nat), Tiny e ∧ p ≤ p' ∧ p' ≤ p + 200002 ∧ Drew1 (spec_l3Some.f k s p) e p' := by
 obtain ⟨r, r0, r1, hr⟩ := pick_total s hs hl p 4 hp (by omega) (by omega) (by omega)
 obtain ⟨d, hd⟩ := Int.eq_ofNat_of_zero_le r0
 have hd4 : d < 4 := by omega
 have b1 := bnd_le (d + 1) (by omega)
 have b2 := bnd_le 2 (by omega)
 have b3 := bnd_pos (d + 1)
 have b4 := bnd_pos 2
 obtain ⟨e, p1, k1, he, q1, q2, h1⟩ := expr_total s hs hl (d + 1) (by omega) (p + 1) (by omega) (by omega)
 obtain ⟨k2, h2⟩ := exprOk_spec e he.short
 obtain ⟨e', p2, k3, he', q3, q4, h3⟩ := expr_total s hs hl 2 (by omega) p1 (by omega) (by omega)
 unfold Drew1 at h1 h3
 have m1 : spec_l3Expr.f (k1 + k2 + k3 + 1) s (p + 1) ((d + 1 : Nat) : Int) = _ := up_le (mono_ef _ _ _) (by omega) h1
 have m2 : spec_ExprOk.f (k1 + k2 + k3 + 1) e.f0 e.f1 e.f2.f0 e.f2.f1 e.f3 = _ := up_le (f := fun k => spec_ExprOk.f k e.f0 e.f1 e.f2.f0 e.f2.f1 e.f3) (fun k => spec_ExprOk.mono _ _ _ _ _ k) (show k2 ≤ k1 + k2 + k3 + 1 by omega) h2
 have m3 : spec_l3Expr.f (k1 + k2 + k3 + 1) s p1 2 = _ := up_le (mono_ef _ _ _) (by omega) h3
 have e1 : wrap64 (1 + r) = ((d + 1 : Nat) : Int) := by rw [wrap_id (by omega) (by omega)]; omega
 cases hv : (formS 6 e && decide (manyS 6 e ≤ 14)) with
 | true =>
  refine ⟨e, p1, k1 + k2 + k3 + 1, he, by omega, by omega, ?_⟩
  unfold Drew1
  rw [spec_l3Some.f, hr (k1 + k2 + k3)]
  simp only [Option.bind_some]
  rw [e1, m1]
  simp only [Option.bind_some]
  rw [m2, hv]
  simp
 | false =>
  refine ⟨e', p2, k1 + k2 + k3 + 1, he', by omega, by omega, ?_⟩
  unfold Drew1
  rw [spec_l3Some.f, hr (k1 + k2 + k3)]
  simp only [Option.bind_some]
  rw [e1, m1]
  simp only [Option.bind_some]
  rw [m2, hv]
  simp only [Option.bind_some, Bool.false_eq_true, if_false]
  rw [m3]
  simp

theorem addrBent_total (s : List Int) (hs : Bytes s) (hl : s.length ≤ 2000) (p : Int) (hp : 0 ≤ p) (hp1 : p < 1099500000000) :
  ∃ (a b p' : Int), p ≤ p' ∧ p' ≤ p + 4 ∧ ∀ k, spec_l2AddrBent.f (k + 1) s p = some (a, b, p') := by
 obtain ⟨a, b, ha, hb, hq⟩ := addr_total s hs hl p hp (by omega)
 obtain ⟨r, r0, r1, hr⟩ := pick_total s hs hl (p + 2) 16 (by omega) (by omega) (by omega) (by omega)
 obtain ⟨x, hx, hn⟩ := num_total s hs hl (p + 2 + 1) (by omega) (by omega) [0, 4, (-1)] (by simp) (by simp)
 obtain ⟨y, hy, hm⟩ := num_total s hs hl (p + 2 + 1) (by omega) (by omega) [(-1), 6, 5] (by simp) (by simp)
 by_cases h0 : r = 0
 ·refine ⟨x, b, p + 2 + 1 + 1, by omega, by omega, fun k => ?_⟩
  rw [spec_l2AddrBent.f, hq k]
  simp only [Option.bind_some]
  rw [hr k]
  simp only [Option.bind_some, if_pos h0]
  rw [hn k]; rfl
 ·by_cases h1 : r = 1
  ·refine ⟨a, y, p + 2 + 1 + 1, by omega, by omega, fun k => ?_⟩
   rw [spec_l2AddrBent.f, hq k]
   simp only [Option.bind_some]
   rw [hr k]
   simp only [Option.bind_some, if_neg h0, if_pos h1]
   rw [hm k]; rfl
  ·refine ⟨a, b, p + 2 + 1, by omega, by omega, fun k => ?_⟩
   rw [spec_l2AddrBent.f, hq k]
   simp only [Option.bind_some]
   rw [hr k]
   simp only [Option.bind_some, if_neg h0, if_neg h1]
theorem mono_cf (a b c d : Int) (l : List Ex) : ∀ k, LeO (spec_l3Copy.f k a b c d l) (spec_l3Copy.f (k + 1) a b c d l) := fun k => (spec_l3Copy.mono_l k).1 a b c d l
theorem mono_cl (x a b c d : Int) (l : List Ex) (a' b' c' d' : Int) (l' : List Ex) : ∀ k, LeO (spec_l3Copy.l0 k x a b c d l a' b' c' d' l') (spec_l3Copy.l0 (k + 1) x a b c d l a' b' c' d' l') := fun k => (spec_l3Copy.mono_l k).2 x a b c d l a' b' c' d' l'
theorem copy_total (e : Ex) (he : Tiny e) : ∃ k, spec_l3Copy.f k e.f0 e.f1 e.f2.f0 e.f2.f1 e.f3 = some (e.f0, e.f1, e.f2.f0, e.f2.f1, e.f3) := by
 induction he with
 | mk e hl hk ih =>
  have loop : ∀ (n j : Nat), n + j = e.f3.length → ∃ k, spec_l3Copy.l0 k j e.f0 e.f1 e.f2.f0 e.f2.f1 e.f3 e.f0 e.f1 e.f2.f0 e.f2.f1 (e.f3.take j) = some (e.f0, e.f1, e.f2.f0, e.f2.f1, e.f3) := by
   intro n
   induction n with
   | zero => intro j hj; exact ⟨1, by rw [spec_l3Copy.l0, if_neg (by omega), List.take_of_length_le (by omega)]⟩
   | succ n ihn =>
    intro j hj
    have hlt : j < e.f3.length := by omega
    obtain ⟨k1, h1⟩ := ih e.f3[j] (List.getElem_mem hlt)
    obtain ⟨k2, h2⟩ := ihn (j + 1) (by omega)
    refine ⟨k1 + k2 + 1, ?_⟩
    have eta : (⟨e.f3[j].f0, e.f3[j].f1, ⟨e.f3[j].f2.f0, e.f3[j].f2.f1⟩, e.f3[j].f3⟩ : Ex) = e.f3[j] := by cases e.f3[j] with | mk a b c l => cases c; rfl
    rw [spec_l3Copy.l0, if_pos (by omega), if_pos (by omega), rd_get e.f3 j hlt, up_le (mono_cf _ _ _ _ _) (Nat.le_add_right k1 k2) h1]
    simp only [Option.bind_some]
    rw [if_pos (by simp; omega), wrap_id (by omega) (by omega), eta, ← List.take_succ_eq_append_getElem hlt]
    exact up_le (mono_cl _ _ _ _ _ _ _ _ _ _ _) (Nat.le_add_left k2 k1) h2
  obtain ⟨k, h⟩ := loop e.f3.length 0 (by omega)
  exact ⟨k + 1, by rw [spec_l3Copy.f]; simpa using h⟩
end Go.Proofs.YtendbgedpjcocaaGreatDoor.B
/- The draw of a memory ends: three lists of six. -/
namespace Go.Proofs.YtendbgedpjcocaaGreatDoor.B
open Go.RowKit Go.Proofs.YtendbgedpjcocaaGreatDoorW.PrintWords Go.Proofs.YtendbgedpjcocaaGreatDoorW.PrintLast Go.Proofs.YtendbgedpjcocaaGreatDoorW.PrintMore
set_option linter.unusedVariables false

theorem mem_loop (s : List Int) (hs : Bytes s) (hl : s.length ≤ 2000) : ∀ (n j : Nat), n + j = 4 → ∀ (p : Int) (l0 l1 l2 : List Int), 0 ≤ p → p + 3 * n < 1099500000000 → l0.length = 6 → l1.length = 6 → l2.length = 6 →
  ∃ (m0 m1 m2 : List Int) (p' : Int), m0.length = 6 ∧ m1.length = 6 ∧ m2.length = 6 ∧ p ≤ p' ∧ p' ≤ p + 3 * n ∧ ∀ k, n + 1 ≤ k → spec_l2Mem.l0 (k + 1) j s p l0 l1 l2 = some (m0, m1, m2, p') := by
 intro n
 induction n with
 | zero =>
  intro j hj p l0 l1 l2 hp hp1 h0 h1 h2
  exact ⟨l0, l1, l2, p, h0, h1, h2, by omega, by omega, fun k _ => by rw [spec_l2Mem.l0, if_neg (by omega)]⟩
 | succ n ihn =>
  intro j hj p l0 l1 l2 hp hp1 h0 h1 h2
  obtain ⟨x, hx, e0⟩ := num_total s hs hl p hp (by omega) [0, 0, 1, 1, 2, 5, (-1)] (by simp) (by simp)
  obtain ⟨y, hy, e1⟩ := num_total s hs hl (p + 1) (by omega) (by omega) [0, 0, 1, 3] (by simp) (by simp)
  obtain ⟨z, hz, e2⟩ := num_total s hs hl (p + 1 + 1) (by omega) (by omega) [0, 0, 1, 2, 7, 1000000] (by simp) (by simp)
  obtain ⟨m0, m1, m2, p', q0, q1, q2, q3, q4, h⟩ := ihn (j + 1) (by omega) (p + 1 + 1 + 1) (l0.set j x) (l1.set j y) (l2.set j z) (by omega) (by omega) (by simpa using h0) (by simpa using h1) (by simpa using h2)
  refine ⟨m0, m1, m2, p', q0, q1, q2, by omega, by omega, fun k hk => ?_⟩
  obtain ⟨k', rfl⟩ : ∃ k', k = k' + 1 := ⟨k - 1, by omega⟩
  rw [spec_l2Mem.l0, if_pos (by omega), e0 k']
  simp only [Option.bind_some]
  rw [if_pos (by omega), if_pos (by omega), e1 k']
  simp only [Option.bind_some]
  rw [if_pos (by omega), e2 k']
  simp only [Option.bind_some]
  rw [if_pos (by omega), wrap_id (by omega) (by omega), Int.toNat_natCast]
  exact h k' (by omega)
theorem mem_total (s : List Int) (hs : Bytes s) (hl : s.length ≤ 2000) (p : Int) (hp : 0 ≤ p) (hp1 : p < 1099400000000) :
  ∃ (m0 m1 m2 : List Int) (p' : Int), m0.length = 6 ∧ m1.length = 6 ∧ m2.length = 6 ∧ p ≤ p' ∧ p' ≤ p + 12 ∧ ∀ k, 5 ≤ k → spec_l2Mem.f (k + 1) s p = some (m0, m1, m2, p') := by
 obtain ⟨m0, m1, m2, p', q0, q1, q2, q3, q4, h⟩ := mem_loop s hs hl 4 0 (by omega) p (List.replicate 6 0) (List.replicate 6 0) (List.replicate 6 0) hp (by omega) (by simp) (by simp) (by simp)
 refine ⟨m0, m1, m2, p', q0, q1, q2, q3, by omega, fun k hk => ?_⟩
 rw [spec_l2Mem.f, spec_MemOpen.f, if_pos (by decide)]
 simp only [Option.bind_some]
 exact h k hk
end Go.Proofs.YtendbgedpjcocaaGreatDoor.B
/- The draw of an expression that may be bent ends. -/
namespace Go.Proofs.YtendbgedpjcocaaGreatDoor.B
open Go.RowKit Go.Proofs.YtendbgedpjcocaaGreatDoorW.PrintWords Go.Proofs.YtendbgedpjcocaaGreatDoorW.PrintLast Go.Proofs.YtendbgedpjcocaaGreatDoorW.PrintMore
set_option linter.unusedVariables false

theorem ex_eta (e : Ex) : (⟨e.f0, e.f1, ⟨e.f2.f0, e.f2.f1⟩, e.f3⟩ : Ex) = e := by cases e with | mk a b c l => cases c; rfl
theorem bent_loop0 (s : List Int) (p : Int) : ∀ (n j : Nat), n + j = 6 → ∀ e : Ex, Tiny e → ∃ e', Tiny e' ∧ ∀ k, n + 1 ≤ k → Drew1 (spec_l3Bent.l0 k j s p e.f0 e.f1 e.f2.f0 e.f2.f1 e.f3) e' p := by
 intro n
 induction n with
 | zero =>
  intro j hj e he
  refine ⟨e, he, fun k hk => ?_⟩
  obtain ⟨k', rfl⟩ : ∃ k', k = k' + 1 := ⟨k - 1, by omega⟩
  unfold Drew1
  rw [spec_l3Bent.l0, if_neg (by omega)]
 | succ n ihn =>
  intro j hj e he
  obtain ⟨e', he', h⟩ := ihn (j + 1) (by omega) ⟨10, 0, ⟨0, 0⟩, [e]⟩ (.mk _ (by simp) (by intro x hx; simp at hx; rw [hx]; exact he))
  refine ⟨e', he', fun k hk => ?_⟩
  obtain ⟨k', rfl⟩ : ∃ k', k = k' + 1 := ⟨k - 1, by omega⟩
  have := h k' (by omega)
  unfold Drew1 at this ⊢
  rw [spec_l3Bent.l0, if_pos (by omega), wrap_id (by omega) (by omega), ex_eta]
  exact this
theorem bent_loop1 (s : List Int) (p : Int) : ∀ (n j : Nat), n + j = 4 → ∀ e : Ex, Tiny e → ∃ e' K, Tiny e' ∧ ∀ k, K ≤ k → Drew1 (spec_l3Bent.l1 k j s p e.f0 e.f1 e.f2.f0 e.f2.f1 e.f3) e' p := by
 intro n
 induction n with
 | zero =>
  intro j hj e he
  refine ⟨e, 1, he, fun k hk => ?_⟩
  obtain ⟨k', rfl⟩ : ∃ k', k = k' + 1 := ⟨k - 1, by omega⟩
  unfold Drew1
  rw [spec_l3Bent.l1, if_neg (by omega)]
 | succ n ihn =>
  intro j hj e he
  obtain ⟨kc, hc⟩ := copy_total e he
  obtain ⟨e', K, he', h⟩ := ihn (j + 1) (by omega) ⟨3, 0, ⟨0, 0⟩, [e, e]⟩ (.mk _ (by simp) (by intro x hx; simp at hx; rw [hx]; exact he))
  refine ⟨e', kc + K + 1, he', fun k hk => ?_⟩
  obtain ⟨k', rfl⟩ : ∃ k', k = k' + 1 := ⟨k - 1, by omega⟩
  have := h k' (by omega)
  unfold Drew1 at this ⊢
  rw [spec_l3Bent.l1, if_pos (by omega), up_le (mono_cf _ _ _ _ _) (show kc ≤ k' by omega) hc]
  simp only [Option.bind_some]
  rw [wrap_id (by omega) (by omega), ex_eta]
  exact this
theorem some_up (s : List Int) (p : Int) {k k' : Nat} (h : k ≤ k') {e : Ex} {q : Int} (hk : Drew1 (spec_l3Some.f k s p) e q) : Drew1 (spec_l3Some.f k' s p) e q := up_le (f := fun k => spec_l3Some.f k s p) (fun k => spec_l3Some.mono _ _ k) h hk
theorem bent_total (s : List Int) (hs : Bytes s) (hl : s.length ≤ 2000) (p : Int) (hp : 0 ≤ p) (hp1 : p < 1099400000000) :
  ∃ (e : Ex) (p' : Int) (K : Nat), Tiny e ∧ p ≤ p' ∧ p' ≤ p + 200007 ∧ ∀ k, K ≤ k → Drew1 (spec_l3Bent.f k s p) e p' := by
 obtain ⟨e, p1, k1, he, q1, q2, h1⟩ := some_total s hs hl p hp (by omega)
 obtain ⟨r, r0, r1, hr⟩ := pick_total s hs hl p1 60 (by omega) (by omega) (by omega) (by omega)
 have hs1 : ∀ k, k1 + 1 ≤ k → spec_l3Some.f k s p = some (e.f0, e.f1, e.f2.f0, e.f2.f1, e.f3, p1) ∧ spec_l12Rd_pick.f k s p1 60 = some (r, p1 + 1) := fun k hk => by
  obtain ⟨k', rfl⟩ : ∃ k', k = k' + 1 := ⟨k - 1, by omega⟩
  exact ⟨some_up s p (by omega) h1, hr k'⟩
 by_cases h0 : r = 0
 ·obtain ⟨x, hx, hn⟩ := num_total s hs hl (p1 + 1) (by omega) (by omega) [0, 11, 3, 10] (by simp) (by simp)
  refine ⟨⟨x, e.f1, e.f2, e.f3⟩, p1 + 1 + 1, k1 + 1, ?_, by omega, by omega, fun k hk => ?_⟩
  ·cases he with | mk _ a b => exact .mk _ a b
  ·obtain ⟨s1, s2⟩ := hs1 k hk
   obtain ⟨k', rfl⟩ : ∃ k', k = k' + 1 := ⟨k - 1, by omega⟩
   unfold Drew1
   rw [spec_l3Bent.f, s1]
   simp only [Option.bind_some]
   rw [s2]
   simp only [Option.bind_some, if_pos h0]
   rw [hn k']; rfl
 ·by_cases h1' : r = 1
  ·obtain ⟨x, hx, hn⟩ := num_total s hs hl (p1 + 1) (by omega) (by omega) [1, 1000001] (by simp) (by simp)
   refine ⟨⟨e.f0, x, e.f2, e.f3⟩, p1 + 1 + 1, k1 + 1, ?_, by omega, by omega, fun k hk => ?_⟩
   ·cases he with | mk _ a b => exact .mk _ a b
   ·obtain ⟨s1, s2⟩ := hs1 k hk
    obtain ⟨k', rfl⟩ : ∃ k', k = k' + 1 := ⟨k - 1, by omega⟩
    unfold Drew1
    rw [spec_l3Bent.f, s1]
    simp only [Option.bind_some]
    rw [s2]
    simp only [Option.bind_some, if_neg h0, if_pos h1']
    rw [hn k']; rfl
  ·by_cases h2 : r = 2
   ·obtain ⟨a, b, p2, q3, q4, hn⟩ := addrBent_total s hs hl (p1 + 1) (by omega) (by omega)
    refine ⟨⟨e.f0, e.f1, ⟨a, b⟩, e.f3⟩, p2, k1 + 1, ?_, by omega, by omega, fun k hk => ?_⟩
    ·cases he with | mk _ a b => exact .mk _ a b
    ·obtain ⟨s1, s2⟩ := hs1 k hk
     obtain ⟨k', rfl⟩ : ∃ k', k = k' + 1 := ⟨k - 1, by omega⟩
     unfold Drew1
     rw [spec_l3Bent.f, s1]
     simp only [Option.bind_some]
     rw [s2]
     simp only [Option.bind_some, if_neg h0, if_neg h1', if_pos h2]
     rw [hn k']; rfl
   ·by_cases h3 : r = 3
    ·obtain ⟨e', he', h⟩ := bent_loop0 s (p1 + 1) 6 0 (by omega) e he
     refine ⟨e', p1 + 1, k1 + 8, he', by omega, by omega, fun k hk => ?_⟩
     obtain ⟨s1, s2⟩ := hs1 k (by omega)
     have := h k (by omega)
     unfold Drew1 at this ⊢
     rw [spec_l3Bent.f, s1]
     simp only [Option.bind_some]
     rw [s2]
     simp only [Option.bind_some, if_neg h0, if_neg h1', if_neg h2, if_pos h3]
     exact this
    ·by_cases h4 : r = 4
     ·obtain ⟨e', K, he', h⟩ := bent_loop1 s (p1 + 1) 4 0 (by omega) e he
      refine ⟨e', p1 + 1, k1 + 1 + K, he', by omega, by omega, fun k hk => ?_⟩
      obtain ⟨s1, s2⟩ := hs1 k (by omega)
      have := h k (by omega)
      unfold Drew1 at this ⊢
      rw [spec_l3Bent.f, s1]
      simp only [Option.bind_some]
      rw [s2]
      simp only [Option.bind_some, if_neg h0, if_neg h1', if_neg h2, if_neg h3, if_pos h4]
      exact this
     ·refine ⟨e, p1 + 1, k1 + 1, he, by omega, by omega, fun k hk => ?_⟩
      obtain ⟨s1, s2⟩ := hs1 k hk
      unfold Drew1
      rw [spec_l3Bent.f, s1]
      simp only [Option.bind_some]
      rw [s2]
      simp only [Option.bind_some, if_neg h0, if_neg h1', if_neg h2, if_neg h3, if_neg h4]
/-- A code that came in: its bytes, its opening. -/
theorem open_total (l : List Int) (hw : ∀ x ∈ l, (Lit.int .u8 x).wf = true) : ∃ s, Bytes s ∧ s.length ≤ 2000 ∧ spec_l12Open.f l = some (s, 0) := by
 have hb : Bytes l := fun x hx => by
  have := hw x hx
  simp [Lit.wf, IntKind.min, IntKind.max, IntKind.signed, IntKind.bits] at this
  omega
 by_cases h : (l.length : Int) > 2000
 ·refine ⟨l.take 2000, fun x hx => hb x (List.mem_of_mem_take hx), by simp; omega, ?_⟩
  rw [spec_l12Open.f, if_pos h, if_pos (by omega)]
 ·exact ⟨l, hb, by omega, by rw [spec_l12Open.f, if_neg h]⟩
end Go.Proofs.YtendbgedpjcocaaGreatDoor.B
/- The draws of what may be bent end: an expression, a memory, both. -/
namespace Go.Proofs.YtendbgedpjcocaaGreatDoor.B
open Go.RowKit Go.Proofs.YtendbgedpjcocaaGreatDoorW.PrintWords Go.Proofs.YtendbgedpjcocaaGreatDoorW.PrintLast Go.Proofs.YtendbgedpjcocaaGreatDoorW.PrintMore
set_option linter.unusedVariables false

/-- Three lists that are short. -/
def Mini (l0 l1 l2 : List Int) : Prop := l0.length ≤ 7 ∧ l1.length ≤ 7 ∧ l2.length ≤ 7
theorem memBent_total (s : List Int) (hs : Bytes s) (hl : s.length ≤ 2000) (p : Int) (hp : 0 ≤ p) (hp1 : p < 1099300000000) :
  ∃ (m0 m1 m2 : List Int) (p' : Int), Mini m0 m1 m2 ∧ p ≤ p' ∧ p' ≤ p + 13 ∧ ∀ k, 6 ≤ k → spec_l2MemBent.f k s p = some (m0, m1, m2, p') := by
 obtain ⟨m0, m1, m2, p1, l0, l1, l2, q1, q2, hm⟩ := mem_total s hs hl p hp (by omega)
 obtain ⟨r, r0, r1, hr⟩ := pick_total s hs hl p1 30 (by omega) (by omega) (by omega) (by omega)
 have hs1 : ∀ k, 6 ≤ k → spec_l2Mem.f k s p = some (m0, m1, m2, p1) ∧ spec_l12Rd_pick.f k s p1 30 = some (r, p1 + 1) := fun k hk => by
  obtain ⟨k', rfl⟩ : ∃ k', k = k' + 1 := ⟨k - 1, by omega⟩
  exact ⟨hm k' (by omega), hr k'⟩
 by_cases h0 : r = 0
 ·refine ⟨m0.take 2, m1, m2, p1 + 1, ⟨by simp; omega, by omega, by omega⟩, by omega, by omega, fun k hk => ?_⟩
  obtain ⟨s1, s2⟩ := hs1 k hk
  rw [spec_l2MemBent.f, s1]
  simp only [Option.bind_some]
  rw [s2]
  simp only [Option.bind_some, if_pos h0]
  rw [if_pos (by omega)]; rfl
 ·by_cases h1 : r = 1
  ·refine ⟨m0, m1, m2.set 0 1000001, p1 + 1, ⟨by omega, by omega, by simp; omega⟩, by omega, by omega, fun k hk => ?_⟩
   obtain ⟨s1, s2⟩ := hs1 k hk
   rw [spec_l2MemBent.f, s1]
   simp only [Option.bind_some]
   rw [s2]
   simp only [Option.bind_some, if_neg h0, if_pos h1]
   rw [if_pos (by omega)]; rfl
  ·by_cases h2 : r = 2
   ·refine ⟨m0, m1 ++ [0], m2, p1 + 1, ⟨by omega, by simp; omega, by omega⟩, by omega, by omega, fun k hk => ?_⟩
    obtain ⟨s1, s2⟩ := hs1 k hk
    rw [spec_l2MemBent.f, s1]
    simp only [Option.bind_some]
    rw [s2]
    simp only [Option.bind_some, if_neg h0, if_neg h1, if_pos h2]
    rw [if_pos (by omega)]
   ·refine ⟨m0, m1, m2, p1 + 1, ⟨by omega, by omega, by omega⟩, by omega, by omega, fun k hk => ?_⟩
    obtain ⟨s1, s2⟩ := hs1 k hk
    rw [spec_l2MemBent.f, s1]
    simp only [Option.bind_some]
    rw [s2]
    simp only [Option.bind_some, if_neg h0, if_neg h1, if_neg h2]
theorem drawOf_total (l : List Int) (hw : ∀ x ∈ l, (Lit.int .u8 x).wf = true) :
  ∃ (e : Ex) (m0 m1 m2 : List Int) (K : Nat), Tiny e ∧ Mini m0 m1 m2 ∧ ∀ k, K ≤ k → spec_DrawExprOf.f k l = some (e.f0, e.f1, e.f2.f0, e.f2.f1, e.f3, m0, m1, m2) := by
 obtain ⟨s, hs, hl, ho⟩ := open_total l hw
 obtain ⟨e, p1, K, he, q1, q2, h1⟩ := bent_total s hs hl 0 (by omega) (by omega)
 obtain ⟨m0, m1, m2, p2, hm, q3, q4, h2⟩ := memBent_total s hs hl p1 (by omega) (by omega)
 refine ⟨e, m0, m1, m2, K + 6, he, hm, fun k hk => ?_⟩
 have := h1 k (by omega)
 unfold Drew1 at this
 rw [spec_DrawExprOf.f, ho]
 simp only [Option.bind_some]
 rw [this]
 simp only [Option.bind_some]
 rw [h2 k (by omega)]; rfl
end Go.Proofs.YtendbgedpjcocaaGreatDoor.B
/- Plain law: what the specification's StmtsOk and StmtsMany say (the first half of XPureStOk: never import both). -/
namespace Go.Proofs.YtendbgedpjcocaaGreatDoor.B
open Go.RowKit Go.Proofs.YtendbgedpjcocaaGreatDoorW.PrintWords Go.Proofs.YtendbgedpjcocaaGreatDoorW.PrintLast Go.Proofs.YtendbgedpjcocaaGreatDoorW.PrintMore
set_option linter.unusedVariables false

theorem short_of (e : S27) : iexOk e → Short e := by
 refine iexInd (P := fun e => iexOk e → Short e) ?_ e
 intro e ih ho
 rw [iexOk_eq] at ho
 exact Short.mk e (by omega) (fun x hx => ih x hx (ho.2 x hx))
theorem spec_stOk (l : List ISt) (h1 : manyT 4 l ≤ 1048576) (h2 : ∀ s ∈ l, istOk s) : Ends (fun k => spec_StmtsOk.f k l) (countL 4 l 0).1 := by
 rw [stOk_is, Bool.and_comm]
 have hm := manyT_spec 4 (by omega) l h1
 have hf := formT_spec 4 (by omega) l h1 h2 (fun s hs => short_of s.f2 ((istOk_eq s).1 hs).1)
 refine (hm.bind (g := fun k t => if t ≤ 16 then (spec_l4Form.f k l 4).bind fun t => some t else some false) ?_).of fun k => by rw [spec_StmtsOk.f]; rfl
 by_cases h : manyT 4 l ≤ 16
 ·rw [decide_eq_true h, Bool.true_and]
  refine (hf.bind (g := fun _ t => some t) (Ends.const fun k => rfl)).of fun k => by rw [if_pos (by omega)]; rfl
 ·rw [decide_eq_false h, Bool.false_and]
  exact Ends.const fun k => by rw [if_neg (by omega)]
end Go.Proofs.YtendbgedpjcocaaGreatDoor.B
/- Statements that are few and small. -/
namespace Go.Proofs.YtendbgedpjcocaaGreatDoor.B
open Go.RowKit Go.Proofs.YtendbgedpjcocaaGreatDoorW.PrintWords Go.Proofs.YtendbgedpjcocaaGreatDoorW.PrintLast Go.Proofs.YtendbgedpjcocaaGreatDoorW.PrintMore
set_option linter.unusedVariables false
/-- A statement whose lists are short. -/
inductive TinyS : ISt → Prop
 | mk (s : ISt) : Tiny s.f2 → s.f3.length ≤ 2000 → s.f4.length ≤ 2000 → (∀ x ∈ s.f3, TinyS x) → (∀ x ∈ s.f4, TinyS x) → TinyS s
def cntS : ISt → Nat
 | ⟨_, _, _, l, l'⟩ => 1 + (l.attach.map fun x => cntS x.1).sum + (l'.attach.map fun x => cntS x.1).sum
termination_by e => SizeOf.sizeOf e
decreasing_by all_goals (have := List.sizeOf_lt_of_mem x.2; simp; omega)
theorem cntS_eq (e : ISt) : cntS e = 1 + (e.f3.map cntS).sum + (e.f4.map cntS).sum := by
 cases e with
 | mk a b c l l' => rw [cntS]; simp
/-- A list of few statements. -/
def Fit (n : Nat) (l : List ISt) : Prop := (l.map cntS).sum ≤ n ∧ ∀ x ∈ l, TinyS x
theorem Fit.len {n : Nat} {l : List ISt} (h : Fit n l) : l.length ≤ n := by
 have : ∀ l : List ISt, l.length ≤ (l.map cntS).sum := by
  intro l
  induction l with
  | nil => simp
  | cons a l ih => rw [List.map_cons, List.sum_cons, List.length_cons, cntS_eq]; omega
 exact Nat.le_trans (this l) h.1
theorem Fit.nil (n : Nat) : Fit n [] := ⟨by simp, by simp⟩
theorem Fit.snoc {n m : Nat} {l : List ISt} {x : ISt} (h : Fit n l) (hx : TinyS x) (hc : cntS x ≤ m) : Fit (n + m) (l ++ [x]) := by
 refine ⟨?_, fun y hy => ?_⟩
 ·have := h.1
  rw [List.map_append, List.sum_append, List.map_cons, List.map_nil, List.sum_cons, List.sum_nil]; omega
 ·rcases List.mem_append.1 hy with hy | hy
  ·exact h.2 y hy
  ·obtain rfl := List.mem_singleton.1 hy; exact hx
theorem Fit.mono {n m : Nat} {l : List ISt} (h : Fit n l) (hm : n ≤ m) : Fit m l := ⟨Nat.le_trans h.1 hm, h.2⟩
theorem Fit.mk1 {n m : Nat} {k : Int} {a : S24} {e : Ex} {l l' : List ISt} (he : Tiny e) (h : Fit n l) (h' : Fit m l') (hn : n ≤ 2000) (hm : m ≤ 2000) : TinyS ⟨k, a, e, l, l'⟩ ∧ cntS ⟨k, a, e, l, l'⟩ ≤ 1 + n + m :=
 ⟨.mk _ he (Nat.le_trans h.len hn) (Nat.le_trans h'.len hm) h.2 h'.2, by rw [cntS_eq]; have h1 := h.1; have h2 := h'.1; dsimp only; omega⟩
theorem manyT_cnt (d : Nat) : ∀ l : List ISt, manyT d l ≤ (l.map cntS).sum := by
 induction d with
 | zero =>
  intro l
  rw [manyT]
  induction l with
  | nil => simp
  | cons a l ih => rw [List.map_cons, List.sum_cons, List.length_cons, cntS_eq]; omega
 | succ d ih =>
  intro l
  rw [manyT]
  induction l with
  | nil => simp
  | cons a l ihl =>
   simp only [List.map_cons, List.sum_cons, List.length_cons]
   rw [cntS_eq]
   have h1 := ih a.f3
   have h2 := ih a.f4
   omega
theorem tiny_ok {e : Ex} (h : Tiny e) : iexOk e := by
 induction h with
 | mk e hl _ ih => exact (iexOk_eq e).2 ⟨by omega, ih⟩
theorem TinyS.ok {s : ISt} (h : TinyS s) : istOk s := by
 induction h with
 | mk s he h3 h4 _ _ ih3 ih4 => exact (istOk_eq s).2 ⟨tiny_ok he, ⟨by omega, ih3⟩, ⟨by omega, ih4⟩⟩
theorem Fit.ok {n : Nat} {l : List ISt} (h : Fit n l) (hn : n ≤ 100000) : manyT 4 l ≤ 1048576 ∧ ∀ x ∈ l, istOk x :=
 ⟨by have := manyT_cnt 4 l; have := h.1; omega, fun x hx => (h.2 x hx).ok⟩
end Go.Proofs.YtendbgedpjcocaaGreatDoor.B
/- What the specification and the program say of what is drawn, for every number of rounds that is great enough. -/
namespace Go.Proofs.YtendbgedpjcocaaGreatDoor.B
open Go.RowKit Go.Proofs.YtendbgedpjcocaaGreatDoorW.PrintWords Go.Proofs.YtendbgedpjcocaaGreatDoorW.PrintLast Go.Proofs.YtendbgedpjcocaaGreatDoorW.PrintMore
set_option linter.unusedVariables false

theorem ev_up {α : Type} {f : Nat → Option α} (h : ∀ k, LeO (f k) (f (k + 1))) {r : α} (hr : ∃ k, f k = some r) : ∃ K, ∀ k, K ≤ k → f k = some r := by
 obtain ⟨K, hK⟩ := hr
 exact ⟨K, fun k hk => up_le h hk hK⟩
theorem specMem_ev (m0 m1 m2 : List Int) (h : Mini m0 m1 m2) : ∃ K, ∀ k, K ≤ k → spec_MemOk.f k m0 m1 m2 = some (memOkL m0 m1 m2) :=
 ev_up (f := fun k => spec_MemOk.f k m0 m1 m2) (fun k => spec_MemOk.mono _ _ _ k) (memOk_spec m0 m1 m2 (by have := h.1; omega) (by have := h.2.1; omega) (by have := h.2.2; omega))
end Go.Proofs.YtendbgedpjcocaaGreatDoor.B
/- Trees and memories as values that are only read, and the functions over them. -/
namespace Go.Proofs.YtendbgedpjcocaaGreatDoor.B
open Go Go.RowKit Go.Proofs.YtendbgedpjcocaaGreatDoorW.PrintWords Go.Proofs.YtendbgedpjcocaaGreatDoorW.PrintLast Go.Proofs.YtendbgedpjcocaaGreatDoorW.PrintMore
set_option linter.unusedVariables false

/-- A tree's cells, a memory's cells. -/
def eA (x : Ex) (A : Option Addr) (c : Nat) : Array Value := #[.int .i64 x.f0, .int .i64 x.f1, .int .i64 x.f2.f0, .int .i64 x.f2.f1, .slice A x.f3.length c]
def mA (m : List Int × List Int × List Int) (p : (Option Addr × Nat) × (Option Addr × Nat) × (Option Addr × Nat)) : Array Value := #[.slice p.1.1 m.1.length p.1.2, .slice p.2.1.1 m.2.1.length p.2.1.2, .slice p.2.2.1 m.2.2.length p.2.2.2]
def mZ : Array Value := #[.slice none 0 0, .slice none 0 0, .slice none 0 0]
theorem eA_one (x : Ex) (A : Option Addr) (c : Nat) : (eA x A c).all (·.oneCell') = true := by simp [eA, Value.oneCell']
theorem mA_one (m : List Int × List Int × List Int) (p : (Option Addr × Nat) × (Option Addr × Nat) × (Option Addr × Nat)) : (mA m p).all (·.oneCell') = true := by simp [mA, Value.oneCell']
section
variable {ops : Array Oper} {rest : List Oper} {o : Oper} {a : Act} {Q : Exit → Act → World → Prop} {W : World}
theorem getE_ {N q : Tmp} {g : Nat} {x : Ex} {A : Option Addr} {c : Nat} (ho : o.op = .load 27 (.tmp q)) (hd : o.dst = some N) (hg : o.guard = none) (hx : a.eval (.tmp q) = .pointer (some ⟨g, 0, none⟩)) (hb : Box W g 27 (eA x A c))
  (h : wpList Tryz.prog ops Q rest (a.put (some N) (.agg (eA x A c))) W) : wpList Tryz.prog ops Q (o :: rest) a W := boxGet_ ho hd hg hx hb Tryz.underlying27 rfl (by kernel_rfl) h
theorem getM_ {N q : Tmp} {g : Nat} {m : List Int × List Int × List Int} {p : (Option Addr × Nat) × (Option Addr × Nat) × (Option Addr × Nat)} (ho : o.op = .load 30 (.tmp q)) (hd : o.dst = some N) (hg : o.guard = none) (hx : a.eval (.tmp q) = .pointer (some ⟨g, 0, none⟩)) (hb : Box W g 30 (mA m p))
  (h : wpList Tryz.prog ops Q rest (a.put (some N) (.agg (mA m p))) W) : wpList Tryz.prog ops Q (o :: rest) a W := boxGet_ ho hd hg hx hb Tryz.underlying30 rfl (by kernel_rfl) h
end
structure TVo (W : World) (ok : Nat → Prop) (x : Ex) (A : Option Addr) (c : Nat) : Prop where
 v : Kd.V k27 27 W 0 ok (.slice A x.f3.length c) x.f3
abbrev TV (W : World) (x : Ex) (A : Option Addr) (c : Nat) : Prop := TVo W (fun _ => True) x A c
theorem TV.ofN {W : World} {x : Ex} {B : Option Addr} {d base : Nat} {ok ok' : Nat → Prop} (h : Kd.N k27 27 W base ok (.slice B x.f3.length d) x.f3) (hok : ∀ k, ok k → ok' k) : TVo W ok' x B d := ⟨Kd.V_mono (Kd.N_V (base' := 0) h) hok⟩
theorem TV.last (x : Ex) (A : Option Addr) (c : Nat) : Lasts fun W => TV W x A c := fun _ _ hb h => ⟨Kd.V_below h.v hb⟩
theorem TVo.reads {W : World} {ok : Nat → Prop} {x : Ex} {A : Option Addr} {c : Nat} (h : TVo W ok x A c) : x.f3.length ≤ c ∧ Kd.C k27 W A x.f3.length x.f3 := (Kd.V_reads' h.v).2
structure MV (W : World) (m : List Int × List Int × List Int) (p : (Option Addr × Nat) × (Option Addr × Nat) × (Option Addr × Nat)) : Prop where
 l0 : m.1.length ≤ p.1.2
 c0 : Kd.C (Kd.int .i64) W p.1.1 m.1.length m.1
 l1 : m.2.1.length ≤ p.2.1.2
 c1 : Kd.C (Kd.int .i64) W p.2.1.1 m.2.1.length m.2.1
 l2 : m.2.2.length ≤ p.2.2.2
 c2 : Kd.C (Kd.int .i64) W p.2.2.1 m.2.2.length m.2.2
theorem MV.last (m : List Int × List Int × List Int) (p : (Option Addr × Nat) × (Option Addr × Nat) × (Option Addr × Nat)) : Lasts fun W => MV W m p := fun _ _ hb h => ⟨h.l0, Kd.C_below h.c0 hb, h.l1, Kd.C_below h.c1 hb, h.l2, Kd.C_below h.c2 hb⟩
def mOk (m : List Int × List Int × List Int) : Bool := memOkL m.1 m.2.1 m.2.2
theorem specMem_any (m : List Int × List Int × List Int) (hn : Mini m.1 m.2.1 m.2.2) (p : (Option Addr × Nat) × (Option Addr × Nat) × (Option Addr × Nat)) (W : World) (hm : MV W m p) :
  Calls Tryz.prog 17 #[.agg (mA m p)] W fun e W' => e = .returned (.bool (mOk m)) ∧ Below W.heap.size W W' := by
 obtain ⟨K, hK⟩ := specMem_ev m.1 m.2.1 m.2.2 hn
 exact spec_MemOk.calls K _ _ m.1 _ _ m.2.1 _ _ m.2.2 _ W hm.c0 hm.l0 hm.c1 hm.l1 hm.c2 hm.l2 (hK K (Nat.le_refl _))
end Go.Proofs.YtendbgedpjcocaaGreatDoor.B
/- impl.StmtsRun: statements are run. -/
namespace Go.Proofs.YtendbgedpjcocaaGreatDoor.B
open Go Go.RowKit Go.Shelf Go.Proofs.YtendbgedpjcocaaGreatDoorW.PrintWords Go.Proofs.YtendbgedpjcocaaGreatDoorW.PrintLast Go.Proofs.YtendbgedpjcocaaGreatDoorW.PrintMore
set_option linter.unusedVariables false
abbrev Mem3 := List Int × List Int × List Int
abbrev Caps3 := (Option Addr × Nat) × (Option Addr × Nat) × (Option Addr × Nat)
/-- A memory's three rows out of its eighteen numbers. -/
def cut3 (bs : List Int) : Mem3 := (bs.take 6, (bs.drop 6).take 6, (bs.drop 12).take 6)
open Classical in
/-- What a list's run comes to. -/
noncomputable def runR (bs : List Int) (l : List St) (f : Int) : Res := if h : ∃ r, Run bs l f r then h.choose else (bs, 0, f)
theorem runR_is {bs : List Int} {l : List St} {f : Int} {r : Res} (h : Run bs l f r) : runR bs l f = r := by
 have hx : ∃ r, Run bs l f r := ⟨r, h⟩
 rw [runR, dif_pos hx]
 exact hx.choose_spec.one h
def stOkL (l : List St) : Bool := (countL 4 l 0).1
theorem stOk_form {l : List St} (h : stOkL l = true) : formT 4 l = true := by
 unfold stOkL at h
 rw [stOk_is, Bool.and_eq_true] at h
 exact h.1
theorem runR_run {l : List St} (hl : stOkL l = true) (bs : List Int) {f : Int} (hf : 0 ≤ f) : Run bs l f (runR bs l f) ∧ Fits f (runR bs l f) := by
 obtain ⟨r, hr, hF⟩ := run_total 4 l (stOk_form hl) f bs hf
 rw [runR_is hr]
 exact ⟨hr, hF⟩
def runOk (m : Mem3) (l : List St) (f : Int) : Bool := mOk m && stOkL l && decide (0 ≤ f ∧ f ≤ 100)
/-- What StmtsRun says: a memory, how it ends, what is left. -/
noncomputable def stRunV (m : Mem3) (l : List St) (f : Int) : Mem3 × Int × Int := if runOk m l f = true then (cut3 (runR (m.1 ++ m.2.1 ++ m.2.2) l f).1, (runR (m.1 ++ m.2.1 ++ m.2.2) l f).2.1, (runR (m.1 ++ m.2.1 ++ m.2.2) l f).2.2) else (([], [], []), 2, 0)
theorem MV.ofRows {W : World} {base : Nat} {v0 v1 v2 : Value} {bs : List Int} (hl : bs.length = 18) (h : MemRows W base v0 v1 v2 bs) : ∃ q : Caps3, Value.agg #[v0, v1, v2] = .agg (mA (cut3 bs) q) ∧ MV W (cut3 bs) q := by
 obtain ⟨A0, d0, e0⟩ := own_slice h.r0
 obtain ⟨A1, d1, e1⟩ := own_slice h.r1
 obtain ⟨A2, d2, e2⟩ := own_slice h.r2
 have R0 := own_R h.r0 (by simp; omega) (fun _ => True) (fun _ _ => trivial)
 have R1 := own_R h.r1 (by simp; omega) (fun _ => True) (fun _ _ => trivial)
 have R2 := own_R h.r2 (by simp; omega) (fun _ => True) (fun _ _ => trivial)
 subst e0 e1 e2
 have r0 := Kd.R_reads' R0
 have r1 := Kd.R_reads' R1
 have r2 := Kd.R_reads' R2
 refine ⟨((A0, d0), (A1, d1), (A2, d2)), ?_, ⟨by show (bs.take 6).length ≤ d0; rw [← r0.1]; exact r0.2.1, r0.2.2, by show ((bs.drop 6).take 6).length ≤ d1; rw [← r1.1]; exact r1.2.1, r1.2.2, by show ((bs.drop 12).take 6).length ≤ d2; rw [← r2.1]; exact r2.2.1, r2.2.2⟩⟩
 have l0 : (bs.take 6).length = 6 := by simp; omega
 have l1 : ((bs.drop 6).take 6).length = 6 := by simp; omega
 have l2 : ((bs.drop 12).take 6).length = 6 := by simp; omega
 simp only [mA, cut3, l0, l1, l2]
set_option maxRecDepth 100000 in
set_option maxHeartbeats 4000000 in
theorem ended_any (g : Nat) (bs : List Int) (f c : Int) (hc : c = 0 ∨ c = 1 ∧ f = 0) (a : Addr) (w : World) (hm : MemAt w g bs) (he : ErrAt w a) :
  Calls Tryz.prog 38 #[.pointer (some ⟨g, 0, none⟩), .int .i64 f, errOf a c] w fun e w' => ∃ q : Caps3, e = .returned (.tuple #[.agg (mA (cut3 bs) q), .int .i64 c, .int .i64 f]) ∧ MV w' (cut3 bs) q ∧ Below w.heap.size w w' := by
 obtain ⟨w1, hw1⟩ : ∃ W, W = w.alloc (.cells #[.slice none 0 0, .slice none 0 0, .slice none 0 0] 30 (0, 0)) := ⟨_, rfl⟩
 have hB : Below w.heap.size w w1 := by rw [hw1]; exact (Below.refl _ _).alloc (Nat.le_refl _) _
 have hz1 : w1.heap.size = w.heap.size + 1 := by rw [hw1]; simp
 have H1 := Aside0.mk (show Box w1 w.heap.size 30 #[.slice none 0 0, .slice none 0 0, .slice none 0 0] ∧ MemAt w1 g bs ∧ Below w.heap.size w w1 ∧ ErrAt w1 a from
  ⟨by rw [hw1]; exact heap_alloc_new _ _, hm.below hB, hB, he.below hB⟩)
 have HL := Aside0.mk hm.n
 have HC := Aside0.mk hc
 clear hm hB he hz1 hc
 obtain ⟨ev, hev⟩ : ∃ v, v = errOf a c := ⟨_, rfl⟩
 rw [← hev]
 have HEV := Aside0.mk hev
 clear hev
 go_enter Tryz.func38, Tryz.ntmps38
 go_upto_region 1 with fail
 rw [← hw1]
 clear hw1
 have ce : w1.cell? ⟨0, 0, none⟩ = some (.iface 156 (.pointer (some a))) := H1.out.2.2.2
 have HI := Aside0.mk (is_any a c w1)
 rw [← HEV.out] at HI
 go_wp2_with fail
 refine HI.out.mono ?_
 rintro e w2 ⟨rfl, rfl⟩
 clear HI ce
 by_cases h0 : c = 0
 ·have b0 : (c != 0) = false := by simp [h0]
  have HF := Aside0.mk h0
  rw [b0]
  clear h0 b0
  go_wp2_with fail
  refine (mem_any g bs w2 H1.out.2.1).mono ?_
  rintro e w3 ⟨v0, v1, v2, rfl, hR, hb⟩
  have k := blk_below H1.out.1 hb
  have HR := Aside0.mk (And.intro hR (And.intro k (H1.out.2.2.1.trans (hb.mono H1.out.2.2.1.size))))
  obtain ⟨A0, d0, e0⟩ := own_slice hR.r0
  obtain ⟨A1, d1, e1⟩ := own_slice hR.r1
  obtain ⟨A2, d2, e2⟩ := own_slice hR.r2
  subst e0 e1 e2
  clear hR hb k
  go_wp2_with (refine boxPut_ rfl rfl rfl rfl #[.slice A0 6 d0, .slice A1 6 d1, .slice A2 6 d2] rfl HR.out.2.1 rfl (by kernel_rfl) (by simp [Value.oneCell']) ?_; intro w4 hbx hput)
  refine bodyPost_ret (results_ctt rfl _ _ w.heap.size 30 #[.slice A0 6 d0, .slice A1 6 d1, .slice A2 6 d2] (0, 0) _ rfl hbx Tryz.underlying30 rfl (by kernel_rfl)) rfl ?_
  obtain ⟨q, hq, hMV⟩ := MV.ofRows HL.out (HR.out.1.put1 HR.out.2.1 (by decide) hput)
  rw [hq]
  exact ⟨q, by rw [HF.out]; rfl, hMV, hput.below HR.out.2.2 (Nat.le_refl _)⟩
 ·have b0 : (c != 0) = true := by simp [h0]
  have HF := Aside0.mk (show c = 1 ∧ f = 0 by rcases HC.out with h | h; exact absurd h h0; exact h)
  rw [b0]
  clear h0 b0
  go_wp2_with fail
  refine (mem_any g bs w2 H1.out.2.1).mono ?_
  rintro e w3 ⟨v0, v1, v2, rfl, hR, hb⟩
  have k := blk_below H1.out.1 hb
  have HR := Aside0.mk (And.intro hR (And.intro k (H1.out.2.2.1.trans (hb.mono H1.out.2.2.1.size))))
  obtain ⟨A0, d0, e0⟩ := own_slice hR.r0
  obtain ⟨A1, d1, e1⟩ := own_slice hR.r1
  obtain ⟨A2, d2, e2⟩ := own_slice hR.r2
  subst e0 e1 e2
  clear hR hb k
  go_wp2_with (refine boxPut_ rfl rfl rfl rfl #[.slice A0 6 d0, .slice A1 6 d1, .slice A2 6 d2] rfl HR.out.2.1 rfl (by kernel_rfl) (by simp [Value.oneCell']) ?_; intro w4 hbx hput)
  refine bodyPost_ret (results_ctt rfl _ _ w.heap.size 30 #[.slice A0 6 d0, .slice A1 6 d1, .slice A2 6 d2] (0, 0) _ rfl hbx Tryz.underlying30 rfl (by kernel_rfl)) rfl ?_
  obtain ⟨q, hq, hMV⟩ := MV.ofRows HL.out (HR.out.1.put1 HR.out.2.1 (by decide) hput)
  rw [hq]
  exact ⟨q, by rw [HF.out.1, HF.out.2]; rfl, hMV, hput.below HR.out.2.2 (Nat.le_refl _)⟩
end Go.Proofs.YtendbgedpjcocaaGreatDoor.B
/- impl.StmtsRun. -/
namespace Go.Proofs.YtendbgedpjcocaaGreatDoor.B
open Go Go.RowKit Go.Shelf Go.Proofs.YtendbgedpjcocaaGreatDoorW.PrintWords Go.Proofs.YtendbgedpjcocaaGreatDoorW.PrintLast Go.Proofs.YtendbgedpjcocaaGreatDoorW.PrintMore
set_option linter.unusedVariables false
theorem stOkI_any (l : List St) (A : Option Addr) (c : Nat) (w : World) (hC : Kd.C stK w A l.length l) (hc : l.length ≤ c) : Calls Tryz.prog 36 #[.slice A l.length c] w fun e w' => e = .returned (.bool (stOkL l)) ∧ Below w.heap.size w w' :=
 impl_StmtsOk.calls A c l _ w hC hc rfl
theorem run_len {k : Nat} {bs : List Int} {l : List St} {f : Int} {r : Res} (h : runL k bs l f = some r) : r.1.length = bs.length :=
 run_keeps (fun b => b.length = bs.length) k l (fun _ => True) (fun _ _ _ _ => trivial) (fun _ _ _ _ => trivial) (fun s _ _ b hb => by rw [putB_len]; exact hb) (fun _ _ => trivial) bs f r rfl h
theorem mV_none (W : World) : MV W (([], [], []) : Mem3) ((none, 0), (none, 0), (none, 0)) :=
 ⟨Nat.le_refl _, (Kd.R_reads' (Kd.R_nil (Kd.int .i64) 3 W 0 (fun _ => True))).2.2, Nat.le_refl _, (Kd.R_reads' (Kd.R_nil (Kd.int .i64) 3 W 0 (fun _ => True))).2.2, Nat.le_refl _, (Kd.R_reads' (Kd.R_nil (Kd.int .i64) 3 W 0 (fun _ => True))).2.2⟩
theorem C_put1 {W W' : World} {g : Nat} {T : TypeId} {cs : Array Value} (hb : Box W g T cs) (hn : ∀ (i : Nat) (n : Int), cs[i]? ≠ some (.int .i64 n)) (hp : Put1 g W W') {A : Option Addr} {n : Nat} {xs : List Int} (h : Kd.C (Kd.int .i64) W A n xs) : Kd.C (Kd.int .i64) W' A n xs := by
 obtain ⟨h1, h2, h3⟩ := h
 refine ⟨h1, h2, fun hn0 => ?_⟩
 obtain ⟨a, ha, hl⟩ := h3 hn0
 refine ⟨a, ha, fun j p hj => ?_⟩
 obtain ⟨c, hlen, hk, hc⟩ := hl j p hj
 refine ⟨c, hlen, hk, fun i u hu => ?_⟩
 have hq := hc i u hu
 have hu' : u = .int .i64 p := by
  have hk' : c = [.int .i64 p] := hk
  rw [hk'] at hu
  cases i with
  | zero => simpa using hu.symm
  | succ i => simp at hu
 generalize a.add _ = q at hq ⊢
 by_cases hg : q.block = g
 ·exfalso
  unfold World.cell? at hq
  rw [hg, hb] at hq
  rw [hu'] at hq
  have hq' : (if q.spot.isSome = true then none else cs[q.off]?) = some (.int .i64 p) := hq
  split at hq'
  ·cases hq'
  ·exact hn _ _ hq'
 ·unfold World.cell? at hq ⊢
  rw [hp.far _ hg]
  exact hq
theorem no_int (A0 A1 A2 : Option Addr) (n0 n1 n2 c0 c1 c2 : Nat) (i : Nat) (n : Int) : (#[Value.slice A0 n0 c0, .slice A1 n1 c1, .slice A2 n2 c2] : Array Value)[i]? ≠ some (.int .i64 n) := by
 match i with
 | 0 => simp
 | 1 => simp
 | 2 => simp
 | i + 3 => simp
theorem MV.put1 {W W' : World} {g : Nat} {T : TypeId} {A0 A1 A2 : Option Addr} {n0 n1 n2 c0 c1 c2 : Nat} {m : Mem3} {q : Caps3} (h : MV W m q) (hb : Box W g T #[.slice A0 n0 c0, .slice A1 n1 c1, .slice A2 n2 c2]) (hp : Put1 g W W') : MV W' m q :=
 ⟨h.l0, C_put1 hb (no_int _ _ _ _ _ _ _ _ _) hp h.c0, h.l1, C_put1 hb (no_int _ _ _ _ _ _ _ _ _) hp h.c1, h.l2, C_put1 hb (no_int _ _ _ _ _ _ _ _ _) hp h.c2⟩
set_option maxRecDepth 100000 in
set_option maxHeartbeats 8000000 in
theorem stRun_any (m : Mem3) (l : List St) (f : Int) (p : Caps3) (A : Option Addr) (c : Nat) (a : Addr) (w : World) (hE : ErrAt w a) (hM : MV w m p) (hC : Kd.C stK w A l.length l) (hc : l.length ≤ c) :
  Calls Tryz.prog 11 #[.agg (mA m p), .slice A l.length c, .int .i64 f] w fun e w' => ∃ q : Caps3, e = .returned (.tuple #[.agg (mA (stRunV m l f).1 q), .int .i64 (stRunV m l f).2.1, .int .i64 (stRunV m l f).2.2]) ∧ MV w' (stRunV m l f).1 q ∧ Below w.heap.size w w' := by
 obtain ⟨w1, hw1⟩ : ∃ W, W = (w.alloc (.cells (mA m p) 30 (0, 0))).alloc (.cells #[.slice none 0 0, .slice none 0 0, .slice none 0 0] 30 (0, 0)) := ⟨_, rfl⟩
 obtain ⟨hs, k1, k2, hB⟩ := two_blocks' w (.cells (mA m p) 30 (0, 0)) (.cells #[.slice none 0 0, .slice none 0 0, .slice none 0 0] 30 (0, 0))
 rw [← hw1] at hs k1 k2 hB
 have H1 := Aside0.mk (show Box w1 w.heap.size 30 (mA m p) ∧ Box w1 (w.heap.size + 1) 30 mZ ∧ Below w.heap.size w w1 ∧ ErrAt w a ∧ MV w m p ∧ Kd.C stK w A l.length l ∧ l.length ≤ c from ⟨k1, k2, hB, hE, hM, hC, hc⟩)
 clear hs k1 k2 hB hE hM hC hc
 unfold mA at hw1
 unfold mA
 obtain ⟨V, hV⟩ : ∃ V, V = stRunV m l f := ⟨_, rfl⟩
 rw [← hV]
 have HV0 := Aside0.mk hV
 clear hV
 have leave : ∀ W : World, Below w.heap.size w W → Box W (w.heap.size + 1) 30 mZ → runOk m l f = false → ∃ q : Caps3, (Ending.returned (.tuple #[.agg mZ, .int .i64 2, .int .i64 0])) = .returned (.tuple #[.agg (mA V.1 q), .int .i64 V.2.1, .int .i64 V.2.2]) ∧ MV W V.1 q ∧ Below w.heap.size w W := by
  intro W hW _ h
  have e : V = (([], [], []), 2, 0) := by rw [HV0.out, stRunV, h]; rfl
  rw [e]
  exact ⟨((none, 0), (none, 0), (none, 0)), rfl, mV_none W, hW⟩
 have HL := Aside0.mk leave
 clear leave
 go_enter Tryz.func11, Tryz.ntmps11
 go_upto_region 1 with fail
 rw [← hw1]
 clear hw1
 have lb0 := H1.out.1
 go_wp2_with ((with_reducible refine gate_dst (N := 14) rfl ?_); refine getM_ rfl rfl rfl rfl lb0 ?_)
 clear lb0
 have hmv := MV.last _ _ _ _ H1.out.2.2.1 H1.out.2.2.2.2.1
 refine (readMem_new m.1 m.2.1 m.2.2 p.1.1 p.2.1.1 p.2.2.1 p.1.2 p.2.1.2 p.2.2.2 w1 hmv.c0 hmv.c1 hmv.c2 hmv.l0 hmv.l1 hmv.l2).mono ?_
 clear hmv
 rintro e w2 ⟨hr, hb2⟩
 have H2 := Aside0.mk (show Box w2 (w.heap.size + 1) 30 mZ ∧ Below w.heap.size w w2 ∧ w.heap.size ≤ w1.heap.size from ⟨blk_below H1.out.2.1 hb2, H1.out.2.2.1.trans (hb2.mono H1.out.2.2.1.size), H1.out.2.2.1.size⟩)
 clear hb2
 rcases hr with ⟨hv, g, hg, rfl, hm⟩ | ⟨hv, rfl⟩
 rotate_left
 ·have HV := Aside0.mk (show runOk m l f = false by unfold runOk mOk memOkL; rw [hv]; rfl)
  have lb := H2.out.1
  clear hv
  go_wp2_with (refine boxPut_ rfl rfl rfl rfl mZ rfl lb rfl (by kernel_rfl) (by simp [mZ, Value.oneCell']) ?_; intro w4 hbx hput)
  refine bodyPost_ret (results_ctt rfl _ _ (w.heap.size + 1) 30 mZ (0, 0) _ rfl hbx Tryz.underlying30 rfl (by kernel_rfl)) rfl ?_
  exact HL.out w4 (hput.below H2.out.2.1 (Nat.le_succ _)) hbx HV.out
 ·have HM := Aside0.mk (And.intro hv (And.intro hg hm))
  clear hv hg hm
  go_wp2_with fail
  refine (stOkI_any l A c w2 (Kd.C_below H1.out.2.2.2.2.2.1 H2.out.2.1) H1.out.2.2.2.2.2.2).mono ?_
  rintro e w3 ⟨rfl, hb3⟩
  have H3 := Aside0.mk (show Box w3 (w.heap.size + 1) 30 mZ ∧ Below w.heap.size w w3 ∧ MemAt w3 g (m.1 ++ m.2.1 ++ m.2.2) from ⟨blk_below H2.out.1 hb3, H2.out.2.1.trans (hb3.mono H2.out.2.1.size), HM.out.2.2.below hb3⟩)
  clear hb3
  obtain ⟨ok, hok⟩ : ∃ ok, ok = stOkL l := ⟨_, rfl⟩
  rw [← hok]
  have HO := Aside0.mk hok
  clear hok
  have lb := H3.out.1
  cases ok with
  | false =>
   have HV := Aside0.mk (show runOk m l f = false by unfold runOk; rw [← HO.out]; simp)
   go_wp2_with (refine boxPut_ rfl rfl rfl rfl mZ rfl lb rfl (by kernel_rfl) (by simp [mZ, Value.oneCell']) ?_; intro w4 hbx hput)
   refine bodyPost_ret (results_ctt rfl _ _ (w.heap.size + 1) 30 mZ (0, 0) _ rfl hbx Tryz.underlying30 rfl (by kernel_rfl)) rfl ?_
   exact HL.out w4 (hput.below H3.out.2.1 (Nat.le_succ _)) hbx HV.out
  | true =>
   by_cases h0 : f < 0
   ·have HV := Aside0.mk (show runOk m l f = false by unfold runOk; rw [decide_eq_false (by omega : ¬ (0 ≤ f ∧ f ≤ 100))]; simp)
    have b0 : decide (f < 0) = true := decide_eq_true h0
    go_wp2_with (refine boxPut_ rfl rfl rfl rfl mZ rfl lb rfl (by kernel_rfl) (by simp [mZ, Value.oneCell']) ?_; intro w4 hbx hput)
    refine bodyPost_ret (results_ctt rfl _ _ (w.heap.size + 1) 30 mZ (0, 0) _ rfl hbx Tryz.underlying30 rfl (by kernel_rfl)) rfl ?_
    exact HL.out w4 (hput.below H3.out.2.1 (Nat.le_succ _)) hbx HV.out
   have b0 : decide (f < 0) = false := decide_eq_false h0
   by_cases h1 : 100 < f
   ·have HV := Aside0.mk (show runOk m l f = false by unfold runOk; rw [decide_eq_false (by omega : ¬ (0 ≤ f ∧ f ≤ 100))]; simp)
    have b1 : decide (100 < f) = true := decide_eq_true h1
    go_wp2_with (refine boxPut_ rfl rfl rfl rfl mZ rfl lb rfl (by kernel_rfl) (by simp [mZ, Value.oneCell']) ?_; intro w4 hbx hput)
    refine bodyPost_ret (results_ctt rfl _ _ (w.heap.size + 1) 30 mZ (0, 0) _ rfl hbx Tryz.underlying30 rfl (by kernel_rfl)) rfl ?_
    exact HL.out w4 (hput.below H3.out.2.1 (Nat.le_succ _)) hbx HV.out
   have b1 : decide (100 < f) = false := decide_eq_false h1
   have hok : runOk m l f = true := by
    unfold runOk mOk memOkL
    rw [HM.out.1, ← HO.out, decide_eq_true (by omega : 0 ≤ f ∧ f ≤ 100)]; rfl
   obtain ⟨⟨kk, hk⟩, hF⟩ := runR_run HO.out.symm (m.1 ++ m.2.1 ++ m.2.2) (show 0 ≤ f by omega)
   obtain ⟨r, hr⟩ : ∃ r, r = runR (m.1 ++ m.2.1 ++ m.2.2) l f := ⟨_, rfl⟩
   have he : V = (cut3 r.1, r.2.1, r.2.2) := by rw [HV0.out, stRunV, hok, hr]; rfl
   rw [← hr] at hk hF
   have hl18 : r.1.length = 18 := (run_len hk).trans H3.out.2.2.n
   have HVV := Aside0.mk he
   have HF := Aside0.mk (And.intro (And.intro hk hF) (And.intro hl18 (And.intro (show 0 ≤ f by omega) (show f ≤ 100 by omega))))
   have HFO := Aside0.mk (stOk_form HO.out.symm)
   clear hok hk hF hr he hl18 h0 h1 lb HL
   go_upto_region 5 with fail
   obtain ⟨w4, hw4⟩ : ∃ W, W = w3.alloc (.cells #[.pointer (some ⟨g, 0, none⟩), .int .i64 f] 69 (0, 0)) := ⟨_, rfl⟩
   rw [← hw4]
   have hb4 : Below w3.heap.size w3 w4 := by rw [hw4]; exact (Below.refl _ _).alloc (Nat.le_refl _) _
   have hR4 : RunAt w4 w3.heap.size g (m.1 ++ m.2.1 ++ m.2.2) f := ⟨H3.out.2.2.below hb4, by rw [hw4]; exact heap_alloc_new _ _⟩
   have hB4 : Below w.heap.size w w4 := H3.out.2.1.trans (hb4.mono H3.out.2.1.size)
   have hgl := blk_lt H3.out.2.2.b
   have hgw : w1.heap.size ≤ g := HM.out.2.1
   have hne : w3.heap.size ≠ g := by omega
   have hnq : w.heap.size + 1 ≠ g := by have := blk_lt H1.out.2.1; omega
   have hnr : w.heap.size + 1 ≠ w3.heap.size := by have := blk_lt H3.out.1; omega
   have hN4 : Env w w4 w3.heap.size g a := ⟨H3.out.2.1.size, Nat.le_trans H2.out.2.2 hgw, hne, H1.out.2.2.2.1, hB4⟩
   have H4 := Aside0.mk (show Box w4 (w.heap.size + 1) 30 mZ ∧ Env w w4 w3.heap.size g a ∧ ¬ Fm w3.heap.size g (w.heap.size + 1) from ⟨blk_below H3.out.1 hb4, hN4, fun h => by rcases h with h | h; exact hnr h; exact hnq h⟩)
   have HA := Aside0.mk (all_con kk 4 l HFO.out (m.1 ++ m.2.1 ++ m.2.2) f r HF.out.1.1 HF.out.2.2.1 HF.out.2.2.2 a w3.heap.size g w w4 A c hN4 hR4 H1.out.2.2.2.2.2.1 H1.out.2.2.2.2.2.2)
   obtain ⟨gr, hgr⟩ : ∃ gr, gr = w3.heap.size := ⟨_, rfl⟩
   rw [← hgr] at HA H4 ⊢
   clear hw4 hb4 hR4 hB4 hgl hgw hne hnq hnr hN4 hgr
   go_wp2_with fail
   refine HA.out.mono ?_
   clear HA
   rintro e w5 ⟨rfl, hR5, hE5⟩
   have H5 := Aside0.mk (show Box w5 (w.heap.size + 1) 30 mZ ∧ Env w w5 gr g a ∧ RunAt w5 gr g r.1 r.2.2 from ⟨blk_ed H4.out.1 hE5 H4.out.2.2, H4.out.2.1.step hE5, hR5⟩)
   have c1 : w5.cell? ⟨gr, 1, none⟩ = some (.int .i64 r.2.2) := by rw [blk_cell hR5.r]; rfl
   clear hR5 hE5
   obtain ⟨ev, hev⟩ : ∃ ev, ev = errOf a r.2.1 := ⟨_, rfl⟩
   have HQ := Aside0.mk (ended_any g r.1 r.2.2 r.2.1 HF.out.1.2.how a w5 H5.out.2.2.m H5.out.2.1.err)
   rw [← hev] at HQ ⊢
   clear hev
   go_wp2_with fail
   refine HQ.out.mono ?_
   clear HQ
   rintro e w6 ⟨q, rfl, hMV, hb6⟩
   have H6 := Aside0.mk (show MV w6 (cut3 r.1) q ∧ Below w.heap.size w w6 from ⟨hMV, H5.out.2.1.b.trans (hb6.mono H5.out.2.1.b.size)⟩)
   have lb := blk_below H5.out.1 hb6
   clear hMV hb6 c1
   go_wp2_with (refine boxPut_ rfl rfl rfl rfl (mA (cut3 r.1) q) rfl lb rfl (by kernel_rfl) (mA_one _ _) ?_; intro w7 hbx hput)
   refine bodyPost_ret (results_ctt rfl _ _ (w.heap.size + 1) 30 (mA (cut3 r.1) q) (0, 0) _ rfl hbx Tryz.underlying30 rfl (by kernel_rfl)) rfl ?_
   rw [HVV.out]
   exact ⟨q, rfl, MV.put1 H6.out.1 lb hput, hput.below H6.out.2 (Nat.le_succ _)⟩
end Go.Proofs.YtendbgedpjcocaaGreatDoor.B
