/- The laws' helpers over memories: how large, the copy, equality. -/
import Derived.Test.YtiofkhfmdophpaaB0
import Derived.Test.YtiofkhfmdophpaaEq
import Derived.Test.YtiofkhfmdophpaaOkSpec
import Derived.Test.YtiofkhfmdophpaaPkB
import Derived.Test.YtiofkhfmdophpaaPkC
namespace Go.Proofs.Ytiofkhfmdophpaa.B
open Go.RowKit Go.Proofs.YtiofkhfmdophpaaW.PrintWords Go.Proofs.YtiofkhfmdophpaaW.PrintLast Go.Proofs.YtiofkhfmdophpaaW.PrintMore
set_option linter.unusedVariables false

theorem szMem_f (l0 l1 l2 : List Int) (left : Int) (h0 : 0 ≤ left) (h1 : left ≤ 1048576) (m0 : l0.length ≤ 9223372036854775807) (m1 : l1.length ≤ 9223372036854775807) (m2 : l2.length ≤ 9223372036854775807) :
    ∃ r, SzR left (l0.length + l1.length + l2.length) r ∧ laws_szMem.f l0 l1 l2 left = some r := by
  unfold laws_szMem.f laws_szIntS.f
  by_cases a0 : left - (l0.length : Int) < 0
  · refine ⟨-1, .inr ⟨by omega, rfl⟩, ?_⟩
    rw [wrap_small (by omega) (by omega), if_pos a0]; rfl
  · rw [wrap_small (n := left - (l0.length : Int)) (by omega) (by omega), if_neg a0, Option.bind_some, if_neg a0]
    by_cases a1 : left - (l0.length : Int) - (l1.length : Int) < 0
    · refine ⟨-1, .inr ⟨by omega, rfl⟩, ?_⟩
      rw [wrap_small (by omega) (by omega), if_pos a1]; rfl
    · rw [wrap_small (n := left - (l0.length : Int) - (l1.length : Int)) (by omega) (by omega), if_neg a1, Option.bind_some, if_neg a1]
      by_cases a2 : left - (l0.length : Int) - (l1.length : Int) - (l2.length : Int) < 0
      · refine ⟨-1, .inr ⟨by omega, rfl⟩, ?_⟩
        rw [wrap_small (by omega) (by omega), if_pos a2]; rfl
      · refine ⟨left - (l0.length : Int) - (l1.length : Int) - (l2.length : Int), .inl ⟨by omega, by omega⟩, ?_⟩
        rw [wrap_small (n := left - (l0.length : Int) - (l1.length : Int) - (l2.length : Int)) (by omega) (by omega), if_neg a2, Option.bind_some, if_neg a2]
theorem rd_int (l : List Int) (j : Nat) (h : j < l.length) : rd l (j : Int) = l[j] := by simp [rd, h]
theorem toIntS_loop (l : List Int) (hl : l.length ≤ 1048576) : ∀ (n j : Nat), n + j = l.length → ∃ k, laws_toIntS.l0 k l (l.take j ++ List.replicate n 0) j = some l := by
  intro n
  induction n with
  | zero =>
    intro j hj
    refine ⟨1, ?_⟩
    rw [laws_toIntS.l0, if_neg (by omega), List.take_of_length_le (by omega)]; simp
  | succ n ihn =>
    intro j hj
    have hlt : j < l.length := by omega
    obtain ⟨k, h⟩ := ihn (j + 1) (by omega)
    refine ⟨k + 1, ?_⟩
    have hlen : (l.take j).length = j := by simp; omega
    rw [laws_toIntS.l0, if_pos (by omega), if_pos (by omega), if_pos (by simp; omega), wrap_small (by omega) (by omega), rd_int l j hlt, Int.toNat_natCast, List.replicate_succ, List.set_append_right _ _ (by omega), hlen, Nat.sub_self, List.set_cons_zero]
    have e : l.take (j + 1) ++ List.replicate n 0 = l.take j ++ l[j] :: List.replicate n 0 := by rw [List.take_succ_eq_append_getElem hlt, List.append_assoc]; rfl
    rw [← e]
    exact h
theorem toIntS_f (l : List Int) (hl : l.length ≤ 1048576) : ∃ k, laws_toIntS.f k l = some l := by
  obtain ⟨k, h⟩ := toIntS_loop l hl l.length 0 (by omega)
  refine ⟨k, ?_⟩
  rw [laws_toIntS.f, if_pos (by omega), if_pos (by simp; omega)]
  simpa using h
theorem mono_ti (l : List Int) : ∀ k, LeO (laws_toIntS.f k l) (laws_toIntS.f (k + 1) l) := fun k => laws_toIntS.mono _ _
theorem toMem_f (l0 l1 l2 : List Int) (h0 : l0.length ≤ 1048576) (h1 : l1.length ≤ 1048576) (h2 : l2.length ≤ 1048576) : ∃ k, laws_toMem.f k l0 l1 l2 = some (l0, l1, l2) := by
  obtain ⟨k0, e0⟩ := toIntS_f l0 h0
  obtain ⟨k1, e1⟩ := toIntS_f l1 h1
  obtain ⟨k2, e2⟩ := toIntS_f l2 h2
  refine ⟨k0 + k1 + k2, ?_⟩
  unfold laws_toMem.f
  rw [up_le (mono_ti l0) (by omega) e0, up_le (mono_ti l1) (by omega) e1, up_le (mono_ti l2) (by omega) e2]; rfl
theorem eqIntS_loop (l : List Int) (hl : l.length ≤ 1048576) : ∀ (n j : Nat), n + j = l.length → ∃ k, laws_eqIntS.l0 k l l j = some true := by
  intro n
  induction n with
  | zero => intro j hj; exact ⟨1, by rw [laws_eqIntS.l0, if_neg (by omega)]⟩
  | succ n ihn =>
    intro j hj
    obtain ⟨k, h⟩ := ihn (j + 1) (by omega)
    refine ⟨k + 1, ?_⟩
    rw [laws_eqIntS.l0, if_pos (by omega), if_pos (by omega), if_pos (by omega), if_pos rfl, wrap_small (by omega) (by omega)]
    exact h
theorem eqIntS_f (l : List Int) (hl : l.length ≤ 1048576) : ∃ k, laws_eqIntS.f k l l = some true := by
  obtain ⟨k, h⟩ := eqIntS_loop l hl l.length 0 (by omega)
  exact ⟨k, by rw [laws_eqIntS.f, if_pos rfl]; exact h⟩
theorem mono_ei (l m : List Int) : ∀ k, LeO (laws_eqIntS.f k l m) (laws_eqIntS.f (k + 1) l m) := fun k => laws_eqIntS.mono _ _ _
theorem eqMem_f (l0 l1 l2 : List Int) (h0 : l0.length ≤ 1048576) (h1 : l1.length ≤ 1048576) (h2 : l2.length ≤ 1048576) : ∃ k, laws_eqMem.f k l0 l1 l2 l0 l1 l2 = some true := by
  obtain ⟨k0, e0⟩ := eqIntS_f l0 h0
  obtain ⟨k1, e1⟩ := eqIntS_f l1 h1
  obtain ⟨k2, e2⟩ := eqIntS_f l2 h2
  refine ⟨k0 + k1 + k2, ?_⟩
  unfold laws_eqMem.f
  rw [up_le (mono_ei l0 l0) (by omega) e0, up_le (mono_ei l1 l1) (by omega) e1, up_le (mono_ei l2 l2) (by omega) e2]; rfl
/-- A memory that is read: its three rows. -/
structure Mr (w : World) (A0 A1 A2 : Option Addr) (c0 c1 c2 : Nat) (l0 l1 l2 : List Int) : Prop where
  r0 : Kd.C (Kd.int .i64) w A0 l0.length l0
  r1 : Kd.C (Kd.int .i64) w A1 l1.length l1
  r2 : Kd.C (Kd.int .i64) w A2 l2.length l2
  m0 : l0.length ≤ c0
  m1 : l1.length ≤ c1
  m2 : l2.length ≤ c2
theorem Mr.below {w w' : World} {A0 A1 A2 : Option Addr} {c0 c1 c2 : Nat} {l0 l1 l2 : List Int} (h : Mr w A0 A1 A2 c0 c1 c2 l0 l1 l2) (hb : Below w.heap.size w w') : Mr w' A0 A1 A2 c0 c1 c2 l0 l1 l2 :=
  ⟨Kd.C_below h.r0 hb, Kd.C_below h.r1 hb, Kd.C_below h.r2 hb, h.m0, h.m1, h.m2⟩
def small (l0 l1 l2 : List Int) : Prop := l0.length + l1.length + l2.length ≤ 1048576
theorem szMem_any {w : World} {A0 A1 A2 : Option Addr} {c0 c1 c2 : Nat} {l0 l1 l2 : List Int} (h : Mr w A0 A1 A2 c0 c1 c2 l0 l1 l2) (left : Int) (h0 : 0 ≤ left) (h1 : left ≤ 1048576) :
    Calls Try.prog 23 #[.agg #[.slice A0 l0.length c0, .slice A1 l1.length c1, .slice A2 l2.length c2], .int .i64 left] w (SzPost left (l0.length + l1.length + l2.length) w) := by
  obtain ⟨r, hr, hf⟩ := szMem_f l0 l1 l2 left h0 h1 h.r0.2.1 h.r1.2.1 h.r2.2.1
  exact (laws_szMem.calls A0 c0 l0 A1 c1 l1 A2 c2 l2 left r w h.r0 h.m0 h.r1 h.m1 h.r2 h.m2 hf).mono fun e w' q => ⟨r, hr, q.1, q.2⟩
theorem toMem_any {w : World} {A0 A1 A2 : Option Addr} {c0 c1 c2 : Nat} {l0 l1 l2 : List Int} (h : Mr w A0 A1 A2 c0 c1 c2 l0 l1 l2) (hs : small l0 l1 l2) :
    Calls Try.prog 25 #[.agg #[.slice A0 l0.length c0, .slice A1 l1.length c1, .slice A2 l2.length c2]] w fun e w' => (∃ B0 d0 B1 d1 B2 d2, e = .returned (.agg #[.slice B0 l0.length d0, .slice B1 l1.length d1, .slice B2 l2.length d2]) ∧ Mr w' B0 B1 B2 d0 d1 d2 l0 l1 l2) ∧ Below w.heap.size w w' := by
  unfold small at hs
  obtain ⟨k, hf⟩ := toMem_f l0 l1 l2 (by omega) (by omega) (by omega)
  refine (laws_toMem.calls k A0 c0 l0 A1 c1 l1 A2 c2 l2 l0 l1 l2 w h.r0 h.m0 h.r1 h.m1 h.r2 h.m2 hf).mono ?_
  rintro e w' ⟨v0, v1, v2, rfl, g0, g1, g2, hb⟩
  obtain ⟨B0, d0, rfl, n0, q0⟩ := Kd.R_reads g0
  obtain ⟨B1, d1, rfl, n1, q1⟩ := Kd.R_reads g1
  obtain ⟨B2, d2, rfl, n2, q2⟩ := Kd.R_reads g2
  exact ⟨⟨B0, d0, B1, d1, B2, d2, rfl, q0, q1, q2, n0, n1, n2⟩, hb⟩
theorem eqMem_any {w : World} {A0 A1 A2 B0 B1 B2 : Option Addr} {c0 c1 c2 d0 d1 d2 : Nat} {l0 l1 l2 : List Int} (h : Mr w A0 A1 A2 c0 c1 c2 l0 l1 l2) (h' : Mr w B0 B1 B2 d0 d1 d2 l0 l1 l2) (hs : small l0 l1 l2) :
    Calls Try.prog 27 #[.agg #[.slice A0 l0.length c0, .slice A1 l1.length c1, .slice A2 l2.length c2], .agg #[.slice B0 l0.length d0, .slice B1 l1.length d1, .slice B2 l2.length d2]] w (TruePost w) := by
  unfold small at hs
  obtain ⟨k, hf⟩ := eqMem_f l0 l1 l2 (by omega) (by omega) (by omega)
  exact laws_eqMem.calls k A0 c0 l0 A1 c1 l1 A2 c2 l2 B0 d0 l0 B1 d1 l1 B2 d2 l2 true w h.r0 h.m0 h.r1 h.m1 h.r2 h.m2 h'.r0 h'.m0 h'.r1 h'.m1 h'.r2 h'.m2 hf
end Go.Proofs.Ytiofkhfmdophpaa.B
