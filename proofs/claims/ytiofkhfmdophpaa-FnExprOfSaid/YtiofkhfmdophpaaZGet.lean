/- impl.MemGet, in the print's form. -/
import Derived.Test.YtiofkhfmdophpaaReadMem
import Derived.Test.YtiofkhfmdophpaaExprOf
namespace Go.Proofs.Ytiofkhfmdophpaa.B
open Go.RowKit Go.Proofs.YtiofkhfmdophpaaW.PrintWords Go.Proofs.YtiofkhfmdophpaaW.PrintLast Go.Proofs.YtiofkhfmdophpaaW.PrintMore
set_option linter.unusedVariables false

def memGetV (l0 l1 l2 : List Int) (k a : Int) : Int := if memOkL l0 l1 l2 then getL (l0 ++ l1 ++ l2) k a else 0
set_option maxRecDepth 100000 in
set_option maxHeartbeats 4000000 in
theorem memGet_any (l0 l1 l2 : List Int) (k a : Int) (A0 A1 A2 : Option Addr) (c0 c1 c2 : Nat) (w : World)
  (h0 : Kd.C (Kd.int .i64) w A0 l0.length l0) (h1 : Kd.C (Kd.int .i64) w A1 l1.length l1) (h2 : Kd.C (Kd.int .i64) w A2 l2.length l2) (m0 : l0.length ≤ c0) (m1 : l1.length ≤ c1) (m2 : l2.length ≤ c2) :
  Calls Try.prog 43 #[.agg #[.slice A0 l0.length c0, .slice A1 l1.length c1, .slice A2 l2.length c2], .agg #[.int .i64 k, .int .i64 a]] w fun en w' => en = .returned (.int .i64 (memGetV l0 l1 l2 k a)) ∧ Below w.heap.size w w' := by
 obtain ⟨hs, k1, k2, hB0⟩ := two_blocks' w (.cells #[.slice A0 l0.length c0, .slice A1 l1.length c1, .slice A2 l2.length c2] 44 (0, 0)) (.cells #[.int .i64 k, .int .i64 a] 29 (0, 0))
 have HK := Aside0.mk (And.intro k2 hB0)
 have HM := Aside0.mk (fun (W : World) (h : Below w.heap.size w W) => readMem_any l0 l1 l2 A0 A1 A2 c0 c1 c2 W (Kd.C_below h0 h) (Kd.C_below h1 h) (Kd.C_below h2 h) m0 m1 m2)
 clear hs k1 k2 hB0 h0 h1 h2 m0 m1 m2
 go_enter Try.func43, Try.ntmps43
 go_wp2_with fail
 refine (HM.out _ HK.out.2).mono ?_
 rintro en w1 ⟨hr, hb1⟩
 have HB1 := Aside0.mk (HK.out.2.trans (hb1.mono HK.out.2.size))
 have k1 := (hb1.block _ (blk_lt HK.out.1)).trans HK.out.1
 clear hb1 HM HK
 have q0 : w1.cell? ⟨w.heap.size + 1, 0, none⟩ = some (.int .i64 k) := by rw [blk_cell k1]; rfl
 have q1 : w1.cell? ⟨w.heap.size + 1, 1, none⟩ = some (.int .i64 a) := by rw [blk_cell k1]; rfl
 clear k1
 rcases hr with ⟨hv, g, rfl, hm⟩ | ⟨hv, rfl⟩
 ·have HV := Aside0.mk (show memOkL l0 l1 l2 = true from hv)
  have HM := Aside0.mk hm
  clear hv hm
  go_wp2_with fail
  refine (get_any g (l0 ++ l1 ++ l2) k a w1 HM.out).mono ?_
  rintro en w2 ⟨rfl, hb2⟩
  have HB2 := Aside0.mk (HB1.out.trans (hb2.mono HB1.out.size))
  clear hb2 q0 q1
  go_wp2
  go_ret
  exact ⟨by rw [memGetV, HV.out, List.append_assoc]; rfl, HB2.out⟩
 ·have HV := Aside0.mk (show memOkL l0 l1 l2 = false from hv)
  clear hv q0 q1
  go_wp2
  go_ret
  exact ⟨by rw [memGetV, HV.out]; rfl, HB1.out⟩
def impl_MemGet.f (l0_0 : List Int) (l0_1 : List Int) (l0_2 : List Int) (a1_0 : Int) (a1_1 : Int) : Option Int :=
 some (memGetV l0_0 l0_1 l0_2 a1_0 a1_1)
theorem impl_MemGet.calls (A0_0 : Option Addr) (c0_0 : Nat) (l0_0 : List Int) (A0_1 : Option Addr) (c0_1 : Nat) (l0_1 : List Int) (A0_2 : Option Addr) (c0_2 : Nat) (l0_2 : List Int) (a1_0 : Int) (a1_1 : Int) (r : Int) (w : World)
  (hr0_0 : Kd.C (Kd.int .i64) w A0_0 l0_0.length l0_0) (hc0_0 : l0_0.length ≤ c0_0) (hr0_1 : Kd.C (Kd.int .i64) w A0_1 l0_1.length l0_1) (hc0_1 : l0_1.length ≤ c0_1) (hr0_2 : Kd.C (Kd.int .i64) w A0_2 l0_2.length l0_2) (hc0_2 : l0_2.length ≤ c0_2)
  (h : impl_MemGet.f l0_0 l0_1 l0_2 a1_0 a1_1 = some r) :
  Calls Try.prog 43 #[.agg #[.slice A0_0 l0_0.length c0_0, .slice A0_1 l0_1.length c0_1, .slice A0_2 l0_2.length c0_2], .agg #[.int .i64 a1_0, .int .i64 a1_1]] w fun e w' => e = .returned (.int .i64 r) ∧ Below w.heap.size w w' := by
 obtain rfl := Option.some.inj h
 exact memGet_any l0_0 l0_1 l0_2 a1_0 a1_1 A0_0 A0_1 A0_2 c0_0 c0_1 c0_2 w hr0_0 hr0_1 hr0_2 hc0_0 hc0_1 hc0_2
end Go.Proofs.Ytiofkhfmdophpaa.B
