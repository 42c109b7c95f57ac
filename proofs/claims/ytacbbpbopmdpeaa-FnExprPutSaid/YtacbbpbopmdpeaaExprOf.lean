/- impl.ExprOf, over impl.ExprOk's contract. -/
import Derived.Test.YtacbbpbopmdpeaaReadMem
import Derived.Test.YtacbbpbopmdpeaaReckon
import Derived.Test.YtacbbpbopmdpeaaOkCon
namespace Go.Proofs.Ytacbbpbopmdpeaa.B
open Go.RowKit Go.Proofs.YtacbbpbopmdpeaaW.PrintWords Go.Proofs.YtacbbpbopmdpeaaW.PrintLast Go.Proofs.YtacbbpbopmdpeaaW.PrintMore
set_option linter.unusedVariables false

def memOkL (l0 l1 l2 : List Int) : Bool := listOk l0 && (listOk l1 && listOk l2)
def ofV (e : Ex) (l0 l1 l2 : List Int) : Int := if memOkL l0 l1 l2 && okL 0 (partsL e) then evalI (l0 ++ l1 ++ l2) e else 0
set_option maxRecDepth 100000 in
set_option maxHeartbeats 4000000 in
theorem exprOf_any (hok : OkCon) (e : Ex) (A : Option Addr) (c : Nat) (l0 l1 l2 : List Int) (A0 A1 A2 : Option Addr) (c0 c1 c2 : Nat) (w : World) (hC : Kd.C exK w A e.f3.length e.f3) (hc : e.f3.length ≤ c)
  (h0 : Kd.C (Kd.int .i64) w A0 l0.length l0) (h1 : Kd.C (Kd.int .i64) w A1 l1.length l1) (h2 : Kd.C (Kd.int .i64) w A2 l2.length l2) (m0 : l0.length ≤ c0) (m1 : l1.length ≤ c1) (m2 : l2.length ≤ c2) :
  Calls Try.prog 6 #[.agg #[.int .i64 e.f0, .int .i64 e.f1, .int .i64 e.f2.f0, .int .i64 e.f2.f1, .slice A e.f3.length c], .agg #[.slice A0 l0.length c0, .slice A1 l1.length c1, .slice A2 l2.length c2]] w fun en w' => en = .returned (.int .i64 (ofV e l0 l1 l2)) ∧ Below w.heap.size w w' := by
 obtain ⟨hs, k1, k2, hB0⟩ := two_blocks' w (.cells #[.int .i64 e.f0, .int .i64 e.f1, .int .i64 e.f2.f0, .int .i64 e.f2.f1, .slice A e.f3.length c] 27 (0, 0)) (.cells #[.slice A0 l0.length c0, .slice A1 l1.length c1, .slice A2 l2.length c2] 30 (0, 0))
 have HK := Aside0.mk (And.intro k1 hB0)
 have HX := Aside0.mk (And.intro hC hc)
 have HM := Aside0.mk (fun (W : World) (h : Below w.heap.size w W) => readMem_any l0 l1 l2 A0 A1 A2 c0 c1 c2 W (Kd.C_below h0 h) (Kd.C_below h1 h) (Kd.C_below h2 h) m0 m1 m2)
 clear hs k1 k2 hB0 hC hc h0 h1 h2 m0 m1 m2
 go_enter Try.func6, Try.ntmps6
 go_wp2_with fail
 refine (HM.out _ HK.out.2).mono ?_
 rintro en w1 ⟨hr, hb1⟩
 have HB1 := Aside0.mk (HK.out.2.trans (hb1.mono HK.out.2.size))
 have k1 := (hb1.block _ (blk_lt HK.out.1)).trans HK.out.1
 clear hb1 HM
 have q0 : w1.cell? ⟨w.heap.size, 0, none⟩ = some (.int .i64 e.f0) := by rw [blk_cell k1]; rfl
 have q1 : w1.cell? ⟨w.heap.size, 1, none⟩ = some (.int .i64 e.f1) := by rw [blk_cell k1]; rfl
 have q2 : w1.cell? ⟨w.heap.size, 2, none⟩ = some (.int .i64 e.f2.f0) := by rw [blk_cell k1]; rfl
 have q3 : w1.cell? ⟨w.heap.size, 3, none⟩ = some (.int .i64 e.f2.f1) := by rw [blk_cell k1]; rfl
 have q4 : w1.cell? ⟨w.heap.size, 4, none⟩ = some (.slice A e.f3.length c) := by rw [blk_cell k1]; rfl
 have HK1 := Aside0.mk k1
 clear k1 HK
 rcases hr with ⟨hv, g, rfl, hm⟩ | ⟨hv, rfl⟩
 ·have HV := Aside0.mk (show memOkL l0 l1 l2 = true from hv)
  have HM := Aside0.mk hm
  clear hv hm
  go_wp2_with fail
  refine (hok e A c w1 (Kd.C_below HX.out.1 HB1.out) HX.out.2).mono ?_
  rintro en w2 ⟨rfl, hb2⟩
  have k2 := (hb2.block _ (blk_lt HK1.out)).trans HK1.out
  have HB2 := Aside0.mk (HB1.out.trans (hb2.mono HB1.out.size))
  have HM2 := Aside0.mk (HM.out.below hb2)
  clear hb2 q0 q1 q2 q3 q4
  cases ho : okL 0 (partsL e) with
  | false =>
   have HO := Aside0.mk ho; clear ho k2
   go_wp2
   go_ret
   exact ⟨by rw [ofV, HO.out, Bool.and_false]; rfl, HB2.out⟩
  | true =>
   have hf : formS 6 e = true := by rw [okL_eq, Bool.and_eq_true] at ho; exact ho.1
   have hcall := reckon_any (l0 ++ l1 ++ l2) 6 e hf g A c w2 HM2.out (Kd.C_below HX.out.1 HB2.out) HX.out.2
   simp only [List.append_toArray, List.nil_append] at hcall
   have HO := Aside0.mk (And.intro ho hcall)
   clear ho hf hcall
   have q0 : w2.cell? ⟨w.heap.size, 0, none⟩ = some (.int .i64 e.f0) := by rw [blk_cell k2]; rfl
   have q1 : w2.cell? ⟨w.heap.size, 1, none⟩ = some (.int .i64 e.f1) := by rw [blk_cell k2]; rfl
   have q2 : w2.cell? ⟨w.heap.size, 2, none⟩ = some (.int .i64 e.f2.f0) := by rw [blk_cell k2]; rfl
   have q3 : w2.cell? ⟨w.heap.size, 3, none⟩ = some (.int .i64 e.f2.f1) := by rw [blk_cell k2]; rfl
   have q4 : w2.cell? ⟨w.heap.size, 4, none⟩ = some (.slice A e.f3.length c) := by rw [blk_cell k2]; rfl
   clear k2
   go_wp2_with fail
   refine HO.out.2.mono ?_
   rintro en w3 ⟨rfl, hb3⟩
   have HB3 := Aside0.mk (HB2.out.trans (hb3.mono HB2.out.size))
   clear hb3 q0 q1 q2 q3 q4
   go_wp2
   go_ret
   exact ⟨by rw [ofV, HO.out.1, HV.out, List.append_assoc]; rfl, HB3.out⟩
 ·have HV := Aside0.mk (show memOkL l0 l1 l2 = false from hv)
  clear hv
  go_wp2
  go_ret
  exact ⟨by rw [ofV, HV.out, Bool.false_and]; rfl, HB1.out⟩
end Go.Proofs.Ytacbbpbopmdpeaa.B
