/- The laws' own equality of trees, where both read the same. -/
import Derived.Test.YtiofkhfmdophpaaTo
import Derived.Test.YtiofkhfmdophpaaPkA
import Derived.StillTailTactics
namespace Go.Proofs.Ytiofkhfmdophpaa.B
open Go.RowKit Go.Proofs.YtiofkhfmdophpaaW.PrintWords Go.Proofs.YtiofkhfmdophpaaW.PrintLast Go.Proofs.YtiofkhfmdophpaaW.PrintMore
set_option linter.unusedVariables false

def TruePost (w : World) (e : Ending) (w' : World) : Prop := e = .returned (.bool true) ∧ Below w.heap.size w w'
theorem eqAddr_refl (a b : Int) (w : World) : Calls Try.prog 57 #[.agg #[.int .i64 a, .int .i64 b], .agg #[.int .i64 a, .int .i64 b]] w (TruePost w) :=
 (laws_eqAddr.calls a b a b true w (by simp [laws_eqAddr.f])).mono fun _ _ h => h

set_option maxRecDepth 100000 in
set_option maxHeartbeats 2000000 in
theorem eqExprS_of (l : List IEx) (ih : ∀ x ∈ l, ∀ (A B : Option Addr) (c c' : Nat) (w : World), Kd.C iexK w A x.f3.length x.f3 → Kd.C iexK w B x.f3.length x.f3 → x.f3.length ≤ c → x.f3.length ≤ c' →
   Calls Try.prog 19 #[.agg #[.int .i64 x.f0, .int .i64 x.f1, .int .i64 x.f2.f0, .int .i64 x.f2.f1, .slice A x.f3.length c], .agg #[.int .i64 x.f0, .int .i64 x.f1, .int .i64 x.f2.f0, .int .i64 x.f2.f1, .slice B x.f3.length c']] w (TruePost w))
  (A B : Option Addr) (c c' : Nat) (w : World) (hC : Kd.C iexK w A l.length l) (hC' : Kd.C iexK w B l.length l) (hc : l.length ≤ c) (hc' : l.length ≤ c') :
  Calls Try.prog 58 #[.slice A l.length c, .slice B l.length c'] w (TruePost w) := by
 have hmax : l.length ≤ 9223372036854775807 := hC.2.1
 go_enter Try.func58, Try.ntmps58
 go_wp2
 go_loopw [5] (fun i wr => ∃ (j : Nat), i = .int .i64 j ∧ Aside0 (j ≤ l.length ∧ Below w.heap.size w wr)) (fun i _ => l.length - (intOf i).toNat)
 case atStart => exact ⟨0, rfl, ⟨Nat.zero_le _, Below.refl _ _⟩⟩
 case round =>
  obtain ⟨j, rfl, HR⟩ := hrel
  by_cases hj : j < l.length
  ·obtain ⟨ad, A4, c4, hA, e0, e1, e2, e3, e4, hl4, hi4⟩ := at_T32 hC (j : Int) (by omega) (by omega)
   obtain ⟨bd, B4, d4, hB, g0, g1, g2, g3, g4, ml4, mi4⟩ := at_T32 hC' (j : Int) (by omega) (by omega)
   have hkid : rd_T32 l (j : Int) = l[j] := by simp [rd_T32, hj]
   cases hA
   cases hB
   have hb := HR.out.2
   replace e0 := (hb.cell (World.block_lt_of_cell? w _ e0)).trans e0
   replace e1 := (hb.cell (World.block_lt_of_cell? w _ e1)).trans e1
   replace e2 := (hb.cell (World.block_lt_of_cell? w _ e2)).trans e2
   replace e3 := (hb.cell (World.block_lt_of_cell? w _ e3)).trans e3
   replace e4 := (hb.cell (World.block_lt_of_cell? w _ e4)).trans e4
   replace g0 := (hb.cell (World.block_lt_of_cell? w _ g0)).trans g0
   replace g1 := (hb.cell (World.block_lt_of_cell? w _ g1)).trans g1
   replace g2 := (hb.cell (World.block_lt_of_cell? w _ g2)).trans g2
   replace g3 := (hb.cell (World.block_lt_of_cell? w _ g3)).trans g3
   replace g4 := (hb.cell (World.block_lt_of_cell? w _ g4)).trans g4
   rw [hkid] at e0 e1 e2 e3 e4 hl4 hi4 g0 g1 g2 g3 g4 ml4 mi4
   simp only [Int.toNat_natCast] at e0 e1 e2 e3 e4 g0 g1 g2 g3 g4
   have hcall := ih l[j] (List.getElem_mem hj) A4 B4 c4 d4 wr.drew (Kd.C_below (Kd.C_below hi4 hb) (below_drew (Below.refl _ _))) (Kd.C_below (Kd.C_below mi4 hb) (below_drew (Below.refl _ _))) hl4 ml4
   obtain ⟨kid, hkd⟩ : ∃ kid, kid = l[j] := ⟨_, rfl⟩
   rw [← hkd] at e0 e1 e2 e3 e4 hl4 hi4 g0 g1 g2 g3 g4 ml4 mi4 hcall
   have HC := Aside0.mk hcall
   have HJ := Aside0.mk hj
   clear hcall hkid hkd hb hi4 hl4 mi4 ml4 ih
   go_wp2
   go_still_tail 8, (by kernel_rfl)
   change wpList _ _ _ _ _ wr.drew
   go_wp2_with fail
   refine HC.out.mono ?_
   clear HC
   rintro e w1 ⟨rfl, hb1⟩
   have HB := Aside0.mk ((below_drew HR.out.2).trans (hb1.mono HR.out.2.size))
   clear hb1
   go_wp2
   go_roundw
   case rel => exact ⟨j + 1, by go_num, ⟨HJ.out, HB.out⟩⟩
   case measure => have := HJ.out; simp [intOf]; omega
  ·have hjl : j = l.length := by have := HR.out.1; omega
   subst hjl
   go_wp2
   go_ret
   exact ⟨rfl, HR.out.2⟩

theorem two_blocks (w : World) (a b : Obj) : ((w.alloc a).alloc b).heap.size = w.heap.size + 1 + 1 ∧ ((w.alloc a).alloc b).heap[w.heap.size]? = some a ∧ ((w.alloc a).alloc b).heap[w.heap.size + 1]? = some b ∧ Below w.heap.size w ((w.alloc a).alloc b) := by
 have s1 : (w.alloc a).heap.size = w.heap.size + 1 := by simp
 have s2 : ((w.alloc a).alloc b).heap.size = w.heap.size + 1 + 1 := by simp
 refine ⟨s2, ?_, ?_, ((Below.refl w.heap.size w).alloc (Nat.le_refl _) _).alloc (by omega) _⟩
 ·rw [Below.heap_alloc _ _ _ (by omega)]; exact heap_alloc_new w a
 ·rw [← s1]; exact heap_alloc_new _ b
set_option maxRecDepth 100000 in
set_option maxHeartbeats 2000000 in
theorem eqExpr_any (x : IEx) : ∀ (A B : Option Addr) (c c' : Nat) (w : World), Kd.C iexK w A x.f3.length x.f3 → Kd.C iexK w B x.f3.length x.f3 → x.f3.length ≤ c → x.f3.length ≤ c' →
   Calls Try.prog 19 #[.agg #[.int .i64 x.f0, .int .i64 x.f1, .int .i64 x.f2.f0, .int .i64 x.f2.f1, .slice A x.f3.length c], .agg #[.int .i64 x.f0, .int .i64 x.f1, .int .i64 x.f2.f0, .int .i64 x.f2.f1, .slice B x.f3.length c']] w (TruePost w) := by
 induction x using IEx.ind with
 | h x ih =>
  intro A B c c' w hC hC' hc hc'
  obtain ⟨hs, k1, k2, hB0⟩ := two_blocks w (.cells #[.int .i64 x.f0, .int .i64 x.f1, .int .i64 x.f2.f0, .int .i64 x.f2.f1, .slice A x.f3.length c] 32 (0, 0)) (.cells #[.int .i64 x.f0, .int .i64 x.f1, .int .i64 x.f2.f0, .int .i64 x.f2.f1, .slice B x.f3.length c'] 32 (0, 0))
  have HX := Aside0.mk (And.intro hC (And.intro hC' (And.intro hc (And.intro hc' (And.intro hB0 (And.intro k1 k2))))))
  have HI := Aside0.mk ih
  clear ih hC hC' hc hc' hB0 k1 k2 hs
  go_enter Try.func19, Try.ntmps19
  go_wp2_with fail
  refine (eqAddr_refl x.f2.f0 x.f2.f1 _).mono ?_
  rintro e w1 ⟨rfl, hb1⟩
  have hB1 : Below w.heap.size w w1 := HX.out.2.2.2.2.1.trans (hb1.mono HX.out.2.2.2.2.1.size)
  have k1 := (hb1.block _ (blk_lt HX.out.2.2.2.2.2.1)).trans HX.out.2.2.2.2.2.1
  have k2 := (hb1.block _ (blk_lt HX.out.2.2.2.2.2.2)).trans HX.out.2.2.2.2.2.2
  have c1 : w1.cell? ⟨w.heap.size, 4, none⟩ = some (.slice A x.f3.length c) := by rw [blk_cell k1]; rfl
  have c2 : w1.cell? ⟨w.heap.size + 1, 4, none⟩ = some (.slice B x.f3.length c') := by rw [blk_cell k2]; rfl
  have hcall := eqExprS_of x.f3 HI.out A B c c' w1 (Kd.C_below HX.out.1 hB1) (Kd.C_below HX.out.2.1 hB1) HX.out.2.2.1 HX.out.2.2.2.1
  have HC := Aside0.mk hcall
  have HB := Aside0.mk hB1
  clear hcall hB1 k1 k2 hb1
  go_wp2_with fail
  refine HC.out.mono ?_
  clear HC
  rintro e w2 ⟨rfl, hb2⟩
  have HB2 := Aside0.mk (HB.out.trans (hb2.mono HB.out.size))
  clear hb2
  go_wp2
  go_ret
  exact ⟨rfl, HB2.out⟩
end Go.Proofs.Ytiofkhfmdophpaa.B
