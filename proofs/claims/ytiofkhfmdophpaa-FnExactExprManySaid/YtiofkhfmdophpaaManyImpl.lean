/- impl.ExprMany: how many parts, where ok. -/
import Derived.Test.YtiofkhfmdophpaaWordsOf
namespace Go.Proofs.Ytiofkhfmdophpaa.B
open Go Go.RowKit Go.Shelf Go.Proofs.YtiofkhfmdophpaaW.PrintWords Go.Proofs.YtiofkhfmdophpaaW.PrintLast Go.Proofs.YtiofkhfmdophpaaW.PrintMore
set_option linter.unusedVariables false
def manyV (e : Ex) : Int := if okL 0 (partsL e) = true then ((partsL e).length : Int) else 0
set_option maxRecDepth 100000 in
theorem manyImpl_any (hok : OkCon) (e : Ex) (A : Option Addr) (c : Nat) (w : World) (hC : Kd.C exK w A e.f3.length e.f3) (hc : e.f3.length ≤ c) (HT : TabW w) :
  Calls Try.prog 29 #[.agg (exA e A c)] w fun en w' => en = .returned (.int .i64 (manyV e)) ∧ Below w.heap.size w w' := by
 have mixed : Try.prog.follows .mixedOrders = true := rfl
 have k1 : (w.alloc (.cells (exA e A c) 32 (0, 0))).heap[w.heap.size]? = some (.cells (exA e A c) 32 (0, 0)) := heap_alloc_new _ _
 have hB0 : Below w.heap.size w (w.alloc (.cells (exA e A c) 32 (0, 0))) := (Below.refl _ _).alloc (Nat.le_refl _) _
 have H0 := Aside0.mk (And.intro k1 hB0)
 have H1 := Aside0.mk (And.intro hC HT)
 clear k1 hB0 hC HT
 go_enter Try.func29, Try.ntmps29
 go_wp2_with fail
 refine (hok e A c _ (Kd.C_below H1.out.1 H0.out.2) hc).mono ?_
 rintro en w1 ⟨rfl, hb1⟩
 have hB1 := H0.out.2.trans (hb1.mono H0.out.2.size)
 have H2 := Aside0.mk (And.intro (blk_below H0.out.1 hb1) (And.intro hB1 (H1.out.2.below hB1)))
 clear hb1 hB1
 cases hv : okL 0 (partsL e) with
 | false =>
  have HV := Aside0.mk hv
  clear hv
  generalize w1 = W1 at H2 ⊢
  go_wp2_with fail
  go_ret
  exact ⟨by unfold manyV; rw [HV.out]; rfl, H2.out.2.1⟩
 | true =>
  have HV := Aside0.mk hv
  clear hv
  generalize w1 = W1 at H2 ⊢
  have c0 := blk_cell H2.out.1 0
  have c1 := blk_cell H2.out.1 1
  have c2 := blk_cell H2.out.1 2
  have c3 := blk_cell H2.out.1 3
  have c4 := blk_cell H2.out.1 4
  go_wp2_with fail
  refine (wordsOf_any e HV.out A c W1 (Kd.C_below H1.out.1 H2.out.2.1) hc H2.out.2.2).mono ?_
  rintro en w2 ⟨⟨A', c', rfl⟩, hb2⟩
  have H3 := Aside0.mk (H2.out.2.1.trans (hb2.mono H2.out.2.1.size))
  clear hb2 c0 c1 c2 c3 c4
  go_wp2_with fail
  go_ret
  exact ⟨by unfold manyV; rw [HV.out]; rfl, H3.out⟩
end Go.Proofs.Ytiofkhfmdophpaa.B
