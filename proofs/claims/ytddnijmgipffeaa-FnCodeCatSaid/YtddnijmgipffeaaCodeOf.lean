/- impl.CodeOf. -/
import Derived.Test.YtddnijmgipffeaaCodeAll
import Derived.Test.YtddnijmgipffeaaZStOk
namespace Go.Proofs.Ytddnijmgipffeaa.B
open Go.RowKit Go.Shelf Go.Proofs.YtddnijmgipffeaaW.PrintWords Go.Proofs.YtddnijmgipffeaaW.PrintLast Go.Proofs.YtddnijmgipffeaaW.PrintMore
set_option linter.unusedVariables false

theorem R_empty (w : World) (base : Nat) : Kd.R k39 39 w base (fun _ => True) (.slice none 0 0) [] :=
 ⟨fun _ _ => trivial, OwnRow.none_ _ _ _ _ _⟩
set_option maxRecDepth 100000 in
set_option maxHeartbeats 4000000 in
theorem codeOf_any (l : StRow) (A : Option Addr) (c : Nat) (w : World) (hC : Kd.C k69 w A l.length l) (hc : l.length ≤ c) :
  Calls Try.prog 11 #[.slice A l.length c] w fun e w' => ∃ U y, e = .returned (.slice U (codeR l).length y) ∧ Kd.R k39 39 w' w.heap.size (fun _ => True) (.slice U (codeR l).length y) (codeR l) ∧ Below w.heap.size w w' := by
 have hok := impl_StmtsOk.calls A c l (countL 4 l 0).1 w hC hc rfl
 have HOK := Aside0.mk hok
 have HC := Aside0.mk (And.intro hC hc)
 obtain ⟨rs, hrs⟩ : ∃ rs, rs = codeR l := ⟨_, rfl⟩
 rw [← hrs]
 have HRS := Aside0.mk hrs
 clear hok hC hc hrs
 go_enter Try.func11, Try.ntmps11
 go_wp2_with fail
 refine HOK.out.mono ?_
 clear HOK
 rintro e w1 ⟨rfl, hb⟩
 have HB := Aside0.mk hb
 clear hb
 by_cases h : (countL 4 l 0).1 = true
 ·rw [h]
  have HH := Aside0.mk h
  clear h
  go_upto_region 4 with (fail)
  have j1 := heap_alloc_new w1 (.cells #[.slice none 0 0] 73)
  have hb1 : Below w1.heap.size w1 (w1.alloc (.cells #[.slice none 0 0] 73)) := (Below.refl _ _).alloc (Nat.le_refl _) _
  generalize w1.alloc (.cells #[.slice none 0 0] 73) = w2 at j1 hb1 ⊢
  have hB2 : Below w.heap.size w w2 := HB.out.trans (hb1.mono HB.out.size)
  have hco : Co w w.heap.size w2 w1.heap.size [] := ⟨⟨_, j1, R_empty _ _⟩, hB2, HB.out.size, hB2.size⟩
  have hcall := codeSt_any l A c w w2 w1.heap.size [] hco (by have := code_fit HH.out; simp; omega) HC.out.1 HC.out.2
  have HCA := Aside0.mk hcall
  clear j1 hb1 hB2 hco hcall
  go_wp2_with fail
  refine HCA.out.mono ?_
  clear HCA
  rintro e w3 ⟨rfl, hco, _⟩
  have hr : ([] ++ codeS l ([] : List IIns).length) = rs := by rw [HRS.out, codeR, if_pos HH.out]; rfl
  rw [hr] at hco
  obtain ⟨⟨v, hg, hR⟩, h2, h3, h4⟩ := hco
  obtain ⟨U, y, rfl⟩ := Kd.R_slice hR
  have q0 : w3.cell? ⟨w1.heap.size, 0, none⟩ = some (.slice U rs.length y) := (blk_cell hg 0).trans rfl
  have HF := Aside0.mk (And.intro hR h2)
  clear hr hg hR h2 h3 h4
  go_wp2
  go_ret
  exact ⟨U, y, rfl, HF.out⟩
 ·have h' : (countL 4 l 0).1 = false := Bool.eq_false_iff.2 h
  have hr : rs = [] := by rw [HRS.out, codeR, if_neg h]
  rw [h']
  have HR := Aside0.mk hr
  clear h h' hr
  go_wp2
  go_ret
  refine ⟨none, 0, ?_⟩
  rw [HR.out]
  exact ⟨rfl, R_empty _ _, HB.out⟩
end Go.Proofs.Ytddnijmgipffeaa.B
