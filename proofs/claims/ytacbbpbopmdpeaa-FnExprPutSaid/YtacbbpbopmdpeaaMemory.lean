/- impl's memory: a place's address, the number at a place. -/
import Derived.Test.YtacbbpbopmdpeaaReck
import Derived.Test.YtacbbpbopmdpeaaParts
import Derived.Test.YtacbbpbopmdpeaaPkC
import Derived.Deep.RegionHeld3
namespace Go.Proofs.Ytacbbpbopmdpeaa.B
open Go.RowKit Go.Proofs.YtacbbpbopmdpeaaW.PrintWords Go.Proofs.YtacbbpbopmdpeaaW.PrintLast Go.Proofs.YtacbbpbopmdpeaaW.PrintMore
set_option linter.unusedVariables false

theorem addr_cases {k a : Int} (h : addrOkL k a = true) : (k = 1 ∨ k = 2 ∨ k = 3) ∧ (a = 0 ∨ a = 1 ∨ a = 2 ∨ a = 3 ∨ a = 4 ∨ a = 5) := by
 unfold addrOkL at h
 have := of_decide_eq_true h
 omega
set_option maxRecDepth 100000 in
set_option maxHeartbeats 4000000 in
theorem place_any (g : Nat) (k a : Int) (w : World) (h : addrOkL k a = true) : Calls Try.prog 45 #[.pointer (some ⟨g, 0, none⟩), .agg #[.int .i64 k, .int .i64 a]] w fun e w' => e = .returned (.pointer (some ⟨g, ((k - 1) * 6 + a).toNat, none⟩)) ∧ Below w.heap.size w w' := by
 have HB := Aside0.mk (Below.refl w.heap.size w)
 obtain ⟨hk, ha⟩ := addr_cases h
 clear h
 rcases hk with rfl | rfl | rfl <;> rcases ha with rfl | rfl | rfl | rfl | rfl | rfl
 all_goals
  go_enter Try.func45, Try.ntmps45
  go_wp2
  go_quiet (fail)
  go_wp2
  go_ret
  exact ⟨rfl, by repeat (first | (with_reducible first | exact HB.out | apply below_alloc | apply pw_below_drewN | apply below_drew1) | exact HB.out)⟩
/-- The number at a place of a memory's 18. -/
def getL (bs : List Int) (k a : Int) : Int := if addrOkL k a then bs.getD ((k - 1) * 6 + a).toNat 0 else 0
structure MemAt (w : World) (g : Nat) (bs : List Int) : Prop where
 b : w.heap[g]? = some (.cells (bs.map (Value.int .i64)).toArray 74 (0, 0))
 n : bs.length = 18
theorem MemAt.below {w w' : World} {g : Nat} {bs : List Int} (h : MemAt w g bs) (hb : Below w.heap.size w w') : MemAt w' g bs := ⟨(hb.block g (blk_lt h.b)).trans h.b, h.n⟩
theorem MemAt.cell {w : World} {g : Nat} {bs : List Int} (h : MemAt w g bs) (i : Nat) (hi : i < 18) : w.cell? ⟨g, i, none⟩ = some (.int .i64 (bs.getD i 0)) := by
 have hl := h.n
 rw [blk_cell h.b]
 simp [List.getD_eq_getElem?_getD, List.getElem?_eq_getElem (show i < bs.length by omega)]
set_option maxRecDepth 100000 in
set_option maxHeartbeats 4000000 in
theorem get_any (g : Nat) (bs : List Int) (k a : Int) (w : World) (hm : MemAt w g bs) : Calls Try.prog 25 #[.pointer (some ⟨g, 0, none⟩), .agg #[.int .i64 k, .int .i64 a]] w fun e w' => e = .returned (.int .i64 (getL bs k a)) ∧ Below w.heap.size w w' := by
 have hb0 := heap_alloc_new w (.cells #[.int .i64 k, .int .i64 a] 24)
 have hB0 : Below w.heap.size w (w.alloc (.cells #[.int .i64 k, .int .i64 a] 24)) := (Below.refl _ _).alloc (Nat.le_refl _) _
 have HM := Aside0.mk (And.intro hm (And.intro hb0 hB0))
 clear hm hb0 hB0
 cases hv : addrOkL k a with
 | false =>
  have HV := Aside0.mk hv; clear hv
  go_enter Try.func25, Try.ntmps25
  go_wp2_with fail
  refine (addrOk_any _ _ _).mono ?_
  rintro e w1 ⟨rfl, hb1⟩
  rw [HV.out]
  have HB := Aside0.mk (HM.out.2.2.trans (hb1.mono HM.out.2.2.size)); clear hb1
  go_wp2
  go_ret
  exact ⟨by rw [getL, HV.out]; rfl, HB.out⟩
 | true =>
  obtain ⟨hk, ha⟩ := addr_cases hv
  have hlt : ((k - 1) * 6 + a).toNat < 18 := by omega
  have HV := Aside0.mk (And.intro hv hlt); clear hv hk ha hlt
  go_enter Try.func25, Try.ntmps25
  go_wp2_with fail
  refine (addrOk_any _ _ _).mono ?_
  rintro e w1 ⟨rfl, hb1⟩
  rw [HV.out.1]
  have k1 := (hb1.block _ (blk_lt HM.out.2.1)).trans HM.out.2.1
  have c0 : w1.cell? ⟨w.heap.size, 0, none⟩ = some (.int .i64 k) := by rw [blk_cell k1]; rfl
  have c1 : w1.cell? ⟨w.heap.size, 1, none⟩ = some (.int .i64 a) := by rw [blk_cell k1]; rfl
  have HB := Aside0.mk (HM.out.2.2.trans (hb1.mono HM.out.2.2.size)); clear hb1 k1
  go_wp2_with fail
  refine (place_any g k a w1 HV.out.1).mono ?_
  rintro e w2 ⟨rfl, hb2⟩
  have hB2 := HB.out.trans (hb2.mono HB.out.size)
  have d := (HM.out.1.below hB2).cell _ HV.out.2
  have HB2 := Aside0.mk hB2; clear hb2 hB2 c0 c1
  go_wp2
  go_ret
  exact ⟨by rw [getL, HV.out.1]; rfl, HB2.out⟩

def twoI (k a b : Int) : Int := (impl_two.f k a b).getD 0
theorem two_some (k a b : Int) : impl_two.f k a b = some (twoI k a b) := by
 have : ∃ r, impl_two.f k a b = some r := by
  unfold impl_two.f impl_NumAdd.f impl_NumSub.f impl_NumMul.f impl_maker_of.f impl_NumCut.f impl_NumIs.f impl_NumOn.f
  simp only [Option.bind_some]
  repeat' split
  all_goals simp
 obtain ⟨r, h⟩ := this
 rw [twoI, h]; rfl
/-- What something that is ok comes to. -/
def evalI (bs : List Int) : Ex → Int
 | ⟨k, n, a, l⟩ => if k = 1 then n else if k = 2 then getL bs a.f0 a.f1 else
  if k = 10 then (if (l.attach.map fun x => evalI bs x.1).getD 0 0 = 0 then 1 else 0) else twoI k ((l.attach.map fun x => evalI bs x.1).getD 0 0) ((l.attach.map fun x => evalI bs x.1).getD 1 0)
termination_by e => SizeOf.sizeOf e
decreasing_by all_goals have := List.sizeOf_lt_of_mem x.2; simp; omega
theorem evalI_eq (bs : List Int) (e : Ex) : evalI bs e = if e.f0 = 1 then e.f1 else if e.f0 = 2 then getL bs e.f2.f0 e.f2.f1 else
  if e.f0 = 10 then (if (e.f3.map (evalI bs)).getD 0 0 = 0 then 1 else 0) else twoI e.f0 ((e.f3.map (evalI bs)).getD 0 0) ((e.f3.map (evalI bs)).getD 1 0) := by
 cases e with
 | mk k n a l => rw [evalI]; simp
end Go.Proofs.Ytacbbpbopmdpeaa.B
