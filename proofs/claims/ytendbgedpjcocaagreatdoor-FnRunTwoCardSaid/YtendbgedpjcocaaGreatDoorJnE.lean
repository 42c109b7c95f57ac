import Derived.Test.YtendbgedpjcocaaGreatDoorJnB
import Derived.StillTailTactics
import Derived.Test.YtendbgedpjcocaaGreatDoorJnF
import Derived.Test.YtendbgedpjcocaaGreatDoorB0
import Derived.Deep.MidRow
import Derived.Test.YtendbgedpjcocaaGreatDoorJnG
import Derived.Test.YtendbgedpjcocaaGreatDoorPkB
import Derived.Test.YtendbgedpjcocaaGreatDoorSq
import Derived.Test.YtendbgedpjcocaaGreatDoorExprOk
/- Expressions of the laws and of the program: bounds, inductions, rows. -/
namespace Go.Proofs.YtendbgedpjcocaaGreatDoor.B
open Go.RowKit Go.Proofs.YtendbgedpjcocaaGreatDoorW.PrintWords Go.Proofs.YtendbgedpjcocaaGreatDoorW.PrintLast Go.Proofs.YtendbgedpjcocaaGreatDoorW.PrintMore
set_option linter.unusedVariables false

abbrev LExT := S27
def iexOk : S27 → Prop
 | ⟨_, _, _, l⟩ => l.length ≤ 1048576 ∧ ∀ x ∈ l.attach, iexOk x.1
termination_by e => SizeOf.sizeOf e
decreasing_by have := List.sizeOf_lt_of_mem x.2; simp; omega
theorem iexOk_eq (e : S27) : iexOk e ↔ e.f3.length ≤ 1048576 ∧ ∀ x ∈ e.f3, iexOk x := by
 cases e with
 | mk a b c l => rw [iexOk]; simp
theorem iexInd {P : S27 → Prop} (h : ∀ e : S27, (∀ x ∈ e.f3, P x) → P e) : ∀ e, P e
 | ⟨a, b, c, l⟩ => h _ (fun x hx => iexInd h x)
termination_by e => SizeOf.sizeOf e
decreasing_by have := List.sizeOf_lt_of_mem hx; simp at this ⊢; omega
theorem mem_sum : ∀ (l : List Nat) (x : Nat), x ∈ l → x ≤ l.sum
 | [], x, h => by simp at h
 | a :: l, x, h => by
  rw [List.sum_cons]
  rcases List.mem_cons.mp h with rfl | h
  ·omega
  ·have := mem_sum l x h; omega
end Go.Proofs.YtendbgedpjcocaaGreatDoor.B
/- Statements of the laws and of the program: bounds, inductions, rows. -/
namespace Go.Proofs.YtendbgedpjcocaaGreatDoor.B
open Go.RowKit Go.Proofs.YtendbgedpjcocaaGreatDoorW.PrintWords Go.Proofs.YtendbgedpjcocaaGreatDoorW.PrintLast Go.Proofs.YtendbgedpjcocaaGreatDoorW.PrintMore
set_option linter.unusedVariables false

abbrev LSt := S35
abbrev ISt := S35
def istOk : ISt → Prop
 | ⟨_, _, c, l, l'⟩ => iexOk c ∧ (l.length ≤ 1048576 ∧ ∀ x ∈ l.attach, istOk x.1) ∧ (l'.length ≤ 1048576 ∧ ∀ x ∈ l'.attach, istOk x.1)
termination_by e => SizeOf.sizeOf e
decreasing_by all_goals (have := List.sizeOf_lt_of_mem x.2; simp; omega)
theorem istOk_eq (e : ISt) : istOk e ↔ iexOk e.f2 ∧ (e.f3.length ≤ 1048576 ∧ ∀ x ∈ e.f3, istOk x) ∧ (e.f4.length ≤ 1048576 ∧ ∀ x ∈ e.f4, istOk x) := by
 cases e with
 | mk a b c l l' => rw [istOk]; simp
theorem rdI_st (l : List ISt) (j : Nat) (h : j < l.length) : rd_T35 l (j : Int) = l[j] := by simp [rd_T35, h]
end Go.Proofs.YtendbgedpjcocaaGreatDoor.B
/- impl.readMem: a memory is read, if it is ok. -/
namespace Go.Proofs.YtendbgedpjcocaaGreatDoor.B
open Go.RowKit Go.Proofs.YtendbgedpjcocaaGreatDoorW.PrintWords Go.Proofs.YtendbgedpjcocaaGreatDoorW.PrintLast Go.Proofs.YtendbgedpjcocaaGreatDoorW.PrintMore
set_option linter.unusedVariables false

def listOk (l : List Int) : Bool := l.length == 6 && !l.any fun n => !isNumL n
theorem listOk_len {l : List Int} (h : listOk l = true) : l.length = 6 := by
 unfold listOk at h; simp only [Bool.and_eq_true, beq_iff_eq] at h; exact h.1
/-- What the memory holds, when so many lists have been read. -/
def memB (l0 l1 l2 : List Int) : Nat → List Int
 | 0 => List.replicate 18 0
 | 1 => l0 ++ List.replicate 12 0
 | 2 => l0 ++ l1 ++ List.replicate 6 0
 | _ => l0 ++ l1 ++ l2
def okT (l0 l1 l2 : List Int) : Nat → Bool
 | 0 => true
 | 1 => listOk l0
 | 2 => listOk l0 && listOk l1
 | _ => listOk l0 && (listOk l1 && listOk l2)
abbrev iv (l : List Int) : List Value := l.map (Value.int .i64)
theorem iv_len (l : List Int) : (iv l).length = l.length := by simp [iv]
theorem memB_len {l0 l1 l2 : List Int} : ∀ j, okT l0 l1 l2 j = true → (memB l0 l1 l2 j).length = 18
 | 0, _ => rfl
 | 1, h => by have := listOk_len h; simp [memB, this]
 | 2, h => by
  simp only [okT, Bool.and_eq_true] at h
  simp [memB, listOk_len h.1, listOk_len h.2]
 | j + 3, h => by
  simp only [okT, Bool.and_eq_true] at h
  simp [memB, listOk_len h.1, listOk_len h.2.1, listOk_len h.2.2]
theorem six (l : List Int) (h : l.length = 6) : ∃ a0 a1 a2 a3 a4 a5, l = [a0, a1, a2, a3, a4, a5] := by
 match l, h with
 | [a0, a1, a2, a3, a4, a5], _ => exact ⟨a0, a1, a2, a3, a4, a5, rfl⟩
theorem int_at2 {w : World} {A : Option Addr} {l : List Int} (h : Kd.C (Kd.int .i64) w A l.length l) (j : Nat) (hj : j < l.length) : ∃ ad x, A = some ad ∧ l[j]? = some x ∧ w.cell? (ad.add j) = some (.int .i64 x) := by
 obtain ⟨ad, hA, e⟩ := int_at h j hj
 exact ⟨ad, l[j], hA, List.getElem?_eq_getElem hj, e⟩
theorem six_get {l : List Int} {x0 x1 x2 x3 x4 x5 : Int} (h : l.length = 6) (h0 : l[0]? = some x0) (h1 : l[1]? = some x1) (h2 : l[2]? = some x2) (h3 : l[3]? = some x3) (h4 : l[4]? = some x4) (h5 : l[5]? = some x5) : l = [x0, x1, x2, x3, x4, x5] := by
 obtain ⟨a0, a1, a2, a3, a4, a5, rfl⟩ := six l h
 simp at h0 h1 h2 h3 h4 h5
 subst h0 h1 h2 h3 h4 h5
 rfl
theorem memB_put {l0 l1 l2 l : List Int} (j : Nat) (hj : j < 3) (hk : okT l0 l1 l2 j = true) (hl : l.length = 6) (hn : l = if j = 0 then l0 else if j = 1 then l1 else l2) :
  (iv (memB l0 l1 l2 j)).take (j * 6) ++ iv l ++ (iv (memB l0 l1 l2 j)).drop (j * 6 + (iv l).length) = iv (memB l0 l1 l2 (j + 1)) := by
 rw [iv_len, hl]
 have h3 : j = 0 ∨ j = 1 ∨ j = 2 := by omega
 rcases h3 with rfl | rfl | rfl
 ·simp only [if_true] at hn
  subst hn
  simp [memB, iv]
 ·have h0 := listOk_len hk
  simp at hn
  subst hn
  simp only [memB, iv, List.map_append]
  simp [h0, List.drop_append]
 ·simp only [okT, Bool.and_eq_true] at hk
  have h0 := listOk_len hk.1
  have h1 := listOk_len hk.2
  simp at hn
  subst hn
  have e1 : List.take 12 (List.map (Value.int .i64) l0) = List.map (Value.int .i64) l0 := List.take_of_length_le (by simp [h0])
  have e2 : List.drop 18 (List.map (Value.int .i64) l0) = [] := List.drop_eq_nil_of_le (by simp [h0])
  have e3 : List.drop 12 (List.map (Value.int .i64) l1) = [] := List.drop_eq_nil_of_le (by simp [h1])
  simp [memB, iv, h0, h1, List.take_append, List.drop_append, e1, e2, e3]
theorem arrayAt_bank (a : Option Addr) (c : Nat) (W : World) : (Instr.arrayAt 97 (.slice a 6 c)).run Tryz.prog W = .ok (.pointer a) W := by
 simp [Instr.arrayAt, run_underlying Tryz.underlying97]
theorem three_blocks' (w : World) (a b c : Obj) : (((w.alloc a).alloc b).alloc c).heap.size = w.heap.size + 1 + 1 + 1 ∧ (((w.alloc a).alloc b).alloc c).heap[w.heap.size]? = some a ∧ (((w.alloc a).alloc b).alloc c).heap[w.heap.size + 1]? = some b ∧ (((w.alloc a).alloc b).alloc c).heap[w.heap.size + 1 + 1]? = some c ∧ Below w.heap.size w (((w.alloc a).alloc b).alloc c) := by
 have s1 : (w.alloc a).heap.size = w.heap.size + 1 := by simp
 have s2 : ((w.alloc a).alloc b).heap.size = w.heap.size + 1 + 1 := by simp
 have s3 : (((w.alloc a).alloc b).alloc c).heap.size = w.heap.size + 1 + 1 + 1 := by simp
 refine ⟨s3, ?_, ?_, ?_, (((Below.refl w.heap.size w).alloc (Nat.le_refl _) _).alloc (by omega) _).alloc (by omega) _⟩
 ·rw [Below.heap_alloc _ _ _ (by omega), Below.heap_alloc _ _ _ (by omega)]; exact heap_alloc_new w a
 ·rw [Below.heap_alloc _ _ _ (by omega), ← s1]; exact heap_alloc_new _ b
 ·rw [← s2]; exact heap_alloc_new _ c

set_option maxRecDepth 100000 in
set_option maxHeartbeats 8000000 in
theorem readMem_new (l0 l1 l2 : List Int) (A0 A1 A2 : Option Addr) (c0 c1 c2 : Nat) (w : World) (h0 : Kd.C (Kd.int .i64) w A0 l0.length l0) (h1 : Kd.C (Kd.int .i64) w A1 l1.length l1) (h2 : Kd.C (Kd.int .i64) w A2 l2.length l2) (m0 : l0.length ≤ c0) (m1 : l1.length ≤ c1) (m2 : l2.length ≤ c2) :
  Calls Tryz.prog 35 #[.agg #[.slice A0 l0.length c0, .slice A1 l1.length c1, .slice A2 l2.length c2]] w fun e w' =>
   (((listOk l0 && (listOk l1 && listOk l2)) = true ∧ ∃ g, w.heap.size ≤ g ∧ e = .returned (.tuple #[.pointer (some ⟨g, 0, none⟩), .bool true]) ∧ MemAt w' g (l0 ++ l1 ++ l2)) ∨ ((listOk l0 && (listOk l1 && listOk l2)) = false ∧ e = .returned (.tuple #[.pointer none, .bool false]))) ∧ Below w.heap.size w w' := by
 have hnl : Pr 65 (fun n => !isNumL n) := notNum_any
 have hen : ∀ args w, (callFunc 65 args).run Tryz.prog w = .ok (.enter 65 args) w := enters_of Tryz.func65 (by kernel_rfl) rfl
 have HC := Aside0.mk (And.intro h0 (And.intro h1 (And.intro h2 (And.intro m0 (And.intro m1 (And.intro m2 (And.intro hnl hen)))))))
 clear h0 h1 h2 m0 m1 m2 hnl hen
 obtain ⟨hs, k1, k2, k3, hB0⟩ := three_blocks' w (.cells #[.slice A0 l0.length c0, .slice A1 l1.length c1, .slice A2 l2.length c2] 30 (0, 0)) (.cells #[.int .i64 0, .int .i64 0, .int .i64 0, .int .i64 0, .int .i64 0, .int .i64 0, .int .i64 0, .int .i64 0, .int .i64 0, .int .i64 0, .int .i64 0, .int .i64 0, .int .i64 0, .int .i64 0, .int .i64 0, .int .i64 0, .int .i64 0, .int .i64 0] 100 (0, 0)) (.cells #[.slice A0 l0.length c0, .slice A1 l1.length c1, .slice A2 l2.length c2] 28 (0, 0))
 have HK := Aside0.mk (And.intro k2 (And.intro k3 hB0))
 clear hs k1 k2 k3 hB0
 go_enter Tryz.func35, Tryz.ntmps35
 go_wp2
 generalize ((w.alloc (.cells #[.slice A0 l0.length c0, .slice A1 l1.length c1, .slice A2 l2.length c2] 30)).alloc (.cells #[.int .i64 0, .int .i64 0, .int .i64 0, .int .i64 0, .int .i64 0, .int .i64 0, .int .i64 0, .int .i64 0, .int .i64 0, .int .i64 0, .int .i64 0, .int .i64 0, .int .i64 0, .int .i64 0, .int .i64 0, .int .i64 0, .int .i64 0, .int .i64 0] 100)).alloc (.cells #[.slice A0 l0.length c0, .slice A1 l1.length c1, .slice A2 l2.length c2] 28) = W0 at HK ⊢
 go_loopw [5, 6, 17] (fun _ _ i wr => ∃ (j : Nat), i = .int .i64 j ∧ Aside0 (j ≤ 3 ∧ okT l0 l1 l2 j = true ∧ wr.heap[w.heap.size + 1]? = some (.cells (iv (memB l0 l1 l2 j)).toArray 100 (0, 0)) ∧ wr.heap[w.heap.size + 1 + 1]? = some (.cells #[.slice A0 l0.length c0, .slice A1 l1.length c1, .slice A2 l2.length c2] 28 (0, 0)) ∧ Below w.heap.size w wr)) (fun _ _ i _ => 3 - (intOf i).toNat)
 case atStart => exact ⟨0, rfl, ⟨Nat.zero_le _, rfl, HK.out.1, HK.out.2.1, HK.out.2.2⟩⟩
 case round =>
  obtain ⟨j, rfl, HR⟩ := hrel
  by_cases hj : j < 3
  ·have h3 : j = 0 ∨ j = 1 ∨ j = 2 := by omega
   rcases h3 with rfl | rfl | rfl
   ·have q : wr.cell? ⟨w.heap.size + 1 + 1, 0, none⟩ = some (.slice A0 l0.length c0) := by rw [blk_cell HR.out.2.2.2.1]; rfl
    by_cases h6 : l0.length = 6
    ·have b6 : ((l0.length : Int) != 6) = false := by rw [h6]; rfl
     have hC := Kd.C_below HC.out.1 HR.out.2.2.2.2
     have hcall := containsFunc_any 65 (fun n => !isNumL n) HC.out.2.2.2.2.2.2.1 HC.out.2.2.2.2.2.2.2 l0 A0 c0 wr hC HC.out.2.2.2.1
     obtain ⟨ad, x0, hA, z0, e0⟩ := int_at2 hC 0 (by omega)
     obtain ⟨ad1, x1, hA1, z1, e1⟩ := int_at2 hC 1 (by omega)
     obtain ⟨ad2, x2, hA2, z2, e2⟩ := int_at2 hC 2 (by omega)
     obtain ⟨ad3, x3, hA3, z3, e3⟩ := int_at2 hC 3 (by omega)
     obtain ⟨ad4, x4, hA4, z4, e4⟩ := int_at2 hC 4 (by omega)
     obtain ⟨ad5, x5, hA5, z5, e5⟩ := int_at2 hC 5 (by omega)
     rw [hA] at hA1 hA2 hA3 hA4 hA5
     cases hA1; cases hA2; cases hA3; cases hA4; cases hA5
     simp only [show ad.add 0 = ad by simp [Addr.add], show ad.add 1 = ⟨ad.block, ad.off + 1, none⟩ by simp [Addr.add], show ad.add 2 = ⟨ad.block, ad.off + 2, none⟩ by simp [Addr.add], show ad.add 3 = ⟨ad.block, ad.off + 3, none⟩ by simp [Addr.add], show ad.add 4 = ⟨ad.block, ad.off + 4, none⟩ by simp [Addr.add], show ad.add 5 = ⟨ad.block, ad.off + 5, none⟩ by simp [Addr.add]] at e0 e1 e2 e3 e4 e5
     have hx := six_get h6 z0 z1 z2 z3 z4 z5
     have HD : Aside0 (_ ∧ _ ∧ _) := Aside0.mk (And.intro h6 (And.intro hx (And.intro e0 (And.intro e1 (And.intro e2 (And.intro e3 (And.intro e4 e5)))))))
     rw [h6] at q hcall b6
     rw [hA] at q hcall
     have HF := Aside0.mk hcall
     clear hcall hC hA hx z0 z1 z2 z3 z4 z5 e0 e1 e2 e3 e4 e5
     cases hv : l0.any (fun n => !isNumL n) with
     | true =>
      have HV := Aside0.mk hv; clear hv
      go_wp2_with fail
      refine HF.out.mono ?_
      clear HF
      rintro e w1 ⟨rfl, hb1⟩
      rw [HV.out]
      have HB := Aside0.mk (HR.out.2.2.2.2.trans (hb1.mono HR.out.2.2.2.2.size)); clear hb1
      go_wp2
      go_ret2
      exact ⟨.inr ⟨by unfold listOk; rw [HV.out]; simp, rfl⟩, HB.out⟩
     | false =>
      have HV := Aside0.mk hv; clear hv
      go_wp2_with fail
      refine HF.out.mono ?_
      clear HF
      rintro e w1 ⟨rfl, hb1⟩
      rw [HV.out]
      have hb := hb1
      have e0 := (hb.cell (World.block_lt_of_cell? wr _ HD.out.2.2.1)).trans HD.out.2.2.1
      have e1 := (hb.cell (World.block_lt_of_cell? wr _ HD.out.2.2.2.1)).trans HD.out.2.2.2.1
      have e2 := (hb.cell (World.block_lt_of_cell? wr _ HD.out.2.2.2.2.1)).trans HD.out.2.2.2.2.1
      have e3 := (hb.cell (World.block_lt_of_cell? wr _ HD.out.2.2.2.2.2.1)).trans HD.out.2.2.2.2.2.1
      have e4 := (hb.cell (World.block_lt_of_cell? wr _ HD.out.2.2.2.2.2.2.1)).trans HD.out.2.2.2.2.2.2.1
      have e5 := (hb.cell (World.block_lt_of_cell? wr _ HD.out.2.2.2.2.2.2.2)).trans HD.out.2.2.2.2.2.2.2
      have kb := (hb.block _ (blk_lt HR.out.2.2.1)).trans HR.out.2.2.1
      have kr := (hb.block _ (blk_lt HR.out.2.2.2.1)).trans HR.out.2.2.2.1
      have hB1 : Below w.heap.size w w1 := HR.out.2.2.2.2.trans (hb1.mono HR.out.2.2.2.2.size)
      have hsz : (iv (memB l0 l1 l2 0)).toArray.size = 18 := by rw [List.size_toArray, iv_len]; exact memB_len 0 HR.out.2.1
      obtain ⟨o0, q0⟩ : ∃ o, w1.cell? ⟨w.heap.size + 1, 0, none⟩ = some o := ⟨_, (blk_cell kb 0).trans (Array.getElem?_eq_getElem (by omega))⟩
      have y0 : w1.frozen? ⟨w.heap.size + 1, 0, none⟩ = false := blk_frozen kb 0
      obtain ⟨o1, q1⟩ : ∃ o, w1.cell? ⟨w.heap.size + 1, 1, none⟩ = some o := ⟨_, (blk_cell kb 1).trans (Array.getElem?_eq_getElem (by omega))⟩
      have y1 : w1.frozen? ⟨w.heap.size + 1, 1, none⟩ = false := blk_frozen kb 1
      obtain ⟨o2, q2⟩ : ∃ o, w1.cell? ⟨w.heap.size + 1, 2, none⟩ = some o := ⟨_, (blk_cell kb 2).trans (Array.getElem?_eq_getElem (by omega))⟩
      have y2 : w1.frozen? ⟨w.heap.size + 1, 2, none⟩ = false := blk_frozen kb 2
      obtain ⟨o3, q3⟩ : ∃ o, w1.cell? ⟨w.heap.size + 1, 3, none⟩ = some o := ⟨_, (blk_cell kb 3).trans (Array.getElem?_eq_getElem (by omega))⟩
      have y3 : w1.frozen? ⟨w.heap.size + 1, 3, none⟩ = false := blk_frozen kb 3
      obtain ⟨o4, q4⟩ : ∃ o, w1.cell? ⟨w.heap.size + 1, 4, none⟩ = some o := ⟨_, (blk_cell kb 4).trans (Array.getElem?_eq_getElem (by omega))⟩
      have y4 : w1.frozen? ⟨w.heap.size + 1, 4, none⟩ = false := blk_frozen kb 4
      obtain ⟨o5, q5⟩ : ∃ o, w1.cell? ⟨w.heap.size + 1, 5, none⟩ = some o := ⟨_, (blk_cell kb 5).trans (Array.getElem?_eq_getElem (by omega))⟩
      have y5 : w1.frozen? ⟨w.heap.size + 1, 5, none⟩ = false := blk_frozen kb 5
      obtain ⟨cur, s1, s2, s3⟩ := setCells_row (g := w.heap.size + 1) [.int .i64 x0, .int .i64 x1, .int .i64 x2, .int .i64 x3, .int .i64 x4, .int .i64 x5] (0 * 6) w1 _ kb (by rw [hsz]; simp)
      have s4 : (((((((w1.setCell ⟨w.heap.size + 1, 0, none⟩ (.int .i64 x0)).setCell ⟨w.heap.size + 1, 1, none⟩ (.int .i64 x1)).setCell ⟨w.heap.size + 1, 2, none⟩ (.int .i64 x2)).setCell ⟨w.heap.size + 1, 3, none⟩ (.int .i64 x3)).setCell ⟨w.heap.size + 1, 4, none⟩ (.int .i64 x4)).setCell ⟨w.heap.size + 1, 5, none⟩ (.int .i64 x5)).drew).heap[w.heap.size + 1]? = some (.cells (iv (memB l0 l1 l2 1)).toArray 100 (0, 0)) := by
       have hput := memB_put (l := l0) 0 (by omega) HR.out.2.1 HD.out.1 rfl
       have hcur : cur = (iv (memB l0 l1 l2 1)).toArray := by
        have hiv : iv l0 = [.int .i64 x0, .int .i64 x1, .int .i64 x2, .int .i64 x3, .int .i64 x4, .int .i64 x5] := (congrArg iv HD.out.2.1).trans rfl
        apply Array.toList_inj.1
        rw [hiv] at hput
        rw [← hput]
        exact s3
       rw [← hcur]
       exact blk_drew s1
      have s5 : (((((((w1.setCell ⟨w.heap.size + 1, 0, none⟩ (.int .i64 x0)).setCell ⟨w.heap.size + 1, 1, none⟩ (.int .i64 x1)).setCell ⟨w.heap.size + 1, 2, none⟩ (.int .i64 x2)).setCell ⟨w.heap.size + 1, 3, none⟩ (.int .i64 x3)).setCell ⟨w.heap.size + 1, 4, none⟩ (.int .i64 x4)).setCell ⟨w.heap.size + 1, 5, none⟩ (.int .i64 x5)).drew).heap[w.heap.size + 1 + 1]? = some (.cells #[.slice A0 l0.length c0, .slice A1 l1.length c1, .slice A2 l2.length c2] 28 (0, 0)) := by
       refine blk_drew ?_
       refine blk_far (blk_far (blk_far (blk_far (blk_far (blk_far kr ?_ _) ?_ _) ?_ _) ?_ _) ?_ _) ?_ _ <;> simp
      have s6 : Below w.heap.size w (((((((w1.setCell ⟨w.heap.size + 1, 0, none⟩ (.int .i64 x0)).setCell ⟨w.heap.size + 1, 1, none⟩ (.int .i64 x1)).setCell ⟨w.heap.size + 1, 2, none⟩ (.int .i64 x2)).setCell ⟨w.heap.size + 1, 3, none⟩ (.int .i64 x3)).setCell ⟨w.heap.size + 1, 4, none⟩ (.int .i64 x4)).setCell ⟨w.heap.size + 1, 5, none⟩ (.int .i64 x5)).drew) := below_drew (below_set (below_set (below_set (below_set (below_set (below_set hB1 (by omega)) (by omega)) (by omega)) (by omega)) (by omega)) (by omega))
      have s7 : okT l0 l1 l2 1 = true := by
       have hp := HR.out.2.1
       have hq : listOk l0 = true := by unfold listOk; rw [HD.out.1, HV.out]; rfl
       exact hq
      have HS := Aside0.mk (And.intro s7 (And.intro s4 (And.intro s5 s6)))
      clear s1 s2 s3 s4 s5 s6 s7 hB1 kb kr hb hb1 hsz h6
      go_wp2
      have harr := arrayAt_bank (some ad)
      go_region
      go_wp2
      go_roundw
      case rel => exact ⟨1, by simp, ⟨by omega, HS.out.1, HS.out.2.1, HS.out.2.2.1, HS.out.2.2.2⟩⟩
      case measure => simp [intOf]
    ·have b6 : ((l0.length : Int) != 6) = true := by rw [bne_iff_ne]; omega
     have H6 := Aside0.mk h6; clear h6
     go_wp2
     go_ret2
     exact ⟨.inr ⟨by
      have : listOk l0 = false := by unfold listOk; rw [show (l0.length == 6) = false from beq_false_of_ne H6.out]; rfl
      rw [this]; simp, rfl⟩, HR.out.2.2.2.2⟩
   ·have q : wr.cell? ⟨w.heap.size + 1 + 1, 1, none⟩ = some (.slice A1 l1.length c1) := by rw [blk_cell HR.out.2.2.2.1]; rfl
    by_cases h6 : l1.length = 6
    ·have b6 : ((l1.length : Int) != 6) = false := by rw [h6]; rfl
     have hC := Kd.C_below HC.out.2.1 HR.out.2.2.2.2
     have hcall := containsFunc_any 65 (fun n => !isNumL n) HC.out.2.2.2.2.2.2.1 HC.out.2.2.2.2.2.2.2 l1 A1 c1 wr hC HC.out.2.2.2.2.1
     obtain ⟨ad, x0, hA, z0, e0⟩ := int_at2 hC 0 (by omega)
     obtain ⟨ad1, x1, hA1, z1, e1⟩ := int_at2 hC 1 (by omega)
     obtain ⟨ad2, x2, hA2, z2, e2⟩ := int_at2 hC 2 (by omega)
     obtain ⟨ad3, x3, hA3, z3, e3⟩ := int_at2 hC 3 (by omega)
     obtain ⟨ad4, x4, hA4, z4, e4⟩ := int_at2 hC 4 (by omega)
     obtain ⟨ad5, x5, hA5, z5, e5⟩ := int_at2 hC 5 (by omega)
     rw [hA] at hA1 hA2 hA3 hA4 hA5
     cases hA1; cases hA2; cases hA3; cases hA4; cases hA5
     simp only [show ad.add 0 = ad by simp [Addr.add], show ad.add 1 = ⟨ad.block, ad.off + 1, none⟩ by simp [Addr.add], show ad.add 2 = ⟨ad.block, ad.off + 2, none⟩ by simp [Addr.add], show ad.add 3 = ⟨ad.block, ad.off + 3, none⟩ by simp [Addr.add], show ad.add 4 = ⟨ad.block, ad.off + 4, none⟩ by simp [Addr.add], show ad.add 5 = ⟨ad.block, ad.off + 5, none⟩ by simp [Addr.add]] at e0 e1 e2 e3 e4 e5
     have hx := six_get h6 z0 z1 z2 z3 z4 z5
     have HD : Aside0 (_ ∧ _ ∧ _) := Aside0.mk (And.intro h6 (And.intro hx (And.intro e0 (And.intro e1 (And.intro e2 (And.intro e3 (And.intro e4 e5)))))))
     rw [h6] at q hcall b6
     rw [hA] at q hcall
     have HF := Aside0.mk hcall
     clear hcall hC hA hx z0 z1 z2 z3 z4 z5 e0 e1 e2 e3 e4 e5
     cases hv : l1.any (fun n => !isNumL n) with
     | true =>
      have HV := Aside0.mk hv; clear hv
      go_wp2_with fail
      refine HF.out.mono ?_
      clear HF
      rintro e w1 ⟨rfl, hb1⟩
      rw [HV.out]
      have HB := Aside0.mk (HR.out.2.2.2.2.trans (hb1.mono HR.out.2.2.2.2.size)); clear hb1
      go_wp2
      go_ret2
      exact ⟨.inr ⟨by unfold listOk; rw [HV.out]; simp, rfl⟩, HB.out⟩
     | false =>
      have HV := Aside0.mk hv; clear hv
      go_wp2_with fail
      refine HF.out.mono ?_
      clear HF
      rintro e w1 ⟨rfl, hb1⟩
      rw [HV.out]
      have hb := hb1
      have e0 := (hb.cell (World.block_lt_of_cell? wr _ HD.out.2.2.1)).trans HD.out.2.2.1
      have e1 := (hb.cell (World.block_lt_of_cell? wr _ HD.out.2.2.2.1)).trans HD.out.2.2.2.1
      have e2 := (hb.cell (World.block_lt_of_cell? wr _ HD.out.2.2.2.2.1)).trans HD.out.2.2.2.2.1
      have e3 := (hb.cell (World.block_lt_of_cell? wr _ HD.out.2.2.2.2.2.1)).trans HD.out.2.2.2.2.2.1
      have e4 := (hb.cell (World.block_lt_of_cell? wr _ HD.out.2.2.2.2.2.2.1)).trans HD.out.2.2.2.2.2.2.1
      have e5 := (hb.cell (World.block_lt_of_cell? wr _ HD.out.2.2.2.2.2.2.2)).trans HD.out.2.2.2.2.2.2.2
      have kb := (hb.block _ (blk_lt HR.out.2.2.1)).trans HR.out.2.2.1
      have kr := (hb.block _ (blk_lt HR.out.2.2.2.1)).trans HR.out.2.2.2.1
      have hB1 : Below w.heap.size w w1 := HR.out.2.2.2.2.trans (hb1.mono HR.out.2.2.2.2.size)
      have hsz : (iv (memB l0 l1 l2 1)).toArray.size = 18 := by rw [List.size_toArray, iv_len]; exact memB_len 1 HR.out.2.1
      obtain ⟨o0, q0⟩ : ∃ o, w1.cell? ⟨w.heap.size + 1, 6, none⟩ = some o := ⟨_, (blk_cell kb 6).trans (Array.getElem?_eq_getElem (by omega))⟩
      have y0 : w1.frozen? ⟨w.heap.size + 1, 6, none⟩ = false := blk_frozen kb 6
      obtain ⟨o1, q1⟩ : ∃ o, w1.cell? ⟨w.heap.size + 1, 7, none⟩ = some o := ⟨_, (blk_cell kb 7).trans (Array.getElem?_eq_getElem (by omega))⟩
      have y1 : w1.frozen? ⟨w.heap.size + 1, 7, none⟩ = false := blk_frozen kb 7
      obtain ⟨o2, q2⟩ : ∃ o, w1.cell? ⟨w.heap.size + 1, 8, none⟩ = some o := ⟨_, (blk_cell kb 8).trans (Array.getElem?_eq_getElem (by omega))⟩
      have y2 : w1.frozen? ⟨w.heap.size + 1, 8, none⟩ = false := blk_frozen kb 8
      obtain ⟨o3, q3⟩ : ∃ o, w1.cell? ⟨w.heap.size + 1, 9, none⟩ = some o := ⟨_, (blk_cell kb 9).trans (Array.getElem?_eq_getElem (by omega))⟩
      have y3 : w1.frozen? ⟨w.heap.size + 1, 9, none⟩ = false := blk_frozen kb 9
      obtain ⟨o4, q4⟩ : ∃ o, w1.cell? ⟨w.heap.size + 1, 10, none⟩ = some o := ⟨_, (blk_cell kb 10).trans (Array.getElem?_eq_getElem (by omega))⟩
      have y4 : w1.frozen? ⟨w.heap.size + 1, 10, none⟩ = false := blk_frozen kb 10
      obtain ⟨o5, q5⟩ : ∃ o, w1.cell? ⟨w.heap.size + 1, 11, none⟩ = some o := ⟨_, (blk_cell kb 11).trans (Array.getElem?_eq_getElem (by omega))⟩
      have y5 : w1.frozen? ⟨w.heap.size + 1, 11, none⟩ = false := blk_frozen kb 11
      obtain ⟨cur, s1, s2, s3⟩ := setCells_row (g := w.heap.size + 1) [.int .i64 x0, .int .i64 x1, .int .i64 x2, .int .i64 x3, .int .i64 x4, .int .i64 x5] (1 * 6) w1 _ kb (by rw [hsz]; simp)
      have s4 : (((((((w1.setCell ⟨w.heap.size + 1, 6, none⟩ (.int .i64 x0)).setCell ⟨w.heap.size + 1, 7, none⟩ (.int .i64 x1)).setCell ⟨w.heap.size + 1, 8, none⟩ (.int .i64 x2)).setCell ⟨w.heap.size + 1, 9, none⟩ (.int .i64 x3)).setCell ⟨w.heap.size + 1, 10, none⟩ (.int .i64 x4)).setCell ⟨w.heap.size + 1, 11, none⟩ (.int .i64 x5)).drew).heap[w.heap.size + 1]? = some (.cells (iv (memB l0 l1 l2 2)).toArray 100 (0, 0)) := by
       have hput := memB_put (l := l1) 1 (by omega) HR.out.2.1 HD.out.1 rfl
       have hcur : cur = (iv (memB l0 l1 l2 2)).toArray := by
        have hiv : iv l1 = [.int .i64 x0, .int .i64 x1, .int .i64 x2, .int .i64 x3, .int .i64 x4, .int .i64 x5] := (congrArg iv HD.out.2.1).trans rfl
        apply Array.toList_inj.1
        rw [hiv] at hput
        rw [← hput]
        exact s3
       rw [← hcur]
       exact blk_drew s1
      have s5 : (((((((w1.setCell ⟨w.heap.size + 1, 6, none⟩ (.int .i64 x0)).setCell ⟨w.heap.size + 1, 7, none⟩ (.int .i64 x1)).setCell ⟨w.heap.size + 1, 8, none⟩ (.int .i64 x2)).setCell ⟨w.heap.size + 1, 9, none⟩ (.int .i64 x3)).setCell ⟨w.heap.size + 1, 10, none⟩ (.int .i64 x4)).setCell ⟨w.heap.size + 1, 11, none⟩ (.int .i64 x5)).drew).heap[w.heap.size + 1 + 1]? = some (.cells #[.slice A0 l0.length c0, .slice A1 l1.length c1, .slice A2 l2.length c2] 28 (0, 0)) := by
       refine blk_drew ?_
       refine blk_far (blk_far (blk_far (blk_far (blk_far (blk_far kr ?_ _) ?_ _) ?_ _) ?_ _) ?_ _) ?_ _ <;> simp
      have s6 : Below w.heap.size w (((((((w1.setCell ⟨w.heap.size + 1, 6, none⟩ (.int .i64 x0)).setCell ⟨w.heap.size + 1, 7, none⟩ (.int .i64 x1)).setCell ⟨w.heap.size + 1, 8, none⟩ (.int .i64 x2)).setCell ⟨w.heap.size + 1, 9, none⟩ (.int .i64 x3)).setCell ⟨w.heap.size + 1, 10, none⟩ (.int .i64 x4)).setCell ⟨w.heap.size + 1, 11, none⟩ (.int .i64 x5)).drew) := below_drew (below_set (below_set (below_set (below_set (below_set (below_set hB1 (by omega)) (by omega)) (by omega)) (by omega)) (by omega)) (by omega))
      have s7 : okT l0 l1 l2 2 = true := by
       have hp := HR.out.2.1
       have hq : listOk l1 = true := by unfold listOk; rw [HD.out.1, HV.out]; rfl
       simp only [okT, Bool.and_eq_true]; exact ⟨hp, hq⟩
      have HS := Aside0.mk (And.intro s7 (And.intro s4 (And.intro s5 s6)))
      clear s1 s2 s3 s4 s5 s6 s7 hB1 kb kr hb hb1 hsz h6
      go_wp2
      have harr := arrayAt_bank (some ad)
      go_region
      go_wp2
      go_roundw
      case rel => exact ⟨2, by simp, ⟨by omega, HS.out.1, HS.out.2.1, HS.out.2.2.1, HS.out.2.2.2⟩⟩
      case measure => simp [intOf]
    ·have b6 : ((l1.length : Int) != 6) = true := by rw [bne_iff_ne]; omega
     have H6 := Aside0.mk h6; clear h6
     go_wp2
     go_ret2
     exact ⟨.inr ⟨by
      have : listOk l1 = false := by unfold listOk; rw [show (l1.length == 6) = false from beq_false_of_ne H6.out]; rfl
      rw [this]; simp, rfl⟩, HR.out.2.2.2.2⟩
   ·have q : wr.cell? ⟨w.heap.size + 1 + 1, 2, none⟩ = some (.slice A2 l2.length c2) := by rw [blk_cell HR.out.2.2.2.1]; rfl
    by_cases h6 : l2.length = 6
    ·have b6 : ((l2.length : Int) != 6) = false := by rw [h6]; rfl
     have hC := Kd.C_below HC.out.2.2.1 HR.out.2.2.2.2
     have hcall := containsFunc_any 65 (fun n => !isNumL n) HC.out.2.2.2.2.2.2.1 HC.out.2.2.2.2.2.2.2 l2 A2 c2 wr hC HC.out.2.2.2.2.2.1
     obtain ⟨ad, x0, hA, z0, e0⟩ := int_at2 hC 0 (by omega)
     obtain ⟨ad1, x1, hA1, z1, e1⟩ := int_at2 hC 1 (by omega)
     obtain ⟨ad2, x2, hA2, z2, e2⟩ := int_at2 hC 2 (by omega)
     obtain ⟨ad3, x3, hA3, z3, e3⟩ := int_at2 hC 3 (by omega)
     obtain ⟨ad4, x4, hA4, z4, e4⟩ := int_at2 hC 4 (by omega)
     obtain ⟨ad5, x5, hA5, z5, e5⟩ := int_at2 hC 5 (by omega)
     rw [hA] at hA1 hA2 hA3 hA4 hA5
     cases hA1; cases hA2; cases hA3; cases hA4; cases hA5
     simp only [show ad.add 0 = ad by simp [Addr.add], show ad.add 1 = ⟨ad.block, ad.off + 1, none⟩ by simp [Addr.add], show ad.add 2 = ⟨ad.block, ad.off + 2, none⟩ by simp [Addr.add], show ad.add 3 = ⟨ad.block, ad.off + 3, none⟩ by simp [Addr.add], show ad.add 4 = ⟨ad.block, ad.off + 4, none⟩ by simp [Addr.add], show ad.add 5 = ⟨ad.block, ad.off + 5, none⟩ by simp [Addr.add]] at e0 e1 e2 e3 e4 e5
     have hx := six_get h6 z0 z1 z2 z3 z4 z5
     have HD : Aside0 (_ ∧ _ ∧ _) := Aside0.mk (And.intro h6 (And.intro hx (And.intro e0 (And.intro e1 (And.intro e2 (And.intro e3 (And.intro e4 e5)))))))
     rw [h6] at q hcall b6
     rw [hA] at q hcall
     have HF := Aside0.mk hcall
     clear hcall hC hA hx z0 z1 z2 z3 z4 z5 e0 e1 e2 e3 e4 e5
     cases hv : l2.any (fun n => !isNumL n) with
     | true =>
      have HV := Aside0.mk hv; clear hv
      go_wp2_with fail
      refine HF.out.mono ?_
      clear HF
      rintro e w1 ⟨rfl, hb1⟩
      rw [HV.out]
      have HB := Aside0.mk (HR.out.2.2.2.2.trans (hb1.mono HR.out.2.2.2.2.size)); clear hb1
      go_wp2
      go_ret2
      exact ⟨.inr ⟨by unfold listOk; rw [HV.out]; simp, rfl⟩, HB.out⟩
     | false =>
      have HV := Aside0.mk hv; clear hv
      go_wp2_with fail
      refine HF.out.mono ?_
      clear HF
      rintro e w1 ⟨rfl, hb1⟩
      rw [HV.out]
      have hb := hb1
      have e0 := (hb.cell (World.block_lt_of_cell? wr _ HD.out.2.2.1)).trans HD.out.2.2.1
      have e1 := (hb.cell (World.block_lt_of_cell? wr _ HD.out.2.2.2.1)).trans HD.out.2.2.2.1
      have e2 := (hb.cell (World.block_lt_of_cell? wr _ HD.out.2.2.2.2.1)).trans HD.out.2.2.2.2.1
      have e3 := (hb.cell (World.block_lt_of_cell? wr _ HD.out.2.2.2.2.2.1)).trans HD.out.2.2.2.2.2.1
      have e4 := (hb.cell (World.block_lt_of_cell? wr _ HD.out.2.2.2.2.2.2.1)).trans HD.out.2.2.2.2.2.2.1
      have e5 := (hb.cell (World.block_lt_of_cell? wr _ HD.out.2.2.2.2.2.2.2)).trans HD.out.2.2.2.2.2.2.2
      have kb := (hb.block _ (blk_lt HR.out.2.2.1)).trans HR.out.2.2.1
      have kr := (hb.block _ (blk_lt HR.out.2.2.2.1)).trans HR.out.2.2.2.1
      have hB1 : Below w.heap.size w w1 := HR.out.2.2.2.2.trans (hb1.mono HR.out.2.2.2.2.size)
      have hsz : (iv (memB l0 l1 l2 2)).toArray.size = 18 := by rw [List.size_toArray, iv_len]; exact memB_len 2 HR.out.2.1
      obtain ⟨o0, q0⟩ : ∃ o, w1.cell? ⟨w.heap.size + 1, 12, none⟩ = some o := ⟨_, (blk_cell kb 12).trans (Array.getElem?_eq_getElem (by omega))⟩
      have y0 : w1.frozen? ⟨w.heap.size + 1, 12, none⟩ = false := blk_frozen kb 12
      obtain ⟨o1, q1⟩ : ∃ o, w1.cell? ⟨w.heap.size + 1, 13, none⟩ = some o := ⟨_, (blk_cell kb 13).trans (Array.getElem?_eq_getElem (by omega))⟩
      have y1 : w1.frozen? ⟨w.heap.size + 1, 13, none⟩ = false := blk_frozen kb 13
      obtain ⟨o2, q2⟩ : ∃ o, w1.cell? ⟨w.heap.size + 1, 14, none⟩ = some o := ⟨_, (blk_cell kb 14).trans (Array.getElem?_eq_getElem (by omega))⟩
      have y2 : w1.frozen? ⟨w.heap.size + 1, 14, none⟩ = false := blk_frozen kb 14
      obtain ⟨o3, q3⟩ : ∃ o, w1.cell? ⟨w.heap.size + 1, 15, none⟩ = some o := ⟨_, (blk_cell kb 15).trans (Array.getElem?_eq_getElem (by omega))⟩
      have y3 : w1.frozen? ⟨w.heap.size + 1, 15, none⟩ = false := blk_frozen kb 15
      obtain ⟨o4, q4⟩ : ∃ o, w1.cell? ⟨w.heap.size + 1, 16, none⟩ = some o := ⟨_, (blk_cell kb 16).trans (Array.getElem?_eq_getElem (by omega))⟩
      have y4 : w1.frozen? ⟨w.heap.size + 1, 16, none⟩ = false := blk_frozen kb 16
      obtain ⟨o5, q5⟩ : ∃ o, w1.cell? ⟨w.heap.size + 1, 17, none⟩ = some o := ⟨_, (blk_cell kb 17).trans (Array.getElem?_eq_getElem (by omega))⟩
      have y5 : w1.frozen? ⟨w.heap.size + 1, 17, none⟩ = false := blk_frozen kb 17
      obtain ⟨cur, s1, s2, s3⟩ := setCells_row (g := w.heap.size + 1) [.int .i64 x0, .int .i64 x1, .int .i64 x2, .int .i64 x3, .int .i64 x4, .int .i64 x5] (2 * 6) w1 _ kb (by rw [hsz]; simp)
      have s4 : (((((((w1.setCell ⟨w.heap.size + 1, 12, none⟩ (.int .i64 x0)).setCell ⟨w.heap.size + 1, 13, none⟩ (.int .i64 x1)).setCell ⟨w.heap.size + 1, 14, none⟩ (.int .i64 x2)).setCell ⟨w.heap.size + 1, 15, none⟩ (.int .i64 x3)).setCell ⟨w.heap.size + 1, 16, none⟩ (.int .i64 x4)).setCell ⟨w.heap.size + 1, 17, none⟩ (.int .i64 x5)).drew).heap[w.heap.size + 1]? = some (.cells (iv (memB l0 l1 l2 3)).toArray 100 (0, 0)) := by
       have hput := memB_put (l := l2) 2 (by omega) HR.out.2.1 HD.out.1 rfl
       have hcur : cur = (iv (memB l0 l1 l2 3)).toArray := by
        have hiv : iv l2 = [.int .i64 x0, .int .i64 x1, .int .i64 x2, .int .i64 x3, .int .i64 x4, .int .i64 x5] := (congrArg iv HD.out.2.1).trans rfl
        apply Array.toList_inj.1
        rw [hiv] at hput
        rw [← hput]
        exact s3
       rw [← hcur]
       exact blk_drew s1
      have s5 : (((((((w1.setCell ⟨w.heap.size + 1, 12, none⟩ (.int .i64 x0)).setCell ⟨w.heap.size + 1, 13, none⟩ (.int .i64 x1)).setCell ⟨w.heap.size + 1, 14, none⟩ (.int .i64 x2)).setCell ⟨w.heap.size + 1, 15, none⟩ (.int .i64 x3)).setCell ⟨w.heap.size + 1, 16, none⟩ (.int .i64 x4)).setCell ⟨w.heap.size + 1, 17, none⟩ (.int .i64 x5)).drew).heap[w.heap.size + 1 + 1]? = some (.cells #[.slice A0 l0.length c0, .slice A1 l1.length c1, .slice A2 l2.length c2] 28 (0, 0)) := by
       refine blk_drew ?_
       refine blk_far (blk_far (blk_far (blk_far (blk_far (blk_far kr ?_ _) ?_ _) ?_ _) ?_ _) ?_ _) ?_ _ <;> simp
      have s6 : Below w.heap.size w (((((((w1.setCell ⟨w.heap.size + 1, 12, none⟩ (.int .i64 x0)).setCell ⟨w.heap.size + 1, 13, none⟩ (.int .i64 x1)).setCell ⟨w.heap.size + 1, 14, none⟩ (.int .i64 x2)).setCell ⟨w.heap.size + 1, 15, none⟩ (.int .i64 x3)).setCell ⟨w.heap.size + 1, 16, none⟩ (.int .i64 x4)).setCell ⟨w.heap.size + 1, 17, none⟩ (.int .i64 x5)).drew) := below_drew (below_set (below_set (below_set (below_set (below_set (below_set hB1 (by omega)) (by omega)) (by omega)) (by omega)) (by omega)) (by omega))
      have s7 : okT l0 l1 l2 3 = true := by
       have hp := HR.out.2.1
       have hq : listOk l2 = true := by unfold listOk; rw [HD.out.1, HV.out]; rfl
       simp only [okT, Bool.and_eq_true] at hp ⊢; exact ⟨hp.1, hp.2, hq⟩
      have HS := Aside0.mk (And.intro s7 (And.intro s4 (And.intro s5 s6)))
      clear s1 s2 s3 s4 s5 s6 s7 hB1 kb kr hb hb1 hsz h6
      go_wp2
      have harr := arrayAt_bank (some ad)
      go_region
      go_wp2
      go_roundw
      case rel => exact ⟨3, by simp, ⟨by omega, HS.out.1, HS.out.2.1, HS.out.2.2.1, HS.out.2.2.2⟩⟩
      case measure => simp [intOf]
    ·have b6 : ((l2.length : Int) != 6) = true := by rw [bne_iff_ne]; omega
     have H6 := Aside0.mk h6; clear h6
     go_wp2
     go_ret2
     exact ⟨.inr ⟨by
      have : listOk l2 = false := by unfold listOk; rw [show (l2.length == 6) = false from beq_false_of_ne H6.out]; rfl
      rw [this]; simp, rfl⟩, HR.out.2.2.2.2⟩
  ·have hj3 : j = 3 := by have := HR.out.1; omega
   subst hj3
   go_wp2
   go_ret2
   refine ⟨.inl ⟨HR.out.2.1, w.heap.size + 1, Nat.le_succ _, rfl, HR.out.2.2.1, memB_len 3 HR.out.2.1⟩, HR.out.2.2.2.2⟩
end Go.Proofs.YtendbgedpjcocaaGreatDoor.B
/- impl.ExprOf, over impl.ExprOk's contract. -/
namespace Go.Proofs.YtendbgedpjcocaaGreatDoor.B
open Go.RowKit Go.Proofs.YtendbgedpjcocaaGreatDoorW.PrintWords Go.Proofs.YtendbgedpjcocaaGreatDoorW.PrintLast Go.Proofs.YtendbgedpjcocaaGreatDoorW.PrintMore
set_option linter.unusedVariables false

def memOkL (l0 l1 l2 : List Int) : Bool := listOk l0 && (listOk l1 && listOk l2)
end Go.Proofs.YtendbgedpjcocaaGreatDoor.B
/- Boxes: a variable in a block of its own, known whole; how operations meet it, in plain regions and in those that draw their order. -/
namespace Go.Proofs.YtendbgedpjcocaaGreatDoor.B
open Go Go.RowKit Go.Proofs.YtendbgedpjcocaaGreatDoorW.PrintWords Go.Proofs.YtendbgedpjcocaaGreatDoorW.PrintLast Go.Proofs.YtendbgedpjcocaaGreatDoorW.PrintMore
set_option linter.unusedVariables false

abbrev Box (W : World) (g : Nat) (T : TypeId) (cs : Array Value) : Prop := W.heap[g]? = some (.cells cs T (0, 0))
/-- What a store into block g leaves: all other blocks. -/
structure Put1 (g : Nat) (W W' : World) : Prop where
 os : W'.os = W.os
 tape : W'.tape = W.tape
 output : W'.output = W.output
 size : W'.heap.size = W.heap.size
 far : ∀ j, j ≠ g → W'.heap[j]? = W.heap[j]?
theorem Put1.below {g B : Nat} {w W W' : World} (h : Put1 g W W') (hb : Below B w W) (hg : B ≤ g) : Below B w W' :=
 hb.trans ⟨h.os, h.tape, h.output, by rw [h.size]; exact Nat.le_refl _, fun k hk => h.far k (by omega)⟩
theorem setCells_put1 (g : Nat) : ∀ (vs : List Value) (o : Nat) (W : World), Put1 g W (W.setCells g o vs)
 | [], _, W => ⟨rfl, rfl, rfl, rfl, fun _ _ => rfl⟩
 | v :: r, o, W => by
  have h := setCells_put1 g r (o + 1) (W.setCell ⟨g, o, none⟩ v)
  exact ⟨h.os, h.tape, h.output, h.size.trans (by simp [World.setCell]), fun j hj => (h.far j hj).trans (Below.heap_setCell _ _ _ _ hj)⟩
theorem setCells_row (g : Nat) (T : TypeId) : ∀ (vs : List Value) (o : Nat) (W : World) (cs : Array Value), Box W g T cs → ∃ R : Array Value, Box (W.setCells g o vs) g T R ∧ R.size = cs.size ∧ (∀ i, i < o → R[i]? = cs[i]?) ∧ ∀ i, i < vs.length → o + i < cs.size → R[o + i]? = vs[i]?
 | [], o, W, cs, h => ⟨cs, h, rfl, fun _ _ => rfl, fun i hi => absurd hi (Nat.not_lt_zero i)⟩
 | v :: r, o, W, cs, h => by
  obtain ⟨R, h1, h2, h3, h4⟩ := setCells_row g T r (o + 1) (W.setCell ⟨g, o, none⟩ v) (cs.setIfInBounds o v) (blk_set h o v)
  refine ⟨R, h1, by rw [h2]; simp, fun i hi => ?_, fun i hi ho => ?_⟩
  ·rw [h3 i (by omega), Array.getElem?_setIfInBounds_ne (by omega)]
  ·cases i with
   | zero =>
    rw [Nat.add_zero, h3 o (by omega), List.getElem?_cons_zero, Array.getElem?_setIfInBounds_self_of_lt (by simpa using ho)]
   | succ i =>
    have := h4 i (by simpa using hi) (by simp; omega)
    rw [show o + (i + 1) = o + 1 + i by omega, List.getElem?_cons_succ]
    exact this
theorem setCells_box {g : Nat} {T : TypeId} {W : World} {cs cs' : Array Value} (h : Box W g T cs) (hs : cs'.size = cs.size) : Box (W.setCells g 0 cs'.toList) g T cs' := by
 obtain ⟨R, h1, h2, _, h4⟩ := setCells_row g T cs'.toList 0 W cs h
 have : R = cs' := by
  apply Array.ext_getElem?
  intro i
  by_cases hi : i < cs'.size
  ·have := h4 i (by simpa using hi) (by omega)
   rw [Nat.zero_add] at this
   simpa using this
  ·rw [Array.getElem?_eq_none (by omega), Array.getElem?_eq_none (by omega)]
 exact this ▸ h1
theorem Box.range {W : World} {g : Nat} {T : TypeId} {cs : Array Value} (h : Box W g T cs) : W.rangeAt g 0 cs.toList := fun j v hv => by
 rw [Nat.zero_add, blk_cell h]
 simpa using hv
theorem Box.there {W : World} {g : Nat} {T : TypeId} {cs : Array Value} (h : Box W g T cs) : W.there g 0 cs.size := fun j hj => by
 rw [Nat.zero_add, blk_cell h, blk_frozen h]
 simp [hj]
theorem Box.put1 {W W' : World} {g b : Nat} {T : TypeId} {cs : Array Value} (h : Box W g T cs) (hp : Put1 b W W') (hne : g ≠ b) : Box W' g T cs := (hp.far g hne).trans h
theorem drew_below (W : World) : Below W.heap.size W W.drew := (Below.refl _ _).drew

section
variable {P : Program} {ops : Array Oper} {rest : List Oper} {o : Oper} {a : Act} {Q : Exit → Act → World → Prop} {W : World}
/-- A box is made. -/
theorem boxNew_ {N : Tmp} (hd : o.dst = some N) (hg : o.guard = none) (cs : Array Value) (T : TypeId) (hrun : (execOp a.eval o).run P W = .ok (.value (.pointer (some ⟨W.heap.size, 0, none⟩))) (W.alloc (.cells cs T (0, 0))))
  (h : ∀ g W', g = W.heap.size → Box W' g T cs → Below W.heap.size W W' → wpList P ops Q rest (a.put (some N) (.pointer (some ⟨g, 0, none⟩))) W') : wpList P ops Q (o :: rest) a W := by
 refine box_event hg hd hrun fun g hg w1 h1 h2 => ?_
 rw [hd]
 exact h g w1 hg h1 h2
/-- A box is written whole. -/
theorem boxPut_ {T : TypeId} {p : Tmp} {x : Operand} (ho : o.op = .store T (.tmp p) x) (hN : o.dst = none) (hg : o.guard = none) {g : Nat} {cs : Array Value} (hp : a.eval (.tmp p) = .pointer (some ⟨g, 0, none⟩)) (cs' : Array Value) (hx : a.eval x = .agg cs')
  (hb : Box W g T cs) (hs : cs'.size = cs.size) (hi : (P.info? T).map (·.size) = some cs'.size) (h1 : cs'.all (·.oneCell') = true)
  (h : ∀ W', Box W' g T cs' → Put1 g W W' → wpList P ops Q rest a W') : wpList P ops Q (o :: rest) a W := by
 refine wpList_store_mid hg T (.tmp p) x ho g 0 cs' hp hx (by rw [hs]; exact Box.there hb) hi h1 ?_
 rw [hN]
 exact h _ (setCells_box hb hs) (setCells_put1 g _ 0 W)
/-- A box is read whole. -/
theorem boxGet_ {T : TypeId} {x : Operand} {N : Tmp} (ho : o.op = .load T x) (hd : o.dst = some N) (hg : o.guard = none) {g : Nat} {cs : Array Value} (hx : a.eval x = .pointer (some ⟨g, 0, none⟩)) (hb : Box W g T cs) {d : TypeDesc} (hu : P.underlying T = some d) (hr : d.isRow = true)
  (hi : (P.info? T).map (·.size) = some cs.size) (h : wpList P ops Q rest (a.put (some N) (.agg cs)) W) : wpList P ops Q (o :: rest) a W := by
 refine wpList_load_mid hg T x ho g 0 hx cs.toList d (Box.range hb) hu hr (by simpa using hi) ?_
 rw [hd]
 simpa using h
theorem eval_put_same {a : Act} {N : Tmp} (h : N < a.tmps.size) (v : Value) : (a.put (some N) v).eval (.tmp N) = v := by simp [Act.eval, Act.put, h]
theorem eval_put_ne {a : Act} {N t : Tmp} (h : N ≠ t) (v : Value) : (a.put (some N) v).eval (.tmp t) = a.eval (.tmp t) := Act.eval_put fun d hd hx => h (by injection hx with hx; injection hd with hd; rw [hd, hx])
/-- A variable is made and filled: x := f(..). -/
theorem new1_ {rest : List Oper} {o1 o2 : Oper} {N x : Tmp} {T : TypeId} (cs : Array Value) {zs : Array Value} (h1 : cs.all (·.oneCell') = true)
  (hd1 : o1.dst = some N := by rfl) (hg1 : o1.guard = none := by rfl) (ho1 : o1.op = .alloc T := by rfl) (hz : ∀ ev W, (execOp ev o1).run P W = .ok (.value (.pointer (some ⟨W.heap.size, 0, none⟩))) (W.alloc (.cells zs T (0, 0))) := by (intro _ _; go_simp; first | done | rfl))
  (ho2 : o2.op = .store T (.tmp N) (.tmp x) := by rfl) (hd2 : o2.dst = none := by rfl) (hg2 : o2.guard = none := by rfl)
  (hN : decide (N < a.tmps.size) = true := by rfl) (hNx : N ≠ x := by decide) (hx : a.eval (.tmp x) = .agg cs := by rfl)
  (hs : cs.size = zs.size := by rfl) (hi : (P.info? T).map (·.size) = some cs.size := by kernel_rfl)
  (h : ∀ g W', W.heap.size ≤ g → Box W' g T cs → Below W.heap.size W W' → wpList P ops Q rest (a.put (some N) (.pointer (some ⟨g, 0, none⟩))) W') : wpList P ops Q (o1 :: o2 :: rest) a W := by
 refine boxNew_ hd1 hg1 zs T (hz _ _) fun g W1 hg hb hB => ?_
 refine boxPut_ ho2 hd2 hg2 (eval_put_same (of_decide_eq_true hN) _) cs ((eval_put_ne hNx _).trans hx) hb hs hi h1 fun W2 hb2 hp => ?_
 exact h g W2 (Nat.le_of_eq hg.symm) hb2 (hp.below hB (Nat.le_of_eq hg.symm))
/-- A cell of a box is written. -/
theorem setF_ {rest : List Oper} {T U : TypeId} {q : Tmp} {x : Operand} {g i : Nat} {cs : Array Value} {v : Value} (ho : o.op = .store T (.tmp q) x) (hd : o.dst = none) (hg : o.guard = none) (hb : Box W g U cs)
  (hrun : (execOp a.eval o).run P W = .ok .skip (W.setCell ⟨g, i, none⟩ v)) (h : ∀ W', Box W' g U (cs.setIfInBounds i v) → Put1 g W W' → wpList P ops Q rest a W') : wpList P ops Q (o :: rest) a W := by
 refine store_event hg ho hd hrun fun w' hw => ?_
 subst hw
 exact h _ (blk_set hb i v) ⟨rfl, rfl, rfl, by simp [World.setCell], fun j hj => Below.heap_setCell _ _ _ _ hj⟩
/-- Two cells of a box are written: a struct of two cells. -/
theorem setF2_ {rest : List Oper} {T U : TypeId} {q : Tmp} {x : Operand} {g i : Nat} {cs : Array Value} {v u : Value} (ho : o.op = .store T (.tmp q) x) (hd : o.dst = none) (hg : o.guard = none) (hb : Box W g U cs)
  (hrun : (execOp a.eval o).run P W = .ok .skip ((W.setCell ⟨g, i, none⟩ v).setCell ⟨g, i + 1, none⟩ u)) (h : ∀ W', Box W' g U ((cs.setIfInBounds i v).setIfInBounds (i + 1) u) → Put1 g W W' → wpList P ops Q rest a W') : wpList P ops Q (o :: rest) a W := by
 refine store_event hg ho hd hrun fun w' hw => ?_
 subst hw
 exact h _ (blk_set (blk_set hb i v) (i + 1) u) ⟨rfl, rfl, rfl, by simp [World.setCell], fun j hj => (Below.heap_setCell _ _ _ _ hj).trans (Below.heap_setCell _ _ _ _ hj)⟩
theorem Box.cell {W : World} {g : Nat} {T : TypeId} {cs : Array Value} (h : Box W g T cs) (i : Nat) (v : Value) (hv : cs[i]? = some v) : W.cell? ⟨g, i, none⟩ = some v ∧ W.frozen? ⟨g, i, none⟩ = false := ⟨(blk_cell h i).trans hv, blk_frozen h i⟩
end

section
variable {ops : Array Oper} {o : Oper} {b : Act}
end
section
variable {P : Program} {ops : Array Oper} {o : Oper} {b : Act} {W : World} {Ψ : Value → World → Prop}
theorem stepVal {v : Value} (hw : Region.wanted o (yielded ops b.tmps) = true) (hrun : (execOp b.eval o).run P W = .ok (.value v) W) (h : Ψ v W) : StepOK P ops o b W Ψ := fun K Q hK => value_ hw rfl hrun (hK v W h)
theorem stepGet {T : TypeId} {x : Operand} (hw : Region.wanted o (yielded ops b.tmps) = true) (ho : o.op = .load T x) {g : Nat} {cs : Array Value} (hx : b.eval x = .pointer (some ⟨g, 0, none⟩)) (hb : Box W g T cs) {d : TypeDesc} (hu : P.underlying T = some d) (hr : d.isRow = true)
  (hi : (P.info? T).map (·.size) = some cs.size) (h : Ψ (.agg cs) W) : StepOK P ops o b W Ψ := by
 refine stepVal hw ?_ h
 have := run_loadVar_mid (P := P) W g 0 T cs.toList d (Box.range hb) hu hr (by simpa using hi)
 unfold execOp
 simp only [ho, hx, Instr.loadAt, Instr.sureAddr, Sem.run_bind, Sem.run_pure, Result.andThen_ok, this]
theorem stepCall {f : FuncId} {fn : Func} {ys : Array Operand} {ts : Array TypeId} (hw : Region.wanted o (yielded ops b.tmps) = true) (hf : P.funcs[f]? = some fn) (hname : (fn.name == "runtime.NumGoroutine") = false) (hbd : fn.body.isSome = true) (args : Array Value)
  (hop : o.op = .call { callee := .value (.func f), args := ys, argTypes := ts }) (hargs : ys.map b.eval = args) {R : Ending → World → Prop} (hc : Calls P f args W R) (h : ∀ e w', R e w' → ∃ v, e = .returned v ∧ Ψ v w') : StepOK P ops o b W Ψ :=
 fun K Q hK => goes_ hf hname hbd args hw rfl hop hargs (hc.mono fun e w' hr => by
  obtain ⟨v, rfl, hv⟩ := h e w' hr
  exact ⟨v, rfl, hK v w' hv⟩)
end
/-- What stays, as memory is made. -/
def Lasts (p : World → Prop) : Prop := ∀ W W', Below W.heap.size W W' → p W → p W'
theorem Lasts.const (p : Prop) : Lasts fun _ => p := fun _ _ _ h => h
theorem Lasts.below (w : World) : Lasts fun W => Below w.heap.size w W := fun _ _ hb h => h.trans (hb.mono h.size)
/-- Facts of values, one by one. -/
def FAt (Fs : List (Value → World → Prop)) (i : Nat) (v : Value) (W : World) : Prop := Fs.getD i (fun _ _ => True) v W
def LastAll : List (Value → World → Prop) → Prop
 | [] => True
 | F :: r => (∀ v, Lasts (F v)) ∧ LastAll r
theorem FAt.last : ∀ (Fs : List (Value → World → Prop)), LastAll Fs → ∀ i v a b, Below a.heap.size a b → FAt Fs i v a → FAt Fs i v b
 | [], _, _, _, _, _, _, _ => trivial
 | F :: r, h, 0, v, a, b, hb, hf => h.1 v a b hb hf
 | F :: r, h, i + 1, v, a, b, hb, hf => FAt.last r h.2 i v a b hb hf
section
variable {P : Program} {ops : Array Oper} {Q : Exit → Act → World → Prop}
/-- A region that draws its order, where nothing but new memory is written: p is what is known of the world. -/
theorem weaveB_ {id : Nat} {a0 : Act} {w : World} (p : World → Prop) (hp : Lasts p) (h0 : p w) (ds : List (Tmp × Nat)) (Fs : List (Value → World → Prop)) (hm : P.follows .mixedOrders = true) (hB : weaveB ops ds = true) (hF : LastAll Fs)
  (hstep : OpsAll (fun i o => ∀ vs W, p W → (∀ j ∈ waitsOn o, FAt Fs j (vs j) W) → ∀ b, Sees a0 ds o vs b → StepOK P ops o b W fun v W' => Below W.heap.size W W' ∧ FAt Fs i v W') ops.toList 0)
  (hend : ∀ (vs : Nat → Value) W, p W → (∀ j, j < ops.size → FAt Fs j (vs j) W) → Q .normal (putL a0 (ds.map fun q => (q.1, vs q.2))) W) : (Code.region id ops true).wp P Q a0 w :=
 weaveR (fun a b => Below a.heap.size a b) (FAt Fs) ds hm hB (fun w => Below.refl _ _) (fun a b c h k => h.trans (k.mono h.size)) (fun i v a b h => FAt.last Fs hF i v a b h)
  (OpsAll.imp (fun i o h vs W hW hv => h vs W (hp _ _ hW (hp _ _ (drew_below w) h0)) hv) _ _ hstep) (fun vs W hW hv => hend vs W (hp _ _ hW (hp _ _ (drew_below w) h0)) hv)
end

/-- What is known of a value: it lasts as memory is made; what it leads to lies in ok, and no store elsewhere touches it. -/
structure Good (F : Value → World → (Nat → Prop) → Prop) : Prop where
 last : ∀ v ok W W', Below W.heap.size W W' → F v W ok → F v W' ok
 mono : ∀ v W ok ok', (∀ k, ok k → ok' k) → F v W ok → F v W ok'
 bound : ∀ v W ok, F v W ok → F v W fun k => ok k ∧ k < W.heap.size
 far : ∀ v W W' ok g, Put1 g W W' → ¬ ok g → F v W ok → F v W' ok
section
variable {P : Program} {ops : Array Oper} {Q : Exit → Act → World → Prop}
end
end Go.Proofs.YtendbgedpjcocaaGreatDoor.B
/- The draws of what is ok, and the copies, end. -/
namespace Go.Proofs.YtendbgedpjcocaaGreatDoor.B
open Go.RowKit Go.Proofs.YtendbgedpjcocaaGreatDoorW.PrintWords Go.Proofs.YtendbgedpjcocaaGreatDoorW.PrintLast Go.Proofs.YtendbgedpjcocaaGreatDoorW.PrintMore
set_option linter.unusedVariables false

theorem some_total (s : List Int) (hs : Bytes s) (hl : s.length ≤ 2000) (p : Int) (hp : 0 ≤ p) (hp1 : p < 1099500000000) :
  ∃ (e : Ex) (p' : Int) (k : Nat), Tiny e ∧ p ≤ p' ∧ p' ≤ p + 200002 ∧ Drew1 (spec_l3Some.f k s p) e p' := by
 obtain ⟨r, r0, r1, hr⟩ := pick_total s hs hl p 4 hp (by omega) (by omega) (by omega)
 obtain ⟨d, hd⟩ := Int.eq_ofNat_of_zero_le r0
 have hd4 : d < 4 := by omega
 have b1 := bnd_le (d + 1) (by omega)
 have b2 := bnd_le 2 (by omega)
 have b3 := bnd_pos (d + 1)
 have b4 := bnd_pos 2
 obtain ⟨e, p1, k1, he, q1, q2, h1⟩ := expr_total s hs hl (d + 1) (by omega) (p + 1) (by omega) (by omega)
 obtain ⟨k2, h2⟩ := exprOk_spec e he.short
 obtain ⟨e', p2, k3, he', q3, q4, h3⟩ := expr_total s hs hl 2 (by omega) p1 (by omega) (by omega)
 unfold Drew1 at h1 h3
 have m1 : spec_l3Expr.f (k1 + k2 + k3 + 1) s (p + 1) ((d + 1 : Nat) : Int) = _ := up_le (mono_ef _ _ _) (by omega) h1
 have m2 : spec_ExprOk.f (k1 + k2 + k3 + 1) e.f0 e.f1 e.f2.f0 e.f2.f1 e.f3 = _ := up_le (f := fun k => spec_ExprOk.f k e.f0 e.f1 e.f2.f0 e.f2.f1 e.f3) (fun k => spec_ExprOk.mono _ _ _ _ _ k) (show k2 ≤ k1 + k2 + k3 + 1 by omega) h2
 have m3 : spec_l3Expr.f (k1 + k2 + k3 + 1) s p1 2 = _ := up_le (mono_ef _ _ _) (by omega) h3
 have e1 : wrap64 (1 + r) = ((d + 1 : Nat) : Int) := by rw [wrap_id (by omega) (by omega)]; omega
 cases hv : (formS 6 e && decide (manyS 6 e ≤ 14)) with
 | true =>
  refine ⟨e, p1, k1 + k2 + k3 + 1, he, by omega, by omega, ?_⟩
  unfold Drew1
  rw [spec_l3Some.f, hr (k1 + k2 + k3)]
  simp only [Option.bind_some]
  rw [e1, m1]
  simp only [Option.bind_some]
  rw [m2, hv]
  simp
 | false =>
  refine ⟨e', p2, k1 + k2 + k3 + 1, he', by omega, by omega, ?_⟩
  unfold Drew1
  rw [spec_l3Some.f, hr (k1 + k2 + k3)]
  simp only [Option.bind_some]
  rw [e1, m1]
  simp only [Option.bind_some]
  rw [m2, hv]
  simp only [Option.bind_some, Bool.false_eq_true, if_false]
  rw [m3]
  simp

theorem addrBent_total (s : List Int) (hs : Bytes s) (hl : s.length ≤ 2000) (p : Int) (hp : 0 ≤ p) (hp1 : p < 1099500000000) :
  ∃ (a b p' : Int), p ≤ p' ∧ p' ≤ p + 4 ∧ ∀ k, spec_l2AddrBent.f (k + 1) s p = some (a, b, p') := by
 obtain ⟨a, b, ha, hb, hq⟩ := addr_total s hs hl p hp (by omega)
 obtain ⟨r, r0, r1, hr⟩ := pick_total s hs hl (p + 2) 16 (by omega) (by omega) (by omega) (by omega)
 obtain ⟨x, hx, hn⟩ := num_total s hs hl (p + 2 + 1) (by omega) (by omega) [0, 4, (-1)] (by simp) (by simp)
 obtain ⟨y, hy, hm⟩ := num_total s hs hl (p + 2 + 1) (by omega) (by omega) [(-1), 6, 5] (by simp) (by simp)
 by_cases h0 : r = 0
 ·refine ⟨x, b, p + 2 + 1 + 1, by omega, by omega, fun k => ?_⟩
  rw [spec_l2AddrBent.f, hq k]
  simp only [Option.bind_some]
  rw [hr k]
  simp only [Option.bind_some, if_pos h0]
  rw [hn k]; rfl
 ·by_cases h1 : r = 1
  ·refine ⟨a, y, p + 2 + 1 + 1, by omega, by omega, fun k => ?_⟩
   rw [spec_l2AddrBent.f, hq k]
   simp only [Option.bind_some]
   rw [hr k]
   simp only [Option.bind_some, if_neg h0, if_pos h1]
   rw [hm k]; rfl
  ·refine ⟨a, b, p + 2 + 1, by omega, by omega, fun k => ?_⟩
   rw [spec_l2AddrBent.f, hq k]
   simp only [Option.bind_some]
   rw [hr k]
   simp only [Option.bind_some, if_neg h0, if_neg h1]
theorem mono_cf (a b c d : Int) (l : List Ex) : ∀ k, LeO (spec_l3Copy.f k a b c d l) (spec_l3Copy.f (k + 1) a b c d l) := fun k => (spec_l3Copy.mono_l k).1 a b c d l
theorem mono_cl (x a b c d : Int) (l : List Ex) (a' b' c' d' : Int) (l' : List Ex) : ∀ k, LeO (spec_l3Copy.l0 k x a b c d l a' b' c' d' l') (spec_l3Copy.l0 (k + 1) x a b c d l a' b' c' d' l') := fun k => (spec_l3Copy.mono_l k).2 x a b c d l a' b' c' d' l'
theorem copy_total (e : Ex) (he : Tiny e) : ∃ k, spec_l3Copy.f k e.f0 e.f1 e.f2.f0 e.f2.f1 e.f3 = some (e.f0, e.f1, e.f2.f0, e.f2.f1, e.f3) := by
 induction he with
 | mk e hl hk ih =>
  have loop : ∀ (n j : Nat), n + j = e.f3.length → ∃ k, spec_l3Copy.l0 k j e.f0 e.f1 e.f2.f0 e.f2.f1 e.f3 e.f0 e.f1 e.f2.f0 e.f2.f1 (e.f3.take j) = some (e.f0, e.f1, e.f2.f0, e.f2.f1, e.f3) := by
   intro n
   induction n with
   | zero => intro j hj; exact ⟨1, by rw [spec_l3Copy.l0, if_neg (by omega), List.take_of_length_le (by omega)]⟩
   | succ n ihn =>
    intro j hj
    have hlt : j < e.f3.length := by omega
    obtain ⟨k1, h1⟩ := ih e.f3[j] (List.getElem_mem hlt)
    obtain ⟨k2, h2⟩ := ihn (j + 1) (by omega)
    refine ⟨k1 + k2 + 1, ?_⟩
    have eta : (⟨e.f3[j].f0, e.f3[j].f1, ⟨e.f3[j].f2.f0, e.f3[j].f2.f1⟩, e.f3[j].f3⟩ : Ex) = e.f3[j] := by cases e.f3[j] with | mk a b c l => cases c; rfl
    rw [spec_l3Copy.l0, if_pos (by omega), if_pos (by omega), rd_get e.f3 j hlt, up_le (mono_cf _ _ _ _ _) (Nat.le_add_right k1 k2) h1]
    simp only [Option.bind_some]
    rw [if_pos (by simp; omega), wrap_id (by omega) (by omega), eta, ← List.take_succ_eq_append_getElem hlt]
    exact up_le (mono_cl _ _ _ _ _ _ _ _ _ _ _) (Nat.le_add_left k2 k1) h2
  obtain ⟨k, h⟩ := loop e.f3.length 0 (by omega)
  exact ⟨k + 1, by rw [spec_l3Copy.f]; simpa using h⟩
end Go.Proofs.YtendbgedpjcocaaGreatDoor.B
/- The draw of an expression that may be bent ends. -/
namespace Go.Proofs.YtendbgedpjcocaaGreatDoor.B
open Go.RowKit Go.Proofs.YtendbgedpjcocaaGreatDoorW.PrintWords Go.Proofs.YtendbgedpjcocaaGreatDoorW.PrintLast Go.Proofs.YtendbgedpjcocaaGreatDoorW.PrintMore
set_option linter.unusedVariables false

/-- A code that came in: its bytes, its opening. -/
theorem open_total (l : List Int) (hw : ∀ x ∈ l, (Lit.int .u8 x).wf = true) : ∃ s, Bytes s ∧ s.length ≤ 2000 ∧ spec_l12Open.f l = some (s, 0) := by
 have hb : Bytes l := fun x hx => by
  have := hw x hx
  simp [Lit.wf, IntKind.min, IntKind.max, IntKind.signed, IntKind.bits] at this
  omega
 by_cases h : (l.length : Int) > 2000
 ·refine ⟨l.take 2000, fun x hx => hb x (List.mem_of_mem_take hx), by simp; omega, ?_⟩
  rw [spec_l12Open.f, if_pos h, if_pos (by omega)]
 ·exact ⟨l, hb, by omega, by rw [spec_l12Open.f, if_neg h]⟩
end Go.Proofs.YtendbgedpjcocaaGreatDoor.B
/- The law FnExactExprOk, whole. -/
namespace Go.Proofs.YtendbgedpjcocaaGreatDoor.B
end Go.Proofs.YtendbgedpjcocaaGreatDoor.B
/- impl.ExprOk, in the print's form. -/
namespace Go.Proofs.YtendbgedpjcocaaGreatDoor.B
open Go.RowKit Go.Proofs.YtendbgedpjcocaaGreatDoorW.PrintWords Go.Proofs.YtendbgedpjcocaaGreatDoorW.PrintLast Go.Proofs.YtendbgedpjcocaaGreatDoorW.PrintMore
set_option linter.unusedVariables false

end Go.Proofs.YtendbgedpjcocaaGreatDoor.B
